/- word.Name. -/
import Derived.Test.YtdffbbfhcdhpdaaGreatDoorB0
namespace Go.Proofs.YtdffbbfhcdhpdaaGreatDoor
open Go.RowKit

/-- What Name has come to at place k. -/
def nameAt (s : List UInt8) (k : Nat) : List UInt8 := if k = 0 then nameOf s else s.take k ++ (s.drop k).takeWhile (fun d => isL d || isD d)
theorem nameAt_zero (s : List UInt8) : nameAt s 0 = nameOf s := rfl
theorem nameAt_end (s : List UInt8) : nameAt s s.length = s := by
  unfold nameAt; split
  · rename_i h; rw [List.eq_nil_of_length_eq_zero h]; rfl
  · simp
theorem nameAt_step (s : List UInt8) (k : Nat) (h : k < s.length) (hg : isL s[k] = true ∨ 0 < k ∧ isD s[k] = true) : nameAt s (k + 1) = nameAt s k := by
  unfold nameAt
  rw [if_neg (by omega)]
  split
  · rename_i hk; subst hk
    cases s with
    | nil => simp at h
    | cons c r =>
      have : isL c = true := by simpa using hg
      simp [nameOf, this]
  · rw [List.drop_eq_getElem_cons h, List.takeWhile_cons, if_pos (by rcases hg with hg | hg <;> simp [hg]), List.take_succ_eq_append_getElem h, List.append_assoc]; rfl
theorem nameAt_stop (s : List UInt8) (k : Nat) (h : k < s.length) (hg : isL s[k] = false ∧ (k = 0 ∨ isD s[k] = false)) : nameAt s k = s.take k := by
  unfold nameAt
  split
  · rename_i hk; subst hk
    cases s with
    | nil => simp at h
    | cons c r =>
      have : isL c = false := by simpa using hg.1
      simp [nameOf, this]
  · rw [List.drop_eq_getElem_cons h, List.takeWhile_cons, if_neg (by rcases hg with ⟨h1, h2 | h2⟩ <;> simp_all), List.append_nil]

set_option maxRecDepth 100000 in
set_option maxHeartbeats 2000000 in
theorem name_any (s : List UInt8) (w : World) (hs : s.length ≤ 4294967296) :
    Calls Tryz.prog 180 #[S s] w fun e w' => e = .returned (S (nameOf s)) ∧ Below w.heap.size w w' := by
  go_enter Tryz.func180, Tryz.ntmps180
  go_wp2
  go_loopw [2] (fun _ wr => ∃ k : Nat, k ≤ s.length ∧ wr.heap[w.heap.size]? = some (.stringIter ⟨s.toArray⟩ k) ∧ nameAt s k = nameOf s ∧ Below w.heap.size w wr) (fun _ wr => s.length - wr.iterPos w.heap.size)
  case atStart => exact ⟨0, by omega, blk_new w _, rfl, (Below.refl _ _).alloc (Nat.le_refl _) _⟩
  case round =>
    obtain ⟨k, hk, hit, hnm, hbe⟩ := hrel
    have hpos := iterPos_of hit
    have HP := Lib.hid hpos
    have HN := Lib.hid hnm
    clear hpos hnm
    by_cases hlt : k < s.length
    · have hnx := fun ty => Lib.run_next_any_at (P := Tryz.prog) wr w.heap.size ⟨s.toArray⟩ k ty hit hlt
      obtain ⟨f1, f2, f3⟩ := decode_facts s k hlt
      have hst := nameAt_step s k hlt
      have hsp := nameAt_stop s k hlt
      generalize Utf8.decode ⟨s.toArray⟩ k = d at hnx f1 f2 f3
      obtain ⟨r, wd⟩ := d
      have hb2 := Lib.below_iterAt hbe (Nat.le_refl _) ⟨s.toArray⟩ (k + wd)
      have hi2 := Lib.iterAt_heap wr w.heap.size ⟨s.toArray⟩ k (k + wd) hit
      have HB := Lib.hid (And.intro hb2 hi2)
      clear hb2 hi2
      dsimp only at f1 f2 f3 hnx
      cases hL : isL s[k] with
      | true =>
        rw [hL] at f1 f3 hst
        obtain rfl : wd = 1 := f3 rfl
        have HS := Lib.hid (hst (.inl rfl))
        clear f2 f3 hst hsp hL
        go_wp2_with fail
        refine (word_letter r _).mono ?_
        rintro e w' ⟨rfl, rfl⟩
        rw [f1]
        clear f1 hnx
        go_wp2_with fail
        go_roundw
        case rel => exact ⟨k + 1, by omega, HB.out.2, by rw [HS.out, HN.out], HB.out.1⟩
        case measure => rw [HP.out, iterPos_of HB.out.2]; omega
      | false =>
        rw [hL] at f1 f3 hst hsp
        by_cases h0 : k = 0
        · subst h0
          have HS := Lib.hid (hsp ⟨rfl, .inl rfl⟩)
          clear f2 f3 hst hsp hL
          go_wp2_with fail
          refine (word_letter r _).mono ?_
          rintro e w' ⟨rfl, rfl⟩
          rw [f1]
          clear f1 hnx
          go_wp2_with fail
          go_ret
          exact ⟨by rw [← HN.out, HS.out]; rfl, by have := HB.out.1; rwa [Nat.zero_add] at this⟩
        · have hk0 : ((k : Int) == 0) = false := by simp; omega
          cases hD : isD s[k] with
          | true =>
            rw [hD] at f2 f3 hst
            obtain rfl : wd = 1 := f3 rfl
            have HS := Lib.hid (hst (.inr ⟨by omega, rfl⟩))
            clear f3 hst hsp hL hD h0
            go_wp2_with fail
            refine (word_letter r _).mono ?_
            rintro e w' ⟨rfl, rfl⟩
            rw [f1]
            go_wp2_with fail
            refine (word_digit r _).mono ?_
            rintro e w' ⟨rfl, rfl⟩
            rw [f2]
            clear f1 f2 hnx
            go_wp2_with fail
            go_roundw
            case rel => exact ⟨k + 1, by omega, HB.out.2, by rw [HS.out, HN.out], HB.out.1⟩
            case measure => rw [HP.out, iterPos_of HB.out.2]; omega
          | false =>
            rw [hD] at f2 hsp
            have HS := Lib.hid (hsp ⟨rfl, .inr rfl⟩)
            clear f3 hst hsp hL hD h0
            go_wp2_with fail
            refine (word_letter r _).mono ?_
            rintro e w' ⟨rfl, rfl⟩
            rw [f1]
            go_wp2_with fail
            refine (word_digit r _).mono ?_
            rintro e w' ⟨rfl, rfl⟩
            rw [f2]
            clear f1 f2 hnx
            go_wp2_with fail
            go_ret
            exact ⟨by rw [← HN.out, HS.out]; rfl, HB.out.1⟩
    · have hkk : k = s.length := by omega
      subst hkk
      have hnx := fun ty => Lib.run_next_end_at (P := Tryz.prog) wr w.heap.size ⟨s.toArray⟩ s.length ty hit hlt
      go_wp2_with fail
      go_ret
      exact ⟨by rw [← HN.out, nameAt_end]; rfl, hbe⟩
end Go.Proofs.YtdffbbfhcdhpdaaGreatDoor
