/- ref08.special, ref08.param. -/
import Derived.Test.YtdffbbfhcdhpdaaGreatDoorF0
namespace Go.Proofs.YtdffbbfhcdhpdaaGreatDoor
open Go.RowKit

def isSp (c : UInt8) : Bool := isD c || (c.toNat : Int) == 35 || (c.toNat : Int) == 63 || (c.toNat : Int) == 64 || (c.toNat : Int) == 42
set_option maxHeartbeats 400000 in
theorem special08 (c : UInt8) (w : World) : Calls Tryz.prog 99 #[B8 c] w fun e w' => e = .returned (.bool (isSp c)) ∧ w = w' := by
  go_enter Tryz.func99, Tryz.ntmps99
  go_wp2_with fail
  refine (digit08 c _).mono ?_
  rintro e w' ⟨rfl, rfl⟩
  cases hD : isD c
  all_goals
    have HD := Lib.hid hD
    clear hD
    go_wp2_with fail
    all_goals
      go_ret
      refine ⟨ret_bool ?_, rfl⟩
      rw [isSp, HD.out]
      first | rfl | (simp; done) | (simp; omega)

theorem nameOf_pre (s : List UInt8) : s.take (nameOf s).length = nameOf s := by
  cases s with
  | nil => rfl
  | cons c r =>
    simp only [nameOf]
    split
    · rw [List.length_cons, List.take_succ_cons]
      congr 1
      exact (List.prefix_iff_eq_take.1 (List.takeWhile_prefix _)).symm
    · rfl
theorem nameOf_le (s : List UInt8) : (nameOf s).length ≤ s.length := by
  have h := congrArg List.length (nameOf_pre s)
  rw [List.length_take] at h
  omega
theorem takeWhile_idem {α : Type} (p : α → Bool) (l : List α) : (l.takeWhile p).takeWhile p = l.takeWhile p := by
  induction l with
  | nil => rfl
  | cons a l ih => by_cases h : p a = true <;> simp [h, ih]
theorem nameOf_idem (s : List UInt8) : nameOf (nameOf s) = nameOf s := by
  cases s with
  | nil => rfl
  | cons c r =>
    by_cases h : isL c = true
    · have e : nameOf (c :: r) = c :: r.takeWhile (fun d => isL d || isD d) := by simp [nameOf, h]
      rw [e]
      simp [nameOf, h, takeWhile_idem]
    · have e : nameOf (c :: r) = [] := by simp [nameOf, h]
      rw [e]; rfl
theorem NameP.of_name {s : List UInt8} (h : 0 < (nameOf s).length) : NameP (nameOf s) := ⟨by intro e; rw [e] at h; simp at h, .inl (nameOf_idem s)⟩
theorem NameP.of_sp {c : UInt8} (h : isSp c = true) : NameP [c] := by
  refine ⟨by simp, ?_⟩
  unfold isSp at h
  simp only [Bool.or_eq_true] at h
  have hc : ∀ n : UInt8, ((c.toNat : Int) == (n.toNat : Int)) = true → c = n := fun n e => UInt8.toNat_inj.1 (by rw [beq_iff_eq] at e; omega)
  rcases h with (((h | h) | h) | h) | h
  · exact .inr (.inl (by simpa using h))
  · rw [hc 35 h]; simp
  · rw [hc 63 h]; simp
  · rw [hc 64 h]; simp
  · rw [hc 42 h]; simp
theorem NameP.of_digits {s : List UInt8} {k : Nat} (hk : 0 < k) (hl : k ≤ s.length) (h : ∀ j (h : j < s.length), j < k → isD s[j] = true) : NameP (s.take k) := by
  refine ⟨by intro e; have := congrArg List.length e; rw [List.length_take, List.length_nil] at this; omega, .inr (.inl ?_)⟩
  intro c hc
  obtain ⟨j, hj, rfl⟩ := List.getElem_of_mem hc
  rw [List.length_take] at hj
  rw [List.getElem_take]
  exact h j (by omega) (by omega)

def ParamE (s : List UInt8) (w : World) (e : Ending) (w' : World) : Prop := ∃ k : Nat, e = .returned (I k) ∧ k ≤ s.length ∧ (0 < k → NameP (s.take k)) ∧ w = w'
set_option maxRecDepth 100000 in
set_option maxHeartbeats 600000 in
theorem param_any (s : List UInt8) (w : World) (hs : s.length ≤ 4294967296) : Calls Tryz.prog 151 #[S s] w (ParamE s w) := by
  by_cases hnil : s = []
  · subst hnil
    have fin : ParamE [] w (.returned (I 0)) w := ⟨0, rfl, Nat.le_refl _, fun h => absurd h (Nat.lt_irrefl _), rfl⟩
    have FIN := Lib.hid fin
    clear fin
    go_enter Tryz.func151, Tryz.ntmps151
    go_wp2_with fail
    refine (name08 [] _ (by simp)).mono ?_
    rintro e w' ⟨rfl, rfl⟩
    have hz : nameOf [] = [] := rfl
    rw [hz]
    go_wp2_with fail
    go_ret
    exact FIN.out
  · have hpos : 0 < s.length := List.length_pos_iff.2 hnil
    have e1 : s.isEmpty = false := by cases s with
      | nil => exact absurd rfl hnil
      | cons a l => rfl
    by_cases hn : 0 < (nameOf s).length
    · have fin : ParamE s w (.returned (I (nameOf s).length)) w := ⟨_, rfl, nameOf_le s, fun h => by rw [nameOf_pre]; exact NameP.of_name h, rfl⟩
      have FIN := Lib.hid fin
      have hn' : (0 : Int) < (nameOf s).length := by omega
      clear fin
      go_enter Tryz.func151, Tryz.ntmps151
      go_wp2_with fail
      refine (name08 s _ hs).mono ?_
      rintro e w' ⟨rfl, rfl⟩
      go_wp2_with fail
      go_ret
      exact FIN.out
    · have h0 : (nameOf s).length = 0 := by omega
      have hD : ∀ k : Nat, 0 < k → k ≤ s.length → (∀ j (h : j < s.length), j < k → isD s[j] = true) → ParamE s w (.returned (I k)) w := fun k h1 h2 h3 => ⟨k, rfl, h2, fun _ => NameP.of_digits h1 h2 h3, rfl⟩
      have hS1 : isSp s[0] = true → ParamE s w (.returned (I 1)) w := fun h => ⟨1, rfl, hpos, fun _ => by
        have : s.take 1 = [s[0]] := by cases s with
          | nil => simp at hpos
          | cons a l => rfl
        rw [this]; exact NameP.of_sp h, rfl⟩
      have hZ : ParamE s w (.returned (I 0)) w := ⟨0, rfl, Nat.zero_le _, fun h => absurd h (Nat.lt_irrefl _), rfl⟩
      have FIN := Lib.hid (And.intro hD (And.intro hS1 hZ))
      have H0 := Lib.hid h0
      clear hD hS1 hZ h0 hn
      go_enter Tryz.func151, Tryz.ntmps151
      go_wp2_with fail
      refine (name08 s _ hs).mono ?_
      rintro e w' ⟨rfl, rfl⟩
      rw [H0.out]
      go_wp2_with fail
      go_loopw [3] (fun i wr => ∃ k : Nat, k ≤ s.length ∧ i = I k ∧ Hid (∀ j (h : j < s.length), j < k → isD s[j] = true) ∧ w = wr) (fun i _ => s.length - (intOf i).toNat)
      case atStart => exact ⟨0, by omega, rfl, Lib.hid (fun j h h' => by omega), rfl⟩
      case round =>
        obtain ⟨k, hk, rfl, hd, rfl⟩ := hrel
        by_cases hlt : k < s.length
        · go_wp2_with fail
          refine (digit08 s[k] _).mono ?_
          rintro e w' ⟨rfl, rfl⟩
          cases hD : isD s[k] with
          | true =>
            have hd' : Hid (∀ j (h : j < s.length), j < k + 1 → isD s[j] = true) := Lib.hid (fun j h h' => by
              by_cases hj : j < k
              · exact hd.out j h hj
              · obtain rfl : j = k := by omega
                exact hD)
            clear hD hd
            go_wp2_with fail
            go_roundw
            case rel => exact ⟨k + 1, by omega, by go_num, hd', by trivial⟩
            case measure => simp [intOf]; omega
          | false =>
            by_cases h0 : k = 0
            · subst h0
              clear hD
              go_wp2_with fail
              refine (special08 s[0] _).mono ?_
              rintro e w' ⟨rfl, rfl⟩
              cases hS : isSp s[0] with
              | true =>
                have F := Lib.hid (FIN.out.2.1 hS)
                clear hS FIN
                go_wp2_with fail
                go_ret
                exact F.out
              | false =>
                have F := Lib.hid FIN.out.2.2
                clear hS FIN
                go_wp2_with fail
                go_ret
                exact F.out
            · have hk0 : 0 < k := by omega
              have e2 : ((k : Int) == 0) = false := by rw [beq_eq_false_iff_ne]; omega
              have F := Lib.hid (FIN.out.1 k hk0 hk hd.out)
              clear hD FIN hd
              go_wp2_with fail
              go_ret
              exact F.out
        · obtain rfl : k = s.length := by omega
          have e2 : ((s.length : Int) == 0) = false := by rw [beq_eq_false_iff_ne]; omega
          have F := Lib.hid (FIN.out.1 s.length hpos (Nat.le_refl _) hd.out)
          clear FIN hd
          go_wp2_with fail
          go_ret
          exact F.out
end Go.Proofs.YtdffbbfhcdhpdaaGreatDoor
