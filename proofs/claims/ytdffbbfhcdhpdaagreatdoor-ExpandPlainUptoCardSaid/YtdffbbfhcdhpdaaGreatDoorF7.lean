/- ref08.double, out of the contract of ref08.dollar. -/
import Derived.Test.YtdffbbfhcdhpdaaGreatDoorF6
namespace Go.Proofs.YtdffbbfhcdhpdaaGreatDoor
open Go.RowKit

def DollarC (d : Nat) : Prop := ∀ (s : List UInt8) (q : Bool) (w : World), 1 ≤ s.length → s.length ≤ 1048576 → Calls Tryz.prog 58 #[S s, .bool q, I d] w (DoE s w)
def DbE (s : List UInt8) (w : World) (e : Ending) (w' : World) : Prop :=
  ∃ (v : Value) (ts : List PT) (err : Int), e = .returned (.tuple #[v, I err]) ∧ Tree w.heap.size w' v ts ∧ (err = 0 → PT.wfs ts ∧ PT.sizes ts ≤ 2 * s.length + 1) ∧ Below w.heap.size w w'
def DoubleC (d : Nat) : Prop := ∀ (s : List UInt8) (w : World), s.length ≤ 1048576 → Calls Tryz.prog 60 #[S s, I d] w (DbE s w)
/-- The loop over a text: what is left, the parts so far. -/
def RestW (s : List UInt8) (w : World) (rest : List UInt8) (v : Value) (ts : List PT) (wr : World) : Prop :=
  rest.length ≤ s.length ∧ Tree w.heap.size wr v ts ∧ PT.wfs ts ∧ PT.sizes ts + 2 * rest.length ≤ 2 * s.length ∧ Below w.heap.size w wr
/-- A plain part's leaf is well made. -/
theorem wf_text (q : Bool) (t : List UInt8) : (PT.mk 0 q t [] [] []).wf := by
  rw [PT.wf_iff]; exact ⟨.inl rfl, fun h => by simp [PT.kind] at h, by simp [PT.word, PT.wfs]⟩
theorem RestW.step {m : Nat} {s : List UInt8} {w : World} {rest rest' : List UInt8} {v v' : Value} {ts : List PT} {wr w2 w3 : World} {t : PT} (h : RestW s w rest v ts wr) (hb : Below wr.heap.size wr w2) (ht : t.wf) (hl : rest'.length + m ≤ rest.length) (hz : t.size ≤ 2 * m)
    (ha : Tree w.heap.size w3 v' (addT ts t)) (hb3 : Below w2.heap.size w2 w3) : RestW s w rest' v' (addT ts t) w3 := by
  obtain ⟨h1, h2, h3, h4, h5⟩ := h
  have := addT_size ts t
  exact ⟨by omega, ha, addT_wf h3 ht, by omega, h5.trans ((hb.trans (hb3.mono hb.size)).mono h5.size)⟩

set_option maxRecDepth 100000 in
set_option maxHeartbeats 2000000 in
theorem double_step (d : Nat) (hD : DollarC d) : DoubleC d := by
  intro s w hs
  have HD := Lib.hid hD
  clear hD
  by_cases hnil : s = []
  · subst hnil
    have hb : Below w.heap.size w (w.alloc (.cells #[I 0, .bool true, S [], S [], S [], NilS] 42)) := (Below.refl _ w).alloc (Nat.le_refl _) _
    have fin : DbE [] w (.returned (.tuple #[.slice (some ⟨w.heap.size, 0, none⟩) 1 1, I 0])) (w.alloc (.cells #[I 0, .bool true, S [], S [], S [], NilS] 42)) := by
      refine ⟨_, [.mk 0 true [] [] [] []], 0, rfl, ⟨[⟨0, true, [], [], [], NilS⟩], ⟨Sl.new rfl 42 [I 0, .bool true, S [], S [], S [], NilS] 1 6 rfl (by unfold maxLen; decide), fun b o n c e => by cases e; exact Nat.le_refl _⟩, PT.rows_one (PT.at_leaf _ _ _ _ _ _ _)⟩, fun _ => ⟨?_, by decide⟩, hb⟩
      rw [PT.wfs_one]; exact wf_text _ _
    have FIN := Lib.hid fin
    clear fin
    go_enter Tryz.func60, Tryz.ntmps60
    go_wp2_with fail
    go_ret2
    exact FIN.out
  · have he : s.isEmpty = false := by cases s with
      | nil => exact absurd rfl hnil
      | cons a l => rfl
    go_enter Tryz.func60, Tryz.ntmps60
    go_wp2_with fail
    go_loopw [0, 6] (fun x v wr => ∃ (rest : List UInt8) (ts : List PT), x = S rest ∧ RestW s w rest v ts wr) (fun x _ _ => strLen x)
    case atStart => exact ⟨s, [], rfl, Nat.le_refl _, Tree.nil _ _, by simp [PT.wfs], by simp [PT.sizes], Below.refl _ _⟩
    case round =>
      obtain ⟨rest, ts, rfl, hR⟩ := hrel
      have hrl : rest.length ≤ 1048576 := Nat.le_trans hR.1 hs
      have hwz : w.heap.size ≤ wr.heap.size := hR.2.2.2.2.size
      have hszs : PT.sizes ts + 2 * rest.length ≤ 2097152 := by have := hR.2.2.2.1; omega
      obtain ⟨va, vc, rfl⟩ := hR.2.1.slice
      have HR := Lib.hid hR
      clear hR
      generalize ts.length = vn at *
      cases rest with
      | nil =>
        go_wp2_with fail
        go_ret2
        exact ⟨_, ts, 0, rfl, HR.out.2.1, fun _ => ⟨HR.out.2.2.1, by have := HR.out.2.2.2.1; omega⟩, HR.out.2.2.2.2⟩
      | cons c r =>
        have hlc : r.length + 1 ≤ 1048576 := hrl
        have hlc' : (1 : Int) ≤ (r.length : Int) + 1 := by omega
        by_cases h36 : c = 36
        · subst h36
          go_wp2_with fail
          refine (HD.out (36 :: r) true _ (by simp) hrl).mono ?_
          rintro e w2 ⟨p, t, n, err, rfl, hat, hok, hb2⟩
          have hwd := PT.at_word hat
          obtain ⟨kd, qq, tx, nm, op, wd⟩ := p
          obtain ⟨wa, wn, wc, hwd⟩ := hwd
          dsimp only at hwd
          subst hwd
          have z7 := blk_ext hb2 (blk_new wr (.cells #[I 0, .bool true, S [36], S [], S [], NilS] 42))
          have hB2 : Below wr.heap.size wr w2 := ((Below.refl _ wr).alloc (Nat.le_refl _) _).trans (hb2.mono (by simp))
          have hl7 := blk_lt z7
          have c0 : w2.cell? ⟨wr.heap.size, 0, none⟩ = some (I 0) := (blk_cell z7 0).trans rfl
          have f0 : w2.frozen? ⟨wr.heap.size, 0, none⟩ = false := blk_free z7 0
          have c1 : w2.cell? ⟨wr.heap.size, 1, none⟩ = some (.bool true) := (blk_cell z7 1).trans rfl
          have f1 : w2.frozen? ⟨wr.heap.size, 1, none⟩ = false := blk_free z7 1
          have c2 : w2.cell? ⟨wr.heap.size, 2, none⟩ = some (S [36]) := (blk_cell z7 2).trans rfl
          have f2 : w2.frozen? ⟨wr.heap.size, 2, none⟩ = false := blk_free z7 2
          have c3 : w2.cell? ⟨wr.heap.size, 3, none⟩ = some (S []) := (blk_cell z7 3).trans rfl
          have f3 : w2.frozen? ⟨wr.heap.size, 3, none⟩ = false := blk_free z7 3
          have c4 : w2.cell? ⟨wr.heap.size, 4, none⟩ = some (S []) := (blk_cell z7 4).trans rfl
          have f4 : w2.frozen? ⟨wr.heap.size, 4, none⟩ = false := blk_free z7 4
          have c5 : w2.cell? ⟨wr.heap.size, 5, none⟩ = some NilS := (blk_cell z7 5).trans rfl
          have f5 : w2.frozen? ⟨wr.heap.size, 5, none⟩ = false := blk_free z7 5
          have hB3 := below_part hB2 (Nat.le_refl _) (I kd) (.bool qq) (S tx) (S nm) (S op) (.slice wa wn wc)
          have hat2 := (PT.at_iff _ _ _ _).1 hat
          have htr : Tree (wr.heap.size + 1) w2 (.slice wa wn wc) t.word := by have := hat2.2.2.2.2.2; simpa using this
          have hat3 : t.at w.heap.size (World.part w2 wr.heap.size (I kd) (.bool qq) (S tx) (S nm) (S op) (.slice wa wn wc)) ⟨kd, qq, tx, nm, op, .slice wa wn wc⟩ :=
            (PT.at_iff _ _ _ _).2 ⟨hat2.1, hat2.2.1, hat2.2.2.1, hat2.2.2.2.1, hat2.2.2.2.2.1, (htr.part (Nat.lt_succ_self _) _ _ _ _ _ _).low (Nat.le_succ_of_le hwz)⟩
          by_cases herr : err = 0
          · subst herr
            obtain ⟨hwf, k, rfl, hk1, hk2, hsz⟩ := hok rfl
            have hk2' : (k : Int) ≤ (r.length : Int) + 1 := by simp at hk2; omega
            have htv := HR.out.2.1.ext hB3
            have hz : PT.sizes ts + t.size ≤ 4194304 := by simp at hszs hk2; omega
            have hBs := Nat.le_trans hwz hB3.size
            have H := Lib.hid (And.intro hB3 (And.intro hat3 (And.intro hwf (And.intro hsz (And.intro htv (And.intro hz hBs))))))
            clear hB3 hat3 hwf hsz htv hz hBs hat2 hat htr hok hb2 z7 hB2
            go_wp2_with fail
            refine (add_any w.heap.size _ ts t ⟨kd, qq, tx, nm, op, .slice wa wn wc⟩ _ H.out.2.2.2.2.1 H.out.2.1 H.out.2.2.2.2.2.2 H.out.2.2.2.2.2.1).mono ?_
            rintro e w4 ⟨v', rfl, ht4, hb4⟩
            have hR' := HR.out.step (rest' := (36 :: r).drop k) (m := k) H.out.1 H.out.2.2.1 (by rw [List.length_drop]; omega) H.out.2.2.2.1 ht4 hb4
            have H2 := Lib.hid hR'
            clear hR' ht4 hb4 H c0 c1 c2 c3 c4 c5 f0 f1 f2 f3 f4 f5
            go_wp2_with fail
            go_roundw
            case rel => exact ⟨(36 :: r).drop k, _, rfl, H2.out⟩
            case measure => simp [strLen, ByteArray.size]; omega
          · have herr1 : (err == 0) = false := by rw [beq_eq_false_iff_ne]; exact herr
            have herr2 : (err != 0) = true := by rw [bne_iff_ne]; exact herr
            have fin : DbE s w (.returned (.tuple #[NilS, I err])) (World.part w2 wr.heap.size (I kd) (.bool qq) (S tx) (S nm) (S op) (.slice wa wn wc)) :=
              ⟨_, [], err, rfl, Tree.nil _ _, fun h => absurd h herr, HR.out.2.2.2.2.trans (hB3.mono hwz)⟩
            have FIN := Lib.hid fin
            clear fin hB3 hat3 hat2 hat htr hok hb2 z7 hB2
            go_wp2_with fail
            go_ret2
            exact FIN.out
        · have e36 : ((c.toNat : Int) == 36) = false := u8_ne h36
          clear h36
          have hcase : ((c.toNat : Int) == 92) = false ∨ (((c.toNat : Int) == 92) = true ∧ r = []) ∨ (∃ c2 r2, r = c2 :: r2 ∧ ((c.toNat : Int) == 92) = true ∧ ((c2.toNat : Int) == 36) = false ∧ ((c2.toNat : Int) == 96) = false ∧ ((c2.toNat : Int) == 34) = false ∧ ((c2.toNat : Int) == 92) = false) ∨
              (∃ c2 r2, r = c2 :: r2 ∧ ((c.toNat : Int) == 92) = true ∧ ((c2.toNat : Int) == 36) = true) ∨ (∃ c2 r2, r = c2 :: r2 ∧ ((c.toNat : Int) == 92) = true ∧ ((c2.toNat : Int) == 36) = false ∧ ((c2.toNat : Int) == 96) = true) ∨
              (∃ c2 r2, r = c2 :: r2 ∧ ((c.toNat : Int) == 92) = true ∧ ((c2.toNat : Int) == 36) = false ∧ ((c2.toNat : Int) == 96) = false ∧ ((c2.toNat : Int) == 34) = true) ∨
              (∃ c2 r2, r = c2 :: r2 ∧ ((c.toNat : Int) == 92) = true ∧ ((c2.toNat : Int) == 36) = false ∧ ((c2.toNat : Int) == 96) = false ∧ ((c2.toNat : Int) == 34) = false ∧ ((c2.toNat : Int) == 92) = true) := by
            cases hc : ((c.toNat : Int) == 92)
            · exact .inl rfl
            · refine .inr ?_
              cases r with
              | nil => exact .inl ⟨rfl, rfl⟩
              | cons c2 r2 =>
                refine .inr ?_
                cases k1 : ((c2.toNat : Int) == 36)
                · cases k2 : ((c2.toNat : Int) == 96)
                  · cases k3 : ((c2.toNat : Int) == 34)
                    · cases k4 : ((c2.toNat : Int) == 92)
                      · exact .inl ⟨c2, r2, rfl, rfl, k1, k2, k3, k4⟩
                      · exact .inr (.inr (.inr (.inr ⟨c2, r2, rfl, rfl, k1, k2, k3, k4⟩)))
                    · exact .inr (.inr (.inr (.inl ⟨c2, r2, rfl, rfl, k1, k2, k3⟩)))
                  · exact .inr (.inr (.inl ⟨c2, r2, rfl, rfl, k1, k2⟩))
                · exact .inr (.inl ⟨c2, r2, rfl, rfl, k1⟩)
          rcases hcase with hc | ⟨hc, rfl⟩ | ⟨c2, r2, rfl, hc, k1, k2, k3, k4⟩ | ⟨c2, r2, rfl, hc, k1⟩ | ⟨c2, r2, rfl, hc, k1, k2⟩ | ⟨c2, r2, rfl, hc, k1, k2, k3⟩ | ⟨c2, r2, rfl, hc, k1, k2, k3, k4⟩
          rotate_left 3
          · have hl2 : (1 : Int) < (r2.length : Int) + 1 + 1 := by omega
            have hl3 : (2 : Int) ≤ (r2.length : Int) + 1 + 1 := by omega
            have hB : Below wr.heap.size wr (wr.alloc (.cells #[I 0, .bool true, S [c2], S [], S [], NilS] 42)) := (Below.refl _ wr).alloc (Nat.le_refl _) _
            have H := Lib.hid hB
            clear hB
            go_wp2_with fail
            refine (add_any w.heap.size _ ts (.mk 0 true [c2] [] [] []) ⟨0, true, [c2], [], [], NilS⟩ _ (HR.out.2.1.ext H.out) (PT.at_leaf _ _ _ _ _ _ _) (Nat.le_trans hwz H.out.size) (by simp only [PT.size, PT.sizes, List.length_cons, List.length_nil]; omega)).mono ?_
            rintro e w4 ⟨v', rfl, ht4, hb4⟩
            have hR' := HR.out.step (rest' := r2) (m := 2) H.out (wf_text _ _) (by simp) (by simp [PT.size, PT.sizes]) ht4 hb4
            have H2 := Lib.hid hR'
            clear hR' ht4 hb4 H
            go_wp2_with fail
            go_roundw
            case rel => exact ⟨r2, _, rfl, H2.out⟩
            case measure => simp [strLen, ByteArray.size]; omega
          · have hl2 : (1 : Int) < (r2.length : Int) + 1 + 1 := by omega
            have hl3 : (2 : Int) ≤ (r2.length : Int) + 1 + 1 := by omega
            have hB : Below wr.heap.size wr (wr.alloc (.cells #[I 0, .bool true, S [c2], S [], S [], NilS] 42)) := (Below.refl _ wr).alloc (Nat.le_refl _) _
            have H := Lib.hid hB
            clear hB
            go_wp2_with fail
            refine (add_any w.heap.size _ ts (.mk 0 true [c2] [] [] []) ⟨0, true, [c2], [], [], NilS⟩ _ (HR.out.2.1.ext H.out) (PT.at_leaf _ _ _ _ _ _ _) (Nat.le_trans hwz H.out.size) (by simp only [PT.size, PT.sizes, List.length_cons, List.length_nil]; omega)).mono ?_
            rintro e w4 ⟨v', rfl, ht4, hb4⟩
            have hR' := HR.out.step (rest' := r2) (m := 2) H.out (wf_text _ _) (by simp) (by simp [PT.size, PT.sizes]) ht4 hb4
            have H2 := Lib.hid hR'
            clear hR' ht4 hb4 H
            go_wp2_with fail
            go_roundw
            case rel => exact ⟨r2, _, rfl, H2.out⟩
            case measure => simp [strLen, ByteArray.size]; omega
          · have hl2 : (1 : Int) < (r2.length : Int) + 1 + 1 := by omega
            have hl3 : (2 : Int) ≤ (r2.length : Int) + 1 + 1 := by omega
            have hB : Below wr.heap.size wr (wr.alloc (.cells #[I 0, .bool true, S [c2], S [], S [], NilS] 42)) := (Below.refl _ wr).alloc (Nat.le_refl _) _
            have H := Lib.hid hB
            clear hB
            go_wp2_with fail
            refine (add_any w.heap.size _ ts (.mk 0 true [c2] [] [] []) ⟨0, true, [c2], [], [], NilS⟩ _ (HR.out.2.1.ext H.out) (PT.at_leaf _ _ _ _ _ _ _) (Nat.le_trans hwz H.out.size) (by simp only [PT.size, PT.sizes, List.length_cons, List.length_nil]; omega)).mono ?_
            rintro e w4 ⟨v', rfl, ht4, hb4⟩
            have hR' := HR.out.step (rest' := r2) (m := 2) H.out (wf_text _ _) (by simp) (by simp [PT.size, PT.sizes]) ht4 hb4
            have H2 := Lib.hid hR'
            clear hR' ht4 hb4 H
            go_wp2_with fail
            go_roundw
            case rel => exact ⟨r2, _, rfl, H2.out⟩
            case measure => simp [strLen, ByteArray.size]; omega
          · have hl2 : (1 : Int) < (r2.length : Int) + 1 + 1 := by omega
            have hl3 : (2 : Int) ≤ (r2.length : Int) + 1 + 1 := by omega
            have hB : Below wr.heap.size wr (wr.alloc (.cells #[I 0, .bool true, S [c2], S [], S [], NilS] 42)) := (Below.refl _ wr).alloc (Nat.le_refl _) _
            have H := Lib.hid hB
            clear hB
            go_wp2_with fail
            refine (add_any w.heap.size _ ts (.mk 0 true [c2] [] [] []) ⟨0, true, [c2], [], [], NilS⟩ _ (HR.out.2.1.ext H.out) (PT.at_leaf _ _ _ _ _ _ _) (Nat.le_trans hwz H.out.size) (by simp only [PT.size, PT.sizes, List.length_cons, List.length_nil]; omega)).mono ?_
            rintro e w4 ⟨v', rfl, ht4, hb4⟩
            have hR' := HR.out.step (rest' := r2) (m := 2) H.out (wf_text _ _) (by simp) (by simp [PT.size, PT.sizes]) ht4 hb4
            have H2 := Lib.hid hR'
            clear hR' ht4 hb4 H
            go_wp2_with fail
            go_roundw
            case rel => exact ⟨r2, _, rfl, H2.out⟩
            case measure => simp [strLen, ByteArray.size]; omega
          all_goals
            have hB : Below wr.heap.size wr (wr.alloc (.cells #[I 0, .bool true, S [c], S [], S [], NilS] 42)) := (Below.refl _ wr).alloc (Nat.le_refl _) _
            have H := Lib.hid hB
            clear hB
            try have hl2 : (1 : Int) < (r2.length : Int) + 1 + 1 := by omega
            go_wp2_with fail
            refine (add_any w.heap.size _ ts (.mk 0 true [c] [] [] []) ⟨0, true, [c], [], [], NilS⟩ _ (HR.out.2.1.ext H.out) (PT.at_leaf _ _ _ _ _ _ _) (Nat.le_trans hwz H.out.size) (by simp only [PT.size, PT.sizes, List.length_cons, List.length_nil]; omega)).mono ?_
            rintro e w4 ⟨v', rfl, ht4, hb4⟩
            have H2 := Lib.hid (And.intro ht4 hb4)
            clear ht4 hb4
            go_wp2_with fail
            go_roundw
            case rel => exact ⟨_, _, rfl, HR.out.step (m := 1) H.out (wf_text _ _) (by simp) (by simp [PT.size, PT.sizes]) H2.out.1 H2.out.2⟩
            case measure => simp [strLen, ByteArray.size]
end Go.Proofs.YtdffbbfhcdhpdaaGreatDoor
