/- Same over strings, over variables; SameShell. -/
import Derived.Test.YtdffbbfhcdhpdaaGreatDoorC8
namespace Go.Proofs.YtdffbbfhcdhpdaaGreatDoor
open Go.RowKit

set_option maxRecDepth 100000 in
set_option maxHeartbeats 600000 in
theorem same_str (C D : Nat) (v1 v2 : Value) (l : List (List UInt8)) (w : World) (h1 : Sl C 9 w v1 l.length 1 (l.map S)) (h2 : Sl D 9 w v2 l.length 1 (l.map S)) (hn : l.length ≤ 1073741824) :
    Calls Tryz.prog 12 #[v1, v2] w fun e w' => e = .returned (.bool true) ∧ Below w.heap.size w w' := by
  obtain ⟨a1, c1, rfl⟩ := h1.slice
  obtain ⟨a2, c2, rfl⟩ := h2.slice
  go_enter Tryz.func12, Tryz.ntmps12
  go_wp2_with fail
  go_loopw [5] (fun i wr => ∃ k : Nat, k ≤ l.length ∧ i = I k ∧ Below w.heap.size w wr) (fun i _ => l.length - (intOf i).toNat)
  case atStart => exact ⟨0, by omega, rfl, Below.refl _ _⟩
  case round =>
    obtain ⟨k, hk, rfl, hbe⟩ := hrel
    by_cases hlt : k < l.length
    · obtain ⟨b, o, rfl, hb, c0⟩ := str_cell (h1.ext hbe) k hlt
      obtain ⟨b', o', rfl, hb', c0'⟩ := str_cell (h2.ext hbe) k hlt
      generalize l[k] = s at c0 c0'
      go_wp2_with fail
      go_quiet (fail)
      all_goals
        go_wp2_with fail
        go_roundw
        case rel => exact ⟨k + 1, by omega, by go_num, below_drewN hbe _⟩
        case measure => simp [intOf]; omega
    · have hkk : k = l.length := by omega
      subst hkk
      go_wp2_with fail
      go_ret
      exact ⟨rfl, hbe⟩

theorem str_of_var {C : Nat} {w : World} {a : Option Addr} {c : Nat} {l : List VarD} (hv : Sl C 27 w (.slice a l.length c) l.length 4 (varCells l)) :
    ∀ k (h : k < l.length), ∃ b o, a = some ⟨b, o, none⟩ ∧ b < w.heap.size ∧
      w.cell? ⟨b, o + k * 4, none⟩ = some (S l[k].name) ∧ w.cell? ⟨b, o + k * 4 + 1, none⟩ = some (S l[k].value) ∧ w.cell? ⟨b, o + k * 4 + 1 + 1, none⟩ = some (.bool l[k].exported) ∧ w.cell? ⟨b, o + k * 4 + 1 + 1 + 1, none⟩ = some (.bool l[k].readOnly) := by
  obtain ⟨a', c', h', _, hh⟩ := var_cell hv
  cases h'
  exact hh

set_option maxRecDepth 100000 in
set_option maxHeartbeats 600000 in
theorem same_var (C D : Nat) (v1 v2 : Value) (l : List VarD) (w : World) (h1 : Sl C 27 w v1 l.length 4 (varCells l)) (h2 : Sl D 27 w v2 l.length 4 (varCells l)) (hn : l.length ≤ 1073741824) :
    Calls Tryz.prog 31 #[v1, v2] w fun e w' => e = .returned (.bool true) ∧ Below w.heap.size w w' := by
  obtain ⟨a1, c1, rfl⟩ := h1.slice
  obtain ⟨a2, c2, rfl⟩ := h2.slice
  go_enter Tryz.func31, Tryz.ntmps31
  go_wp2_with fail
  go_loopw [5] (fun i wr => ∃ k : Nat, k ≤ l.length ∧ i = I k ∧ Below w.heap.size w wr) (fun i _ => l.length - (intOf i).toNat)
  case atStart => exact ⟨0, by omega, rfl, Below.refl _ _⟩
  case round =>
    obtain ⟨k, hk, rfl, hbe⟩ := hrel
    by_cases hlt : k < l.length
    · obtain ⟨b, o, rfl, hb, d0, d1, d2, d3⟩ := str_of_var (h1.ext hbe) k hlt
      obtain ⟨b', o', rfl, hb', e0, e1, e2, e3⟩ := str_of_var (h2.ext hbe) k hlt
      generalize l[k] = s at d0 d1 d2 d3 e0 e1 e2 e3
      obtain ⟨s1, s2, s3, s4⟩ := s
      go_wp2_with fail
      go_quiet (fail)
      all_goals
        go_wp2_with fail
        go_roundw
        case rel => exact ⟨k + 1, by omega, by go_num, below_drewN hbe _⟩
        case measure => simp [intOf]; omega
    · have hkk : k = l.length := by omega
      subst hkk
      go_wp2_with fail
      go_ret
      exact ⟨rfl, hbe⟩

set_option maxRecDepth 100000 in
set_option maxHeartbeats 600000 in
theorem same_shell (v1 v2 a1 a2 : Value) (l : List VarD) (al : List (List UInt8)) (st : Int) (w : World) (C1 C2 C3 C4 : Nat) (h1 : Sl C1 27 w v1 l.length 4 (varCells l)) (h2 : Sl C2 27 w v2 l.length 4 (varCells l)) (hn : l.length ≤ 1073741824)
    (h3 : Sl C3 9 w a1 al.length 1 (al.map S)) (h4 : Sl C4 9 w a2 al.length 1 (al.map S)) (ha : al.length ≤ 1073741824) :
    Calls Tryz.prog 13 #[.agg #[v1, a1, I st], .agg #[v2, a2, I st]] w fun e w' => e = .returned (.bool true) ∧ Below w.heap.size w w' := by
  obtain ⟨b1, c1, rfl⟩ := h1.slice
  obtain ⟨b2, c2, rfl⟩ := h2.slice
  obtain ⟨b3, c3, rfl⟩ := h3.slice
  obtain ⟨b4, c4, rfl⟩ := h4.slice
  have hB : Below w.heap.size w ((w.alloc (.cells #[.slice b1 l.length c1, .slice b3 al.length c3, I st] 30)).alloc (.cells #[.slice b2 l.length c2, .slice b4 al.length c4, I st] 30)) := ((Below.refl _ w).alloc (Nat.le_refl _) _).alloc (by simp) _
  go_enter Tryz.func13, Tryz.ntmps13
  go_wp2_with fail
  have p1 := blk_alloc (blk_new w (.cells #[.slice b1 l.length c1, .slice b3 al.length c3, I st] 30)) (.cells #[.slice b2 l.length c2, .slice b4 al.length c4, I st] 30)
  have p2 := blk_new (w.alloc (.cells #[.slice b1 l.length c1, .slice b3 al.length c3, I st] 30)) (.cells #[.slice b2 l.length c2, .slice b4 al.length c4, I st] 30)
  rw [size_alloc'] at p2
  refine (same_var _ _ _ _ l _ (h1.ext hB) (h2.ext hB) hn).mono ?_
  rintro e w1 ⟨rfl, hb1⟩
  have q1 := blk_ext hb1 p1
  have q2 := blk_ext hb1 p2
  have d1 : w1.cell? ⟨w.heap.size, 1, none⟩ = some (.slice b3 al.length c3) := (blk_cell q1 1).trans rfl
  have d2 : w1.cell? ⟨w.heap.size + 1, 1, none⟩ = some (.slice b4 al.length c4) := (blk_cell q2 1).trans rfl
  have hB1 := hB.trans (hb1.mono hB.size)
  go_wp2_with fail
  refine (same_str _ _ _ _ al _ (h3.ext hB1) (h4.ext hB1) ha).mono ?_
  rintro e w2 ⟨rfl, hb2⟩
  have r1 := blk_ext hb2 q1
  have r2 := blk_ext hb2 q2
  have f1 : w2.cell? ⟨w.heap.size, 2, none⟩ = some (I st) := (blk_cell r1 2).trans rfl
  have f2 : w2.cell? ⟨w.heap.size + 1, 2, none⟩ = some (I st) := (blk_cell r2 2).trans rfl
  have hB2 := hB1.trans (hb2.mono hB1.size)
  go_wp2_with fail
  go_ret
  exact ⟨rfl, hB2⟩
end Go.Proofs.YtdffbbfhcdhpdaaGreatDoor
