/- ref08.Add where it does not merge. -/
import Derived.Test.YtdffbbfhcdhpdaaGreatDoorD1
namespace Go.Proofs.YtdffbbfhcdhpdaaGreatDoor
open Go.RowKit

theorem Tryz.infoPart : (Tryz.prog.info? 42).map (fun i => (i.zero, i.size, i.bytes)) = some (some (.agg #[I 0, .bool false, S [], S [], S [], NilS]), 6, 88) := by kernel_rfl

theorem partCells_one (l : List PartS) (p : PartS) : partCells (l ++ [p]) = partCells l ++ p.cells := by simp [partCells]
theorem partCells_cell {l : List PartS} (h : ∀ p ∈ l, ∃ a n c, p.word = .slice a n c) : ∀ u ∈ partCells l, u.oneCell' = true := by
  intro u hu
  obtain ⟨p, hp, hu⟩ := List.mem_flatMap.1 hu
  obtain ⟨a, n, c, hw⟩ := h p hp
  simp only [PartS.cells, List.mem_cons, List.not_mem_nil, or_false] at hu
  rcases hu with rfl | rfl | rfl | rfl | rfl | rfl
  · rfl
  · rfl
  · rfl
  · rfl
  · rfl
  · rw [hw]; rfl

set_option maxRecDepth 100000 in
set_option maxHeartbeats 600000 in
theorem add_append (C : Nat) (v : Value) (ps : List PartS) (p : PartS) (w : World) (hv : Sl C 42 w v ps.length 6 (partCells ps)) (hn : ps.length ≤ 1048576) (hw : ∀ p ∈ ps, ∃ a n c, p.word = .slice a n c) (hwp : ∃ a n c, p.word = .slice a n c) (hk : p.kind ≠ 0 ∨ ps = []) :
    Calls Tryz.prog 59 #[v, p.agg] w fun e w' => ∃ r, e = .returned r ∧ w'.ownsRow w.heap.size 42 6 r (ps.length + 1) (partCells (ps ++ [p])) ∧ Below w.heap.size w w' := by
  obtain ⟨i0, hi, hz0, hz1, hz2⟩ := info_parts Tryz.infoPart
  have hone := partCells_cell hw
  obtain ⟨a, c, rfl⟩ := hv.slice
  obtain ⟨kd, q, t, n, o, wd⟩ := p
  obtain ⟨wa, wn, wc, hwd⟩ := hwp
  obtain rfl : wd = .slice wa wn wc := hwd
  have hb0 := (Below.refl _ w).alloc (Nat.le_refl _) (.cells #[I kd, .bool q, S t, S n, S o, .slice wa wn wc] 42)
  have hv1 := hv.ext hb0
  have ho0 : (w.alloc (.cells #[I kd, .bool q, S t, S n, S o, .slice wa wn wc] 42)).ownsRow (w.heap.size + 1) 42 6 NilS 0 [] := ⟨rfl, .inl ⟨rfl, rfl⟩⟩
  have H := Lib.hid (And.intro hk (And.intro hone hb0))
  clear hk hone hb0 hw hv
  go_enter Tryz.func59, Tryz.ntmps59
  go_wp2_with (at_builtin; go_must (refine wpList_app _ rfl _ _ 40 rfl (w.heap.size + 1) 42 i0 (.agg #[I 0, .bool false, S [], S [], S [], NilS]) 6 88 Tryz.underlying40 hi hz0 hz1 hz2 rfl (by decide) _ _ _ rfl ho0 _ _ _ _ _ rfl hv1 H.out.2.1 ?c3 ?c4 ?c5 ?_))
  case c3 => unfold maxLen; omega
  case c4 => omega
  intro v1 w1 ho1 hg1 hnil
  obtain ⟨a1, c1, rfl⟩ := ownsRow_slice ho1
  have hblk : w1.heap[w.heap.size]? = some (.cells #[I kd, .bool q, S t, S n, S o, .slice wa wn wc] 42 (0, 0)) := (hg1.block w.heap.size (by simp) (by simp [Value.ownBlock])).trans (blk_new w _)
  have e0 : w1.cell? ⟨w.heap.size, 0, none⟩ = some (I kd) := (blk_cell hblk 0).trans rfl
  have e1 : w1.cell? ⟨w.heap.size, 1, none⟩ = some (.bool q) := (blk_cell hblk 1).trans rfl
  have e2 : w1.cell? ⟨w.heap.size, 2, none⟩ = some (S t) := (blk_cell hblk 2).trans rfl
  have e3 : w1.cell? ⟨w.heap.size, 3, none⟩ = some (S n) := (blk_cell hblk 3).trans rfl
  have e4 : w1.cell? ⟨w.heap.size, 4, none⟩ = some (S o) := (blk_cell hblk 4).trans rfl
  have e5 : w1.cell? ⟨w.heap.size, 5, none⟩ = some (.slice wa wn wc) := (blk_cell hblk 5).trans rfl
  have hfr1 : Fr (w.heap.size + 1) [42] (w.alloc (.cells #[I kd, .bool q, S t, S n, S o, .slice wa wn wc] 42)) w1 := (Fr.refl _ _ _).grownRow ho0 hg1 (by simp)
  have hB1 := H.out.2.2.trans ((hfr1.below (by simp)).mono (Nat.le_succ _))
  have hs1 := hB1.size
  have hone2 : ∀ u ∈ [I kd, .bool q, S t, S n, S o, .slice wa wn wc], u.oneCell' = true := by
    intro u hu; simp only [List.mem_cons, List.not_mem_nil, or_false] at hu; rcases hu with rfl | rfl | rfl | rfl | rfl | rfl <;> rfl
  have K := Lib.hid (And.intro ho1 (And.intro hB1 hone2))
  clear ho1 hB1 hg1 hnil hblk hfr1 hone2 hv1 ho0
  have h63 : ps.length + 1 ≤ maxLen := by unfold maxLen; omega
  have h88 : (ps.length + 1) * 88 ≤ 140737488355328 := by omega
  have hbs : ∀ m, w.heap.size + 1 ≤ ((w1.drewN m).alloc (.cells #[I kd, .bool q, S t, S n, S o, .slice wa wn wc] 42)).heap.size := fun m => by simp; omega
  have hcs : ∀ m j u, [I kd, .bool q, S t, S n, S o, .slice wa wn wc][j]? = some u → ((w1.drewN m).alloc (.cells #[I kd, .bool q, S t, S n, S o, .slice wa wn wc] 42)).cell? ((⟨(w1.drewN m).heap.size, 0, none⟩ : Addr).add j) = some u := fun m => new_cells rfl _ _
  have hown : ∀ m, ((w1.drewN m).alloc (.cells #[I kd, .bool q, S t, S n, S o, .slice wa wn wc] 42)).ownsRow (w.heap.size + 1) 42 6 (.slice a1 ps.length c1) ps.length (partCells ps) := fun m => World.ownsRow.alloc (w := w1.drewN m) K.out.1 _
  have K2 := Lib.hid (And.intro h63 (And.intro h88 (And.intro hbs (And.intro hcs hown))))
  clear h63 h88 hbs hcs hown
  have fin : ∀ (m : Nat) (v' : Value) (w3 : World), w3.ownsRow (w.heap.size + 1) 42 6 v' (ps.length + 1) (partCells ps ++ [I kd, .bool q, S t, S n, S o, .slice wa wn wc]) → ((w1.drewN m).alloc (.cells #[I kd, .bool q, S t, S n, S o, .slice wa wn wc] 42)).grownBy w3 (Value.slice a1 ps.length c1).ownBlock →
      w3.ownsRow w.heap.size 42 6 v' (ps.length + 1) (partCells (ps ++ [⟨kd, q, t, n, o, .slice wa wn wc⟩])) ∧ Below w.heap.size w w3 := by
    intro m v' w3 ho hg
    have hB2 : Below w.heap.size w ((w1.drewN m).alloc (.cells #[I kd, .bool q, S t, S n, S o, .slice wa wn wc] 42)) := (below_drewN K.out.2.1 m).alloc K.out.2.1.size _
    have hf : Fr w.heap.size [42] ((w1.drewN m).alloc (.cells #[I kd, .bool q, S t, S n, S o, .slice wa wn wc] 42)) w3 := ((Fr.refl _ _ _).grownRow (K2.out.2.2.2.2 m) hg (by simp)).mono (Nat.le_succ _) (fun _ h => h)
    refine ⟨?_, hB2.trans (hf.below hB2.size)⟩
    rw [partCells_one]
    rcases ho.2 with hn | ⟨g, cap, cur, hv, hb, r⟩
    · exact ⟨ho.1, .inl hn⟩
    · exact ⟨ho.1, .inr ⟨g, cap, cur, hv, by omega, r⟩⟩
  have FIN := Lib.hid fin
  clear fin
  by_cases hz : ps.length = 0
  · obtain rfl : ps = [] := List.eq_nil_of_length_eq_zero hz
    clear hz
    go_wp2_with fail
    go_quiet (fail)
    all_goals
      go_wp2_with (at_builtin; go_must (refine wpList_append_own _ rfl _ _ 40 rfl (w.heap.size + 1) 42 i0 (.agg #[I 0, .bool false, S [], S [], S [], NilS]) 6 88 Tryz.underlying40 hi hz0 hz1 hz2 rfl (by decide) _ _ _ rfl (K2.out.2.2.2.2 _) ⟨w1.heap.size, 0, none⟩ 1 1 [I kd, .bool q, S t, S n, S o, .slice wa wn wc] rfl rfl (K2.out.2.2.2.1 _) K.out.2.2 K2.out.1 K2.out.2.1 (K2.out.2.2.1 _) ?_))
      intro v' w3 hown3 hgrow3 _
      go_wp2_with fail
      go_ret
      exact ⟨v', rfl, FIN.out _ v' w3 hown3 hgrow3⟩
  · have hpos : (0 : Int) ≤ (ps.length : Int) - 1 := by omega
    have hpos1 : (1 : Int) ≤ (ps.length : Int) := by omega
    have hpos2 : 1 ≤ ps.length := by omega
    have hpos3 : 0 < ps.length := by omega
    have hkd : (kd == 0) = false := by rw [beq_eq_false_iff_ne]; exact H.out.1.resolve_right (fun e => by rw [e] at hz; exact hz rfl)
    clear hz
    go_wp2_with fail
    go_quiet (fail)
    all_goals
      go_wp2_with (at_builtin; go_must (refine wpList_append_own _ rfl _ _ 40 rfl (w.heap.size + 1) 42 i0 (.agg #[I 0, .bool false, S [], S [], S [], NilS]) 6 88 Tryz.underlying40 hi hz0 hz1 hz2 rfl (by decide) _ _ _ rfl (K2.out.2.2.2.2 _) ⟨w1.heap.size, 0, none⟩ 1 1 [I kd, .bool q, S t, S n, S o, .slice wa wn wc] rfl rfl (K2.out.2.2.2.1 _) K.out.2.2 K2.out.1 K2.out.2.1 (K2.out.2.2.1 _) ?_))
      intro v' w3 hown3 hgrow3 _
      go_wp2_with fail
      go_ret
      exact ⟨v', rfl, FIN.out _ v' w3 hown3 hgrow3⟩
end Go.Proofs.YtdffbbfhcdhpdaaGreatDoor
