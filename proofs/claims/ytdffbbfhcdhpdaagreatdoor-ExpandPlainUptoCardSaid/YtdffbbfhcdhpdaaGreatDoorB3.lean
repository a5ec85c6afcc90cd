/- package vars' find, Get; the expander's ifs. -/
import Derived.Test.YtdffbbfhcdhpdaaGreatDoorB2
namespace Go.Proofs.YtdffbbfhcdhpdaaGreatDoor
open Go.RowKit

set_option maxHeartbeats 400000 in
theorem vars_find (C : Nat) (v : Value) (l : List VarD) (nm : List UInt8) (w : World) (hv : Sl C 27 w v l.length 4 (varCells l)) (hm : VMono l nm) (hn : l.length ≤ 1073741824) :
    Calls Tryz.prog 84 #[v, S nm] w fun e w' => e = .returned (.tuple #[I (vcount l nm), .bool (vfound l nm)]) ∧ Below w.heap.size w w' := by
  go_enter Tryz.func84, Tryz.ntmps84
  go_wp2_with fail
  refine (search_any C v l nm _ hv hm hn).mono ?_
  rintro e w' ⟨rfl, hb⟩
  go_wp2_with fail
  go_ret2
  exact ⟨rfl, hb⟩

def vget (l : List VarD) (nm : List UInt8) : VarD := if vfound l nm then l[vcount l nm]?.getD varZero else varZero
theorem vfound_lt {l : List VarD} {nm : List UInt8} (h : vfound l nm = true) : vcount l nm < l.length := by
  rcases Nat.lt_or_ge (vcount l nm) l.length with h1 | h1
  · exact h1
  · unfold vfound at h; rw [List.getElem?_eq_none h1] at h; simp at h

theorem get_end (R : Ending → World → Prop) (T : Array Value) (B : Nat) (vd : VarD) (r : Bool) (W : World) (h4 : T.getD 4 undef = Ptr B) (h5 : T.getD 5 undef = .bool r)
    (hb : W.heap[B]? = some (.cells #[S vd.name, S vd.value, .bool vd.exported, .bool vd.readOnly] 27 (0, 0))) (hR : R (.returned (.tuple #[vd.agg, .bool r])) W) : bodyPost Tryz.prog Tryz.f45 R .ret ⟨T, []⟩ W := by
  have e0 : W.cell? ⟨B, 0, none⟩ = some (S vd.name) := (blk_cell hb 0).trans rfl
  have e1 : W.cell? ⟨B, 1, none⟩ = some (S vd.value) := (blk_cell hb 1).trans rfl
  have e2 : W.cell? ⟨B, 2, none⟩ = some (.bool vd.exported) := (blk_cell hb 2).trans rfl
  have e3 : W.cell? ⟨B, 3, none⟩ = some (.bool vd.readOnly) := (blk_cell hb 3).trans rfl
  refine bodyPost_ret ?_ rfl hR
  simp only [Array.getD_eq_getD_getElem?] at h4 h5
  simp [results, Tryz.results45, go_sem, h4, h5, e0, e1, e2, e3]

set_option maxRecDepth 100000 in
set_option maxHeartbeats 1000000 in
theorem vars_get (C : Nat) (v : Value) (l : List VarD) (nm : List UInt8) (w : World) (hv : Sl C 27 w v l.length 4 (varCells l)) (hm : VMono l nm) (hn : l.length ≤ 1073741824) :
    Calls Tryz.prog 45 #[v, S nm] w fun e w' => e = .returned (.tuple #[(vget l nm).agg, .bool (vfound l nm)]) ∧ Below w.heap.size w w' := by
  have hv1 := hv.ext ((Below.refl _ w).alloc (Nat.le_refl _) (.cells #[S [], S [], .bool false, .bool false] 27))
  obtain ⟨a, c, rfl, _, hcs⟩ := var_cell hv
  go_enter Tryz.func45, Tryz.ntmps45
  go_wp2_with fail
  refine (vars_find C _ l nm _ hv1 hm hn).mono ?_
  rintro e w1 ⟨rfl, hb1⟩
  have hbl := blk_ext hb1 (blk_new w _)
  have hbe := ((Below.refl _ w).alloc (Nat.le_refl _) _).trans (hb1.mono (by simp))
  have hbs := blk_lt hbl
  have d0 : w1.cell? ⟨w.heap.size, 0, none⟩ = some (S []) := (blk_cell hbl 0).trans rfl
  have d1 : w1.cell? ⟨w.heap.size, 1, none⟩ = some (S []) := (blk_cell hbl 1).trans rfl
  have d2 : w1.cell? ⟨w.heap.size, 2, none⟩ = some (.bool false) := (blk_cell hbl 2).trans rfl
  have d3 : w1.cell? ⟨w.heap.size, 3, none⟩ = some (.bool false) := (blk_cell hbl 3).trans rfl
  have f0 : w1.frozen? ⟨w.heap.size, 0, none⟩ = false := blk_free hbl 0
  have f1 : w1.frozen? ⟨w.heap.size, 1, none⟩ = false := blk_free hbl 1
  have f2 : w1.frozen? ⟨w.heap.size, 2, none⟩ = false := blk_free hbl 2
  have f3 : w1.frozen? ⟨w.heap.size, 3, none⟩ = false := blk_free hbl 3
  cases hf : vfound l nm with
  | false =>
    have hg : vget l nm = varZero := by unfold vget; rw [hf]; rfl
    have HG := Lib.hid (And.intro hg hf)
    clear hg hf hv1 hv hcs hm hb1
    go_wp2_with fail
    have g4 := blk_set (blk_set (blk_set (blk_set hbl 0 (S [])) 1 (S [])) 2 (.bool false)) 3 (.bool false)
    exact get_end _ _ w.heap.size varZero false _ rfl rfl g4 ⟨by rw [HG.out.1, HG.out.2], ((((hbe.setCell (p := ⟨w.heap.size, 0, none⟩) (Nat.le_refl _) _).setCell (p := ⟨w.heap.size, 1, none⟩) (Nat.le_refl _) _).setCell (p := ⟨w.heap.size, 2, none⟩) (Nat.le_refl _) _).setCell (p := ⟨w.heap.size, 3, none⟩) (Nat.le_refl _) _)⟩
  | true =>
    obtain ⟨b, o, rfl, hb, c0', c1', c2', c3'⟩ := hcs _ (vfound_lt hf)
    have hg : vget l nm = l[vcount l nm]'(vfound_lt hf) := by unfold vget; rw [hf, List.getElem?_eq_getElem (vfound_lt hf)]; rfl
    have hk := vfound_lt hf
    have hf' := hf
    rw [← hg] at c0' c1' c2' c3'
    have c0 := (hbe.cell (p := ⟨b, _, none⟩) hb).trans c0'
    have c1 := (hbe.cell (p := ⟨b, _, none⟩) hb).trans c1'
    have c2 := (hbe.cell (p := ⟨b, _, none⟩) hb).trans c2'
    have c3 := (hbe.cell (p := ⟨b, _, none⟩) hb).trans c3'
    clear c0' c1' c2' c3' hg hf hv1 hv hcs hm hb1
    have HF := Lib.hid hf'
    clear hf'
    generalize hk1 : vcount l nm = k at *
    generalize hk2 : vget l nm = vd at *
    have HK := Lib.hid hk2
    clear hk1 hk2
    go_wp2_with fail
    have g4 := blk_set (blk_set (blk_set (blk_set hbl 0 (S vd.name)) 1 (S vd.value)) 2 (.bool vd.exported)) 3 (.bool vd.readOnly)
    have g8 := blk_set (blk_set (blk_set (blk_set g4 0 (S vd.name)) 1 (S vd.value)) 2 (.bool vd.exported)) 3 (.bool vd.readOnly)
    exact get_end _ _ w.heap.size vd true _ rfl rfl g8 ⟨by rw [HK.out, HF.out], ((((((((hbe.setCell (p := ⟨w.heap.size, 0, none⟩) (Nat.le_refl _) _).setCell (p := ⟨w.heap.size, 1, none⟩) (Nat.le_refl _) _).setCell (p := ⟨w.heap.size, 2, none⟩) (Nat.le_refl _) _).setCell (p := ⟨w.heap.size, 3, none⟩) (Nat.le_refl _) _).setCell (p := ⟨w.heap.size, 0, none⟩) (Nat.le_refl _) _).setCell (p := ⟨w.heap.size, 1, none⟩) (Nat.le_refl _) _).setCell (p := ⟨w.heap.size, 2, none⟩) (Nat.le_refl _) _).setCell (p := ⟨w.heap.size, 3, none⟩) (Nat.le_refl _) _)⟩
end Go.Proofs.YtdffbbfhcdhpdaaGreatDoor
