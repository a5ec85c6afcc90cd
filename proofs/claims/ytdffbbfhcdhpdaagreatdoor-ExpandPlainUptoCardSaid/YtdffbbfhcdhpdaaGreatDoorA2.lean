/- expander.put. -/
import Derived.Test.YtdffbbfhcdhpdaaGreatDoorA0
namespace Go.Proofs.YtdffbbfhcdhpdaaGreatDoor
open Go.RowKit

structure SegD where
  kind : Int
  text : List UInt8
def SegD.cells (s : SegD) : List Value := [I s.kind, S s.text]
def segCells (l : List SegD) : List Value := l.flatMap SegD.cells
theorem segCells_append (l m : List SegD) : segCells (l ++ m) = segCells l ++ segCells m := by simp [segCells]
theorem segCells_one (s : SegD) : segCells [s] = [I s.kind, S s.text] := by simp [segCells, SegD.cells]

/-- An expander in block b: its shell, what commands told (as values), its pieces. -/
def ExpAt (B b : Nat) (vars args : Value) (status : Int) (outs : Value) (segs : List SegD) (w : World) : Prop :=
  B ≤ b ∧ ∃ v, w.heap[b]? = some (.cells #[vars, args, I status, outs, v] 73 (0, 0)) ∧ w.ownsRow B 109 2 v segs.length (segCells segs)

abbrev ExpE : List TypeId := [73, 109]

theorem Tryz.infoSeg : (Tryz.prog.info? 109).map (fun i => (i.zero, i.size, i.bytes)) = some (some (.agg #[I 0, S []]), 2, 24) := by kernel_rfl

set_option maxRecDepth 100000 in
set_option maxHeartbeats 1000000 in
theorem expander_put (B b : Nat) (vars args : Value) (status : Int) (outs : Value) (segs : List SegD) (w : World) (k : Int) (q : Bool) (t n o : List UInt8) (wd : Value) (s : List UInt8)
    (h : ExpAt B b vars args status outs segs w) (hl : segs.length + 1 ≤ 4294967296) (hBw : B ≤ w.heap.size) :
    Calls Tryz.prog 80 #[Ptr b, .agg #[I k, .bool q, S t, S n, S o, wd], S s] w fun e w' =>
      e = .returned (.tuple #[]) ∧ ExpAt B b vars args status outs (segs ++ [⟨if q then 1 else 2, s⟩]) w' ∧ Fr B ExpE w w' := by
  obtain ⟨hB, v, hb, ho⟩ := h
  obtain ⟨i0, hi, hz0, hz1, hz2⟩ := info_parts Tryz.infoSeg
  have hlt : b < w.heap.size := (Array.getElem?_eq_some_iff.1 hb).1
  have c4 : w.cell? ⟨b, 4, none⟩ = some v := by rw [Lib.cell_of_heap hb]; rfl
  go_enter Tryz.func80, Tryz.ntmps80
  cases q
  case false =>
    go_wp2_with (at_builtin; go_must (refine wpList_append_own _ rfl _ _ 71 rfl B 109 i0 (.agg #[I 0, S []]) 2 24 Tryz.underlying71 hi hz0 hz1 hz2 rfl (by decide) _ _ _ rfl ((ho.alloc _).alloc _) ⟨w.heap.size + 1, 0, none⟩ 1 1 [I 2, S s] rfl rfl ?c1 ?c2 ?c3 ?c4 ?c5 ?_))
    case c1 => refine new_cells ?_ _ _; simp
    case c2 => intro u hu; simp at hu; rcases hu with rfl | rfl <;> rfl
    case c3 => unfold maxLen; omega
    case c4 => omega
    case c5 => simp; omega
    intro v' w1 hown' hgrow _
    obtain ⟨g', cap', rfl⟩ := ownsRow_succ hown'
    have hb1 := blk_grown hgrow ((ho.alloc _).alloc _) (blk_alloc (blk_alloc hb _) _) (by decide)
    have hf : w1.frozen? ⟨b, 4, none⟩ = false := blk_free hb1 4
    have hc : w1.cell? ⟨b, 4, none⟩ = some v := by rw [blk_cell hb1]; rfl
    have fr := (((Fr.refl B ExpE w).alloc _).alloc _).grownRow ((ho.alloc _).alloc _) hgrow (by simp)
    go_wp2
    go_end0
    refine ⟨rfl, ⟨hB, _, blk_set hb1 4 _, ?_⟩, fr.setCell (p := ⟨b, 4, none⟩) hb1 hB (by simp) _⟩
    rw [List.length_append, segCells_append, segCells_one]
    exact ownsRow_set hown' hb1 (by decide) 4 _
  case true =>
    go_wp2_with (at_builtin; go_must (refine wpList_append_own _ rfl _ _ 71 rfl B 109 i0 (.agg #[I 0, S []]) 2 24 Tryz.underlying71 hi hz0 hz1 hz2 rfl (by decide) _ _ _ rfl ((ho.alloc _).alloc _) ⟨w.heap.size + 1, 0, none⟩ 1 1 [I 1, S s] rfl rfl ?c1 ?c2 ?c3 ?c4 ?c5 ?_))
    case c1 => refine new_cells ?_ _ _; simp
    case c2 => intro u hu; simp at hu; rcases hu with rfl | rfl <;> rfl
    case c3 => unfold maxLen; omega
    case c4 => omega
    case c5 => simp; omega
    intro v' w1 hown' hgrow _
    obtain ⟨g', cap', rfl⟩ := ownsRow_succ hown'
    have hb1 := blk_grown hgrow ((ho.alloc _).alloc _) (blk_alloc (blk_alloc hb _) _) (by decide)
    have hf : w1.frozen? ⟨b, 4, none⟩ = false := blk_free hb1 4
    have hc : w1.cell? ⟨b, 4, none⟩ = some v := by rw [blk_cell hb1]; rfl
    have fr := (((Fr.refl B ExpE w).alloc _).alloc _).grownRow ((ho.alloc _).alloc _) hgrow (by simp)
    go_wp2
    go_end0
    refine ⟨rfl, ⟨hB, _, blk_set hb1 4 _, ?_⟩, fr.setCell (p := ⟨b, 4, none⟩) hb1 hB (by simp) _⟩
    rw [List.length_append, segCells_append, segCells_one]
    exact ownsRow_set hown' hb1 (by decide) 4 _
end Go.Proofs.YtdffbbfhcdhpdaaGreatDoor
