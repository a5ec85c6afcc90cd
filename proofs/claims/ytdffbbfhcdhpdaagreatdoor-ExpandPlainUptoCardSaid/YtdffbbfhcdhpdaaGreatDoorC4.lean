/- the expander's param without an operator; run over texts and such parameters. -/
import Derived.Test.YtdffbbfhcdhpdaaGreatDoorC3
namespace Go.Proofs.YtdffbbfhcdhpdaaGreatDoor
open Go.RowKit

theorem lookup_bare (w : World) (r : Nat) (h : w.heap[r]? = some (.map (ways.extract 0 6) 6)) :
    (Instr.lookup 196 (.map (some r)) (.string ⟨#[]⟩) true).run Tryz.prog w = .ok (.tuple #[fnv 125, .bool true]) w :=
  run_lookup_there Tryz.underlying196 Tryz.underlying9 (ways.extract 0 6) 6 ⟨#[]⟩ (fnv 125) 0 (by kernel_rfl) w r h
theorem cut_none (w : World) : Calls Tryz.prog 132 #[S [], S [58]] w fun e w' => e = .returned (.tuple #[S [], .bool false]) ∧ w = w' := by
  refine (Tryz.strings_CutPrefix ⟨#[]⟩ ⟨#[58]⟩ w).mono ?_
  rintro e w' ⟨rfl, rfl⟩
  exact ⟨rfl, rfl⟩

set_option maxRecDepth 100000 in
set_option maxHeartbeats 300000 in
theorem exp_param_bare (B b : Nat) (x x' : ExpD) (k : Int) (q : Bool) (t n : List UInt8) (wd : Value) (v : List UInt8) (set : Bool) (w : World) (h : ExpW B b x w)
    (hval : ∀ w', Below w.heap.size w w' → ExpW B b x w' → Calls Tryz.prog 131 #[Ptr b, S n] w' fun e w2 => e = .returned (.tuple #[S v, .bool set]) ∧ Below w'.heap.size w' w2)
    (hbare : ∀ w', Below w.heap.size w w' → ExpW B b x w' → Calls Tryz.prog 125 #[Ptr b, .agg #[I k, .bool q, S t, S n, S [], wd], S v, .bool set] w' fun e w2 => e = .returned (.tuple #[]) ∧ ExpW B b x' w2 ∧ Fr B ExpE w' w2) :
    Calls Tryz.prog 77 #[Ptr b, .agg #[I k, .bool q, S t, S n, S [], wd]] w fun e w' => e = .returned (.tuple #[]) ∧ ExpW B b x' w' ∧ Fr B ExpE w w' := by
  have hmm := @run_makeMap Tryz.prog
  have m0 := ways0
  have m1 := ways1
  have m2 := ways2
  have m3 := ways3
  have m4 := ways4
  have m5 := ways5
  have HV := Lib.hid hval
  have HBr := Lib.hid hbare
  clear hval hbare
  have hbA : Below w.heap.size w ((w.alloc (.cells #[I k, .bool q, S t, S n, S [], wd] 42)).alloc (.map (ways.extract 0 6) 6)) := ((Below.refl _ w).alloc (Nat.le_refl _) _).alloc (by simp) _
  go_enter Tryz.func77, Tryz.ntmps77
  go_wp2_with fail
  clear hmm m0 m1 m2 m3 m4 m5
  refine (HV.out _ hbA ((h.alloc _).alloc _)).mono ?_
  rintro e w1 ⟨rfl, hb1⟩
  have hbx := blk_ext hb1 (blk_alloc (blk_new w (.cells #[I k, .bool q, S t, S n, S [], wd] 42)) (.map (ways.extract 0 6) 6))
  have hmp := blk_ext hb1 (blk_new (w.alloc (.cells #[I k, .bool q, S t, S n, S [], wd] 42)) (.map (ways.extract 0 6) 6))
  rw [size_alloc'] at hmp
  have hlk := lookup_bare w1 (w.heap.size + 1) hmp
  have e0 : w1.cell? ⟨w.heap.size, 0, none⟩ = some (I k) := (blk_cell hbx 0).trans rfl
  have e1 : w1.cell? ⟨w.heap.size, 1, none⟩ = some (.bool q) := (blk_cell hbx 1).trans rfl
  have e2 : w1.cell? ⟨w.heap.size, 2, none⟩ = some (S t) := (blk_cell hbx 2).trans rfl
  have e3 : w1.cell? ⟨w.heap.size, 3, none⟩ = some (S n) := (blk_cell hbx 3).trans rfl
  have e4 : w1.cell? ⟨w.heap.size, 4, none⟩ = some (S []) := (blk_cell hbx 4).trans rfl
  have e5 : w1.cell? ⟨w.heap.size, 5, none⟩ = some wd := (blk_cell hbx 5).trans rfl
  have hbB := hbA.trans (hb1.mono (by simp; omega))
  have hx1 := ((h.alloc _).alloc _).ext hb1
  clear hbx hmp hb1 hbA
  go_wp2_with fail
  refine (cut_none _).mono ?_
  rintro e w' ⟨rfl, rfl⟩
  cases set
  all_goals
    go_wp2_with fail
    refine (HBr.out _ hbB hx1).mono ?_
    rintro e w2 ⟨rfl, hx2, hf2⟩
    go_wp2_with fail
    go_end0
    exact ⟨rfl, hx2, (Fr.of_below hbB (Nat.le_refl _)).trans hf2⟩
end Go.Proofs.YtdffbbfhcdhpdaaGreatDoor
