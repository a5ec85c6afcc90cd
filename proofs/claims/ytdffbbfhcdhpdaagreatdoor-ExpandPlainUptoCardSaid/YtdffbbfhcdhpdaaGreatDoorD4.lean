/- ref08.Parse on awake's text; law06.Begun(0). -/
import Derived.Test.YtdffbbfhcdhpdaaGreatDoorD3
namespace Go.Proofs.YtdffbbfhcdhpdaaGreatDoor
open Go.RowKit

set_option maxHeartbeats 400000 in
theorem parse_awake (w : World) :
    Calls Tryz.prog 14 #[S awakeText] w fun e w' => ∃ r, e = .returned (.tuple #[r, I 0]) ∧ w'.ownsRow w.heap.size 42 6 r 3 (partCells awakeParts) ∧ Below w.heap.size w w' := by
  go_enter Tryz.func14, Tryz.ntmps14
  go_wp2_with fail
  refine (parts_awake _).mono ?_
  rintro e w1 ⟨r, rfl, hr, hb⟩
  go_wp2_with fail
  go_ret2
  exact ⟨_, rfl, hr, hb⟩

set_option maxHeartbeats 400000 in
theorem store_new (w : World) : Calls Tryz.prog 21 #[] w fun e w' => (∃ b, e = .returned (Ptr b)) ∧ Below w.heap.size w w' := by
  have hmm := @run_makeMap Tryz.prog
  go_enter Tryz.func21, Tryz.ntmps21
  go_wp2
  go_ret
  exact ⟨⟨_, rfl⟩, ((Below.refl _ w).alloc (Nat.le_refl _) _).alloc (by simp) _⟩
set_option maxHeartbeats 400000 in
theorem ref05_new (w : World) : Calls Tryz.prog 22 #[] w fun e w' => (∃ b, e = .returned (Ptr b)) ∧ Below w.heap.size w w' := by
  go_enter Tryz.func22, Tryz.ntmps22
  go_wp2
  go_ret
  exact ⟨⟨_, rfl⟩, (Below.refl _ w).alloc (Nat.le_refl _) _⟩
set_option maxHeartbeats 400000 in
theorem kern_new (b : Nat) (w : World) : Calls Tryz.prog 23 #[Ptr b, S [], I 0] w fun e w' => e = .returned (Ptr w.heap.size) ∧ Below w.heap.size w w' := by
  go_enter Tryz.func23, Tryz.ntmps23
  go_wp2
  go_ret
  exact ⟨rfl, (Below.refl _ w).alloc (Nat.le_refl _) _⟩
set_option maxHeartbeats 400000 in
theorem ref06_new (b : Nat) (w : World) : Calls Tryz.prog 24 #[Ptr b, S [], I 0] w fun e w' => e = .returned (Ptr w.heap.size) ∧ Below w.heap.size w w' := by
  go_enter Tryz.func24, Tryz.ntmps24
  go_wp2
  go_ret
  exact ⟨rfl, (Below.refl _ w).alloc (Nat.le_refl _) _⟩

set_option maxRecDepth 100000 in
set_option maxHeartbeats 1000000 in
theorem begun_zero (w : World) : Calls Tryz.prog 9 #[I 0] w fun e w' => ∃ b c, e = .returned (Ptr b) ∧ b < w'.heap.size ∧ w'.cell? ⟨b, 1, none⟩ = some (Ptr c) ∧ Below w.heap.size w w' := by
  go_enter Tryz.func9, Tryz.ntmps9
  go_wp2_with fail
  refine (store_new _).mono ?_
  rintro e w1 ⟨⟨s, rfl⟩, hb1⟩
  go_wp2_with fail
  refine (ref05_new _).mono ?_
  rintro e w2 ⟨⟨s5, rfl⟩, hb2⟩
  have hB2 := hb1.trans (hb2.mono hb1.size)
  have hB3 := hB2.alloc hB2.size (.cells #[Ptr s, .pointer none, Ptr s5, .pointer none] 39)
  have p0 := blk_new w2 (.cells #[Ptr s, .pointer none, Ptr s5, .pointer none] 39)
  clear hb1 hb2
  go_wp2_with fail
  go_region_law (first | (go_simp; go_at_call 23; refine (kern_new s (w2.alloc (.cells #[Ptr s, .pointer none, Ptr s5, .pointer none] 39)).drew).mono ?_; rintro e w4 ⟨rfl, hb4⟩; have p4 := blk_ext (w := (w2.alloc (.cells #[Ptr s, .pointer none, Ptr s5, .pointer none] 39)).drew) hb4 p0; have c42 : w4.cell? ⟨w2.heap.size, 2, none⟩ = some (Ptr s5) := (blk_cell p4 2).trans rfl) | (go_simp; go_at_call 24; refine (ref06_new s5 w4).mono ?_; rintro e w5 ⟨rfl, hb5⟩; have p5 := blk_ext hb5 p4; have c51 : w5.cell? ⟨w2.heap.size, 1, none⟩ = some (.pointer none) := (blk_cell p5 1).trans rfl; have c53 : w5.cell? ⟨w2.heap.size, 3, none⟩ = some (.pointer none) := (blk_cell p5 3).trans rfl; have f51 : w5.frozen? ⟨w2.heap.size, 1, none⟩ = false := blk_free p5 1; have f53 : w5.frozen? ⟨w2.heap.size, 3, none⟩ = false := blk_free p5 3))
  all_goals
    have hB4 := hB3.trans (((Below.refl _ _).drew.trans hb4).mono hB3.size)
    have hB5 := hB4.trans (hb5.mono hB4.size)
    have q5 := blk_set (blk_set p5 1 (Ptr (w2.heap.size + 1))) 3 (Ptr w4.heap.size)
    have hB6 := (hB5.setCell (p := ⟨w2.heap.size, 1, none⟩) hB2.size (Ptr (w2.heap.size + 1))).setCell (p := ⟨w2.heap.size, 3, none⟩) hB2.size (Ptr w4.heap.size)
    have F := Lib.hid (And.intro q5 hB6)
    clear q5 hB6 hB5 hB4 hb5 hb4 p5 p4 p0 hB3
    go_wp2_with fail
    go_ret
    exact ⟨_, _, rfl, blk_lt F.out.1, (blk_cell F.out.1 1).trans rfl, F.out.2⟩
end Go.Proofs.YtdffbbfhcdhpdaaGreatDoor
