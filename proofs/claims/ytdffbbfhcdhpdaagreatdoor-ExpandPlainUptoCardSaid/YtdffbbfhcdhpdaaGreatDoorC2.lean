/- the expander's value. -/
import Derived.Test.YtdffbbfhcdhpdaaGreatDoorC1
namespace Go.Proofs.YtdffbbfhcdhpdaaGreatDoor
open Go.RowKit

def isEvery (s : List UInt8) : Bool := s == [64] || s == [42]
def valueOf (x : ExpD) (name : List UInt8) : List UInt8 × Bool :=
  if isEvery name then (Lib.join x.args [32], decide (0 < x.args.length)) else ((vget x.vars name).value, vfound x.vars name)

set_option maxRecDepth 100000 in
set_option maxHeartbeats 1000000 in
theorem exp_value_every (B b : Nat) (x : ExpD) (name : List UInt8) (w : World) (h : ExpW B b x w) (he : isEvery name = true) (hn : (Lib.join x.args [32]).length ≤ 4294967296) (hl : x.args.length ≤ 4294967296) :
    Calls Tryz.prog 131 #[Ptr b, S name] w fun e w' => e = .returned (.tuple #[S (valueOf x name).1, .bool (valueOf x name).2]) ∧ Below w.heap.size w w' := by
  have hv : valueOf x name = (Lib.join x.args [32], decide (0 < x.args.length)) := by unfold valueOf; rw [if_pos he]
  rw [hv]
  clear hv
  have hlt := h.lt
  obtain ⟨h0, vv, av, ov, sv, h1, h2, h3, h4, h5⟩ := h
  have c1 : w.cell? ⟨b, 1, none⟩ = some av := (blk_cell h1 1).trans rfl
  have h3' := h3
  obtain ⟨a, c, rfl⟩ := h3'.slice
  clear h3' h1 h2 h4 h5
  have hE : (name == [64] || name == [42]) = true := he
  have d1 : (name == [35]) = false := by rcases (by simpa [isEvery] using he : name = [64] ∨ name = [42]) with rfl | rfl <;> rfl
  have d2 : (name == [63]) = false := by rcases (by simpa [isEvery] using he : name = [64] ∨ name = [42]) with rfl | rfl <;> rfl
  have d3 : (name == [48]) = false := by rcases (by simpa [isEvery] using he : name = [64] ∨ name = [42]) with rfl | rfl <;> rfl
  have HE := Lib.hid hE
  clear he hE
  go_enter Tryz.func131, Tryz.ntmps131
  go_wp2_with fail
  refine (every_any name _).mono ?_
  rintro e w' ⟨rfl, rfl⟩
  rw [HE.out]
  clear d1 d2 d3
  go_wp2_with fail
  go_region_held3 (fun w' => w'.cell? ⟨b, 1, none⟩ = some (.slice a x.args.length c)) (go_keep) (first | (go_at_call 175; refine (join_any B _ x.args [32] _ (h3.ext (Below.refl _ _).drew) hn hl).mono ?_; rintro e w1 ⟨rfl, hb1⟩; have c1' : w1.cell? ⟨b, 1, none⟩ = some (.slice a x.args.length c) := (hb1.cell (p := ⟨b, 1, none⟩) hlt).trans c1))
  all_goals
    go_wp2_with fail
    go_ret2
    exact ⟨by simp, (Below.refl _ w).drew.trans hb1⟩
theorem nameOf_ne {name : List UInt8} (h : nameOf name ≠ []) : (name == [35]) = false ∧ (name == [63]) = false ∧ (name == [48]) = false ∧ (name == [64] || name == [42]) = false ∧ isEvery name = false := by
  have h1 : name ≠ [35] := fun e => h (by subst e; decide)
  have h2 : name ≠ [63] := fun e => h (by subst e; decide)
  have h3 : name ≠ [48] := fun e => h (by subst e; decide)
  have h4 : name ≠ [64] := fun e => h (by subst e; decide)
  have h5 : name ≠ [42] := fun e => h (by subst e; decide)
  simp [isEvery, h1, h2, h3, h4, h5]

set_option maxRecDepth 100000 in
set_option maxHeartbeats 1000000 in
theorem exp_value_name (B b : Nat) (x : ExpD) (name : List UInt8) (w : World) (h : ExpW B b x w) (he : nameOf name ≠ []) (hs : name.length ≤ 4294967296) (hm : VMono x.vars name) (hn : x.vars.length ≤ 1073741824) :
    Calls Tryz.prog 131 #[Ptr b, S name] w fun e w' => e = .returned (.tuple #[S (valueOf x name).1, .bool (valueOf x name).2]) ∧ Below w.heap.size w w' := by
  obtain ⟨d1, d2, d3, d4, d5⟩ := nameOf_ne he
  have hv : valueOf x name = ((vget x.vars name).value, vfound x.vars name) := by unfold valueOf; rw [d5, if_neg (by simp)]
  rw [hv]
  have hE : (nameOf name).isEmpty = false := by simpa using he
  have HE := Lib.hid hE
  have D4 := Lib.hid d4
  clear hv he d5 d4 hE
  have hlt := h.lt
  obtain ⟨h0, vv, av, ov, sv, h1, h2, h3, h4, h5⟩ := h
  have c0 : w.cell? ⟨b, 0, none⟩ = some vv := (blk_cell h1 0).trans rfl
  have h2' := h2
  obtain ⟨a, c, rfl⟩ := h2'.slice
  clear h2' h1 h3 h4 h5
  go_enter Tryz.func131, Tryz.ntmps131
  go_wp2_with fail
  refine (every_any name _).mono ?_
  rintro e w' ⟨rfl, rfl⟩
  rw [D4.out]
  clear d1 d2 d3
  go_wp2_with fail
  refine (name_any name _ hs).mono ?_
  rintro e w1 ⟨rfl, hb1⟩
  have hE := HE.out
  have c0' : w1.cell? ⟨b, 0, none⟩ = some (.slice a x.vars.length c) := (hb1.cell (p := ⟨b, 0, none⟩) hlt).trans c0
  clear c0
  go_wp2_with fail
  refine (vars_get B _ x.vars name _ (h2.ext hb1) hm hn).mono ?_
  rintro e w2 ⟨rfl, hb2⟩
  have hbe := (hb1.trans (hb2.mono hb1.size)).alloc (Nat.le_trans hb1.size hb2.size) (.cells #[S (vget x.vars name).name, S (vget x.vars name).value, .bool (vget x.vars name).exported, .bool (vget x.vars name).readOnly] 27)
  have HB := Lib.hid hbe
  clear hbe c0' hE
  go_wp2_with fail
  go_ret2
  exact ⟨rfl, HB.out⟩
end Go.Proofs.YtdffbbfhcdhpdaaGreatDoor
