/- the expander's state; put, ifs, value. -/
import Derived.Test.YtdffbbfhcdhpdaaGreatDoorC0
namespace Go.Proofs.YtdffbbfhcdhpdaaGreatDoor
open Go.RowKit

structure ExpD where
  vars : List VarD
  args : List (List UInt8)
  status : Int
  outs : List (List UInt8)
  segs : List SegD

/-- An expander in block b. -/
def ExpW (B b : Nat) (x : ExpD) (w : World) : Prop :=
  B ≤ b ∧ ∃ vv av ov sv, w.heap[b]? = some (.cells #[vv, av, I x.status, ov, sv] 73 (0, 0)) ∧ Sl B 27 w vv x.vars.length 4 (varCells x.vars) ∧ Sl B 9 w av x.args.length 1 (x.args.map S) ∧
    Sl B 9 w ov x.outs.length 1 (x.outs.map S) ∧ w.ownsRow B 109 2 sv x.segs.length (segCells x.segs)
theorem ExpW.lt {B b : Nat} {x : ExpD} {w : World} (h : ExpW B b x w) : b < w.heap.size := by
  obtain ⟨_, _, _, _, _, h, _⟩ := h; exact blk_lt h
theorem ExpW.ext {B b : Nat} {x : ExpD} {w w' : World} (h : ExpW B b x w) (hb : Below w.heap.size w w') : ExpW B b x w' := by
  obtain ⟨h0, vv, av, ov, sv, h1, h2, h3, h4, h5⟩ := h
  exact ⟨h0, vv, av, ov, sv, blk_ext hb h1, h2.ext hb, h3.ext hb, h4.ext hb, ownsRow_fr h5 (C := 0) (E := []) (Fr.of_below hb (Nat.le_refl _)) (.inl (by simp))⟩
theorem ExpW.alloc {B b : Nat} {x : ExpD} {w : World} (h : ExpW B b x w) (o : Obj) : ExpW B b x (w.alloc o) := h.ext ((Below.refl _ _).alloc (Nat.le_refl _) o)
theorem ExpW.drew {B b : Nat} {x : ExpD} {w : World} (h : ExpW B b x w) : ExpW B b x w.drew := h.ext (Below.refl _ _).drew

set_option maxHeartbeats 400000 in
theorem exp_put (B b : Nat) (x : ExpD) (w : World) (k : Int) (q : Bool) (t n o : List UInt8) (wd : Value) (s : List UInt8) (h : ExpW B b x w) (hl : x.segs.length + 1 ≤ 4294967296) :
    Calls Tryz.prog 80 #[Ptr b, .agg #[I k, .bool q, S t, S n, S o, wd], S s] w fun e w' =>
      e = .returned (.tuple #[]) ∧ ExpW B b { x with segs := x.segs ++ [⟨if q then 1 else 2, s⟩] } w' ∧ Fr B ExpE w w' := by
  have hlt := h.lt
  obtain ⟨h0, vv, av, ov, sv, h1, h2, h3, h4, h5⟩ := h
  refine (expander_put B b vv av x.status ov x.segs w k q t n o wd s ⟨h0, sv, h1, h5⟩ hl (by omega)).mono ?_
  rintro e w' ⟨rfl, ⟨_, v, hb, ho⟩, hf⟩
  exact ⟨rfl, ⟨h0, vv, av, ov, v, hb, h2.fr hf (Nat.le_refl _) (by decide), h3.fr hf (Nat.le_refl _) (by decide), h4.fr hf (Nat.le_refl _) (by decide), ho⟩, hf⟩

abbrev IFS : List UInt8 := [73, 70, 83]
def ifsOf (l : List VarD) : List UInt8 := if vfound l IFS then (vget l IFS).value else [32, 9, 10]

set_option maxRecDepth 100000 in
set_option maxHeartbeats 1000000 in
theorem exp_ifs (B b : Nat) (x : ExpD) (w : World) (h : ExpW B b x w) (hm : VMono x.vars IFS) (hn : x.vars.length ≤ 1073741824) :
    Calls Tryz.prog 27 #[Ptr b] w fun e w' => e = .returned (S (ifsOf x.vars)) ∧ Below w.heap.size w w' := by
  have hlt := h.lt
  obtain ⟨h0, vv, av, ov, sv, h1, h2, h3, h4, h5⟩ := h
  have c0 : w.cell? ⟨b, 0, none⟩ = some vv := (blk_cell h1 0).trans rfl
  obtain ⟨a, c, rfl⟩ := h2.slice
  go_enter Tryz.func27, Tryz.ntmps27
  go_wp2_with fail
  refine (vars_get B _ x.vars IFS _ h2 hm hn).mono ?_
  rintro e w1 ⟨rfl, hb1⟩
  have hbe : Below w.heap.size w (w1.alloc (.cells #[S (vget x.vars IFS).name, S (vget x.vars IFS).value, .bool (vget x.vars IFS).exported, .bool (vget x.vars IFS).readOnly] 27)) := hb1.alloc hb1.size _
  cases hf : vfound x.vars IFS with
  | false =>
    have hi : ifsOf x.vars = [32, 9, 10] := by unfold ifsOf; rw [hf]; rfl
    have HI := Lib.hid hi
    clear hi hf
    go_wp2_with fail
    go_ret
    exact ⟨by rw [HI.out]; rfl, hbe⟩
  | true =>
    have hi : ifsOf x.vars = (vget x.vars IFS).value := by unfold ifsOf; rw [hf]; rfl
    have HI := Lib.hid hi
    clear hi hf
    go_wp2_with fail
    go_ret
    exact ⟨by rw [HI.out]; rfl, hbe⟩
theorem join_any (C : Nat) (v : Value) (l : List (List UInt8)) (sep : List UInt8) (w : World) (hv : Sl C 9 w v l.length 1 (l.map S)) (hn : (Lib.join l sep).length ≤ 4294967296) (hl : l.length ≤ 4294967296) :
    Calls Tryz.prog 175 #[v, S sep] w fun e w' => e = .returned (S (Lib.join l sep)) ∧ Below w.heap.size w w' := by
  cases l with
  | nil =>
    obtain ⟨a, c, rfl⟩ := hv.slice
    refine (Tryz.strings_Join_none a c ⟨sep.toArray⟩ w).mono ?_
    rintro e w' ⟨rfl, rfl⟩
    exact ⟨rfl, Below.refl _ _⟩
  | cons s l =>
    obtain ⟨h0, ⟨rfl, hn0⟩ | ⟨b, o, c, rfl, hnc, hcm, hb, hk, hc⟩⟩ := hv
    · simp at hn0
    · have hmap : ((s :: l).map fun x : List UInt8 => ByteArray.mk x.toArray).map (fun x => x.data.toList) = s :: l := by
        rw [List.map_map]; exact List.map_id' (s :: l)
      have hlen : ((s :: l).map fun x : List UInt8 => ByteArray.mk x.toArray).length = (s :: l).length := by simp
      have := Tryz.strings_Join b o c ((s :: l).map fun x => ⟨x.toArray⟩) ⟨sep.toArray⟩ w (fun j x hx => by
        rw [List.getElem?_map, Option.map_eq_some_iff] at hx
        obtain ⟨y, hy, rfl⟩ := hx
        exact hc j (S y) (by rw [List.getElem?_map, hy]; rfl)) hb (by rw [hlen]; omega) (by rw [hlen]; exact hnc) (by rw [hmap]; show (Lib.join (s :: l) sep).length ≤ _; omega)
      rw [hmap, hlen] at this
      exact this
end Go.Proofs.YtdffbbfhcdhpdaaGreatDoor
