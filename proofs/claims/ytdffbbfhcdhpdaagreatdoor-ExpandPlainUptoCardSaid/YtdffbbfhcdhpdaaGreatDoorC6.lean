/- expand.all. -/
import Derived.Test.YtdffbbfhcdhpdaaGreatDoorC5
import Derived.Defers
import Derived.Recover
namespace Go.Proofs.YtdffbbfhcdhpdaaGreatDoor
open Go.RowKit

theorem Sl.top {B : Nat} {e : TypeId} {w : World} {v : Value} {n k : Nat} {xs : List Value} (h : Sl B e w v n k xs) : Sl w.heap.size e w v n k xs := by
  obtain ⟨h0, h | ⟨b, o, c, rfl, hn, hm, hb, hk, hc⟩⟩ := h
  · exact ⟨h0, .inl h⟩
  · exact ⟨h0, .inr ⟨b, o, c, rfl, hn, hm, hb, .inl hb, hc⟩⟩

theorem all_idle (p q r : Addr) (w : World) :
    CallsD Tryz.prog 41 #[.pointer (some p), .pointer (some q), .pointer (some r)] .returning w fun e u' w' => e = .returned (.tuple #[]) ∧ u' = .returning ∧ w' = w := by
  refine callsD_of_wpS Tryz.func41 rfl fun c₀ cs hu => ?_
  apply wpS_seq
  apply wpS_region
  simp [wpOpsS, go_sem, recoverD, hu, Tryz.ntmps41, Exit.thenS]
  apply wpS_seq
  apply wpS_region
  simp [wpOpsS, go_sem, Exit.thenS]
  refine wpS_cond (t := false) (by simp [Act.eval, Array.replicate]) ?_
  simp only [Bool.false_eq_true, if_false]
  refine wpS_of_wp (wp_skip ?_)
  cases c₀
  simp_all [bodyPostS, results, Tryz.results41]

theorem ExpW.fr {B b : Nat} {x : ExpD} {w w' : World} (h : ExpW B b x w) {C : Nat} {E : List TypeId} (hf : Fr C E w w') (hC : B ≤ C) (e1 : 73 ∉ E) (e2 : 27 ∉ E) (e3 : 9 ∉ E) (e4 : 109 ∉ E) : ExpW B b x w' := by
  obtain ⟨h0, vv, av, ov, sv, h1, h2, h3, h4, h5⟩ := h
  exact ⟨h0, vv, av, ov, sv, blk_fr hf h1 (.inr e1), h2.fr hf hC e2, h3.fr hf hC e3, h4.fr hf hC e3, ownsRow_fr h5 hf (.inl e4)⟩

set_option maxRecDepth 100000 in
set_option maxHeartbeats 600000 in
theorem all_any (vv av ov pv : Value) (x : ExpD) (ps : List PartS) (w : World) (h1 : Sl w.heap.size 27 w vv x.vars.length 4 (varCells x.vars)) (h2 : Sl w.heap.size 9 w av x.args.length 1 (x.args.map S))
    (h3 : Sl w.heap.size 9 w ov x.outs.length 1 (x.outs.map S)) (hv : Sl w.heap.size 42 w pv ps.length 6 (partCells ps)) (hok : ∀ p ∈ ps, PartOk x.vars p) (hvl : x.vars.length ≤ 1073741824)
    (hj : (Lib.join x.args [32]).length ≤ 4294967296) (hl : (2 * x.args.length + 1) * ps.length ≤ 4294967296) :
    Calls Tryz.prog 25 #[pv, .agg #[vv, av, I x.status], ov] w fun e w' => ∃ b, e = .returned (.tuple #[Ptr b, I 0]) ∧ ExpW w.heap.size b { x with segs := ps.flatMap (partSegs x.vars x.args) } w' ∧ Below w.heap.size w w' := by
  have hmf : ∀ (fn : Fn) (first cap : Array Value) (w : World), (Instr.makeFunc fn first cap).run Tryz.prog w = .ok (.func fn first cap) w := fun _ _ _ _ => rfl
  obtain ⟨va, vc, rfl⟩ := h1.slice
  obtain ⟨aa, ac, rfl⟩ := h2.slice
  obtain ⟨oa, oc, rfl⟩ := h3.slice
  have hbl : ∀ o1 o2 o3 o4 : Obj, Below w.heap.size w ((((w.alloc o1).alloc o2).alloc o3).alloc o4) := fun o1 o2 o3 o4 => ((((Below.refl _ w).alloc (Nat.le_refl _) _).alloc (by simp) _).alloc (by simp; omega) _).alloc (by simp; omega) _
  go_enter_defers Tryz.func25, Tryz.ntmps25
  go_wp2_with fail
  have hB := hbl (.cells #[.slice va x.vars.length vc, .slice aa x.args.length ac, I x.status] 30) (.cells #[.pointer (some ⟨w.heap.size + 1 + 1 + 1, 0, none⟩)] 67) (.cells #[.int .i64 0] 31) (.cells #[.slice va x.vars.length vc, .slice aa x.args.length ac, I x.status, .slice oa x.outs.length oc, NilS] 73)
  have b3 := blk_new (((w.alloc (.cells #[.slice va x.vars.length vc, .slice aa x.args.length ac, I x.status] 30)).alloc (.cells #[.pointer (some ⟨w.heap.size + 1 + 1 + 1, 0, none⟩)] 67)).alloc (.cells #[.int .i64 0] 31)) (.cells #[.slice va x.vars.length vc, .slice aa x.args.length ac, I x.status, .slice oa x.outs.length oc, NilS] 73)
  simp only [size_alloc'] at b3
  have hx : ExpW w.heap.size (w.heap.size + 1 + 1 + 1) { x with segs := [] } ((((w.alloc (.cells #[.slice va x.vars.length vc, .slice aa x.args.length ac, I x.status] 30)).alloc (.cells #[.pointer (some ⟨w.heap.size + 1 + 1 + 1, 0, none⟩)] 67)).alloc (.cells #[.int .i64 0] 31)).alloc (.cells #[.slice va x.vars.length vc, .slice aa x.args.length ac, I x.status, .slice oa x.outs.length oc, NilS] 73)) :=
    ⟨by omega, _, _, _, NilS, b3, h1.ext hB, h2.ext hB, h3.ext hB, rfl, .inl ⟨rfl, rfl⟩⟩
  have b1 := blk_alloc (blk_alloc (blk_new (w.alloc (.cells #[.slice va x.vars.length vc, .slice aa x.args.length ac, I x.status] 30)) (.cells #[.pointer (some ⟨w.heap.size + 1 + 1 + 1, 0, none⟩)] 67)) (.cells #[.int .i64 0] 31)) (.cells #[.slice va x.vars.length vc, .slice aa x.args.length ac, I x.status, .slice oa x.outs.length oc, NilS] 73)
  have b2 := blk_alloc (blk_new ((w.alloc (.cells #[.slice va x.vars.length vc, .slice aa x.args.length ac, I x.status] 30)).alloc (.cells #[.pointer (some ⟨w.heap.size + 1 + 1 + 1, 0, none⟩)] 67)) (.cells #[.int .i64 0] 31)) (.cells #[.slice va x.vars.length vc, .slice aa x.args.length ac, I x.status, .slice oa x.outs.length oc, NilS] 73)
  simp only [size_alloc'] at b1 b2
  refine (exp_run w.heap.size _ _ pv ps _ hx (hv.ext hB) hok hvl hj (by simpa using hl)).mono ?_
  rintro e w1 ⟨rfl, hx1, f1⟩
  have g1 := blk_fr f1 b1 (.inr (by decide))
  have g2 := blk_fr f1 b2 (.inr (by decide))
  have c1 : w1.cell? ⟨w.heap.size + 1, 0, none⟩ = some (.pointer (some ⟨w.heap.size + 1 + 1 + 1, 0, none⟩)) := (blk_cell g1 0).trans rfl
  have z1 : w1.frozen? ⟨w.heap.size + 1, 0, none⟩ = false := blk_free g1 0
  have c2 : w1.cell? ⟨w.heap.size + 1 + 1, 0, none⟩ = some (.int .i64 0) := (blk_cell g2 0).trans rfl
  have z2 : w1.frozen? ⟨w.heap.size + 1 + 1, 0, none⟩ = false := blk_free g2 0
  have hb1 := hB.trans (f1.below (by simp; omega))
  clear hx b1 b2 hbl hB f1 hv h1 h2 h3
  go_wp2_with fail
  have fr2 : Fr w.heap.size [67, 31] w1 ((w1.setCell ⟨w.heap.size + 1, 0, none⟩ (.pointer (some ⟨w.heap.size + 1 + 1 + 1, 0, none⟩))).setCell ⟨w.heap.size + 1 + 1, 0, none⟩ (.int .i64 0)) :=
    ((Fr.refl _ _ w1).setCell (p := ⟨w.heap.size + 1, 0, none⟩) g1 (by show _ ≤ w.heap.size + 1; omega) (by simp) _).setCell (p := ⟨w.heap.size + 1 + 1, 0, none⟩) (blk_other g2 (by show _ ≠ w.heap.size + 1; omega) _) (by show _ ≤ w.heap.size + 1 + 1; omega) (by simp) _
  have hx2 := hx1.fr fr2 (Nat.le_refl _) (by decide) (by decide) (by decide) (by decide)
  have hb2 := hb1.trans (fr2.below hb1.size)
  rw [List.nil_append] at hx2
  refine leaves_cons (f := 41) (args := #[.pointer (some ⟨w.heap.size, 0, none⟩), .pointer (some ⟨w.heap.size + 1, 0, none⟩), .pointer (some ⟨w.heap.size + 1 + 1, 0, none⟩)]) (by simp) (by simp [go_sem]) ?_
  refine (all_idle ⟨w.heap.size, 0, none⟩ ⟨w.heap.size + 1, 0, none⟩ ⟨w.heap.size + 1 + 1, 0, none⟩ _).mono ?_
  rintro e u' w'' ⟨rfl, rfl, rfl⟩
  have d1 : ((w1.setCell ⟨w.heap.size + 1, 0, none⟩ (.pointer (some ⟨w.heap.size + 1 + 1 + 1, 0, none⟩))).setCell ⟨w.heap.size + 1 + 1, 0, none⟩ (.int .i64 0)).cell? ⟨w.heap.size + 1, 0, none⟩ = some (.pointer (some ⟨w.heap.size + 1 + 1 + 1, 0, none⟩)) :=
    (blk_cell (blk_other (blk_set g1 0 _) (by show _ ≠ w.heap.size + 1 + 1; omega) _) 0).trans rfl
  have d2 : ((w1.setCell ⟨w.heap.size + 1, 0, none⟩ (.pointer (some ⟨w.heap.size + 1 + 1 + 1, 0, none⟩))).setCell ⟨w.heap.size + 1 + 1, 0, none⟩ (.int .i64 0)).cell? ⟨w.heap.size + 1 + 1, 0, none⟩ = some (.int .i64 0) :=
    (blk_cell (blk_set (blk_other g2 (by show _ ≠ w.heap.size + 1; omega) _) 0 _) 0).trans rfl
  generalize (w1.setCell ⟨w.heap.size + 1, 0, none⟩ (.pointer (some ⟨w.heap.size + 1 + 1 + 1, 0, none⟩))).setCell ⟨w.heap.size + 1 + 1, 0, none⟩ (.int .i64 0) = W2 at *
  simp [Leaves, settle, results, Tryz.results25, go_sem, d1, d2]
  exact ⟨hx2, hb2⟩
end Go.Proofs.YtdffbbfhcdhpdaaGreatDoor
