/- expand.Text, expand.Fields. -/
import Derived.Test.YtdffbbfhcdhpdaaGreatDoorC6
namespace Go.Proofs.YtdffbbfhcdhpdaaGreatDoor
open Go.RowKit

/-- A store into a block that holds nothing like a row's first cell. -/
theorem Sl.skip {B : Nat} {e : TypeId} {w : World} {v : Value} {n k : Nat} {xs : List Value} (h : Sl B e w v n k xs) {g : Nat} {cs : Array Value} {T : TypeId} {f : Nat × Nat} (hg : w.heap[g]? = some (.cells cs T f))
    (hx : ∀ u, xs[0]? = some u → u ∉ cs) (o : Nat) (u : Value) : Sl B e (w.setCell ⟨g, o, none⟩ u) v n k xs := by
  obtain ⟨h0, h | ⟨b, o', c, rfl, hn, hm, hb, hk, hc⟩⟩ := h
  · exact ⟨h0, .inl h⟩
  · have hsz : (w.setCell ⟨g, o, none⟩ u).heap.size = w.heap.size := by simp [World.setCell]
    have hkk : b < B ∨ ∃ cs f, (w.setCell ⟨g, o, none⟩ u).heap[b]? = some (.cells cs e f) := by
      rcases hk with hk | ⟨cs', f', x⟩
      · exact .inl hk
      · by_cases hbg : b = g
        · subst hbg; exact .inr ⟨_, _, blk_set x o u⟩
        · exact .inr ⟨cs', f', (Below.heap_setCell w ⟨g, o, none⟩ u b hbg).trans x⟩
    refine ⟨h0, .inr ⟨b, o', c, rfl, hn, hm, by rw [hsz]; exact hb, hkk, fun j u' hj => ?_⟩⟩
    by_cases hbg : b = g
    · subst hbg
      exfalso
      have hl : 0 < xs.length := by have := (List.getElem?_eq_some_iff.1 hj).1; omega
      have h1 := hc 0 xs[0] (List.getElem?_eq_getElem hl)
      rw [blk_cell hg] at h1
      exact hx _ (List.getElem?_eq_getElem hl) (Array.mem_of_getElem? h1)
    · exact (World.cell?_of_block (w := w) (Below.heap_setCell w ⟨g, o, none⟩ u b hbg)).trans (hc j u' hj)
theorem var_first {l : List VarD} : ∀ u, (varCells l)[0]? = some u → ∃ s, u = S s := by
  intro u h
  cases l with
  | nil => simp [varCells] at h
  | cons v r => simp [varCells, VarD.cells] at h; exact ⟨_, h.symm⟩
theorem str_first {l : List (List UInt8)} : ∀ u, (l.map S)[0]? = some u → ∃ s, u = S s := by
  intro u h
  cases l with
  | nil => simp at h
  | cons v r => simp at h; exact ⟨_, h.symm⟩

/-- A shell's two rows stay where a shell is laid into a new variable. -/
theorem Sl.shell {B : Nat} {e : TypeId} {w : World} {v : Value} {n k : Nat} {xs : List Value} (h : Sl B e w v n k xs) (hx : ∀ u, xs[0]? = some u → ∃ s, u = S s) {g : Nat} {i j : Int} {f : Nat × Nat}
    (hg : w.heap[g]? = some (.cells #[NilS, NilS, I i] 30 f)) (a1 a2 : Option Addr) (n1 n2 c1 c2 : Nat) :
    Sl B e (((w.setCell ⟨g, 0, none⟩ (.slice a1 n1 c1)).setCell ⟨g, 1, none⟩ (.slice a2 n2 c2)).setCell ⟨g, 2, none⟩ (I j)) v n k xs := by
  have g1 := blk_set hg 0 (.slice a1 n1 c1)
  have g2 := blk_set g1 1 (.slice a2 n2 c2)
  refine ((h.skip hg ?_ 0 _).skip g1 ?_ 1 _).skip g2 ?_ 2 _
  all_goals
    intro u hu
    obtain ⟨s, rfl⟩ := hx u hu
    simp

theorem text_end (R : Ending → World → Prop) (T : Array Value) (B : Nat) (sv va aa : Value) (st : Int) (W : World) (h8 : T.getD 8 undef = sv) (h9 : T.getD 9 undef = Ptr B) (h10 : T.getD 10 undef = I 0)
    (hb : W.heap[B]? = some (.cells #[va, aa, I st] 30 (0, 0))) (hva : ∃ a n c, va = .slice a n c) (haa : ∃ a n c, aa = .slice a n c) (hR : R (.returned (.tuple #[sv, .agg #[va, aa, I st], I 0])) W) : bodyPost Tryz.prog Tryz.f11 R .ret ⟨T, []⟩ W := by
  have e0 : W.cell? ⟨B, 0, none⟩ = some va := (blk_cell hb 0).trans rfl
  have e1 : W.cell? ⟨B, 1, none⟩ = some aa := (blk_cell hb 1).trans rfl
  have e2 : W.cell? ⟨B, 2, none⟩ = some (I st) := (blk_cell hb 2).trans rfl
  obtain ⟨a1, a2, a3, rfl⟩ := hva
  obtain ⟨a4, a5, a6, rfl⟩ := haa
  refine bodyPost_ret ?_ rfl hR
  simp only [Array.getD_eq_getD_getElem?] at h8 h9 h10
  simp [results, Tryz.results11, go_sem, h8, h9, h10, e0, e1, e2]
theorem fields_end (R : Ending → World → Prop) (T : Array Value) (B : Nat) (sv va aa : Value) (st : Int) (W : World) (h8 : T.getD 8 undef = sv) (h9 : T.getD 9 undef = Ptr B) (h10 : T.getD 10 undef = I 0)
    (hb : W.heap[B]? = some (.cells #[va, aa, I st] 30 (0, 0))) (hva : ∃ a n c, va = .slice a n c) (haa : ∃ a n c, aa = .slice a n c) (hR : R (.returned (.tuple #[sv, .agg #[va, aa, I st], I 0])) W) : bodyPost Tryz.prog Tryz.f10 R .ret ⟨T, []⟩ W := by
  have e0 : W.cell? ⟨B, 0, none⟩ = some va := (blk_cell hb 0).trans rfl
  have e1 : W.cell? ⟨B, 1, none⟩ = some aa := (blk_cell hb 1).trans rfl
  have e2 : W.cell? ⟨B, 2, none⟩ = some (I st) := (blk_cell hb 2).trans rfl
  obtain ⟨a1, a2, a3, rfl⟩ := hva
  obtain ⟨a4, a5, a6, rfl⟩ := haa
  refine bodyPost_ret ?_ rfl hR
  simp only [Array.getD_eq_getD_getElem?] at h8 h9 h10
  simp [results, Tryz.results10, go_sem, h8, h9, h10, e0, e1, e2]

set_option maxRecDepth 100000 in
set_option maxHeartbeats 600000 in
theorem text_any (vv av ov pv : Value) (x : ExpD) (ps : List PartS) (isP : Bool) (w : World) (hg : Glob w) (h1 : Sl w.heap.size 27 w vv x.vars.length 4 (varCells x.vars)) (h2 : Sl w.heap.size 9 w av x.args.length 1 (x.args.map S))
    (h3 : Sl w.heap.size 9 w ov x.outs.length 1 (x.outs.map S)) (hv : Sl w.heap.size 42 w pv ps.length 6 (partCells ps)) (hok : ∀ p ∈ ps, PartOk x.vars p) (hvl : x.vars.length ≤ 1073741824)
    (hj : (Lib.join x.args [32]).length ≤ 4294967296) (hl : (2 * x.args.length + 1) * ps.length ≤ 4294967296)
    (ht : ∀ s ∈ ps.flatMap (partSegs x.vars x.args), s.text.length ≤ 1073741824) (hjl : (joined (ps.flatMap (partSegs x.vars x.args)) isP).length ≤ 4294967296) :
    Calls Tryz.prog 11 #[pv, .agg #[vv, av, I x.status], ov, .bool isP] w fun e w' => ∃ vv' av', e = .returned (.tuple #[S (joined (ps.flatMap (partSegs x.vars x.args)) isP), .agg #[vv', av', I x.status], I 0]) ∧
      Sl w'.heap.size 27 w' vv' x.vars.length 4 (varCells x.vars) ∧ Sl w'.heap.size 9 w' av' x.args.length 1 (x.args.map S) ∧ Below w.heap.size w w' := by
  obtain ⟨va, vc, rfl⟩ := h1.slice
  obtain ⟨aa, ac, rfl⟩ := h2.slice
  obtain ⟨oa, oc, rfl⟩ := h3.slice
  go_enter Tryz.func11, Tryz.ntmps11
  go_wp2_with fail
  have hB : Below w.heap.size w ((w.alloc (.cells #[.slice va x.vars.length vc, .slice aa x.args.length ac, I x.status] 30)).alloc (.cells #[NilS, NilS, .int .i64 0] 30)) := ((Below.refl _ w).alloc (Nat.le_refl _) _).alloc (by simp) _
  have b1 := blk_new (w.alloc (.cells #[.slice va x.vars.length vc, .slice aa x.args.length ac, I x.status] 30)) (.cells #[NilS, NilS, .int .i64 0] 30)
  rw [size_alloc'] at b1
  have hgA := hg.ext hB
  have hsl := allSegs_len x.vars x.args ps
  have hsl2 : (ps.flatMap (partSegs x.vars x.args)).length ≤ 4294967296 := Nat.le_trans hsl hl
  refine (all_any _ _ _ pv x ps _ (h1.ext hB).top (h2.ext hB).top (h3.ext hB).top (hv.ext hB).top hok hvl hj hl).mono ?_
  rintro e w1 ⟨b, rfl, hx1, hb1⟩
  have b2 := blk_ext hb1 b1
  have hgB := hgA.ext hb1
  have hBB := hB.trans (hb1.mono (by simp; omega))
  generalize hsg : ps.flatMap (partSegs x.vars x.args) = sg at hx1 ht hjl hsl2
  have HSG := Lib.hid hsg
  clear hsg
  obtain ⟨hB0, vv', av', ov', sv, g1, g2, g3, g4, g5⟩ := hx1
  obtain ⟨va', vc', rfl⟩ := g2.slice
  obtain ⟨aa', ac', rfl⟩ := g3.slice
  have e0 : w1.cell? ⟨b, 0, none⟩ = some (.slice va' x.vars.length vc') := (blk_cell g1 0).trans rfl
  have e1 : w1.cell? ⟨b, 1, none⟩ = some (.slice aa' x.args.length ac') := (blk_cell g1 1).trans rfl
  have e2 : w1.cell? ⟨b, 2, none⟩ = some (I x.status) := (blk_cell g1 2).trans rfl
  have e4 : w1.cell? ⟨b, 4, none⟩ = some sv := (blk_cell g1 4).trans rfl
  have hsv := Sl.of_owns (B := w1.heap.size) g5
  have G2 := g2.top
  have G3 := g3.top
  clear hv h1 h2 h3 hok b1 hgA hb1 hB hg hsl g2 g3 g4 g5 hj hl
  go_wp2_with fail
  go_region_law (first | (go_simp; go_at_call 30; refine (joined_any _ _ sg isP w1.drew hgB hsv ht hjl hsl2).mono ?_; rintro e w2 ⟨rfl, hb2⟩; have g1' := blk_ext (w := w1.drew) hb2 g1; have b2' := blk_ext (w := w1.drew) hb2 b2; have e0' : w2.cell? ⟨b, 0, none⟩ = some (.slice va' x.vars.length vc') := (blk_cell g1' 0).trans rfl; have e1' : w2.cell? ⟨b, 1, none⟩ = some (.slice aa' x.args.length ac') := (blk_cell g1' 1).trans rfl; have e2' : w2.cell? ⟨b, 2, none⟩ = some (I x.status) := (blk_cell g1' 2).trans rfl; have z0 : w2.frozen? ⟨w.heap.size + 1, 0, none⟩ = false := blk_free b2' 0; have z1 : w2.frozen? ⟨w.heap.size + 1, 1, none⟩ = false := blk_free b2' 1; have z2 : w2.frozen? ⟨w.heap.size + 1, 2, none⟩ = false := blk_free b2' 2; have c0' : w2.cell? ⟨w.heap.size + 1, 0, none⟩ = some NilS := (blk_cell b2' 0).trans rfl; have c1' : w2.cell? ⟨w.heap.size + 1, 1, none⟩ = some NilS := (blk_cell b2' 1).trans rfl; have c2' : w2.cell? ⟨w.heap.size + 1, 2, none⟩ = some (.int .i64 0) := (blk_cell b2' 2).trans rfl))
  all_goals
    have g4 := blk_set (blk_set (blk_set b2' 0 (.slice va' x.vars.length vc')) 1 (.slice aa' x.args.length ac')) 2 (I x.status)
    have hBl := blk_lt b2'
    have hb2d : Below w1.heap.size w1 w2 := (Below.refl _ w1).drew.trans hb2
    have hBC := hBB.trans (hb2d.mono hBB.size)
    have fr2 : Fr w.heap.size [30] w2 (((w2.setCell ⟨w.heap.size + 1, 0, none⟩ (.slice va' x.vars.length vc')).setCell ⟨w.heap.size + 1, 1, none⟩ (.slice aa' x.args.length ac')).setCell ⟨w.heap.size + 1, 2, none⟩ (I x.status)) :=
      (((Fr.refl _ _ w2).setCell (p := ⟨w.heap.size + 1, 0, none⟩) b2' (by show _ ≤ w.heap.size + 1; omega) (by simp) _).setCell (p := ⟨w.heap.size + 1, 1, none⟩) (blk_set b2' 0 _) (by show _ ≤ w.heap.size + 1; omega) (by simp) _).setCell (p := ⟨w.heap.size + 1, 2, none⟩) (blk_set (blk_set b2' 0 _) 1 _) (by show _ ≤ w.heap.size + 1; omega) (by simp) _
    have E2 := ((G2.ext hb2d).shell (j := x.status) var_first b2' va' aa' x.vars.length x.args.length vc' ac').top
    have E3 := ((G3.ext hb2d).shell (j := x.status) str_first b2' va' aa' x.vars.length x.args.length vc' ac').top
    have hBD := hBC.trans (fr2.below hBC.size)
    have FIN := Lib.hid (And.intro g4 (And.intro E2 (And.intro E3 hBD)))
    clear E2 E3 g4 fr2 hBC G2 G3 hBD hb2d hb2 hsv
    go_wp2_with fail
    refine text_end _ _ (w.heap.size + 1) (S (joined sg isP)) (.slice va' x.vars.length vc') (.slice aa' x.args.length ac') x.status _ rfl rfl rfl FIN.out.1 ⟨_, _, _, rfl⟩ ⟨_, _, _, rfl⟩ ?_
    exact ⟨.slice va' x.vars.length vc', .slice aa' x.args.length ac', by rw [HSG.out], FIN.out.2.1, FIN.out.2.2.1, FIN.out.2.2.2⟩
end Go.Proofs.YtdffbbfhcdhpdaaGreatDoor
