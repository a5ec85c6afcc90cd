/- expand.Fields. -/
import Derived.Test.YtdffbbfhcdhpdaaGreatDoorC7
namespace Go.Proofs.YtdffbbfhcdhpdaaGreatDoor
open Go.RowKit

theorem Sl.new2 (w : World) (T : TypeId) (v1 v2 : Value) : Sl (w.alloc (.cells #[v1, v2] T)).heap.size T (w.alloc (.cells #[v1, v2] T)) (.slice (some ⟨w.heap.size, 0, none⟩) 2 2) 2 1 [v1, v2] := by
  refine ⟨rfl, .inr ⟨_, 0, 2, rfl, Nat.le_refl _, by unfold maxLen; decide, by simp, .inl (by simp), fun j u hj => ?_⟩⟩
  rw [blk_cell (blk_new w _), Nat.zero_add]
  exact (by simpa using hj)
theorem str_cell {C : Nat} {w : World} {a : Option Addr} {c : Nat} {l : List (List UInt8)} (hv : Sl C 9 w (.slice a l.length c) l.length 1 (l.map S)) :
    ∀ k (h : k < l.length), ∃ b o, a = some ⟨b, o, none⟩ ∧ b < w.heap.size ∧ w.cell? ⟨b, o + k, none⟩ = some (S l[k]) := by
  intro k h
  obtain ⟨_, ⟨h', hn0⟩ | ⟨b', o', c', h', _, _, hb, _, hc⟩⟩ := hv
  · omega
  · cases h'; exact ⟨b', o', rfl, hb, hc k _ (by simp [h])⟩
def NoGlob (s : List UInt8) : Prop := (special s = false ∨ 400 < s.length) ∧ s.length ≤ 4294967296

set_option maxRecDepth 100000 in
set_option maxHeartbeats 600000 in
theorem fieldsAll_any (vv av ov pv pr : Value) (x : ExpD) (ps : List PartS) (w : World) (hg : Glob w) (h1 : Sl w.heap.size 27 w vv x.vars.length 4 (varCells x.vars)) (h2 : Sl w.heap.size 9 w av x.args.length 1 (x.args.map S))
    (h3 : Sl w.heap.size 9 w ov x.outs.length 1 (x.outs.map S)) (hv : Sl w.heap.size 42 w pv ps.length 6 (partCells ps)) (hok : ∀ p ∈ ps, PartOk x.vars p) (hvl : x.vars.length ≤ 1073741824)
    (hj : (Lib.join x.args [32]).length ≤ 4294967296) (hl : (2 * x.args.length + 1) * ps.length ≤ 4294967296) (hmi : VMono x.vars IFS)
    (hss : splSize (ps.flatMap (partSegs x.vars x.args)) ≤ 1073741824) (hng : ∀ f ∈ fieldsOf (ifsOf x.vars) (ps.flatMap (partSegs x.vars x.args)), NoGlob f) (hfl : (fieldsOf (ifsOf x.vars) (ps.flatMap (partSegs x.vars x.args))).length ≤ 1073741824) :
    Calls Tryz.prog 10 #[pr, pv, .agg #[vv, av, I x.status], ov] w fun e w' => ∃ r vv' av', e = .returned (.tuple #[r, .agg #[vv', av', I x.status], I 0]) ∧
      Sl w'.heap.size 9 w' r (fieldsOf (ifsOf x.vars) (ps.flatMap (partSegs x.vars x.args))).length 1 (((fieldsOf (ifsOf x.vars) (ps.flatMap (partSegs x.vars x.args))).map plain).map S) ∧
      Sl w'.heap.size 27 w' vv' x.vars.length 4 (varCells x.vars) ∧ Sl w'.heap.size 9 w' av' x.args.length 1 (x.args.map S) ∧ Below w.heap.size w w' := by
  obtain ⟨va, vc, rfl⟩ := h1.slice
  obtain ⟨aa, ac, rfl⟩ := h2.slice
  obtain ⟨oa, oc, rfl⟩ := h3.slice
  go_enter Tryz.func10, Tryz.ntmps10
  go_wp2_with fail
  have hB : Below w.heap.size w ((w.alloc (.cells #[.slice va x.vars.length vc, .slice aa x.args.length ac, I x.status] 30)).alloc (.cells #[NilS, NilS, .int .i64 0] 30)) := ((Below.refl _ w).alloc (Nat.le_refl _) _).alloc (by simp) _
  have b1 := blk_new (w.alloc (.cells #[.slice va x.vars.length vc, .slice aa x.args.length ac, I x.status] 30)) (.cells #[NilS, NilS, .int .i64 0] 30)
  rw [size_alloc'] at b1
  have hgA := hg.ext hB
  refine (all_any _ _ _ pv x ps _ (h1.ext hB).top (h2.ext hB).top (h3.ext hB).top (hv.ext hB).top hok hvl hj hl).mono ?_
  rintro e w1 ⟨b, rfl, hx1, hb1⟩
  have b2 := blk_ext hb1 b1
  have hgB := hgA.ext hb1
  have hBB := hB.trans (hb1.mono (by simp; omega))
  generalize hsg : ps.flatMap (partSegs x.vars x.args) = sg at hx1 hss hng hfl
  have HSG := Lib.hid hsg
  have hx1' := hx1
  obtain ⟨hB0, vv', av', ov', sv, g1, g2, g3, g4, g5⟩ := hx1'
  obtain ⟨va', vc', rfl⟩ := g2.slice
  obtain ⟨aa', ac', rfl⟩ := g3.slice
  have e4 : w1.cell? ⟨b, 4, none⟩ = some sv := (blk_cell g1 4).trans rfl
  have hbl1 := blk_lt g1
  have hsv := Sl.of_owns (B := w1.heap.size) g5
  have G2 := g2.top
  have G3 := g3.top
  generalize hfs : fieldsOf (ifsOf x.vars) sg = fs at hng hfl
  have HFS := Lib.hid hfs
  have HNG := Lib.hid hng
  clear hsg hv h1 h2 h3 hok b1 hgA hb1 hB hg g2 g3 g4 g5 hj hl hfs hng
  go_wp2_with fail
  go_region_held3 (fun w' => w'.cell? ⟨b, 4, none⟩ = some sv) (go_keep) (first | (go_at_call 27; refine (exp_ifs _ b _ w1.drew hx1.drew hmi hvl).mono ?_; rintro e w2 ⟨rfl, hb2⟩; have e4' : w2.cell? ⟨b, 4, none⟩ = some sv := (hb2.cell (p := ⟨b, 4, none⟩) hbl1).trans e4) | (go_at_call 26; refine (fields_any _ sv sg (ifsOf x.vars) w2 (Glob.ext (w := w1.drew) hgB hb2) (Sl.ext (w := w1.drew) (hsv.ext (Below.refl _ _).drew) hb2) hss).mono ?_; rintro e w3 ⟨r, rfl, hr, hb3⟩; obtain ⟨ra, rc, rfl⟩ := ownsRow_slice hr; have e4'' : w3.cell? ⟨b, 4, none⟩ = some sv := (hb3.cell (p := ⟨b, 4, none⟩) (Nat.lt_of_lt_of_le hbl1 hb2.size)).trans e4'))
  all_goals
    rw [HFS.out] at hr
    rw [HFS.out]
    have hb23 : Below w1.heap.size w1 w3 := (Below.refl _ w1).drew.trans (hb2.trans (hb3.mono hb2.size))
    have hBC := hBB.trans (hb23.mono hBB.size)
    have p1 := blk_ext hb23 g1
    have p2 := blk_ext hb23 b2
    have P2 := (G2.ext hb23).top
    have P3 := (G3.ext hb23).top
    have PR := (Sl.of_owns (B := w3.heap.size) hr)
    have H := Lib.hid (And.intro p1 (And.intro p2 (And.intro P2 (And.intro P3 (And.intro PR (And.intro hBC (hgB.ext hb23)))))))
    clear hr hb23 hBC p1 p2 P2 P3 PR hb2 hb3 G2 G3 g1 hgB hBB b2 hx1 hss hB0 hsv e4 e4' e4''
    go_wp2_with fail
    go_loopw [8, 33] (fun v i wr => ∃ k : Nat, k ≤ fs.length ∧ i = I k ∧ Sl wr.heap.size 9 wr v k 1 (((fs.take k).map plain).map S) ∧ Below w3.heap.size w3 wr) (fun _ i _ => fs.length - (intOf i).toNat)
    case atStart => exact ⟨0, by omega, rfl, Sl.nil _ _ _ _, Below.refl _ _⟩
    case round =>
      obtain ⟨k, hk, rfl, hvk, hbe⟩ := hrel
      obtain ⟨a8, c8, rfl⟩ := hvk.slice
      by_cases hlt : k < fs.length
      · obtain ⟨b', o', rfl, hb', c0⟩ := str_cell (H.out.2.2.2.2.1.ext hbe) k hlt
        have hn := HNG.out fs[k] (List.getElem_mem hlt)
        have hsn : (((fs.take (k + 1)).map plain).map S) = (((fs.take k).map plain).map S) ++ [S (plain fs[k])] := by rw [List.take_succ_eq_append_getElem hlt, List.map_append, List.map_append]; rfl
        have HSN := Lib.hid hsn
        have HN := Lib.hid hn
        clear hsn hn
        go_wp2_with fail
        refine (glob_plain pr fs[k] _ HN.out.1 HN.out.2).mono ?_
        rintro e w4 ⟨r, rfl, hr, hb4⟩
        obtain ⟨ar, cr, rfl⟩ := ownsRow_slice hr
        go_wp2_with fail
        have q1 : Below wr.heap.size wr (w4.alloc (.cells #[.slice a8 k c8, .slice ar 1 cr] 22)) := hb4.alloc hb4.size _
        have q2 : Below w4.heap.size w4 (w4.alloc (.cells #[.slice a8 k c8, .slice ar 1 cr] 22)) := (Below.refl _ _).alloc (Nat.le_refl _) _
        have Q1 := (hvk.ext q1).top
        have Q2 := ((Sl.of_owns (B := w4.heap.size) hr).ext q2).top
        refine (Concat_string _ (w4.alloc (.cells #[.slice a8 k c8, .slice ar 1 cr] 22)).heap.size _ [(.slice a8 k c8, k, ((fs.take k).map plain).map S), (.slice ar 1 cr, 1, [S (plain fs[k])])] _ (Sl.new2 w4 22 _ _) ?hp ?hN ?hn).mono ?_
        case hp =>
          intro p hp
          simp only [List.mem_cons, List.not_mem_nil, or_false] at hp
          rcases hp with rfl | rfl
          · exact ⟨Q1, fun u hu => by obtain ⟨s, _, rfl⟩ := List.mem_map.1 hu; rfl⟩
          · exact ⟨Q2, fun u hu => by obtain rfl := List.mem_singleton.1 hu; rfl⟩
        case hN => simp [psum]; omega
        case hn => simp
        rintro e w5 ⟨v5, rfl, hv5, hb5⟩
        have hv6 : w5.ownsRow (w4.alloc (.cells #[.slice a8 k c8, .slice ar 1 cr] 22)).heap.size 9 1 v5 (k + 1) (((fs.take (k + 1)).map plain).map S) := by
          rw [HSN.out]; simpa [psum, pcells] using hv5
        have hbF := hbe.trans ((q1.trans (hb5.mono q1.size)).mono hbe.size)
        have hv7 := Sl.of_owns (B := w5.heap.size) hv6
        clear hv5 hv6 q1 q2 Q1 Q2 hvk hr hb4 hb5 hbe
        go_wp2_with fail
        go_roundw
        case rel => exact ⟨k + 1, by omega, by go_num, hv7, hbF⟩
        case measure => simp [intOf]; omega
      · have hkk : k = fs.length := by omega
        subst hkk
        rw [List.take_length] at hvk
        have g1' := blk_ext hbe H.out.1
        have b2' := blk_ext hbe H.out.2.1
        have e0' : wr.cell? ⟨b, 0, none⟩ = some (.slice va' x.vars.length vc') := (blk_cell g1' 0).trans rfl
        have e1' : wr.cell? ⟨b, 1, none⟩ = some (.slice aa' x.args.length ac') := (blk_cell g1' 1).trans rfl
        have e2' : wr.cell? ⟨b, 2, none⟩ = some (I x.status) := (blk_cell g1' 2).trans rfl
        have z0 : wr.frozen? ⟨w.heap.size + 1, 0, none⟩ = false := blk_free b2' 0
        have z1 : wr.frozen? ⟨w.heap.size + 1, 1, none⟩ = false := blk_free b2' 1
        have z2 : wr.frozen? ⟨w.heap.size + 1, 2, none⟩ = false := blk_free b2' 2
        have c0' : wr.cell? ⟨w.heap.size + 1, 0, none⟩ = some NilS := (blk_cell b2' 0).trans rfl
        have c1' : wr.cell? ⟨w.heap.size + 1, 1, none⟩ = some NilS := (blk_cell b2' 1).trans rfl
        have c2' : wr.cell? ⟨w.heap.size + 1, 2, none⟩ = some (.int .i64 0) := (blk_cell b2' 2).trans rfl
        have hBl := blk_lt b2'
        have g4 := blk_set (blk_set (blk_set b2' 0 (.slice va' x.vars.length vc')) 1 (.slice aa' x.args.length ac')) 2 (I x.status)
        have hBC := H.out.2.2.2.2.2.1.trans (hbe.mono H.out.2.2.2.2.2.1.size)
        have fr2 : Fr w.heap.size [30] wr (((wr.setCell ⟨w.heap.size + 1, 0, none⟩ (.slice va' x.vars.length vc')).setCell ⟨w.heap.size + 1, 1, none⟩ (.slice aa' x.args.length ac')).setCell ⟨w.heap.size + 1, 2, none⟩ (I x.status)) :=
          (((Fr.refl _ _ wr).setCell (p := ⟨w.heap.size + 1, 0, none⟩) b2' (by show _ ≤ w.heap.size + 1; omega) (by simp) _).setCell (p := ⟨w.heap.size + 1, 1, none⟩) (blk_set b2' 0 _) (by show _ ≤ w.heap.size + 1; omega) (by simp) _).setCell (p := ⟨w.heap.size + 1, 2, none⟩) (blk_set (blk_set b2' 0 _) 1 _) (by show _ ≤ w.heap.size + 1; omega) (by simp) _
        have E1 := (hvk.shell (j := x.status) str_first b2' va' aa' x.vars.length x.args.length vc' ac').top
        have E2 := ((H.out.2.2.1.ext hbe).shell (j := x.status) var_first b2' va' aa' x.vars.length x.args.length vc' ac').top
        have E3 := ((H.out.2.2.2.1.ext hbe).shell (j := x.status) str_first b2' va' aa' x.vars.length x.args.length vc' ac').top
        have hBD := hBC.trans (fr2.below hBC.size)
        have FIN := Lib.hid (And.intro g4 (And.intro E2 (And.intro E3 (And.intro hBD E1))))
        clear E1 E2 E3 g4 fr2 hBC hBD hbe hvk H
        go_wp2_with fail
        go_region_law (fail)
        all_goals
          go_wp2_with fail
          refine fields_end _ _ (w.heap.size + 1) (.slice a8 fs.length c8) (.slice va' x.vars.length vc') (.slice aa' x.args.length ac') x.status _ rfl rfl rfl FIN.out.1 ⟨_, _, _, rfl⟩ ⟨_, _, _, rfl⟩ ?_
          exact ⟨.slice a8 fs.length c8, .slice va' x.vars.length vc', .slice aa' x.args.length ac', rfl, by rw [HSG.out, HFS.out]; exact FIN.out.2.2.2.2, FIN.out.2.1, FIN.out.2.2.1, FIN.out.2.2.2.1.drew⟩
end Go.Proofs.YtdffbbfhcdhpdaaGreatDoor
