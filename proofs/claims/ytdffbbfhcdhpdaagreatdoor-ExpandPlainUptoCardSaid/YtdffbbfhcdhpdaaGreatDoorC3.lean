/- the expander's bare. -/
import Derived.Test.YtdffbbfhcdhpdaaGreatDoorC2
namespace Go.Proofs.YtdffbbfhcdhpdaaGreatDoor
open Go.RowKit

/-- Behind an append to the pieces, stored back. -/
theorem exp_appended {B b : Nat} {x : ExpD} {segs : List SegD} {w w2 : World} {vv av ov sv v' : Value} (hB : B ≤ b) (h1 : w.heap[b]? = some (.cells #[vv, av, I x.status, ov, sv] 73 (0, 0)))
    (h2 : Sl B 27 w vv x.vars.length 4 (varCells x.vars)) (h3 : Sl B 9 w av x.args.length 1 (x.args.map S)) (h4 : Sl B 9 w ov x.outs.length 1 (x.outs.map S))
    (h5 : w.ownsRow B 109 2 sv x.segs.length (segCells x.segs)) (hg : w.grownBy w2 sv.ownBlock) (ho : w2.ownsRow B 109 2 v' segs.length (segCells segs)) :
    ExpW B b { x with segs := segs } (w2.setCell ⟨b, 4, none⟩ v') ∧ Fr B ExpE w (w2.setCell ⟨b, 4, none⟩ v') := by
  have f1 : Fr B ExpE w w2 := (Fr.refl B ExpE w).grownRow h5 hg (by simp)
  have g1 := blk_grown hg h5 h1 (by decide)
  have f2 := f1.setCell (p := ⟨b, 4, none⟩) g1 hB (by simp) v'
  exact ⟨⟨hB, vv, av, ov, v', blk_set g1 4 v', h2.fr f2 (Nat.le_refl _) (by decide), h3.fr f2 (Nat.le_refl _) (by decide), h4.fr f2 (Nat.le_refl _) (by decide), ownsRow_set ho g1 (by decide) 4 _⟩, f2⟩

structure PartS where
  kind : Int
  quoted : Bool
  text : List UInt8
  name : List UInt8
  op : List UInt8
  word : Value
abbrev PartS.agg (p : PartS) : Value := .agg #[I p.kind, .bool p.quoted, S p.text, S p.name, S p.op, p.word]
def PartS.seg (p : PartS) : Int := if p.quoted then 1 else 2
def argSegs (k : Int) : List (List UInt8) → List SegD
  | [] => []
  | a :: r => ⟨k, a⟩ :: r.flatMap fun c => [⟨3, []⟩, ⟨k, c⟩]
theorem argSegs_one (k : Int) (l : List (List UInt8)) (h : 0 < l.length) : argSegs k (l.take 1) = [⟨k, l[0]⟩] := by
  cases l with
  | nil => simp at h
  | cons a r => rfl
theorem argSegs_snoc (k : Int) (l : List (List UInt8)) (i : Nat) (h0 : 0 < i) (h : i < l.length) : argSegs k (l.take (i + 1)) = argSegs k (l.take i) ++ [⟨3, []⟩, ⟨k, l[i]⟩] := by
  cases l with
  | nil => simp at h
  | cons a r =>
    obtain ⟨j, rfl⟩ : ∃ j, i = j + 1 := ⟨i - 1, by omega⟩
    have hj : j < r.length := by simpa using h
    simp only [List.take_succ_cons, argSegs, List.cons_append, List.getElem_cons_succ]
    rw [flat_snoc _ r j hj]
theorem argSegs_len (k : Int) (l : List (List UInt8)) : (argSegs k l).length ≤ 2 * l.length := by
  cases l with
  | nil => simp [argSegs]
  | cons a r => simp only [argSegs, List.length_cons]; rw [flat_len _ 2 (fun _ => rfl)]; omega

set_option maxRecDepth 100000 in
set_option maxHeartbeats 1000000 in
theorem exp_bare_one (B b : Nat) (x : ExpD) (p : PartS) (v : List UInt8) (set : Bool) (w : World) (h : ExpW B b x w) (he : isEvery p.name = false) (hl : x.segs.length + 1 ≤ 4294967296) :
    Calls Tryz.prog 125 #[Ptr b, p.agg, S v, .bool set] w fun e w' => e = .returned (.tuple #[]) ∧ ExpW B b { x with segs := x.segs ++ [⟨p.seg, v⟩] } w' ∧ Fr B ExpE w w' := by
  have hE : (p.name == [64] || p.name == [42]) = false := he
  have hs : (p.name == [42]) = false := by rw [Bool.or_eq_false_iff] at hE; exact hE.2
  have HE := Lib.hid hE
  clear he hE
  go_enter Tryz.func125, Tryz.ntmps125
  go_wp2_with fail
  refine (every_any p.name _).mono ?_
  rintro e w' ⟨rfl, rfl⟩
  rw [HE.out]
  clear hs
  go_wp2_with fail
  refine (exp_put B b x _ p.kind p.quoted p.text p.name p.op p.word v (h.alloc _) hl).mono ?_
  rintro e w1 ⟨rfl, h1, f1⟩
  go_wp2_with fail
  go_end0
  exact ⟨rfl, h1, ((Fr.refl _ _ _).alloc _).trans f1⟩

set_option maxRecDepth 100000 in
set_option maxHeartbeats 2000000 in
theorem exp_bare_at (B b : Nat) (x : ExpD) (k : Int) (q : Bool) (t n o : List UInt8) (wd : Value) (v : List UInt8) (set : Bool) (w : World) (h : ExpW B b x w) (he : isEvery n = true) (hd : (n == [42]) = false) (hl : x.segs.length + 2 * x.args.length ≤ 4294967296) :
    Calls Tryz.prog 125 #[Ptr b, PartS.agg ⟨k, q, t, n, o, wd⟩, S v, .bool set] w fun e w' => e = .returned (.tuple #[]) ∧ ExpW B b { x with segs := x.segs ++ argSegs (PartS.seg ⟨k, q, t, n, o, wd⟩) x.args } w' ∧ Fr B ExpE w w' := by
  obtain ⟨i0, hi, hz0, hz1, hz2⟩ := info_parts Tryz.infoSeg
  have hE : (n == [64] || n == [42]) = true := he
  have HE := Lib.hid hE
  have hlt := h.lt
  have hx := h
  obtain ⟨h0, vv, av, ov, sv, h1, h2, h3, h4, h5⟩ := hx
  have c1 : w.cell? ⟨b, 1, none⟩ = some av := (blk_cell h1 1).trans rfl
  have h3' := h3
  obtain ⟨a, c, rfl⟩ := h3'.slice
  have HL := Lib.hid hl
  have hal : x.args.length ≤ 4294967296 := by omega
  clear h3' h1 h2 h4 h5 he hE hl
  go_enter Tryz.func125, Tryz.ntmps125
  go_wp2_with fail
  refine (every_any n _).mono ?_
  rintro e w' ⟨rfl, rfl⟩
  rw [HE.out]
  clear hd
  go_wp2_with fail
  go_loopw [49] (fun i wr => ∃ k0 : Nat, k0 ≤ x.args.length ∧ i = I k0 ∧ ExpW B b { x with segs := x.segs ++ argSegs (PartS.seg ⟨k, q, t, n, o, wd⟩) (x.args.take k0) } wr ∧ Fr B ExpE w wr ∧
    wr.heap[w.heap.size]? = some (.cells #[I k, .bool q, S t, S n, S o, wd] 42 (0, 0))) (fun i _ => x.args.length - (intOf i).toNat)
  case atStart => exact ⟨0, by omega, rfl, by simpa [argSegs] using h.alloc _, (Fr.refl _ _ _).alloc _, blk_new w _⟩
  case round =>
    obtain ⟨k0, hk0, rfl, hx, hfr, hbx⟩ := hrel
    have hltr := hx.lt
    have hbxl := blk_lt hbx
    have h3r := h3.fr hfr (Nat.le_refl _) (by decide)
    by_cases hlt0 : k0 < x.args.length
    · have hce : ∃ b' o', a = some ⟨b', o', none⟩ ∧ wr.cell? ⟨b', o' + k0, none⟩ = some (S x.args[k0]) := by
        obtain ⟨_, ⟨h', hn0⟩ | ⟨b', o', c', h', _, _, _, _, hc⟩⟩ := h3r
        · omega
        · cases h'; exact ⟨b', o', rfl, hc k0 _ (by simp [hlt0])⟩
      obtain ⟨b', o', rfl, ce⟩ := hce
      clear h3r
      by_cases hkz : k0 = 0
      · subst hkz
        rw [Nat.add_zero] at ce
        have hsn := argSegs_one (PartS.seg ⟨k, q, t, n, o, wd⟩) x.args hlt0
        have HS := Lib.hid hsn
        have hll : (x.segs ++ argSegs (PartS.seg ⟨k, q, t, n, o, wd⟩) (x.args.take 0)).length + 1 ≤ 4294967296 := by
          have := HL.out; simp [argSegs]; omega
        have HLL := Lib.hid hll
        have e0 : wr.cell? ⟨w.heap.size, 0, none⟩ = some (I k) := (blk_cell hbx 0).trans rfl
        have e1 : wr.cell? ⟨w.heap.size, 1, none⟩ = some (.bool q) := (blk_cell hbx 1).trans rfl
        have e2 : wr.cell? ⟨w.heap.size, 2, none⟩ = some (S t) := (blk_cell hbx 2).trans rfl
        have e3 : wr.cell? ⟨w.heap.size, 3, none⟩ = some (S n) := (blk_cell hbx 3).trans rfl
        have e4 : wr.cell? ⟨w.heap.size, 4, none⟩ = some (S o) := (blk_cell hbx 4).trans rfl
        have e5 : wr.cell? ⟨w.heap.size, 5, none⟩ = some wd := (blk_cell hbx 5).trans rfl
        clear hsn hll
        go_wp2_with fail
        refine (exp_put B b _ wr k q t n o wd x.args[0] hx HLL.out).mono ?_
        rintro e w1 ⟨rfl, hx1, f1⟩
        have hbx1 := blk_fr f1 hbx (.inr (by decide))
        go_wp2_with fail
        go_roundw
        case rel => exact ⟨1, by omega, by go_num, by rw [HS.out]; simpa [argSegs, PartS.seg] using hx1, hfr.trans f1, hbx1⟩
        case measure => simp [intOf]; omega
      · have hkp : (0 : Int) < (k0 : Int) := by omega
        have hsn := argSegs_snoc (PartS.seg ⟨k, q, t, n, o, wd⟩) x.args k0 (by omega) hlt0
        have HS := Lib.hid hsn
        have hal' := argSegs_len (PartS.seg ⟨k, q, t, n, o, wd⟩) (x.args.take k0)
        rw [List.length_take, Nat.min_eq_left hk0] at hal'
        have hll : (x.segs ++ argSegs (PartS.seg ⟨k, q, t, n, o, wd⟩) (x.args.take k0)).length + 2 ≤ 4294967296 := by
          have := HL.out; simp; omega
        clear hsn hal' hkz
        generalize argSegs (PartS.seg ⟨k, q, t, n, o, wd⟩) (x.args.take k0) = as0 at hx hll HS
        have hsg : x.segs ++ argSegs (PartS.seg ⟨k, q, t, n, o, wd⟩) (x.args.take (k0 + 1)) = (x.segs ++ as0) ++ [⟨3, []⟩] ++ [⟨PartS.seg ⟨k, q, t, n, o, wd⟩, x.args[k0]⟩] := by rw [HS.out]; simp
        generalize x.segs ++ as0 = sg at hx hll hsg
        have HSG := Lib.hid hsg
        clear hsg HS
        obtain ⟨_, vv', av', ov', sv', g1, g2, g3, g4, g5⟩ := hx
        have c4 : wr.cell? ⟨b, 4, none⟩ = some sv' := (blk_cell g1 4).trans rfl
        have h63 : sg.length + 1 ≤ maxLen := by unfold maxLen; omega
        have h24 : (sg.length + 1) * 24 ≤ 140737488355328 := by omega
        have hone : ∀ u ∈ [I 3, S []], u.oneCell' = true := by intro u hu; simp at hu; rcases hu with rfl | rfl <;> rfl
        have hbs : B ≤ (wr.alloc (.cells #[I 3, S []] 109)).heap.size := by rw [size_alloc']; omega
        have H4 := Lib.hid (And.intro h63 (And.intro h24 (And.intro hone hbs)))
        have hsl : sg.length + 2 ≤ 4294967296 := hll
        clear h63 h24 hone hbs hll
        go_wp2_with (at_builtin; go_must (refine wpList_append_own _ rfl _ _ 71 rfl B 109 i0 (.agg #[I 0, S []]) 2 24 Tryz.underlying71 hi hz0 hz1 hz2 rfl (by decide) _ _ _ rfl (g5.alloc _) ⟨wr.heap.size, 0, none⟩ 1 1 [I 3, S []] rfl rfl (new_cells rfl _ _) H4.out.2.2.1 H4.out.1 H4.out.2.1 H4.out.2.2.2 ?_))
        intro v' w2 hown' hgrow _
        obtain ⟨g', cap', rfl⟩ := ownsRow_succ hown'
        have hown2 : w2.ownsRow B 109 2 (.slice (some ⟨g', 0, none⟩) (sg.length + 1) cap') (sg ++ [(⟨3, []⟩ : SegD)]).length (segCells (sg ++ [⟨3, []⟩])) := by
          rw [segCells_append, segCells_one, List.length_append]; exact hown'
        have gb1 := blk_grown hgrow (g5.alloc _) (blk_alloc g1 _) (by decide)
        have cb : w2.cell? ⟨b, 4, none⟩ = some sv' := (blk_cell gb1 4).trans rfl
        have fb : w2.frozen? ⟨b, 4, none⟩ = false := blk_free gb1 4
        obtain ⟨hx3, f3⟩ := exp_appended (x := { x with segs := sg }) h0 (blk_alloc g1 _) (g2.ext ((Below.refl _ _).alloc (Nat.le_refl _) _)) (g3.ext ((Below.refl _ _).alloc (Nat.le_refl _) _)) (g4.ext ((Below.refl _ _).alloc (Nat.le_refl _) _)) (g5.alloc _) hgrow hown2
        have hbx3 := blk_fr f3 (blk_alloc hbx _) (.inr (by decide))
        have hb2 := blk_grown hgrow (g5.alloc _) (blk_alloc hbx _) (by decide)
        have hl2 := blk_lt hb2
        have hne : w.heap.size ≠ b := by omega
        have e0 : w2.cell? ⟨w.heap.size, 0, none⟩ = some (I k) := (blk_cell hb2 0).trans rfl
        have e1 : w2.cell? ⟨w.heap.size, 1, none⟩ = some (.bool q) := (blk_cell hb2 1).trans rfl
        have e2 : w2.cell? ⟨w.heap.size, 2, none⟩ = some (S t) := (blk_cell hb2 2).trans rfl
        have e3 : w2.cell? ⟨w.heap.size, 3, none⟩ = some (S n) := (blk_cell hb2 3).trans rfl
        have e4 : w2.cell? ⟨w.heap.size, 4, none⟩ = some (S o) := (blk_cell hb2 4).trans rfl
        have e5 : w2.cell? ⟨w.heap.size, 5, none⟩ = some wd := (blk_cell hb2 5).trans rfl
        have hfr3 := (hfr.alloc _).trans f3
        have R := Lib.hid (And.intro hx3 (And.intro hfr3 hbx3))
        clear hx3 hfr3 hbx3 f3 hown2 hown' hgrow g1 g2 g3 g4 g5 gb1 hb2 hbx hfr
        go_wp2_with fail
        refine (exp_put B b { x with segs := sg ++ [⟨3, []⟩] } _ k q t n o wd x.args[k0] R.out.1 (by simp; omega)).mono ?_
        rintro e w4 ⟨rfl, hx4, f4⟩
        have hbx4 := blk_fr f4 R.out.2.2 (.inr (by decide))
        have hfr4 := R.out.2.1.trans f4
        go_wp2_with fail
        go_roundw
        case rel => exact ⟨k0 + 1, by omega, by go_num, by rw [HSG.out]; exact hx4, hfr4, hbx4⟩
        case measure => simp [intOf]; omega
    · have hkk : k0 = x.args.length := by omega
      subst hkk
      rw [List.take_length] at hx
      go_wp2_with fail
      go_end0
      exact ⟨rfl, hx, hfr⟩
set_option maxRecDepth 100000 in
set_option maxHeartbeats 2000000 in
theorem exp_bare_star (B b : Nat) (x : ExpD) (k : Int)  (t n o : List UInt8) (wd : Value) (v : List UInt8) (set : Bool) (w : World) (h : ExpW B b x w) (he : isEvery n = true) (hd : (n == [42]) = true) (hl : x.segs.length + 2 * x.args.length ≤ 4294967296) :
    Calls Tryz.prog 125 #[Ptr b, PartS.agg ⟨k, false, t, n, o, wd⟩, S v, .bool set] w fun e w' => e = .returned (.tuple #[]) ∧ ExpW B b { x with segs := x.segs ++ argSegs (PartS.seg ⟨k, false, t, n, o, wd⟩) x.args } w' ∧ Fr B ExpE w w' := by
  obtain ⟨i0, hi, hz0, hz1, hz2⟩ := info_parts Tryz.infoSeg
  have hE : (n == [64] || n == [42]) = true := he
  have HE := Lib.hid hE
  have hlt := h.lt
  have hx := h
  obtain ⟨h0, vv, av, ov, sv, h1, h2, h3, h4, h5⟩ := hx
  have c1 : w.cell? ⟨b, 1, none⟩ = some av := (blk_cell h1 1).trans rfl
  have h3' := h3
  obtain ⟨a, c, rfl⟩ := h3'.slice
  have HL := Lib.hid hl
  have hal : x.args.length ≤ 4294967296 := by omega
  clear h3' h1 h2 h4 h5 he hE hl
  go_enter Tryz.func125, Tryz.ntmps125
  go_wp2_with fail
  refine (every_any n _).mono ?_
  rintro e w' ⟨rfl, rfl⟩
  rw [HE.out]
  clear hd
  go_wp2_with fail
  go_loopw [49] (fun i wr => ∃ k0 : Nat, k0 ≤ x.args.length ∧ i = I k0 ∧ ExpW B b { x with segs := x.segs ++ argSegs (PartS.seg ⟨k, false, t, n, o, wd⟩) (x.args.take k0) } wr ∧ Fr B ExpE w wr ∧
    wr.heap[w.heap.size]? = some (.cells #[I k, .bool false, S t, S n, S o, wd] 42 (0, 0))) (fun i _ => x.args.length - (intOf i).toNat)
  case atStart => exact ⟨0, by omega, rfl, by simpa [argSegs] using h.alloc _, (Fr.refl _ _ _).alloc _, blk_new w _⟩
  case round =>
    obtain ⟨k0, hk0, rfl, hx, hfr, hbx⟩ := hrel
    have hltr := hx.lt
    have hbxl := blk_lt hbx
    have h3r := h3.fr hfr (Nat.le_refl _) (by decide)
    by_cases hlt0 : k0 < x.args.length
    · have hce : ∃ b' o', a = some ⟨b', o', none⟩ ∧ wr.cell? ⟨b', o' + k0, none⟩ = some (S x.args[k0]) := by
        obtain ⟨_, ⟨h', hn0⟩ | ⟨b', o', c', h', _, _, _, _, hc⟩⟩ := h3r
        · omega
        · cases h'; exact ⟨b', o', rfl, hc k0 _ (by simp [hlt0])⟩
      obtain ⟨b', o', rfl, ce⟩ := hce
      clear h3r
      by_cases hkz : k0 = 0
      · subst hkz
        rw [Nat.add_zero] at ce
        have hsn := argSegs_one (PartS.seg ⟨k, false, t, n, o, wd⟩) x.args hlt0
        have HS := Lib.hid hsn
        have hll : (x.segs ++ argSegs (PartS.seg ⟨k, false, t, n, o, wd⟩) (x.args.take 0)).length + 1 ≤ 4294967296 := by
          have := HL.out; simp [argSegs]; omega
        have HLL := Lib.hid hll
        have e0 : wr.cell? ⟨w.heap.size, 0, none⟩ = some (I k) := (blk_cell hbx 0).trans rfl
        have e1 : wr.cell? ⟨w.heap.size, 1, none⟩ = some (.bool false) := (blk_cell hbx 1).trans rfl
        have e2 : wr.cell? ⟨w.heap.size, 2, none⟩ = some (S t) := (blk_cell hbx 2).trans rfl
        have e3 : wr.cell? ⟨w.heap.size, 3, none⟩ = some (S n) := (blk_cell hbx 3).trans rfl
        have e4 : wr.cell? ⟨w.heap.size, 4, none⟩ = some (S o) := (blk_cell hbx 4).trans rfl
        have e5 : wr.cell? ⟨w.heap.size, 5, none⟩ = some wd := (blk_cell hbx 5).trans rfl
        clear hsn hll
        go_wp2_with fail
        refine (exp_put B b _ wr k false t n o wd x.args[0] hx HLL.out).mono ?_
        rintro e w1 ⟨rfl, hx1, f1⟩
        have hbx1 := blk_fr f1 hbx (.inr (by decide))
        go_wp2_with fail
        go_roundw
        case rel => exact ⟨1, by omega, by go_num, by rw [HS.out]; simpa [argSegs, PartS.seg] using hx1, hfr.trans f1, hbx1⟩
        case measure => simp [intOf]; omega
      · have hkp : (0 : Int) < (k0 : Int) := by omega
        have hsn := argSegs_snoc (PartS.seg ⟨k, false, t, n, o, wd⟩) x.args k0 (by omega) hlt0
        have HS := Lib.hid hsn
        have hal' := argSegs_len (PartS.seg ⟨k, false, t, n, o, wd⟩) (x.args.take k0)
        rw [List.length_take, Nat.min_eq_left hk0] at hal'
        have hll : (x.segs ++ argSegs (PartS.seg ⟨k, false, t, n, o, wd⟩) (x.args.take k0)).length + 2 ≤ 4294967296 := by
          have := HL.out; simp; omega
        clear hsn hal' hkz
        generalize argSegs (PartS.seg ⟨k, false, t, n, o, wd⟩) (x.args.take k0) = as0 at hx hll HS
        have hsg : x.segs ++ argSegs (PartS.seg ⟨k, false, t, n, o, wd⟩) (x.args.take (k0 + 1)) = (x.segs ++ as0) ++ [⟨3, []⟩] ++ [⟨PartS.seg ⟨k, false, t, n, o, wd⟩, x.args[k0]⟩] := by rw [HS.out]; simp
        generalize x.segs ++ as0 = sg at hx hll hsg
        have HSG := Lib.hid hsg
        clear hsg HS
        obtain ⟨_, vv', av', ov', sv', g1, g2, g3, g4, g5⟩ := hx
        have c4 : wr.cell? ⟨b, 4, none⟩ = some sv' := (blk_cell g1 4).trans rfl
        have h63 : sg.length + 1 ≤ maxLen := by unfold maxLen; omega
        have h24 : (sg.length + 1) * 24 ≤ 140737488355328 := by omega
        have hone : ∀ u ∈ [I 3, S []], u.oneCell' = true := by intro u hu; simp at hu; rcases hu with rfl | rfl <;> rfl
        have hbs : B ≤ (wr.alloc (.cells #[I 3, S []] 109)).heap.size := by rw [size_alloc']; omega
        have H4 := Lib.hid (And.intro h63 (And.intro h24 (And.intro hone hbs)))
        have hsl : sg.length + 2 ≤ 4294967296 := hll
        clear h63 h24 hone hbs hll
        go_wp2_with (at_builtin; go_must (refine wpList_append_own _ rfl _ _ 71 rfl B 109 i0 (.agg #[I 0, S []]) 2 24 Tryz.underlying71 hi hz0 hz1 hz2 rfl (by decide) _ _ _ rfl (g5.alloc _) ⟨wr.heap.size, 0, none⟩ 1 1 [I 3, S []] rfl rfl (new_cells rfl _ _) H4.out.2.2.1 H4.out.1 H4.out.2.1 H4.out.2.2.2 ?_))
        intro v' w2 hown' hgrow _
        obtain ⟨g', cap', rfl⟩ := ownsRow_succ hown'
        have hown2 : w2.ownsRow B 109 2 (.slice (some ⟨g', 0, none⟩) (sg.length + 1) cap') (sg ++ [(⟨3, []⟩ : SegD)]).length (segCells (sg ++ [⟨3, []⟩])) := by
          rw [segCells_append, segCells_one, List.length_append]; exact hown'
        have gb1 := blk_grown hgrow (g5.alloc _) (blk_alloc g1 _) (by decide)
        have cb : w2.cell? ⟨b, 4, none⟩ = some sv' := (blk_cell gb1 4).trans rfl
        have fb : w2.frozen? ⟨b, 4, none⟩ = false := blk_free gb1 4
        obtain ⟨hx3, f3⟩ := exp_appended (x := { x with segs := sg }) h0 (blk_alloc g1 _) (g2.ext ((Below.refl _ _).alloc (Nat.le_refl _) _)) (g3.ext ((Below.refl _ _).alloc (Nat.le_refl _) _)) (g4.ext ((Below.refl _ _).alloc (Nat.le_refl _) _)) (g5.alloc _) hgrow hown2
        have hbx3 := blk_fr f3 (blk_alloc hbx _) (.inr (by decide))
        have hb2 := blk_grown hgrow (g5.alloc _) (blk_alloc hbx _) (by decide)
        have hl2 := blk_lt hb2
        have hne : w.heap.size ≠ b := by omega
        have e0 : w2.cell? ⟨w.heap.size, 0, none⟩ = some (I k) := (blk_cell hb2 0).trans rfl
        have e1 : w2.cell? ⟨w.heap.size, 1, none⟩ = some (.bool false) := (blk_cell hb2 1).trans rfl
        have e2 : w2.cell? ⟨w.heap.size, 2, none⟩ = some (S t) := (blk_cell hb2 2).trans rfl
        have e3 : w2.cell? ⟨w.heap.size, 3, none⟩ = some (S n) := (blk_cell hb2 3).trans rfl
        have e4 : w2.cell? ⟨w.heap.size, 4, none⟩ = some (S o) := (blk_cell hb2 4).trans rfl
        have e5 : w2.cell? ⟨w.heap.size, 5, none⟩ = some wd := (blk_cell hb2 5).trans rfl
        have hfr3 := (hfr.alloc _).trans f3
        have R := Lib.hid (And.intro hx3 (And.intro hfr3 hbx3))
        clear hx3 hfr3 hbx3 f3 hown2 hown' hgrow g1 g2 g3 g4 g5 gb1 hb2 hbx hfr
        go_wp2_with fail
        refine (exp_put B b { x with segs := sg ++ [⟨3, []⟩] } _ k false t n o wd x.args[k0] R.out.1 (by simp; omega)).mono ?_
        rintro e w4 ⟨rfl, hx4, f4⟩
        have hbx4 := blk_fr f4 R.out.2.2 (.inr (by decide))
        have hfr4 := R.out.2.1.trans f4
        go_wp2_with fail
        go_roundw
        case rel => exact ⟨k0 + 1, by omega, by go_num, by rw [HSG.out]; exact hx4, hfr4, hbx4⟩
        case measure => simp [intOf]; omega
    · have hkk : k0 = x.args.length := by omega
      subst hkk
      rw [List.take_length] at hx
      go_wp2_with fail
      go_end0
      exact ⟨rfl, hx, hfr⟩
end Go.Proofs.YtdffbbfhcdhpdaaGreatDoor
