/- the expander's param on what a law needs; run over a list of parts. -/
import Derived.Test.YtdffbbfhcdhpdaaGreatDoorC4
namespace Go.Proofs.YtdffbbfhcdhpdaaGreatDoor
open Go.RowKit

def paramSegs (vars : List VarD) (args : List (List UInt8)) (p : PartS) : List SegD :=
  if p.name = [64] then argSegs p.seg args else [⟨p.seg, (vget vars p.name).value⟩]
def NameOk (vars : List VarD) (n : List UInt8) : Prop := n = [64] ∨ (nameOf n ≠ [] ∧ n.length ≤ 4294967296 ∧ VMono vars n)

theorem exp_param (B b : Nat) (x : ExpD) (p : PartS) (w : World) (h : ExpW B b x w) (hop : p.op = []) (hn : NameOk x.vars p.name) (hvl : x.vars.length ≤ 1073741824) (hj : (Lib.join x.args [32]).length ≤ 4294967296)
    (hl : x.segs.length + (2 * x.args.length + 1) ≤ 4294967296) :
    Calls Tryz.prog 77 #[Ptr b, p.agg] w fun e w' => e = .returned (.tuple #[]) ∧ ExpW B b { x with segs := x.segs ++ paramSegs x.vars x.args p } w' ∧ Fr B ExpE w w' := by
  obtain ⟨k, q, t, n, o, wd⟩ := p
  obtain rfl : o = [] := hop
  rcases hn with rfl | ⟨hn, hnl, hm⟩
  · have he : isEvery [64] = true := rfl
    refine exp_param_bare B b x { x with segs := x.segs ++ argSegs (PartS.seg ⟨k, q, t, [64], [], wd⟩) x.args } k q t [64] wd _ _ w h (fun w' _ hx => exp_value_every B b x [64] w' hx he hj (by omega)) (fun w' _ hx => ?_)
    exact exp_bare_at B b x k q t [64] [] wd _ _ w' hx he rfl (by omega)
  · have hne : n ≠ [64] := fun e => by subst e; exact hn rfl
    have he := (nameOf_ne hn).2.2.2.2
    have := exp_param_bare B b x { x with segs := x.segs ++ [⟨PartS.seg ⟨k, q, t, n, [], wd⟩, (valueOf x n).1⟩] } k q t n wd _ _ w h (fun w' _ hx => exp_value_name B b x n w' hx hn hnl hm hvl) (fun w' _ hx => exp_bare_one B b x ⟨k, q, t, n, [], wd⟩ _ _ w' hx he (by omega))
    have hv : valueOf x n = ((vget x.vars n).value, vfound x.vars n) := by unfold valueOf; rw [he, if_neg (by simp)]
    rw [hv] at this
    have hp : paramSegs x.vars x.args ⟨k, q, t, n, [], wd⟩ = [⟨PartS.seg ⟨k, q, t, n, [], wd⟩, (vget x.vars n).value⟩] := by unfold paramSegs; rw [if_neg hne]
    rw [hp]
    exact this

def PartS.cells (p : PartS) : List Value := [I p.kind, .bool p.quoted, S p.text, S p.name, S p.op, p.word]
def partCells (l : List PartS) : List Value := l.flatMap PartS.cells
theorem part_len (p : PartS) : p.cells.length = 6 := rfl
theorem part_cell {C : Nat} {w : World} {v : Value} {l : List PartS} (hv : Sl C 42 w v l.length 6 (partCells l)) :
    ∃ (a : Option Addr) (c : Nat), v = .slice a l.length c ∧ l.length ≤ maxLen ∧ ∀ k (h : k < l.length), ∃ b o, a = some ⟨b, o, none⟩ ∧ b < w.heap.size ∧
      w.cell? ⟨b, o + k * 6, none⟩ = some (I l[k].kind) ∧ w.cell? ⟨b, o + k * 6 + 1, none⟩ = some (.bool l[k].quoted) ∧ w.cell? ⟨b, o + k * 6 + 1 + 1, none⟩ = some (S l[k].text) ∧ w.cell? ⟨b, o + k * 6 + 1 + 1 + 1, none⟩ = some (S l[k].name) ∧
      w.cell? ⟨b, o + k * 6 + 1 + 1 + 1 + 1, none⟩ = some (S l[k].op) ∧ w.cell? ⟨b, o + k * 6 + 1 + 1 + 1 + 1 + 1, none⟩ = some l[k].word := by
  obtain ⟨h0, ⟨rfl, hn0⟩ | ⟨b, o, c, rfl, hnc, hcm, hb, hk, hc⟩⟩ := hv
  · exact ⟨none, 0, by rw [hn0], by omega, fun k h => by omega⟩
  · have g := fun k (h : k < l.length) r (hr : r < 6) => flat_get PartS.cells 6 part_len l k r h hr
    exact ⟨_, c, rfl, by omega, fun k h => ⟨b, o, rfl, hb, hc _ _ (g k h 0 (by omega)), by rw [Nat.add_assoc]; exact hc _ _ (g k h 1 (by omega)), by rw [Nat.add_assoc, Nat.add_assoc]; exact hc _ _ (g k h 2 (by omega)),
      by rw [Nat.add_assoc, Nat.add_assoc, Nat.add_assoc]; exact hc _ _ (g k h 3 (by omega)), by rw [Nat.add_assoc, Nat.add_assoc, Nat.add_assoc, Nat.add_assoc]; exact hc _ _ (g k h 4 (by omega)),
      by rw [Nat.add_assoc, Nat.add_assoc, Nat.add_assoc, Nat.add_assoc, Nat.add_assoc]; exact hc _ _ (g k h 5 (by omega))⟩⟩

def PartOk (vars : List VarD) (p : PartS) : Prop := (∃ a n c, p.word = .slice a n c) ∧ (p.kind = 0 ∨ (p.kind = 1 ∧ p.op = [] ∧ NameOk vars p.name))
def partSegs (vars : List VarD) (args : List (List UInt8)) (p : PartS) : List SegD :=
  if p.kind = 1 then paramSegs vars args p else [⟨if p.quoted then 1 else 0, p.text⟩]
theorem partSegs_len (vars : List VarD) (args : List (List UInt8)) (p : PartS) : (partSegs vars args p).length ≤ 2 * args.length + 1 := by
  unfold partSegs paramSegs
  have := argSegs_len p.seg args
  split
  · split
    · omega
    · simp
  · simp
theorem allSegs_len (vars : List VarD) (args : List (List UInt8)) : ∀ (l : List PartS), (l.flatMap (partSegs vars args)).length ≤ (2 * args.length + 1) * l.length
  | [] => by simp
  | p :: l => by
    have h1 := partSegs_len vars args p
    have h2 := allSegs_len vars args l
    rw [List.flatMap_cons, List.length_append, List.length_cons, Nat.mul_add]
    omega
theorem allSegs_snoc (vars : List VarD) (args : List (List UInt8)) (l : List PartS) (k : Nat) (h : k < l.length) : (l.take (k + 1)).flatMap (partSegs vars args) = (l.take k).flatMap (partSegs vars args) ++ partSegs vars args l[k] := flat_snoc _ l k h

set_option maxRecDepth 100000 in
set_option maxHeartbeats 600000 in
theorem exp_run (B b : Nat) (x : ExpD) (v : Value) (ps : List PartS) (w : World) (h : ExpW B b x w) (hv : Sl B 42 w v ps.length 6 (partCells ps)) (hok : ∀ p ∈ ps, PartOk x.vars p) (hvl : x.vars.length ≤ 1073741824)
    (hj : (Lib.join x.args [32]).length ≤ 4294967296) (hl : x.segs.length + (2 * x.args.length + 1) * ps.length ≤ 4294967296) :
    Calls Tryz.prog 42 #[Ptr b, v] w fun e w' => e = .returned (.tuple #[]) ∧ ExpW B b { x with segs := x.segs ++ ps.flatMap (partSegs x.vars x.args) } w' ∧ Fr B ExpE w w' := by
  obtain ⟨i0, hi, hz0, hz1, hz2⟩ := info_parts Tryz.infoSeg
  have hlt := h.lt
  have hvs := part_cell hv
  obtain ⟨a, c, rfl, hpm, _⟩ := hvs
  have hps : ps.length ≤ 4294967296 := Nat.le_trans (Nat.le_mul_of_pos_left ps.length (by omega : 0 < 2 * x.args.length + 1)) (by omega)
  have HOK := Lib.hid hok
  have HL := Lib.hid hl
  clear hok hl
  go_enter Tryz.func42, Tryz.ntmps42
  go_wp2_with fail
  go_loopw [8] (fun i wr => ∃ k0 : Nat, k0 ≤ ps.length ∧ i = I k0 ∧ ExpW B b { x with segs := x.segs ++ (ps.take k0).flatMap (partSegs x.vars x.args) } wr ∧ Fr B ExpE w wr) (fun i _ => ps.length - (intOf i).toNat)
  case atStart => exact ⟨0, by omega, rfl, by simpa using h, Fr.refl _ _ _⟩
  case round =>
    obtain ⟨k0, hk0, rfl, hx, hfr⟩ := hrel
    have hltr := hx.lt
    by_cases hlt0 : k0 < ps.length
    · have hsn := allSegs_snoc x.vars x.args ps k0 hlt0
      obtain ⟨a', c', hv', _, hcs⟩ := part_cell (hv.fr hfr (Nat.le_refl _) (by decide))
      obtain ⟨b', o', rfl, hb', c0, c1, c2, c3, c4, c5⟩ := hcs k0 hlt0
      cases hv'
      have hPO := HOK.out ps[k0] (List.getElem_mem hlt0)
      have hlen : (x.segs ++ (ps.take k0).flatMap (partSegs x.vars x.args)).length + (2 * x.args.length + 1) ≤ 4294967296 := by
        have h1 := allSegs_len x.vars x.args (ps.take k0)
        have h2 : (2 * x.args.length + 1) * (k0 + 1) ≤ _ := Nat.mul_le_mul_left (2 * x.args.length + 1) hlt0
        have h3 := HL.out
        rw [List.length_take, Nat.min_eq_left hk0] at h1
        rw [Nat.mul_add] at h2
        rw [List.length_append]
        omega
      have hsg : x.segs ++ (ps.take (k0 + 1)).flatMap (partSegs x.vars x.args) = x.segs ++ (ps.take k0).flatMap (partSegs x.vars x.args) ++ partSegs x.vars x.args ps[k0] := by rw [hsn, List.append_assoc]
      clear hsn hcs
      generalize ps[k0] = p at c0 c1 c2 c3 c4 c5 hPO hsg
      generalize x.segs ++ (ps.take k0).flatMap (partSegs x.vars x.args) = sg at hx hlen hsg
      have HSG := Lib.hid hsg
      clear hsg
      obtain ⟨kd, q, t, n, o, wd⟩ := p
      rcases hPO with ⟨⟨wa, wn, wc, hwd⟩, h0 | ⟨h0, ho, hno⟩⟩
      · obtain rfl : kd = 0 := h0
        obtain rfl : wd = .slice wa wn wc := hwd
        cases q
        · obtain ⟨hB0, vv', av', ov', sv, g1, g2, g3, g4, g5⟩ := hx
          have cb4 : wr.cell? ⟨b, 4, none⟩ = some sv := (blk_cell g1 4).trans rfl
          have p1 := blk_alloc g1 (.cells #[I 0, .bool false, S t, S n, S o, .slice wa wn wc] 42)
          have hBw : B ≤ wr.heap.size := by omega
          have k1 : ((wr.alloc (.cells #[I 0, .bool false, S t, S n, S o, .slice wa wn wc] 42)).drew.alloc (.cells #[I 0, S t] 109)).ownsRow B 109 2 sv sg.length (segCells sg) := World.ownsRow.alloc (w := (wr.alloc (.cells #[I 0, .bool false, S t, S n, S o, .slice wa wn wc] 42)).drew) (g5.alloc _) _
          have hone : ∀ u ∈ [I 0, S t], u.oneCell' = true := by intro u hu; simp at hu; rcases hu with rfl | rfl <;> rfl
          have q1 : ((wr.alloc (.cells #[I 0, .bool false, S t, S n, S o, .slice wa wn wc] 42)).drew.alloc (.cells #[I 0, S t] 109)).heap[b]? = some (.cells #[vv', av', I x.status, ov', sv] 73 (0, 0)) := blk_alloc (w := (wr.alloc (.cells #[I 0, .bool false, S t, S n, S o, .slice wa wn wc] 42)).drew) p1 _
          go_wp2_with fail
          go_region_law (refine step_append_lies _ (by rfl) _ _ 71 (by rfl) B 109 i0 (.agg #[I 0, S []]) 2 24 Tryz.underlying71 hi hz0 hz1 hz2 rfl (by decide) sv sg.length (segCells sg) (by rfl) k1 ⟨wr.heap.size + 1, 0, none⟩ 1 1 [I 0, S t] (by rfl) (by rfl) (new_cells (by simp) _ _) hone (by omega) (by unfold maxLen; omega) (by omega) (by simp; omega) (wr.heap.size + 2) (by simp) ?_; intro g cap w2 hown2 hgrow hat hlt2; have hb2 := blk_grown hgrow k1 q1 (by decide); have c2 : w2.cell? ⟨b, 4, none⟩ = some sv := (blk_cell hb2 4).trans rfl; have f2 : w2.frozen? ⟨b, 4, none⟩ = false := blk_free hb2 4)
          all_goals
            have hbl : Below wr.heap.size wr ((wr.alloc (.cells #[I 0, .bool false, S t, S n, S o, .slice wa wn wc] 42)).drew.alloc (.cells #[I 0, S t] 109)) := (((Below.refl _ wr).alloc (Nat.le_refl _) _).drew).alloc (by simp) _
            have hown3 : w2.ownsRow B 109 2 (.slice (some ⟨g, 0, none⟩) (sg.length + 1) cap) (sg ++ [(⟨0, t⟩ : SegD)]).length (segCells (sg ++ [⟨0, t⟩])) := by
              rw [segCells_append, segCells_one, List.length_append]; exact hown2
            obtain ⟨hx3, f3⟩ := exp_appended (x := { x with segs := sg }) hB0 q1 (g2.ext hbl) (g3.ext hbl) (g4.ext hbl) k1 hgrow hown3
            have hfr3 := (hfr.trans (Fr.of_below hbl (Nat.le_refl _))).trans f3
            clear hown2 hown3 hgrow hat hb2 c2 f2 k1 q1 p1 g1 g2 g3 g4 g5 hbl f3
            go_wp2_with fail
            go_roundw
            case rel => exact ⟨k0 + 1, by omega, by go_num, by rw [HSG.out]; exact hx3, hfr3⟩
            case measure => simp [intOf]; omega
        · go_wp2_with fail
          refine (exp_put B b _ _ 0 true t n o (.slice wa wn wc) t (hx.alloc _) (by simp; omega)).mono ?_
          rintro e w1 ⟨rfl, hx1, f1⟩
          have hfr1 := (hfr.alloc _).trans f1
          go_wp2_with fail
          go_roundw
          case rel => exact ⟨k0 + 1, by omega, by go_num, by rw [HSG.out]; exact hx1, hfr1⟩
          case measure => simp [intOf]; omega
      · obtain rfl : kd = 1 := h0
        obtain rfl : wd = .slice wa wn wc := hwd
        obtain rfl : o = [] := ho
        go_wp2_with fail
        refine (exp_param B b _ ⟨1, q, t, n, [], .slice wa wn wc⟩ _ (hx.alloc _) rfl hno hvl hj hlen).mono ?_
        rintro e w1 ⟨rfl, hx1, f1⟩
        have hfr1 := (hfr.alloc _).trans f1
        go_wp2_with fail
        go_roundw
        case rel => exact ⟨k0 + 1, by omega, by go_num, by rw [HSG.out]; exact hx1, hfr1⟩
        case measure => simp [intOf]; omega
    · have hkk : k0 = ps.length := by omega
      subst hkk
      rw [List.take_length] at hx
      go_wp2_with fail
      go_end0
      exact ⟨rfl, hx, hfr⟩
end Go.Proofs.YtdffbbfhcdhpdaaGreatDoor
