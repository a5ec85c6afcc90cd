/- fields.splitter's take; fields.Fields. -/
import Derived.Test.YtdffbbfhcdhpdaaGreatDoorA7
namespace Go.Proofs.YtdffbbfhcdhpdaaGreatDoor
open Go.RowKit

def SplD.put (x : SplD) (s : List UInt8) : SplD := { x with field := x.field ++ s, begun := true, gap := false }
def splTake (x : SplD) (s : SegD) : SplD :=
  if s.kind = 0 then (if s.text = [] then x else x.put (dbl s.text))
  else if s.kind = 1 then x.put (escape s.text)
  else if s.kind = 2 then splText x s.text
  else if s.kind = 3 then { (if x.begun then x.ended else x) with gap := false }
  else x
theorem dbl_le (l : List UInt8) : (dbl l).length ≤ 2 * l.length := by
  induction l with
  | nil => simp [dbl]
  | cons c l ih =>
    have := dbl_one_le c
    rw [show c :: l = [c] ++ l from rfl, dbl_append, List.length_append, List.length_append, List.length_singleton]; omega
theorem splTake_len (x : SplD) (s : SegD) : (splTake x s).field.length ≤ x.field.length + 2 * s.text.length ∧ (splTake x s).out.length ≤ x.out.length + s.text.length + 1 := by
  have h1 := dbl_le s.text
  have h2 := escape_length s.text
  have h3 := splText_len x s.text
  unfold splTake SplD.put SplD.ended; repeat' split
  all_goals (first | omega | (simp; done) | (simp; omega))

set_option maxRecDepth 100000 in
set_option maxHeartbeats 1000000 in
theorem splitter_take (B b : Nat) (x : SplD) (s : SegD) (w : World) (h : SplAt B b x w) (hg : Glob w) (hB0 : 0 < B) (ht : s.text.length ≤ 1073741824) (hf : x.field.length + 2 * s.text.length ≤ 4294967296) (hl : x.out.length + s.text.length + 1 ≤ 4294967296) :
    Calls Tryz.prog 43 #[Ptr b, .agg #[I s.kind, S s.text]] w fun e w' => e = .returned (.tuple #[]) ∧ SplAt B b (splTake x s) w' ∧ Fr B SplE w w' := by
  obtain ⟨kd, tx⟩ := s
  have hlt := h.lt
  have HG := Lib.hid hg
  clear hg
  have h' := h.alloc (.cells #[I kd, S tx] 109)
  by_cases h0 : kd = 0
  · subst h0
    by_cases ht0 : tx = []
    · subst ht0
      go_enter Tryz.func43, Tryz.ntmps43
      go_wp2_with fail
      go_end0
      exact ⟨rfl, h', (Fr.refl _ _ _).alloc _⟩
    · have hst : splTake x ⟨0, tx⟩ = x.put (dbl tx) := by simp [splTake, ht0]
      have HST := Lib.hid hst
      have hE : tx.isEmpty = false := by simp [ht0]
      clear hst ht0
      go_enter Tryz.func43, Tryz.ntmps43
      go_wp2_with fail
      refine (active_any tx _ (HG.out.alloc _) ht).mono ?_
      rintro e w1 ⟨rfl, hb1⟩
      go_wp2_with fail
      refine (splitter_put B b x (dbl tx) _ (h'.ext hb1) (by have := dbl_le tx; omega)).mono ?_
      rintro e w2 ⟨rfl, hx2, hf2⟩
      go_wp2_with fail
      go_end0
      exact ⟨rfl, by rw [HST.out]; exact hx2, (((Fr.refl _ _ _).alloc _).trans (Fr.of_below hb1 (Nat.le_refl _))).trans hf2⟩
  · by_cases h1 : kd = 1
    · subst h1
      have hst : splTake x ⟨1, tx⟩ = x.put (escape tx) := by simp [splTake]
      have HST := Lib.hid hst
      clear hst
      go_enter Tryz.func43, Tryz.ntmps43
      go_wp2_with fail
      refine (escape_any tx _ ht).mono ?_
      rintro e w1 ⟨rfl, hb1⟩
      go_wp2_with fail
      refine (splitter_put B b x (escape tx) _ (h'.ext hb1) (by rw [escape_length]; omega)).mono ?_
      rintro e w2 ⟨rfl, hx2, hf2⟩
      go_wp2_with fail
      go_end0
      exact ⟨rfl, by rw [HST.out]; exact hx2, (((Fr.refl _ _ _).alloc _).trans (Fr.of_below hb1 (Nat.le_refl _))).trans hf2⟩
    · by_cases h2 : kd = 2
      · subst h2
        have hst : splTake x ⟨2, tx⟩ = splText x tx := by simp [splTake]
        have HST := Lib.hid hst
        clear hst
        go_enter Tryz.func43, Tryz.ntmps43
        go_wp2_with fail
        refine (splitter_split B b x tx _ h' (HG.out.alloc _) hB0 hf (by omega)).mono ?_
        rintro e w2 ⟨rfl, hx2, hf2⟩
        go_wp2_with fail
        go_end0
        exact ⟨rfl, by rw [HST.out]; exact hx2, ((Fr.refl _ _ _).alloc _).trans hf2⟩
      · by_cases h3 : kd = 3
        · subst h3
          have hst : splTake x ⟨3, tx⟩ = { (if x.begun then x.ended else x) with gap := false } := by simp [splTake]
          obtain ⟨c0, c4, c5, f5⟩ := h.cells
          cases hbg : x.begun with
          | true =>
            rw [hbg, if_pos rfl] at hst
            rw [hbg] at c4
            have HST := Lib.hid hst
            clear hst hbg c0 c5 f5
            go_enter Tryz.func43, Tryz.ntmps43
            go_wp2_with fail
            refine (splitter_end B b x _ h' (by omega)).mono ?_
            rintro e w1 ⟨rfl, hx1, hf1⟩
            obtain ⟨_, _, c5', f5'⟩ := hx1.cells
            have hbl1 := hx1.lt
            obtain ⟨hx2, hf2⟩ := hx1.setGap false
            have R := Lib.hid (And.intro hx2 hf2)
            clear hx2 hf2
            go_wp2_with fail
            go_end0
            exact ⟨rfl, by rw [HST.out]; exact R.out.1, (((Fr.refl _ _ _).alloc _).trans hf1).trans R.out.2⟩
          | false =>
            rw [hbg, if_neg (by simp)] at hst
            rw [hbg] at c4
            have HST := Lib.hid hst
            obtain ⟨hx2, hf2⟩ := h.setGap false
            have R := Lib.hid (And.intro (hx2.alloc (.cells #[I 3, S tx] 109)) (hf2.alloc (.cells #[I 3, S tx] 109)))
            clear hst hbg c0 hx2 hf2
            go_enter Tryz.func43, Tryz.ntmps43
            go_wp2_with fail
            go_end0
            exact ⟨rfl, by rw [HST.out]; exact R.out.1, R.out.2⟩
        · have hst : splTake x ⟨kd, tx⟩ = x := by simp [splTake, h0, h1, h2, h3]
          have HST := Lib.hid hst
          have b0 : (kd == 0) = false := by simp [h0]
          have b1 : (kd == 1) = false := by simp [h1]
          have b2 : (kd == 2) = false := by simp [h2]
          have b3 : (kd == 3) = false := by simp [h3]
          clear hst h0 h1 h2 h3
          go_enter Tryz.func43, Tryz.ntmps43
          go_wp2_with fail
          go_end0
          exact ⟨rfl, by rw [HST.out]; exact h', (Fr.refl _ _ _).alloc _⟩

def splSize (l : List SegD) : Nat := (l.map fun s => 2 * s.text.length + 1).sum
def splAll (x : SplD) (l : List SegD) : SplD := l.foldl splTake x
theorem splAll_len (x : SplD) (l : List SegD) : (splAll x l).field.length ≤ x.field.length + splSize l ∧ (splAll x l).out.length ≤ x.out.length + splSize l := by
  induction l generalizing x with
  | nil => simp [splAll, splSize]
  | cons s l ih =>
    have h1 := ih (splTake x s)
    have h2 := splTake_len x s
    simp only [splAll, List.foldl_cons, splSize, List.map_cons, List.sum_cons] at h1 ⊢
    omega
theorem splAll_snoc (x : SplD) (l : List SegD) (k : Nat) (h : k < l.length) : splAll x (l.take (k + 1)) = splTake (splAll x (l.take k)) l[k] := by
  rw [List.take_succ_eq_append_getElem h]; simp only [splAll, List.foldl_append, List.foldl_cons, List.foldl_nil]
theorem splSize_take (l : List SegD) (k : Nat) (h : k < l.length) : splSize (l.take k) + (2 * l[k].text.length + 1) ≤ splSize l := by
  conv => rhs; rw [← List.take_append_drop k l, List.drop_eq_getElem_cons h]
  simp only [splSize, List.map_append, List.map_cons, List.sum_append, List.sum_cons]; omega
/-- Fields, as a list of texts. -/
def fieldsOf (ifs : List UInt8) (l : List SegD) : List (List UInt8) :=
  let x := splAll ⟨ifs, [], [], false, false⟩ l
  (if x.begun then x.ended else x).out

set_option maxRecDepth 100000 in
set_option maxHeartbeats 1000000 in
theorem fields_any (C : Nat) (v : Value) (segs : List SegD) (ifs : List UInt8) (w : World) (hg : Glob w) (hv : Sl C 109 w v segs.length 2 (segCells segs)) (hN : splSize segs ≤ 1073741824) :
    Calls Tryz.prog 26 #[v, S ifs] w fun e w' => ∃ r, e = .returned r ∧ w'.ownsRow w.heap.size 9 1 r (fieldsOf ifs segs).length ((fieldsOf ifs segs).map S) ∧ Below w.heap.size w w' := by
  have hcells : ∃ (a : Option Addr) (c : Nat), v = .slice a segs.length c ∧ ∀ k (h : k < segs.length), ∃ b o, a = some ⟨b, o, none⟩ ∧ b < w.heap.size ∧ w.cell? ⟨b, o + k * 2, none⟩ = some (I segs[k].kind) ∧ w.cell? ⟨b, o + k * 2 + 1, none⟩ = some (S segs[k].text) := by
    obtain ⟨h0, ⟨rfl, hn0⟩ | ⟨b, o, c, rfl, hnc, hcm, hb, hk, hc⟩⟩ := hv
    · exact ⟨none, 0, by rw [hn0], fun k h => by omega⟩
    · exact ⟨_, c, rfl, fun k h => ⟨b, o, rfl, hb, hc _ _ (seg_get0 segs k h), by rw [Nat.add_assoc]; exact hc _ _ (seg_get1 segs k h)⟩⟩
  obtain ⟨a, c, rfl, hcs⟩ := hcells
  clear hv
  have hn : segs.length ≤ 1073741824 := by
    have : segs.length ≤ splSize segs := by
      clear hN hcs
      induction segs with
      | nil => simp
      | cons s l ih => simp only [splSize, List.map_cons, List.sum_cons, List.length_cons] at ih ⊢; omega
    omega
  have hG := Lib.hid hg
  have hC := Lib.hid hcs
  have hNN := Lib.hid hN
  have hB0 := hg.lt
  clear hg hcs hN
  go_enter Tryz.func26, Tryz.ntmps26
  go_wp2
  go_loopw [13] (fun i wr => ∃ k : Nat, k ≤ segs.length ∧ i = I k ∧ SplAt w.heap.size w.heap.size (splAll ⟨ifs, [], [], false, false⟩ (segs.take k)) wr ∧ Below w.heap.size w wr) (fun i _ => segs.length - (intOf i).toNat)
  case atStart => exact ⟨0, by omega, rfl, ⟨Nat.le_refl _, _, _, _, blk_new w _, World.ownsRow_nil _ _ _ _, .inl rfl, Buf.nil _ _⟩, (Below.refl _ _).alloc (Nat.le_refl _) _⟩
  case round =>
    obtain ⟨k, hk, rfl, hx, hbe⟩ := hrel
    have hbs := hbe.size
    have hbl := hx.lt
    by_cases hlt : k < segs.length
    · obtain ⟨b, o, rfl, hb, c0', c1'⟩ := hC.out k hlt
      have c0 : wr.cell? ⟨b, o + k * 2, none⟩ = some (I segs[k].kind) := (hbe.cell (p := ⟨b, _, none⟩) hb).trans c0'
      have c1 : wr.cell? ⟨b, o + k * 2 + 1, none⟩ = some (S segs[k].text) := (hbe.cell (p := ⟨b, _, none⟩) hb).trans c1'
      have hsn := splAll_snoc ⟨ifs, [], [], false, false⟩ segs k hlt
      have hlen := splAll_len ⟨ifs, [], [], false, false⟩ (segs.take k)
      have hsz := splSize_take segs k hlt
      have hN := hNN.out
      simp only [List.length_nil, Nat.zero_add] at hlen
      have hb1 : segs[k].text.length ≤ 1073741824 := by omega
      have hb2 : (splAll ⟨ifs, [], [], false, false⟩ (segs.take k)).field.length + 2 * segs[k].text.length ≤ 4294967296 := by omega
      have hb3 : (splAll ⟨ifs, [], [], false, false⟩ (segs.take k)).out.length + segs[k].text.length + 1 ≤ 4294967296 := by omega
      generalize splAll ⟨ifs, [], [], false, false⟩ (segs.take k) = X at hx hsn hb2 hb3
      have HS := Lib.hid hsn
      have HB := Lib.hid (And.intro hb1 (And.intro hb2 hb3))
      have hgr : Glob wr := hG.out.below hbe hB0
      have HG := Lib.hid hgr
      clear c0' c1' hsn hlen hsz hN hb1 hb2 hb3 hgr
      go_wp2_with fail
      refine (splitter_take w.heap.size w.heap.size X segs[k] _ (hx.alloc _) (HG.out.alloc _) hB0 HB.out.1 HB.out.2.1 HB.out.2.2).mono ?_
      rintro e w2 ⟨rfl, hx2, hf2⟩
      go_wp2_with fail
      go_roundw
      case rel => exact ⟨k + 1, by omega, by go_num, by rw [HS.out]; exact hx2, (hbe.alloc hbs _).trans (hf2.below (by simp; omega))⟩
      case measure => simp [intOf]; omega
    · have hkk : k = segs.length := by omega
      subst hkk
      rw [List.take_length] at hx
      have hlen := splAll_len ⟨ifs, [], [], false, false⟩ segs
      have hN := hNN.out
      simp only [List.length_nil, Nat.zero_add] at hlen
      have hfo : fieldsOf ifs segs = (if (splAll ⟨ifs, [], [], false, false⟩ segs).begun then (splAll ⟨ifs, [], [], false, false⟩ segs).ended else splAll ⟨ifs, [], [], false, false⟩ segs).out := rfl
      generalize splAll ⟨ifs, [], [], false, false⟩ segs = X at hx hfo hlen
      obtain ⟨c0, c4, c5, f5⟩ := hx.cells
      cases hbg : X.begun with
      | true =>
        rw [hbg, if_pos rfl] at hfo
        rw [hbg] at c4
        have HF := Lib.hid hfo
        have hl1 : X.out.length + 1 ≤ 4294967296 := by omega
        clear hfo hbg c0 c5 f5 hlen hN
        go_wp2_with fail
        refine (splitter_end w.heap.size w.heap.size X _ hx hl1).mono ?_
        rintro e w1 ⟨rfl, hx1, hf1⟩
        obtain ⟨_, ov, p, bv, hb1, ho1, _, _⟩ := hx1
        have hbl1 := blk_lt hb1
        have c1 : w1.cell? ⟨w.heap.size, 1, none⟩ = some ov := (blk_cell hb1 1).trans rfl
        go_wp2_with fail
        go_ret
        exact ⟨_, rfl, by rw [HF.out]; exact ho1, hbe.trans (hf1.below hbs)⟩
      | false =>
        rw [hbg, if_neg (by simp)] at hfo
        rw [hbg] at c4
        have HF := Lib.hid hfo
        clear hfo hbg c0 c5 f5 hlen hN
        obtain ⟨_, ov, p, bv, hb1, ho1, _, _⟩ := hx
        have c1 : wr.cell? ⟨w.heap.size, 1, none⟩ = some ov := (blk_cell hb1 1).trans rfl
        go_wp2_with fail
        go_ret
        exact ⟨_, rfl, by rw [HF.out]; exact ho1, hbe⟩
end Go.Proofs.YtdffbbfhcdhpdaaGreatDoor
