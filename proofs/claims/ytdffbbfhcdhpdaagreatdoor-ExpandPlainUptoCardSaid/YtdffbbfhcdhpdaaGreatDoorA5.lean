/- package fields' active, Joined. -/
import Derived.Test.YtdffbbfhcdhpdaaGreatDoorA2
import Derived.Test.YtdffbbfhcdhpdaaGreatDoorA4
namespace Go.Proofs.YtdffbbfhcdhpdaaGreatDoor
open Go.RowKit

/-- What the walks lean on of the package-level variables: internal/bytealg.MaxLen holds some int. -/
def Glob (w : World) : Prop := ∃ m : Int, w.cell? ⟨0, 0, none⟩ = some (I m)
theorem Glob.lt {w : World} (h : Glob w) : 0 < w.heap.size := by
  obtain ⟨m, h⟩ := h
  exact World.block_lt_of_cell? w ⟨0, 0, none⟩ h
theorem Glob.below {B : Nat} {w w' : World} (h : Glob w) (hb : Below B w w') (hB : 0 < B) : Glob w' := by
  obtain ⟨m, h⟩ := h
  exact ⟨m, (hb.cell (p := ⟨0, 0, none⟩) hB).trans h⟩
theorem Glob.ext {w w' : World} (h : Glob w) (hb : Below w.heap.size w w') : Glob w' := h.below hb h.lt
theorem Glob.fr {B : Nat} {E : List TypeId} {w w' : World} (h : Glob w) (hb : Fr B E w w') (hB : 0 < B) : Glob w' := by
  obtain ⟨m, h'⟩ := h
  exact ⟨m, (hb.cell (k := 0) (Glob.lt ⟨m, h'⟩) (.inl hB) 0).trans h'⟩
theorem Glob.alloc {w : World} (h : Glob w) (o : Obj) : Glob (w.alloc o) := h.ext ((Below.refl _ _).alloc (Nat.le_refl _) _)
theorem Glob.drewN {w : World} (h : Glob w) (n : Nat) : Glob (w.drewN n) := h

def dbl (l : List UInt8) : List UInt8 := l.flatMap fun c => if c = 92 then [92, 92] else [c]
theorem dbl_none : ∀ (l : List UInt8), 92 ∉ l → dbl l = l
  | [], _ => rfl
  | c :: l, h => by
    simp only [List.mem_cons, not_or] at h
    simp only [dbl, List.flatMap_cons] at *
    have := dbl_none l h.2
    simp only [dbl] at this
    rw [this, if_neg (fun e => h.1 e.symm)]; rfl
theorem dbl_append (a b : List UInt8) : dbl (a ++ b) = dbl a ++ dbl b := by simp [dbl]
theorem indexByte_split (pre post : List UInt8) (c : UInt8) (h : c ∉ pre) : Lib.indexByte (pre ++ c :: post) c = pre.length := by
  induction pre with
  | nil => simp [Lib.indexByte]
  | cons d pre ih =>
    simp only [List.mem_cons, not_or] at h
    have := ih h.2
    simp only [List.cons_append, Lib.indexByte, this]
    rw [if_neg (by simp; exact fun e => h.1 e.symm), if_neg (by simp)]
    simp
theorem replaceK_dbl : ∀ (n : Nat) (l : List UInt8), l.count 92 = n → Lib.replaceK [92] [92, 92] n l = dbl l
  | 0, l, h => by
    rw [dbl_none l (List.count_eq_zero.1 h)]; rfl
  | n + 1, l, h => by
    have hm : (92 : UInt8) ∈ l := List.count_pos_iff.1 (by omega)
    obtain ⟨pre, post, rfl, hp⟩ := List.eq_append_cons_of_mem hm
    have hi : Lib.index (pre ++ 92 :: post) [92] = (pre.length : Nat) := by rw [Lib.index_one, indexByte_split _ _ _ hp]
    rw [Lib.replaceK_hit _ _ _ _ _ hi]
    have hc : post.count 92 = n := by
      rw [List.count_append, List.count_eq_zero.2 hp, List.count_cons_self] at h; omega
    have hd : (pre ++ 92 :: post).drop (pre.length + ([92] : List UInt8).length) = post := by
      rw [List.length_singleton, List.drop_append]; simp
    rw [hd, replaceK_dbl n post hc, List.take_left]
    rw [show pre ++ 92 :: post = pre ++ ([92] ++ post) from rfl, dbl_append, dbl_append, dbl_none pre hp]
    simp [dbl]
theorem replaceAll_dbl (l : List UInt8) : Lib.replaceAll l [92] [92, 92] = dbl l := by
  unfold Lib.replaceAll Lib.replace Lib.replaceNum
  rw [if_neg (by decide), if_pos (.inl (by decide)), Lib.count_one]
  exact replaceK_dbl _ l rfl

theorem active_bound (s : List UInt8) (hs : s.length ≤ 1073741824) :
    (ByteArray.mk s.toArray).size + Lib.countB ⟨s.toArray⟩ ⟨#[92]⟩ * (ByteArray.mk #[92, 92]).size ≤ 140737488355328 := by
  have hc := Lib.countB_le ⟨#[92]⟩ (by decide) s.length ⟨s.toArray⟩ (Nat.le_refl _)
  rw [show (ByteArray.mk s.toArray).size = s.length from rfl] at *
  rw [show (ByteArray.mk #[92, 92]).size = 2 from rfl]; omega

theorem replaceAll_call (s : List UInt8) (w : World) (hg : Glob w) (hs : s.length ≤ 1073741824) :
    Calls Tryz.prog 93 #[S s, S [92], S [92, 92]] w fun e w' => e = .returned (S (dbl s)) ∧ Below w.heap.size w w' := by
  obtain ⟨m, hm⟩ := hg
  refine (Tryz.strings_ReplaceAll ⟨s.toArray⟩ ⟨#[92]⟩ ⟨#[92, 92]⟩ m w (by rw [show (ByteArray.mk s.toArray).size = s.length from rfl]; omega) hm (by decide) (active_bound s hs)).mono ?_
  rintro e w' ⟨rfl, hb⟩
  refine ⟨?_, hb⟩
  rw [show Lib.replaceAll (ByteArray.mk s.toArray).data.toList (ByteArray.mk #[92]).data.toList (ByteArray.mk #[92, 92]).data.toList = dbl s from replaceAll_dbl s]

set_option maxHeartbeats 400000 in
theorem active_any (s : List UInt8) (w : World) (hg : Glob w) (hs : s.length ≤ 1073741824) :
    Calls Tryz.prog 55 #[S s] w fun e w' => e = .returned (S (dbl s)) ∧ Below w.heap.size w w' := by
  go_enter Tryz.func55, Tryz.ntmps55
  go_wp2_with (go_at_call 93; go_must (refine (replaceAll_call s w hg hs).mono ?_))
  rintro e w' ⟨rfl, hb⟩
  go_wp2_with fail
  go_ret
  exact ⟨rfl, hb⟩

def segOut (isP : Bool) (s : SegD) : List UInt8 := if s.kind = 3 then [32] else if isP then (if s.kind = 1 then escape s.text else dbl s.text) else s.text
def joined (segs : List SegD) (isP : Bool) : List UInt8 := segs.flatMap (segOut isP)
theorem seg_len (s : SegD) : s.cells.length = 2 := rfl
theorem seg_get0 (segs : List SegD) (k : Nat) (h : k < segs.length) : (segCells segs)[k * 2]? = some (I segs[k].kind) := flat_get SegD.cells 2 seg_len segs k 0 h (by omega)
theorem seg_get1 (segs : List SegD) (k : Nat) (h : k < segs.length) : (segCells segs)[k * 2 + 1]? = some (S segs[k].text) := flat_get SegD.cells 2 seg_len segs k 1 h (by omega)

set_option maxRecDepth 100000 in
set_option maxHeartbeats 2000000 in
theorem joined_any (C : Nat) (v : Value) (segs : List SegD) (isP : Bool) (w : World) (hg : Glob w) (hv : Sl C 109 w v segs.length 2 (segCells segs))
    (ht : ∀ s ∈ segs, s.text.length ≤ 1073741824) (hl : (joined segs isP).length ≤ 4294967296) (hn : segs.length ≤ 4294967296) :
    Calls Tryz.prog 30 #[v, .bool isP] w fun e w' => e = .returned (S (joined segs isP)) ∧ Below w.heap.size w w' := by
  have hcells : ∃ (a : Option Addr) (c : Nat), v = .slice a segs.length c ∧ ∀ k (h : k < segs.length), ∃ b o, a = some ⟨b, o, none⟩ ∧ b < w.heap.size ∧ w.cell? ⟨b, o + k * 2, none⟩ = some (I segs[k].kind) ∧ w.cell? ⟨b, o + k * 2 + 1, none⟩ = some (S segs[k].text) := by
    obtain ⟨h0, ⟨rfl, hn0⟩ | ⟨b, o, c, rfl, hnc, hcm, hb, hk, hc⟩⟩ := hv
    · exact ⟨none, 0, by rw [hn0], fun k h => by omega⟩
    · exact ⟨_, c, rfl, fun k h => ⟨b, o, rfl, hb, hc _ _ (seg_get0 segs k h), by rw [Nat.add_assoc]; exact hc _ _ (seg_get1 segs k h)⟩⟩
  obtain ⟨a, c, rfl, hcs⟩ := hcells
  clear hv
  have hG := Lib.hid hg
  have hT := Lib.hid ht
  have hL := Lib.hid hl
  have hC := Lib.hid hcs
  clear hg ht hl hcs
  go_enter Tryz.func30, Tryz.ntmps30
  go_wp2
  go_loopw [10] (fun i wr => ∃ (k : Nat) (p v : Value), k ≤ segs.length ∧ i = I k ∧ wr.heap[w.heap.size]? = some (.cells #[p, v] 105 (0, 0)) ∧ (p = .pointer none ∨ p = Ptr w.heap.size) ∧
    Buf w.heap.size (joined (segs.take k) isP) v wr ∧ Below w.heap.size w wr) (fun i _ => segs.length - (intOf i).toNat)
  case atStart => exact ⟨0, _, _, by omega, rfl, blk_new w _, .inl rfl, Buf.nil _ _, (Below.refl _ _).alloc (Nat.le_refl _) _⟩
  case round =>
    obtain ⟨k, p, v, hk, rfl, hbl, hpp, hbuf, hbe⟩ := hrel
    have hBl := blk_lt hbl
    by_cases hlt : k < segs.length
    · obtain ⟨b, o, rfl, hb, c0', c1'⟩ := hC.out k hlt
      have c0 : wr.cell? ⟨b, o + k * 2, none⟩ = some (I segs[k].kind) := (hbe.cell (p := ⟨b, _, none⟩) hb).trans c0'
      have c1 : wr.cell? ⟨b, o + k * 2 + 1, none⟩ = some (S segs[k].text) := (hbe.cell (p := ⟨b, _, none⟩) hb).trans c1'
      have htk : segs[k].text.length ≤ 1073741824 := hT.out _ (List.getElem_mem hlt)
      have hle := flat_le (segOut isP) segs k hlt
      have hsn := flat_snoc (segOut isP) segs k hlt
      have hlk : (joined (segs.take k) isP).length + (segOut isP segs[k]).length ≤ 4294967296 := Nat.le_trans hle hL.out
      have HLK := Lib.hid hlk
      have HS := Lib.hid hsn
      have hg1 : Glob wr := hG.out.below hbe hG.out.lt
      have HG := Lib.hid hg1
      clear c0' c1' hle hsn hlk hg1
      have hBs := hbe.size
      by_cases h3 : segs[k].kind = 3
      · have ho : segOut isP segs[k] = [32] := by simp [segOut, h3]
        have hlk := HLK.out
        rw [ho, List.length_singleton] at hlk
        have HO := Lib.hid ho
        have HLK' := Lib.hid hlk
        have b3 : (segs[k].kind == 3) = true := by simp [h3]
        clear ho hlk h3
        go_wp2_with (go_at_call 52; go_must (refine (WriteByte_loc w.heap.size w.heap.size p v _ 32 _ (blk_alloc hbl _) hpp (Nat.le_refl _) (hbuf.alloc _) HLK'.out).mono ?_))
        rintro e w' ⟨rfl, v', hb', hbuf', hf⟩
        go_wp2_with fail
        go_roundw
        case rel =>
          refine ⟨k + 1, _, v', by omega, by go_num, hb', .inr rfl, ?_, (hbe.alloc hBs _).trans (hf.below (by simp; omega))⟩
          rw [show joined (segs.take (k + 1)) isP = joined (segs.take k) isP ++ [32] from HS.out.trans (by rw [HO.out]; rfl)]; exact hbuf'
        case measure => simp [intOf]; omega
      · have b3 : (segs[k].kind == 3) = false := by simp [h3]
        cases isP with
        | false =>
          have ho : segOut false segs[k] = segs[k].text := by simp [segOut, h3]
          have hlk := HLK.out
          rw [ho] at hlk
          have HO := Lib.hid ho
          have HLK' := Lib.hid hlk
          clear ho hlk h3
          go_wp2_with (go_at_call 53; go_must (refine (WriteString_loc w.heap.size w.heap.size p v _ segs[k].text _ (blk_alloc hbl _) hpp (Nat.le_refl _) (hbuf.alloc _) HLK'.out).mono ?_))
          rintro e w' ⟨rfl, v', hb', hbuf', hf⟩
          go_wp2_with fail
          go_roundw
          case rel =>
            refine ⟨k + 1, _, v', by omega, by go_num, hb', .inr rfl, ?_, (hbe.alloc hBs _).trans (hf.below (by simp; omega))⟩
            rw [show joined (segs.take (k + 1)) false = joined (segs.take k) false ++ segs[k].text from HS.out.trans (by rw [HO.out]; rfl)]; exact hbuf'
          case measure => simp [intOf]; omega
        | true =>
          by_cases h1 : segs[k].kind = 1
          ·
            have ho : segOut true segs[k] = escape segs[k].text := by simp [segOut, h1]
            have hlk := HLK.out
            rw [ho] at hlk
            have HO := Lib.hid ho
            have HLK' := Lib.hid hlk
            have b1 : (segs[k].kind == 1) = true := by simp [h1]
            clear ho hlk h3 h1
            go_wp2_with (go_at_call 54; go_must (refine (escape_any segs[k].text _ htk).mono ?_))
            rintro e w1 ⟨rfl, hx⟩
            have hBx := hx.size
            simp only [size_alloc'] at hBx
            go_wp2_with (go_at_call 53; go_must (refine (WriteString_loc w.heap.size w.heap.size p v _ (escape segs[k].text) _ (blk_ext hx (blk_alloc hbl _)) hpp (Nat.le_refl _) ((hbuf.alloc _).ext hx) HLK'.out).mono ?_))
            rintro e w' ⟨rfl, v', hb', hbuf', hf⟩
            go_wp2_with fail
            go_roundw
            case rel =>
              refine ⟨k + 1, _, v', by omega, by go_num, hb', .inr rfl, ?_, ((hbe.alloc hBs _).trans (hx.mono (by simp; omega))).trans (hf.below (by omega))⟩
              rw [show joined (segs.take (k + 1)) true = joined (segs.take k) true ++ escape segs[k].text from HS.out.trans (by rw [HO.out]; rfl)]; exact hbuf'
            case measure => simp [intOf]; omega
          ·
            have ho : segOut true segs[k] = dbl segs[k].text := by simp [segOut, h3, h1]
            have hlk := HLK.out
            rw [ho] at hlk
            have HO := Lib.hid ho
            have HLK' := Lib.hid hlk
            have b1 : (segs[k].kind == 1) = false := by simp [h1]
            clear ho hlk h3 h1
            go_wp2_with (go_at_call 55; go_must (refine (active_any segs[k].text _ (HG.out.alloc _) htk).mono ?_))
            rintro e w1 ⟨rfl, hx⟩
            have hBx := hx.size
            simp only [size_alloc'] at hBx
            go_wp2_with (go_at_call 53; go_must (refine (WriteString_loc w.heap.size w.heap.size p v _ (dbl segs[k].text) _ (blk_ext hx (blk_alloc hbl _)) hpp (Nat.le_refl _) ((hbuf.alloc _).ext hx) HLK'.out).mono ?_))
            rintro e w' ⟨rfl, v', hb', hbuf', hf⟩
            go_wp2_with fail
            go_roundw
            case rel =>
              refine ⟨k + 1, _, v', by omega, by go_num, hb', .inr rfl, ?_, ((hbe.alloc hBs _).trans (hx.mono (by simp; omega))).trans (hf.below (by omega))⟩
              rw [show joined (segs.take (k + 1)) true = joined (segs.take k) true ++ dbl segs[k].text from HS.out.trans (by rw [HO.out]; rfl)]; exact hbuf'
            case measure => simp [intOf]; omega
    · have hkk : k = segs.length := by omega
      subst hkk
      rw [List.take_length] at hbuf
      go_wp2_with (go_at_call 56; go_must (refine (String_loc w.heap.size w.heap.size p v _ _ hbl hbuf).mono ?_))
      rintro e w' ⟨rfl, hf⟩
      go_wp2_with fail
      go_ret
      exact ⟨rfl, hbe.trans (hf.below (Nat.le_of_lt hBl))⟩
end Go.Proofs.YtdffbbfhcdhpdaaGreatDoor
