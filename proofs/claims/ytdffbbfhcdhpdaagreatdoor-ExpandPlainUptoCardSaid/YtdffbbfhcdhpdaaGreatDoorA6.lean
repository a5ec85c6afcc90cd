/- package fields' splitter. -/
import Derived.Test.YtdffbbfhcdhpdaaGreatDoorA5
import Derived.Deep.AppendLies
import Derived.Deep.RegionLaw
import Derived.Deep.RegionHeld3
namespace Go.Proofs.YtdffbbfhcdhpdaaGreatDoor
open Go.RowKit

structure SplD where
  ifs : List UInt8
  out : List (List UInt8)
  field : List UInt8
  begun : Bool
  gap : Bool

abbrev SplE : List TypeId := [107, 9, 5]

/-- A splitter in block b. -/
def SplAt (B b : Nat) (x : SplD) (w : World) : Prop :=
  B ≤ b ∧ ∃ ov p bv, w.heap[b]? = some (.cells #[S x.ifs, ov, p, bv, .bool x.begun, .bool x.gap] 107 (0, 0)) ∧ w.ownsRow B 9 1 ov x.out.length (x.out.map S) ∧
    (p = .pointer none ∨ p = .pointer (some ⟨b, 2, none⟩)) ∧ Buf B x.field bv w
theorem SplAt.lt {B b : Nat} {x : SplD} {w : World} (h : SplAt B b x w) : b < w.heap.size := by
  obtain ⟨_, _, _, _, h, _⟩ := h; exact blk_lt h
theorem SplAt.ext {B b : Nat} {x : SplD} {w w' : World} (h : SplAt B b x w) (hb : Below w.heap.size w w') : SplAt B b x w' := by
  obtain ⟨h0, ov, p, bv, h1, h2, h3, h4⟩ := h
  exact ⟨h0, ov, p, bv, blk_ext hb h1, ownsRow_fr h2 (C := 0) (E := []) (Fr.of_below hb (Nat.le_refl _)) (.inl (by simp)), h3, h4.ext hb⟩
theorem SplAt.alloc {B b : Nat} {x : SplD} {w : World} (h : SplAt B b x w) (o : Obj) : SplAt B b x (w.alloc o) := h.ext ((Below.refl _ _).alloc (Nat.le_refl _) o)

theorem Tryz.infoStr : (Tryz.prog.info? 9).map (fun i => (i.zero, i.size, i.bytes)) = some (some (S []), 1, 16) := by kernel_rfl

set_option maxRecDepth 100000 in
set_option maxHeartbeats 1000000 in
theorem splitter_put (B b : Nat) (x : SplD) (s : List UInt8) (w : World) (h : SplAt B b x w) (hl : x.field.length + s.length ≤ 4294967296) :
    Calls Tryz.prog 81 #[Ptr b, S s] w fun e w' => e = .returned (.tuple #[]) ∧ SplAt B b { x with field := x.field ++ s, begun := true, gap := false } w' ∧ Fr B SplE w w' := by
  obtain ⟨hB, ov, p, bv, hb, ho, hp, hbuf⟩ := h
  go_enter Tryz.func81, Tryz.ntmps81
  go_wp2_with (go_at_call 53; go_must (refine (WriteString_fld B b p bv _ _ _ _ x.field s _ hb hp hB hbuf hl).mono ?_))
  rintro e w1 ⟨rfl, v', hb1, hbuf1, hf1⟩
  have ho1 := ownsRow_fr ho hf1 (.inl (by decide))
  have hlt := blk_lt hb1
  have c4 : w1.cell? ⟨b, 4, none⟩ = some (.bool x.begun) := by rw [blk_cell hb1]; rfl
  have f4 : w1.frozen? ⟨b, 4, none⟩ = false := blk_free hb1 4
  have hb2 := blk_set hb1 4 (.bool true)
  have c5 : (w1.setCell ⟨b, 4, none⟩ (.bool true)).cell? ⟨b, 5, none⟩ = some (.bool x.gap) := by rw [blk_cell hb2]; rfl
  have f5 : (w1.setCell ⟨b, 4, none⟩ (.bool true)).frozen? ⟨b, 5, none⟩ = false := blk_free hb2 5
  have hb3 := blk_set hb2 5 (.bool false)
  have fr1 := (hf1.mono (Nat.le_refl _) (E' := SplE) (by simp)).setCell (p := ⟨b, 4, none⟩) hb1 hB (by simp) (.bool true)
  have fr2 := fr1.setCell (p := ⟨b, 5, none⟩) hb2 hB (by simp) (.bool false)
  have fa := ((Fr.refl B [107] w1).setCell (p := ⟨b, 4, none⟩) hb1 hB (by simp) (.bool true)).setCell (p := ⟨b, 5, none⟩) hb2 hB (by simp) (.bool false)
  have res : SplAt B b { x with field := x.field ++ s, begun := true, gap := false } ((w1.setCell ⟨b, 4, none⟩ (.bool true)).setCell ⟨b, 5, none⟩ (.bool false)) :=
    ⟨hB, _, _, _, hb3, ownsRow_fr ho1 fa (.inl (by decide)), .inr rfl, hbuf1.fr fa (by decide)⟩
  have R := Lib.hid (And.intro res fr2)
  clear res fr1 fr2 fa hbuf1 ho1 hb1 hb2 hb3 hf1
  go_wp2_with fail
  go_end0
  exact ⟨rfl, R.out.1, R.out.2⟩

set_option maxRecDepth 100000 in
set_option maxHeartbeats 2000000 in
theorem splitter_end (B b : Nat) (x : SplD) (w : World) (h : SplAt B b x w) (hl : x.out.length + 1 ≤ 4294967296) :
    Calls Tryz.prog 44 #[Ptr b] w fun e w' => e = .returned (.tuple #[]) ∧ SplAt B b { x with out := x.out ++ [x.field], field := [], begun := false } w' ∧ Fr B SplE w w' := by
  obtain ⟨hB, ov, p, bv, hb, ho, hp, hbuf⟩ := h
  have hlt := blk_lt hb
  have c1 : w.cell? ⟨b, 1, none⟩ = some ov := by rw [blk_cell hb]; rfl
  obtain ⟨i0, hi, hz0, hz1, hz2⟩ := info_parts Tryz.infoStr
  go_enter Tryz.func44, Tryz.ntmps44
  go_wp2_with fail
  go_region_law (first | (go_simp; go_at_call 56; refine (String_fld B b p bv _ _ _ _ x.field w.drew hb hbuf).mono ?_; rintro e w1 ⟨rfl, hf1⟩; have hb1 := blk_fr hf1 (w := w.drew) hb (.inr (by decide)); have ho1 := ownsRow_fr (w := w.drew) ho hf1 (.inl (by decide)); have c1' : w1.cell? ⟨b, 1, none⟩ = some ov := ((blk_cell hb1 1).trans rfl); have hlt1 := blk_lt hb1) | (refine step_append_lies _ (by rfl) _ _ 22 (by rfl) B 9 i0 (S []) 1 16 Tryz.underlying22 hi hz0 hz1 hz2 rfl (by decide) ov x.out.length (x.out.map S) (by rfl) (ho1.alloc _) ⟨w1.heap.size, 0, none⟩ 1 1 [S x.field] (by rfl) (by rfl) (new_cells rfl _ _) (by simp [Value.oneCell']) (by omega) (by unfold maxLen; omega) (by omega) (by rw [size_alloc']; omega) (w1.heap.size + 1) (size_alloc' _ _) ?_; intro g cap w2 hown2 hgrow hat hlt2; have hb2 := blk_grown hgrow (ho1.alloc _) (blk_alloc hb1 _) (by decide); have c2 : w2.cell? ⟨b, 1, none⟩ = some ov := (blk_cell hb2 1).trans rfl; have f2 : w2.frozen? ⟨b, 1, none⟩ = false := blk_free hb2 1))
  all_goals
    have hb3 := blk_set hb2 1 (.slice (some ⟨g, 0, none⟩) (x.out.length + 1) cap)
    have ho3 := ownsRow_set hown2 hb2 (by decide) 1 (.slice (some ⟨g, 0, none⟩) (x.out.length + 1) cap)
    have fr3 : Fr B SplE w (w2.setCell ⟨b, 1, none⟩ (.slice (some ⟨g, 0, none⟩) (x.out.length + 1) cap)) :=
      (((((Fr.refl B SplE w).drew).trans (hf1.mono (Nat.le_refl _) (by simp))).alloc _).grownRow (ho1.alloc _) hgrow (by simp)).setCell (p := ⟨b, 1, none⟩) hb2 hB (by simp) _
    clear hown2 hgrow hat hf1 ho1 hb1 c1 c1' c2 f2 hb2 hbuf ho hb
    go_wp2_with (go_at_call 83; go_must (refine (Reset_fld B b p bv _ _ _ _ _ hb3 hB).mono ?_))
    rintro e w3 ⟨rfl, hb4, hf4⟩
    have ho4 := ownsRow_fr ho3 hf4 (.inl (by decide))
    have hlt4 := blk_lt hb4
    have c4 : w3.cell? ⟨b, 4, none⟩ = some (.bool x.begun) := (blk_cell hb4 4).trans rfl
    have f4 : w3.frozen? ⟨b, 4, none⟩ = false := blk_free hb4 4
    have hb5 := blk_set hb4 4 (.bool false)
    have fr5 := (fr3.trans (hf4.mono (Nat.le_refl _) (by simp))).setCell (p := ⟨b, 4, none⟩) hb4 hB (by simp) (.bool false)
    have ho5 := ownsRow_set ho4 hb4 (by decide) 4 (.bool false)
    have res : SplAt B b { x with out := x.out ++ [x.field], field := [], begun := false } (w3.setCell ⟨b, 4, none⟩ (.bool false)) :=
      ⟨hB, _, _, _, hb5, by simpa using ho5, .inl rfl, Buf.nil _ _⟩
    have R := Lib.hid (And.intro res fr5)
    clear res fr5 fr3 ho3 hb3 ho4 ho5 hb5 hf4 hb4
    go_wp2_with fail
    go_end0
    exact ⟨rfl, R.out.1, R.out.2⟩
def SplD.ended (x : SplD) : SplD := { x with out := x.out ++ [x.field], field := [], begun := false }
def splStep (x : SplD) (c : UInt8) : SplD :=
  if x.ifs.contains c = false then { x with field := x.field ++ dbl [c], begun := true, gap := false }
  else if List.contains [32, 9, 10] c then (if x.begun then { x.ended with gap := true } else x)
  else if x.begun || !x.gap then { x.ended with gap := false } else { x with gap := false }
def splText (x : SplD) (s : List UInt8) : SplD := s.foldl splStep x
theorem splStep_ifs (x : SplD) (c : UInt8) : (splStep x c).ifs = x.ifs := by
  unfold splStep SplD.ended; repeat' split
  all_goals rfl
theorem splText_ifs (x : SplD) (s : List UInt8) : (splText x s).ifs = x.ifs := by
  induction s generalizing x with
  | nil => rfl
  | cons c s ih => exact (ih (splStep x c)).trans (splStep_ifs x c)
theorem dbl_one_le (c : UInt8) : (dbl [c]).length ≤ 2 := by simp only [dbl, List.flatMap_cons, List.flatMap_nil, List.append_nil]; split <;> simp
theorem splStep_len (x : SplD) (c : UInt8) : (splStep x c).field.length ≤ x.field.length + 2 ∧ (splStep x c).out.length ≤ x.out.length + 1 := by
  have := dbl_one_le c
  unfold splStep SplD.ended; repeat' split
  all_goals (simp; try omega)
theorem splText_len (x : SplD) (s : List UInt8) : (splText x s).field.length ≤ x.field.length + 2 * s.length ∧ (splText x s).out.length ≤ x.out.length + s.length := by
  induction s generalizing x with
  | nil => simp [splText]
  | cons c s ih =>
    have h1 := ih (splStep x c)
    have h2 := splStep_len x c
    simp only [splText, List.foldl_cons, List.length_cons] at h1 ⊢
    omega
theorem splText_snoc (x : SplD) (s : List UInt8) (k : Nat) (h : k < s.length) : splText x (s.take (k + 1)) = splStep (splText x (s.take k)) s[k] := by
  rw [List.take_succ_eq_append_getElem h]; simp only [splText, List.foldl_append, List.foldl_cons, List.foldl_nil]

theorem contains1 (t : List UInt8) (c : UInt8) (r : Bool) (w : World) (h : t.contains c = r) :
    Calls Tryz.prog 138 #[S t, S [c]] w fun e w' => e = .returned (.bool r) ∧ w = w' := by
  refine (Tryz.strings_Contains_one ⟨t.toArray⟩ c w).mono ?_
  rintro e w' ⟨rfl, rfl⟩
  have h1 := Lib.contains_iff_indexByte t c
  rw [h] at h1
  exact ⟨by rw [h1], rfl⟩

theorem take_drop_one {α : Type} (s : List α) (k : Nat) (h : k < s.length) : (s.take (k + 1)).drop k = [s[k]] := by
  rw [List.take_succ_eq_append_getElem h, List.drop_append_of_le_length (by simp; omega)]
  simp

theorem SplAt.cells {B b : Nat} {x : SplD} {w : World} (h : SplAt B b x w) : w.cell? ⟨b, 0, none⟩ = some (S x.ifs) ∧ w.cell? ⟨b, 4, none⟩ = some (.bool x.begun) ∧ w.cell? ⟨b, 5, none⟩ = some (.bool x.gap) ∧ w.frozen? ⟨b, 5, none⟩ = false := by
  obtain ⟨_, _, _, _, h, _⟩ := h
  exact ⟨(blk_cell h 0).trans rfl, (blk_cell h 4).trans rfl, (blk_cell h 5).trans rfl, blk_free h 5⟩
theorem SplAt.setGap {B b : Nat} {x : SplD} {w : World} (h : SplAt B b x w) (g : Bool) : SplAt B b { x with gap := g } (w.setCell ⟨b, 5, none⟩ (.bool g)) ∧ Fr B SplE w (w.setCell ⟨b, 5, none⟩ (.bool g)) := by
  obtain ⟨hB, ov, p, bv, hb, ho, hp, hbuf⟩ := h
  have f0 := (Fr.refl B [107] w).setCell (p := ⟨b, 5, none⟩) hb hB (by simp) (.bool g)
  exact ⟨⟨hB, _, _, _, blk_set hb 5 _, ownsRow_fr ho f0 (.inl (by decide)), hp, hbuf.fr f0 (by decide)⟩, f0.mono (Nat.le_refl _) (by simp)⟩

end Go.Proofs.YtdffbbfhcdhpdaaGreatDoor
