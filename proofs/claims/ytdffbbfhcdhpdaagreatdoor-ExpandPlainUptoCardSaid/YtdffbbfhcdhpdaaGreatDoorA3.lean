/- strings.Builder's methods at a builder of the call's own: a variable, or a field of a struct (fields.splitter). -/
import Derived.Test.YtdffbbfhcdhpdaaGreatDoorA0
import Derived.Lib.AppendStr
import Derived.Lib.UnsafeStr
import Derived.Laws.Externs
namespace Go.Proofs.YtdffbbfhcdhpdaaGreatDoor
open Go.RowKit

/-- A buffer that holds the bytes l. -/
def Buf (B : Nat) (l : List UInt8) (v : Value) (w : World) : Prop := w.ownsRow B 5 1 v l.length (Lib.byteCells l) ∧ (l = [] → v = NilS)
theorem Buf.nil (B : Nat) (w : World) : Buf B [] NilS w := ⟨World.ownsRow_nil _ _ _ _, fun _ => rfl⟩
theorem Buf.fr {B C : Nat} {E : List TypeId} {l : List UInt8} {v : Value} {w w' : World} (h : Buf B l v w) (hf : Fr C E w w') (he : 5 ∉ E) : Buf B l v w' := ⟨ownsRow_fr h.1 hf (.inl he), h.2⟩
theorem Buf.ext {B : Nat} {l : List UInt8} {v : Value} {w w' : World} (h : Buf B l v w) (hf : Below w.heap.size w w') : Buf B l v w' := h.fr (C := 0) (E := []) (Fr.of_below hf (Nat.le_refl _)) (by simp)
theorem Buf.alloc {B : Nat} {l : List UInt8} {v : Value} {w : World} (h : Buf B l v w) (o : Obj) : Buf B l v (w.alloc o) := ⟨h.1.alloc o, h.2⟩

theorem Tryz.infoByte : (Tryz.prog.info? 5).map (fun i => (i.zero, i.size, i.bytes)) = some (some (.int .u8 0), 1, 1) := by kernel_rfl
theorem Tryz.infoBuilder : (Tryz.prog.info? 105).map (fun i => i.size) = some 2 := by kernel_rfl

theorem lies_loc : liesAt Tryz.prog Tryz.prog.depth 105 (2 / Tryz.prog.cellsOf 105) 0 105 1 = true := by kernel_rfl

set_option maxRecDepth 100000 in
set_option maxHeartbeats 1000000 in
theorem copyCheck_loc (b : Nat) (p v  : Value) (w : World) (hb : w.heap[b]? = some (.cells #[p, v] 105 (0, 0))) (hp : p = .pointer none ∨ p = .pointer (some ⟨b, 0, none⟩)) :
    Calls Tryz.prog 92 #[.pointer (some ⟨b, 0, none⟩)] w fun e w' =>
      e = .returned (.tuple #[]) ∧ w'.heap[b]? = some (.cells #[.pointer (some ⟨b, 0, none⟩), v] 105 (0, 0)) ∧ Fr b [105] w w' := by
  obtain ⟨j, hj, hjs⟩ := Option.map_eq_some_iff.1 Tryz.infoBuilder
  have hlt := blk_lt hb
  have hf : w.frozen? ⟨b, 0, none⟩ = false := blk_free hb 0
  rcases hp with rfl | rfl
  · have hc : w.cell? ⟨b, 0, none⟩ = some (.pointer none) := by rw [blk_cell hb]; rfl
    have hsh : w.shape? b = some (105, 2) := by simp [World.shape?, hb]
    go_enter Tryz.func92, Tryz.ntmps92
    go_wp2
    rw [Lib.run_to_unsafe w ⟨b, 0, none⟩ Tryz.underlying103 Tryz.underlying209 hj (by rw [hjs]; decide) hsh (by simp)]
    simp only [Result.andThen]
    rw [Oper.upon_value]
    go_wp2
    rw [run_callFunc_extern Tryz.func149 (by kernel_rfl) (by kernel_rfl) (by kernel_rfl) (e := Extern.AbiNoEscape.same) (by kernel_rfl)]
    rw [Lib.run_noEscape]
    simp only [Result.andThen]
    rw [Oper.upon_value]
    go_wp2
    rw [Lib.run_from_unsafe w ⟨b, 0, none⟩ Tryz.underlying209 Tryz.underlying103 hj hsh lies_loc]
    simp only [Result.andThen]
    rw [Oper.upon_value]
    go_wp2
    go_end0
    exact ⟨rfl, blk_set hb 0 _, (Fr.refl b _ w).setCell (p := ⟨b, 0, none⟩) hb (Nat.le_refl _) (by simp) _⟩
  · have hc : w.cell? ⟨b, 0, none⟩ = some (.pointer (some ⟨b, 0, none⟩)) := by rw [blk_cell hb]; rfl
    go_enter Tryz.func92, Tryz.ntmps92
    go_wp2
    rw [Lib.run_neq_ptr_same w _ Tryz.underlying103 hj]
    go_wp2
    go_end0
    exact ⟨rfl, hb, Fr.refl _ _ _⟩

set_option maxRecDepth 100000 in
set_option maxHeartbeats 1000000 in
theorem WriteString_loc (B b : Nat) (p v  : Value) (l s : List UInt8) (w : World) (hb : w.heap[b]? = some (.cells #[p, v] 105 (0, 0))) (hp : p = .pointer none ∨ p = .pointer (some ⟨b, 0, none⟩))
    (hB : B ≤ b) (ho0 : Buf B l v w) (hl : l.length + s.length ≤ 4294967296) :
    Calls Tryz.prog 53 #[.pointer (some ⟨b, 0, none⟩), S s] w fun e w' =>
      e = .returned (.tuple #[I s.length, .nilIface]) ∧ ∃ v', w'.heap[b]? = some (.cells #[.pointer (some ⟨b, 0, none⟩), v'] 105 (0, 0)) ∧ Buf B (l ++ s) v' w' ∧ Fr B [105, 5] w w' := by
  obtain ⟨i0, hi, hz0, hz1, hz2⟩ := info_parts Tryz.infoByte
  go_enter Tryz.func53, Tryz.ntmps53
  go_wp2_with (go_at_call 92; go_must (refine (copyCheck_loc b p v  _ hb hp).mono ?_))
  rintro e w1 ⟨rfl, hb1, f1⟩
  obtain ⟨ho, hnil⟩ := ho0
  have hN := Lib.hid hnil
  clear hnil
  have ho1 := ownsRow_fr ho f1 (.inl (by decide))
  have hlt1 := blk_lt hb1
  have c1 : w1.cell? ⟨b, 1, none⟩ = some v := by rw [blk_cell hb1]; rfl
  go_wp2_with (at_builtin; go_must (refine Lib.wpList_append_own_string _ rfl _ _ 54 9 rfl B 5 i0 Tryz.underlying54 Tryz.underlying9 hi hz0 hz1 hz2 _ _ _ rfl ho1 ⟨s.toArray⟩ rfl ?c3 ?c4 ?c5 ?_))
  case c3 => unfold maxLen; rw [show (ByteArray.mk s.toArray).size = s.length from rfl]; omega
  case c4 => rw [show (ByteArray.mk s.toArray).size = s.length from rfl]; omega
  case c5 => omega
  intro v' w2 hown' hgrow hnil'
  have hN' := Lib.hid hnil'
  clear hnil'
  have hown2 : w2.ownsRow B 5 1 v' (l ++ s).length (Lib.byteCells (l ++ s)) := by
    have := hown'
    rw [Lib.strCells_eq] at this
    show w2.ownsRow B 5 1 v' (l ++ s).length _
    rw [List.length_append, Lib.byteCells_append]; exact this
  clear hown'
  obtain ⟨ao, cap, rfl⟩ := ownsRow_slice hown2
  have hb2 := blk_grown hgrow ho1 hb1 (by decide)
  have hlt2 := blk_lt hb2
  have hf2 : w2.frozen? ⟨b, 1, none⟩ = false := blk_free hb2 1
  have c2 : w2.cell? ⟨b, 1, none⟩ = some v := by rw [blk_cell hb2]; rfl
  have fr : Fr B [105, 5] w w2 := (f1.mono hB (by simp)).grownRow ho1 hgrow (by simp)
  go_wp2
  go_ret2
  rw [List.length_append] at hown2
  refine ⟨rfl, _, blk_set hb2 1 _, ?_, fr.setCell (p := ⟨b, 1, none⟩) hb2 hB (by simp) _⟩
  refine ⟨by rw [List.length_append]; exact ownsRow_set hown2 hb2 (by decide) 1 _, fun he => ?_⟩
  simp only [List.append_eq_nil_iff] at he
  have h3 := hN'.out.2 ⟨hN.out he.1, by rw [he.2]⟩
  rw [List.length_append] at h3; exact h3

set_option maxRecDepth 100000 in
set_option maxHeartbeats 1000000 in
theorem WriteByte_loc (B b : Nat) (p v  : Value) (l : List UInt8) (c : UInt8) (w : World) (hb : w.heap[b]? = some (.cells #[p, v] 105 (0, 0))) (hp : p = .pointer none ∨ p = .pointer (some ⟨b, 0, none⟩))
    (hB : B ≤ b) (ho0 : Buf B l v w) (hl : l.length + 1 ≤ 4294967296) :
    Calls Tryz.prog 52 #[.pointer (some ⟨b, 0, none⟩), B8 c] w fun e w' =>
      e = .returned .nilIface ∧ ∃ v', w'.heap[b]? = some (.cells #[.pointer (some ⟨b, 0, none⟩), v'] 105 (0, 0)) ∧ Buf B (l ++ [c]) v' w' ∧ Fr B [105, 5] w w' := by
  obtain ⟨i0, hi, hz0, hz1, hz2⟩ := info_parts Tryz.infoByte
  go_enter Tryz.func52, Tryz.ntmps52
  go_wp2_with (go_at_call 92; go_must (refine (copyCheck_loc b p v  _ hb hp).mono ?_))
  rintro e w1 ⟨rfl, hb1, f1⟩
  obtain ⟨ho, hnil⟩ := ho0
  have hN := Lib.hid hnil
  clear hnil
  have ho1 := ownsRow_fr ho f1 (.inl (by decide))
  have hlt1 := blk_lt hb1
  have c1 : w1.cell? ⟨b, 1, none⟩ = some v := by rw [blk_cell hb1]; rfl
  go_wp2_with (at_builtin; go_must (refine wpList_append_own _ rfl _ _ 54 rfl B 5 i0 (.int .u8 0) 1 1 Tryz.underlying54 hi hz0 hz1 hz2 rfl (by decide) _ _ _ rfl (ho1.alloc _) ⟨w1.heap.size, 0, none⟩ 1 1 [B8 c] rfl rfl ?c1 ?c2 ?c3 ?c4 ?c5 ?_))
  case c1 => exact new_cells rfl _ _
  case c2 => intro u hu; simp at hu; subst hu; rfl
  case c3 => unfold maxLen; omega
  case c4 => omega
  case c5 => simp; omega
  intro v' w2 hown' hgrow hnil'
  have hN' := Lib.hid hnil'
  clear hnil'
  have hown2 : w2.ownsRow B 5 1 v' (l ++ [c]).length (Lib.byteCells (l ++ [c])) := by
    show w2.ownsRow B 5 1 v' (l ++ [c]).length _
    rw [List.length_append, Lib.byteCells_append]; exact hown'
  clear hown'
  obtain ⟨ao, cap, rfl⟩ := ownsRow_slice hown2
  have hb2 := blk_grown hgrow (ho1.alloc _) (blk_alloc hb1 _) (by decide)
  have hlt2 := blk_lt hb2
  have hf2 : w2.frozen? ⟨b, 1, none⟩ = false := blk_free hb2 1
  have c2 : w2.cell? ⟨b, 1, none⟩ = some v := by rw [blk_cell hb2]; rfl
  have fr : Fr B [105, 5] w w2 := ((f1.mono hB (by simp)).alloc _).grownRow (ho1.alloc _) hgrow (by simp)
  go_wp2
  go_ret
  rw [List.length_append, List.length_singleton] at hown2
  refine ⟨rfl, _, blk_set hb2 1 _, ?_, fr.setCell (p := ⟨b, 1, none⟩) hb2 hB (by simp) _⟩
  exact ⟨by rw [List.length_append, List.length_singleton]; exact ownsRow_set hown2 hb2 (by decide) 1 _, fun he => by simp at he⟩

set_option maxRecDepth 100000 in
set_option maxHeartbeats 1000000 in
theorem Reset_loc (B b : Nat) (p v  : Value) (w : World) (hb : w.heap[b]? = some (.cells #[p, v] 105 (0, 0))) (hB : B ≤ b) :
    Calls Tryz.prog 83 #[.pointer (some ⟨b, 0, none⟩)] w fun e w' =>
      e = .returned (.tuple #[]) ∧ w'.heap[b]? = some (.cells #[.pointer none, NilS] 105 (0, 0)) ∧ Fr B [105] w w' := by
  have hlt := blk_lt hb
  have c0 : w.cell? ⟨b, 0, none⟩ = some p := by rw [blk_cell hb]; rfl
  have f0 : w.frozen? ⟨b, 0, none⟩ = false := blk_free hb 0
  have hb1 := blk_set hb 0 (.pointer none)
  have c1 : (w.setCell ⟨b, 0, none⟩ (.pointer none)).cell? ⟨b, 1, none⟩ = some v := by rw [blk_cell hb1]; rfl
  have f1 : (w.setCell ⟨b, 0, none⟩ (.pointer none)).frozen? ⟨b, 1, none⟩ = false := blk_free hb1 1
  go_enter Tryz.func83, Tryz.ntmps83
  go_wp2
  go_end0
  exact ⟨rfl, blk_set hb1 1 _, ((Fr.refl B _ w).setCell (p := ⟨b, 0, none⟩) hb hB (by simp) _).setCell (p := ⟨b, 1, none⟩) hb1 hB (by simp) _⟩

set_option maxRecDepth 100000 in
set_option maxHeartbeats 1000000 in
theorem String_loc (B b : Nat) (p v  : Value) (l : List UInt8) (w : World) (hb : w.heap[b]? = some (.cells #[p, v] 105 (0, 0))) (ho : Buf B l v w) :
    Calls Tryz.prog 56 #[.pointer (some ⟨b, 0, none⟩)] w fun e w' => e = .returned (S l) ∧ Fr B [5] w w' := by
  obtain ⟨hown, hnil⟩ := ho
  have hlt := blk_lt hb
  have c1 : w.drew.cell? ⟨b, 1, none⟩ = some v := by rw [blk_cell (w := w.drew) hb]; rfl
  by_cases h0 : l = []
  · subst h0
    obtain rfl := hnil rfl
    clear hnil
    have hUS : ∀ (W : World) (q : Option Addr), (Builtin.unsafeString_ #[163, 3] 9 #[.pointer q, .int .i64 0]).run Tryz.prog W = .ok (.string .empty) W := fun W q => Lib.run_unsafeString_none W _ _ _ q
    have hSD : (Builtin.unsafeSliceData_ #[54] 163 #[.slice none 0 0]).run Tryz.prog w.drew = .ok (.pointer none) w.drew := rfl
    clear hown hb
    go_enter Tryz.func56, Tryz.ntmps56
    go_wp2
    go_region
    all_goals (go_wp2; go_ret; exact ⟨rfl, (Fr.refl B _ w).drew⟩)
  · have hl0 : l.length ≠ 0 := by simpa using h0
    clear hnil
    obtain ⟨g, cap, cur, rfl, hbg, hg, hnc, hcm, hcs, htake⟩ : ∃ g cap cur, v = .slice (some ⟨g, 0, none⟩) l.length cap ∧ B ≤ g ∧ w.heap[g]? = some (.cells cur 5 (0, 0)) ∧ l.length ≤ cap ∧ cap ≤ maxLen ∧ cur.size = cap * 1 ∧ cur.toList.take (l.length * 1) = Lib.byteCells l := by
      rcases hown.2 with ⟨_, hz⟩ | ⟨g, cap, cur, hv, r⟩
      · exact absurd hz hl0
      · exact ⟨g, cap, cur, hv, r⟩
    have hSD : (Builtin.unsafeSliceData_ #[54] 163 #[.slice (some ⟨g, 0, none⟩) l.length cap]).run Tryz.prog w.drew = .ok (.pointer (some ⟨g, 0, none⟩)) w.drew :=
      Lib.run_unsafeSliceData_row _ _ _ _ _ _ (by omega)
    have hUS : (Builtin.unsafeString_ #[163, 3] 9 #[.pointer (some ⟨g, 0, none⟩), .int .i64 l.length]).run Tryz.prog w.drew = .ok (.string ⟨l.toArray⟩) (w.drew.freeze ⟨g, 0, none⟩ l.length) := by
      refine Lib.run_unsafeString_row w.drew 163 3 9 5 Tryz.underlying163 (by kernel_rfl) g cur.size (by have hg' : w.drew.heap[g]? = some (.cells cur 5 (0, 0)) := hg; simp [World.shape?, hg']) l h0 (by omega) (by unfold maxLen at hcm; omega) ?_
      intro j x hx
      have := hown.cells (g := g) rfl j (.int .u8 x.toNat) (by simp [Lib.byteCells, hx])
      exact this
    have fr : Fr B [5] w (w.drew.freeze ⟨g, 0, none⟩ l.length) := (Fr.refl B _ w).drew.freeze (p := ⟨g, 0, none⟩) (c := cur) (e := 5) (f := (0, 0)) hg hbg (by simp) _
    have hF := Lib.hid fr
    clear hown hb hcm hnc hcs htake hbg hg fr
    go_enter Tryz.func56, Tryz.ntmps56
    go_wp2
    go_region
    all_goals (go_wp2; go_ret; exact ⟨rfl, hF.out⟩)
theorem lies_fld : liesAt Tryz.prog Tryz.prog.depth 107 (6 / Tryz.prog.cellsOf 107) 2 105 1 = true := by kernel_rfl

set_option maxRecDepth 100000 in
set_option maxHeartbeats 1000000 in
theorem copyCheck_fld (b : Nat) (p v ifs out bg gp : Value) (w : World) (hb : w.heap[b]? = some (.cells #[ifs, out,p, v, bg, gp] 107 (0, 0))) (hp : p = .pointer none ∨ p = .pointer (some ⟨b, 2, none⟩)) :
    Calls Tryz.prog 92 #[.pointer (some ⟨b, 2, none⟩)] w fun e w' =>
      e = .returned (.tuple #[]) ∧ w'.heap[b]? = some (.cells #[ifs, out,.pointer (some ⟨b, 2, none⟩), v, bg, gp] 107 (0, 0)) ∧ Fr b [107] w w' := by
  obtain ⟨j, hj, hjs⟩ := Option.map_eq_some_iff.1 Tryz.infoBuilder
  have hlt := blk_lt hb
  have hf : w.frozen? ⟨b, 2, none⟩ = false := blk_free hb 2
  rcases hp with rfl | rfl
  · have hc : w.cell? ⟨b, 2, none⟩ = some (.pointer none) := by rw [blk_cell hb]; rfl
    have hsh : w.shape? b = some (107, 6) := by simp [World.shape?, hb]
    go_enter Tryz.func92, Tryz.ntmps92
    go_wp2
    rw [Lib.run_to_unsafe w ⟨b, 2, none⟩ Tryz.underlying103 Tryz.underlying209 hj (by rw [hjs]; decide) hsh (by simp)]
    simp only [Result.andThen]
    rw [Oper.upon_value]
    go_wp2
    rw [run_callFunc_extern Tryz.func149 (by kernel_rfl) (by kernel_rfl) (by kernel_rfl) (e := Extern.AbiNoEscape.same) (by kernel_rfl)]
    rw [Lib.run_noEscape]
    simp only [Result.andThen]
    rw [Oper.upon_value]
    go_wp2
    rw [Lib.run_from_unsafe w ⟨b, 2, none⟩ Tryz.underlying209 Tryz.underlying103 hj hsh lies_fld]
    simp only [Result.andThen]
    rw [Oper.upon_value]
    go_wp2
    go_end0
    exact ⟨rfl, blk_set hb 2 _, (Fr.refl b _ w).setCell (p := ⟨b, 2, none⟩) hb (Nat.le_refl _) (by simp) _⟩
  · have hc : w.cell? ⟨b, 2, none⟩ = some (.pointer (some ⟨b, 2, none⟩)) := by rw [blk_cell hb]; rfl
    go_enter Tryz.func92, Tryz.ntmps92
    go_wp2
    rw [Lib.run_neq_ptr_same w _ Tryz.underlying103 hj]
    go_wp2
    go_end0
    exact ⟨rfl, hb, Fr.refl _ _ _⟩

set_option maxRecDepth 100000 in
set_option maxHeartbeats 1000000 in
theorem WriteString_fld (B b : Nat) (p v ifs out bg gp : Value) (l s : List UInt8) (w : World) (hb : w.heap[b]? = some (.cells #[ifs, out,p, v, bg, gp] 107 (0, 0))) (hp : p = .pointer none ∨ p = .pointer (some ⟨b, 2, none⟩))
    (hB : B ≤ b) (ho0 : Buf B l v w) (hl : l.length + s.length ≤ 4294967296) :
    Calls Tryz.prog 53 #[.pointer (some ⟨b, 2, none⟩), S s] w fun e w' =>
      e = .returned (.tuple #[I s.length, .nilIface]) ∧ ∃ v', w'.heap[b]? = some (.cells #[ifs, out,.pointer (some ⟨b, 2, none⟩), v', bg, gp] 107 (0, 0)) ∧ Buf B (l ++ s) v' w' ∧ Fr B [107, 5] w w' := by
  obtain ⟨i0, hi, hz0, hz1, hz2⟩ := info_parts Tryz.infoByte
  go_enter Tryz.func53, Tryz.ntmps53
  go_wp2_with (go_at_call 92; go_must (refine (copyCheck_fld b p v ifs out bg gp _ hb hp).mono ?_))
  rintro e w1 ⟨rfl, hb1, f1⟩
  obtain ⟨ho, hnil⟩ := ho0
  have hN := Lib.hid hnil
  clear hnil
  have ho1 := ownsRow_fr ho f1 (.inl (by decide))
  have hlt1 := blk_lt hb1
  have c1 : w1.cell? ⟨b, 3, none⟩ = some v := by rw [blk_cell hb1]; rfl
  go_wp2_with (at_builtin; go_must (refine Lib.wpList_append_own_string _ rfl _ _ 54 9 rfl B 5 i0 Tryz.underlying54 Tryz.underlying9 hi hz0 hz1 hz2 _ _ _ rfl ho1 ⟨s.toArray⟩ rfl ?c3 ?c4 ?c5 ?_))
  case c3 => unfold maxLen; rw [show (ByteArray.mk s.toArray).size = s.length from rfl]; omega
  case c4 => rw [show (ByteArray.mk s.toArray).size = s.length from rfl]; omega
  case c5 => omega
  intro v' w2 hown' hgrow hnil'
  have hN' := Lib.hid hnil'
  clear hnil'
  have hown2 : w2.ownsRow B 5 1 v' (l ++ s).length (Lib.byteCells (l ++ s)) := by
    have := hown'
    rw [Lib.strCells_eq] at this
    show w2.ownsRow B 5 1 v' (l ++ s).length _
    rw [List.length_append, Lib.byteCells_append]; exact this
  clear hown'
  obtain ⟨ao, cap, rfl⟩ := ownsRow_slice hown2
  have hb2 := blk_grown hgrow ho1 hb1 (by decide)
  have hlt2 := blk_lt hb2
  have hf2 : w2.frozen? ⟨b, 3, none⟩ = false := blk_free hb2 3
  have c2 : w2.cell? ⟨b, 3, none⟩ = some v := by rw [blk_cell hb2]; rfl
  have fr : Fr B [107, 5] w w2 := (f1.mono hB (by simp)).grownRow ho1 hgrow (by simp)
  go_wp2
  go_ret2
  rw [List.length_append] at hown2
  refine ⟨rfl, _, blk_set hb2 3 _, ?_, fr.setCell (p := ⟨b, 3, none⟩) hb2 hB (by simp) _⟩
  refine ⟨by rw [List.length_append]; exact ownsRow_set hown2 hb2 (by decide) 3 _, fun he => ?_⟩
  simp only [List.append_eq_nil_iff] at he
  have h3 := hN'.out.2 ⟨hN.out he.1, by rw [he.2]⟩
  rw [List.length_append] at h3; exact h3

set_option maxRecDepth 100000 in
set_option maxHeartbeats 1000000 in
theorem WriteByte_fld (B b : Nat) (p v ifs out bg gp : Value) (l : List UInt8) (c : UInt8) (w : World) (hb : w.heap[b]? = some (.cells #[ifs, out,p, v, bg, gp] 107 (0, 0))) (hp : p = .pointer none ∨ p = .pointer (some ⟨b, 2, none⟩))
    (hB : B ≤ b) (ho0 : Buf B l v w) (hl : l.length + 1 ≤ 4294967296) :
    Calls Tryz.prog 52 #[.pointer (some ⟨b, 2, none⟩), B8 c] w fun e w' =>
      e = .returned .nilIface ∧ ∃ v', w'.heap[b]? = some (.cells #[ifs, out,.pointer (some ⟨b, 2, none⟩), v', bg, gp] 107 (0, 0)) ∧ Buf B (l ++ [c]) v' w' ∧ Fr B [107, 5] w w' := by
  obtain ⟨i0, hi, hz0, hz1, hz2⟩ := info_parts Tryz.infoByte
  go_enter Tryz.func52, Tryz.ntmps52
  go_wp2_with (go_at_call 92; go_must (refine (copyCheck_fld b p v ifs out bg gp _ hb hp).mono ?_))
  rintro e w1 ⟨rfl, hb1, f1⟩
  obtain ⟨ho, hnil⟩ := ho0
  have hN := Lib.hid hnil
  clear hnil
  have ho1 := ownsRow_fr ho f1 (.inl (by decide))
  have hlt1 := blk_lt hb1
  have c1 : w1.cell? ⟨b, 3, none⟩ = some v := by rw [blk_cell hb1]; rfl
  go_wp2_with (at_builtin; go_must (refine wpList_append_own _ rfl _ _ 54 rfl B 5 i0 (.int .u8 0) 1 1 Tryz.underlying54 hi hz0 hz1 hz2 rfl (by decide) _ _ _ rfl (ho1.alloc _) ⟨w1.heap.size, 0, none⟩ 1 1 [B8 c] rfl rfl ?c1 ?c2 ?c3 ?c4 ?c5 ?_))
  case c1 => exact new_cells rfl _ _
  case c2 => intro u hu; simp at hu; subst hu; rfl
  case c3 => unfold maxLen; omega
  case c4 => omega
  case c5 => simp; omega
  intro v' w2 hown' hgrow hnil'
  have hN' := Lib.hid hnil'
  clear hnil'
  have hown2 : w2.ownsRow B 5 1 v' (l ++ [c]).length (Lib.byteCells (l ++ [c])) := by
    show w2.ownsRow B 5 1 v' (l ++ [c]).length _
    rw [List.length_append, Lib.byteCells_append]; exact hown'
  clear hown'
  obtain ⟨ao, cap, rfl⟩ := ownsRow_slice hown2
  have hb2 := blk_grown hgrow (ho1.alloc _) (blk_alloc hb1 _) (by decide)
  have hlt2 := blk_lt hb2
  have hf2 : w2.frozen? ⟨b, 3, none⟩ = false := blk_free hb2 3
  have c2 : w2.cell? ⟨b, 3, none⟩ = some v := by rw [blk_cell hb2]; rfl
  have fr : Fr B [107, 5] w w2 := ((f1.mono hB (by simp)).alloc _).grownRow (ho1.alloc _) hgrow (by simp)
  go_wp2
  go_ret
  rw [List.length_append, List.length_singleton] at hown2
  refine ⟨rfl, _, blk_set hb2 3 _, ?_, fr.setCell (p := ⟨b, 3, none⟩) hb2 hB (by simp) _⟩
  exact ⟨by rw [List.length_append, List.length_singleton]; exact ownsRow_set hown2 hb2 (by decide) 3 _, fun he => by simp at he⟩

set_option maxRecDepth 100000 in
set_option maxHeartbeats 1000000 in
theorem Reset_fld (B b : Nat) (p v ifs out bg gp : Value) (w : World) (hb : w.heap[b]? = some (.cells #[ifs, out,p, v, bg, gp] 107 (0, 0))) (hB : B ≤ b) :
    Calls Tryz.prog 83 #[.pointer (some ⟨b, 2, none⟩)] w fun e w' =>
      e = .returned (.tuple #[]) ∧ w'.heap[b]? = some (.cells #[ifs, out,.pointer none, NilS, bg, gp] 107 (0, 0)) ∧ Fr B [107] w w' := by
  have hlt := blk_lt hb
  have c0 : w.cell? ⟨b, 2, none⟩ = some p := by rw [blk_cell hb]; rfl
  have f0 : w.frozen? ⟨b, 2, none⟩ = false := blk_free hb 2
  have hb1 := blk_set hb 2 (.pointer none)
  have c1 : (w.setCell ⟨b, 2, none⟩ (.pointer none)).cell? ⟨b, 3, none⟩ = some v := by rw [blk_cell hb1]; rfl
  have f1 : (w.setCell ⟨b, 2, none⟩ (.pointer none)).frozen? ⟨b, 3, none⟩ = false := blk_free hb1 3
  go_enter Tryz.func83, Tryz.ntmps83
  go_wp2
  go_end0
  exact ⟨rfl, blk_set hb1 3 _, ((Fr.refl B _ w).setCell (p := ⟨b, 2, none⟩) hb hB (by simp) _).setCell (p := ⟨b, 3, none⟩) hb1 hB (by simp) _⟩

set_option maxRecDepth 100000 in
set_option maxHeartbeats 1000000 in
theorem String_fld (B b : Nat) (p v ifs out bg gp : Value) (l : List UInt8) (w : World) (hb : w.heap[b]? = some (.cells #[ifs, out,p, v, bg, gp] 107 (0, 0))) (ho : Buf B l v w) :
    Calls Tryz.prog 56 #[.pointer (some ⟨b, 2, none⟩)] w fun e w' => e = .returned (S l) ∧ Fr B [5] w w' := by
  obtain ⟨hown, hnil⟩ := ho
  have hlt := blk_lt hb
  have c1 : w.drew.cell? ⟨b, 3, none⟩ = some v := by rw [blk_cell (w := w.drew) hb]; rfl
  by_cases h0 : l = []
  · subst h0
    obtain rfl := hnil rfl
    clear hnil
    have hUS : ∀ (W : World) (q : Option Addr), (Builtin.unsafeString_ #[163, 3] 9 #[.pointer q, .int .i64 0]).run Tryz.prog W = .ok (.string .empty) W := fun W q => Lib.run_unsafeString_none W _ _ _ q
    have hSD : (Builtin.unsafeSliceData_ #[54] 163 #[.slice none 0 0]).run Tryz.prog w.drew = .ok (.pointer none) w.drew := rfl
    clear hown hb
    go_enter Tryz.func56, Tryz.ntmps56
    go_wp2
    go_region
    all_goals (go_wp2; go_ret; exact ⟨rfl, (Fr.refl B _ w).drew⟩)
  · have hl0 : l.length ≠ 0 := by simpa using h0
    clear hnil
    obtain ⟨g, cap, cur, rfl, hbg, hg, hnc, hcm, hcs, htake⟩ : ∃ g cap cur, v = .slice (some ⟨g, 0, none⟩) l.length cap ∧ B ≤ g ∧ w.heap[g]? = some (.cells cur 5 (0, 0)) ∧ l.length ≤ cap ∧ cap ≤ maxLen ∧ cur.size = cap * 1 ∧ cur.toList.take (l.length * 1) = Lib.byteCells l := by
      rcases hown.2 with ⟨_, hz⟩ | ⟨g, cap, cur, hv, r⟩
      · exact absurd hz hl0
      · exact ⟨g, cap, cur, hv, r⟩
    have hSD : (Builtin.unsafeSliceData_ #[54] 163 #[.slice (some ⟨g, 0, none⟩) l.length cap]).run Tryz.prog w.drew = .ok (.pointer (some ⟨g, 0, none⟩)) w.drew :=
      Lib.run_unsafeSliceData_row _ _ _ _ _ _ (by omega)
    have hUS : (Builtin.unsafeString_ #[163, 3] 9 #[.pointer (some ⟨g, 0, none⟩), .int .i64 l.length]).run Tryz.prog w.drew = .ok (.string ⟨l.toArray⟩) (w.drew.freeze ⟨g, 0, none⟩ l.length) := by
      refine Lib.run_unsafeString_row w.drew 163 3 9 5 Tryz.underlying163 (by kernel_rfl) g cur.size (by have hg' : w.drew.heap[g]? = some (.cells cur 5 (0, 0)) := hg; simp [World.shape?, hg']) l h0 (by omega) (by unfold maxLen at hcm; omega) ?_
      intro j x hx
      have := hown.cells (g := g) rfl j (.int .u8 x.toNat) (by simp [Lib.byteCells, hx])
      exact this
    have fr : Fr B [5] w (w.drew.freeze ⟨g, 0, none⟩ l.length) := (Fr.refl B _ w).drew.freeze (p := ⟨g, 0, none⟩) (c := cur) (e := 5) (f := (0, 0)) hg hbg (by simp) _
    have hF := Lib.hid fr
    clear hown hb hcm hnc hcs htake hbg hg fr
    go_enter Tryz.func56, Tryz.ntmps56
    go_wp2
    go_region
    all_goals (go_wp2; go_ret; exact ⟨rfl, hF.out⟩)
end Go.Proofs.YtdffbbfhcdhpdaaGreatDoor
