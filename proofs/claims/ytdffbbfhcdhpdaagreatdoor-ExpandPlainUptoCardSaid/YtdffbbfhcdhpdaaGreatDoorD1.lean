/- ref07.Skip on plain text, ref08.dollar on a name. -/
import Derived.Test.YtdffbbfhcdhpdaaGreatDoorD0
namespace Go.Proofs.YtdffbbfhcdhpdaaGreatDoor
open Go.RowKit

def plainAt (s : List UInt8) (i : Nat) (h : i < s.length) : Prop := s[i] ≠ 92 ∧ s[i] ≠ 39 ∧ s[i] ≠ 34 ∧ begins (s.drop i) [36, 40] = false ∧ begins (s.drop i) [36, 123] = false
set_option maxRecDepth 100000 in
set_option maxHeartbeats 600000 in
theorem skip_plain (s : List UInt8) (i d : Nat) (w : World) (hi : i < s.length) (hd : d ≤ 30) (hs : s.length ≤ 4294967296) (hp : plainAt s i hi) :
    Calls Tryz.prog 57 #[S s, I i, I d] w fun e w' => e = .returned (I (i + 1)) ∧ w = w' := by
  obtain ⟨h1, h2, h3, h4, h5⟩ := hp
  have e1 : ((s[i].toNat : Int) == 92) = false := u8_ne h1
  have e2 : ((s[i].toNat : Int) == 39) = false := u8_ne h2
  have e3 : ((s[i].toNat : Int) == 34) = false := u8_ne h3
  have H := Lib.hid (And.intro h4 h5)
  clear h4 h5
  go_enter Tryz.func57, Tryz.ntmps57
  go_wp2_with fail
  refine (begins07 s [36, 40] i _ (by omega) hs (by simp)).mono ?_
  rintro e w' ⟨rfl, rfl⟩
  rw [H.out.1]
  go_wp2_with fail
  refine (begins07 s [36, 123] i _ (by omega) hs (by simp)).mono ?_
  rintro e w' ⟨rfl, rfl⟩
  rw [H.out.2]
  go_wp2_with fail
  go_ret
  exact ⟨by go_num, rfl⟩

set_option maxRecDepth 100000 in
set_option maxHeartbeats 600000 in
theorem until_quote (s : List UInt8) (i j d : Nat) (w : World) (hij : i ≤ j) (hj : j < s.length) (hd : d ≤ 30) (hs : s.length ≤ 4294967296) (hq : s[j] = 34) (hp : ∀ t (h : t < s.length), i ≤ t → t < j → plainAt s t h) :
    Calls Tryz.prog 94 #[S s, I i, .int .u8 34, I d] w fun e w' => e = .returned (I (j + 1)) ∧ w = w' := by
  have HP := Lib.hid hp
  have HQ := Lib.hid hq
  clear hp hq
  go_enter Tryz.func94, Tryz.ntmps94
  go_wp2_with fail
  go_loopw [1] (fun x wr => ∃ k : Nat, i ≤ k ∧ k ≤ j ∧ x = I k ∧ w = wr) (fun x _ => j + 1 - (intOf x).toNat)
  case atStart => exact ⟨i, by omega, by omega, rfl, rfl⟩
  case round =>
    obtain ⟨k, hik, hkj, rfl, rfl⟩ := hrel
    by_cases hlt : k < j
    · have hp := HP.out k (by omega) hik hlt
      have e1 : ((s[k].toNat : Int) == 34) = false := u8_ne hp.2.2.1
      have e2 : ((s[k].toNat : Int) == 39) = false := u8_ne hp.2.1
      have H := Lib.hid hp
      clear hp
      go_wp2_with fail
      refine (skip_plain s k d _ (by omega) hd hs H.out).mono ?_
      rintro e w' ⟨rfl, rfl⟩
      go_wp2_with fail
      go_roundw
      case rel => exact ⟨k + 1, by omega, by omega, by go_num, by trivial⟩
      case measure => simp [intOf]; omega
    · obtain rfl : k = j := by omega
      have e1 : ((s[k].toNat : Int) == 34) = true := by rw [HQ.out]; rfl
      go_wp2_with fail
      go_ret
      exact ⟨by go_num, rfl⟩

set_option maxRecDepth 100000 in
set_option maxHeartbeats 600000 in
theorem skip_quote (s : List UInt8) (i j d : Nat) (w : World) (hij : i < j) (hj : j < s.length) (hd : d < 30) (hs : s.length ≤ 4294967296) (hi : s[i] = 34) (hq : s[j] = 34) (hp : ∀ t (h : t < s.length), i < t → t < j → plainAt s t h) :
    Calls Tryz.prog 57 #[S s, I i, I d] w fun e w' => e = .returned (I (j + 1)) ∧ w = w' := by
  have e1 : ((s[i].toNat : Int) == 92) = false := by rw [hi]; rfl
  have e2 : ((s[i].toNat : Int) == 39) = false := by rw [hi]; rfl
  have e3 : ((s[i].toNat : Int) == 34) = true := by rw [hi]; rfl
  have HP := Lib.hid hp
  have HQ := Lib.hid hq
  clear hp hq hi
  go_enter Tryz.func57, Tryz.ntmps57
  go_wp2_with fail
  refine (until_quote s (i + 1) j (d + 1) _ (by omega) hj (by omega) hs HQ.out (fun t h h1 h2 => HP.out t h (by omega) h2)).mono ?_
  rintro e w' ⟨rfl, rfl⟩
  go_wp2_with fail
  go_ret
  exact ⟨rfl, rfl⟩

theorem dollar_end (R : Ending → World → Prop) (T : Array Value) (B : Nat) (p : PartS) (n : Int) (W : World) (hwd : ∃ a n c, p.word = .slice a n c) (h6 : T.getD 6 undef = Ptr B) (h7 : T.getD 7 undef = I n) (h8 : T.getD 8 undef = I 0)
    (hb : W.heap[B]? = some (.cells #[I p.kind, .bool p.quoted, S p.text, S p.name, S p.op, p.word] 42 (0, 0))) (hR : R (.returned (.tuple #[p.agg, I n, I 0])) W) : bodyPost Tryz.prog Tryz.f58 R .ret ⟨T, []⟩ W := by
  have e0 : W.cell? ⟨B, 0, none⟩ = some (I p.kind) := (blk_cell hb 0).trans rfl
  have e1 : W.cell? ⟨B, 1, none⟩ = some (.bool p.quoted) := (blk_cell hb 1).trans rfl
  have e2 : W.cell? ⟨B, 2, none⟩ = some (S p.text) := (blk_cell hb 2).trans rfl
  have e3 : W.cell? ⟨B, 3, none⟩ = some (S p.name) := (blk_cell hb 3).trans rfl
  have e4 : W.cell? ⟨B, 4, none⟩ = some (S p.op) := (blk_cell hb 4).trans rfl
  have e5 : W.cell? ⟨B, 5, none⟩ = some p.word := (blk_cell hb 5).trans rfl
  obtain ⟨k, q, t, m, o, wd⟩ := p
  obtain ⟨a1, a2, a3, rfl⟩ := hwd
  refine bodyPost_ret ?_ rfl hR
  simp only [Array.getD_eq_getD_getElem?] at h6 h7 h8
  simp only at e0 e1 e2 e3 e4 e5
  simp [results, Tryz.results58, go_sem, h6, h7, h8, e0, e1, e2, e3, e4, e5]

set_option maxRecDepth 100000 in
set_option maxHeartbeats 600000 in
theorem dollar_name (s : List UInt8) (q : Bool) (d : Int) (w : World) (hs1 : 1 ≤ s.length) (hs : s.length ≤ 4294967296) (b1 : begins s [36, 40] = false) (b2 : begins s [36, 123] = false) (hn : 0 < (nameOf (s.tail)).length) (hnl : (nameOf (s.tail)).length + 1 ≤ s.length)
    (hne : (s.take ((nameOf (s.tail)).length + 1)).tail = nameOf (s.tail)) :
    Calls Tryz.prog 58 #[S s, .bool q, I d] w fun e w' => e = .returned (.tuple #[PartS.agg ⟨1, q, [], nameOf (s.tail), [], NilS⟩, I ((nameOf (s.tail)).length + 1), I 0]) ∧ Below w.heap.size w w' := by
  have H := Lib.hid (And.intro b1 b2)
  have HNE := Lib.hid hne
  clear b1 b2 hne
  have hdl : (s.tail).length ≤ 4294967296 := by rw [List.length_tail]; omega
  go_enter Tryz.func58, Tryz.ntmps58
  go_wp2_with fail
  refine (begins08 s [36, 40] _).mono ?_
  rintro e w' ⟨rfl, rfl⟩
  rw [H.out.1]
  go_wp2_with fail
  refine (begins08 s [36, 123] _).mono ?_
  rintro e w' ⟨rfl, rfl⟩
  rw [H.out.2]
  go_wp2_with fail
  refine (name08 s.tail _ hdl).mono ?_
  rintro e w' ⟨rfl, rfl⟩
  generalize hnm : nameOf s.tail = nm at hn hnl HNE
  have HNM := Lib.hid hnm
  clear hnm
  clear hdl H
  have hz1 : ¬ nm = [] := by intro e; rw [e] at hn; simp at hn
  have hz2 : ((nm.length : Int) == 0) = false := by rw [beq_eq_false_iff_ne]; omega
  go_wp2_with fail
  refine dollar_end _ _ w.heap.size ⟨1, q, [], nm, [], NilS⟩ (nm.length + 1) _ ⟨_, _, _, rfl⟩ rfl rfl rfl ?_ ⟨?_, (Below.refl _ w).alloc (Nat.le_refl _) _⟩
  · rw [HNE.out]; exact blk_new _ _
  · rw [HNM.out]
end Go.Proofs.YtdffbbfhcdhpdaaGreatDoor
