/- ref08.double and ref08.parts on awake's text. -/
import Derived.Test.YtdffbbfhcdhpdaaGreatDoorD2
namespace Go.Proofs.YtdffbbfhcdhpdaaGreatDoor
open Go.RowKit

def strLen : Value → Nat
  | .string b => b.size
  | _ => 0
abbrev partX (q : Bool) : PartS := ⟨1, q, [], [120], [], NilS⟩
theorem dollar_x (r : List UInt8) (q : Bool) (d : Int) (w : World) (hr : r = [] ∨ ∃ t, r = 34 :: t) (hs : r.length ≤ 1048576) :
    Calls Tryz.prog 58 #[S (36 :: 120 :: r), .bool q, I d] w fun e w' => e = .returned (.tuple #[(partX q).agg, I 2, I 0]) ∧ Below w.heap.size w w' := by
  have hn : nameOf (120 :: r) = [120] := by
    rcases hr with rfl | ⟨t, rfl⟩
    · decide
    · have h1 : isL 120 = true := by decide
      have h2 : (isL 34 || isD 34) = false := by decide
      simp [nameOf, h1, h2]
  have := dollar_name (36 :: 120 :: r) q d w (by simp) (by simp; omega) (by simp [begins]) (by simp [begins]) (by rw [List.tail_cons, hn]; decide) (by rw [List.tail_cons, hn]; simp) (by rw [List.tail_cons, hn]; simp)
  rw [List.tail_cons, hn] at this
  exact this

/-- A part's six cells, laid. -/
abbrev World.part (w : World) (b : Nat) (u0 u1 u2 u3 u4 u5 : Value) : World :=
  (((((w.setCell ⟨b, 0, none⟩ u0).setCell ⟨b, 1, none⟩ u1).setCell ⟨b, 2, none⟩ u2).setCell ⟨b, 3, none⟩ u3).setCell ⟨b, 4, none⟩ u4).setCell ⟨b, 5, none⟩ u5
theorem below_part {B b : Nat} {a w : World} (h : Below B a w) (hB : B ≤ b) (u0 u1 u2 u3 u4 u5 : Value) : Below B a (World.part w b u0 u1 u2 u3 u4 u5) :=
  (((((h.setCell (p := ⟨b, 0, none⟩) hB _).setCell (p := ⟨b, 1, none⟩) hB _).setCell (p := ⟨b, 2, none⟩) hB _).setCell (p := ⟨b, 3, none⟩) hB _).setCell (p := ⟨b, 4, none⟩) hB _).setCell (p := ⟨b, 5, none⟩) hB _
set_option maxRecDepth 100000 in
set_option maxHeartbeats 1000000 in
theorem double_x (d : Int) (w : World) :
    Calls Tryz.prog 60 #[S [36, 120], I d] w fun e w' => ∃ r, e = .returned (.tuple #[r, I 0]) ∧ w'.ownsRow w.heap.size 42 6 r 1 (partCells [partX true]) ∧ Below w.heap.size w w' := by
  go_enter Tryz.func60, Tryz.ntmps60
  go_wp2_with fail
  go_loopw [0, 6] (fun x v wr => (x = S [36, 120] ∧ v = NilS ∧ wr = w) ∨ (x = S [] ∧ wr.ownsRow w.heap.size 42 6 v 1 (partCells [partX true]) ∧ Below w.heap.size w wr)) (fun x _ _ => strLen x)
  case atStart => exact .inl ⟨rfl, rfl, rfl⟩
  case round =>
    rcases hrel with ⟨rfl, rfl, rfl⟩ | ⟨rfl, ho, hbe⟩
    · go_wp2_with fail
      refine (dollar_x [] true d _ (.inl rfl) (by simp)).mono ?_
      rintro e w1 ⟨rfl, hb1⟩
      have hbl := blk_ext hb1 (blk_new wr _)
      have hB1 : Below wr.heap.size wr w1 := ((Below.refl _ wr).alloc (Nat.le_refl _) _).trans (hb1.mono (by simp))
      have hl := blk_lt hbl
      have c0 : w1.cell? ⟨wr.heap.size, 0, none⟩ = some (.int .i64 0) := (blk_cell hbl 0).trans rfl
      have f0 : w1.frozen? ⟨wr.heap.size, 0, none⟩ = false := blk_free hbl 0
      have c1 : w1.cell? ⟨wr.heap.size, 1, none⟩ = some (.bool true) := (blk_cell hbl 1).trans rfl
      have f1 : w1.frozen? ⟨wr.heap.size, 1, none⟩ = false := blk_free hbl 1
      have c2 : w1.cell? ⟨wr.heap.size, 2, none⟩ = some (S [36]) := (blk_cell hbl 2).trans rfl
      have f2 : w1.frozen? ⟨wr.heap.size, 2, none⟩ = false := blk_free hbl 2
      have c3 : w1.cell? ⟨wr.heap.size, 3, none⟩ = some (S []) := (blk_cell hbl 3).trans rfl
      have f3 : w1.frozen? ⟨wr.heap.size, 3, none⟩ = false := blk_free hbl 3
      have c4 : w1.cell? ⟨wr.heap.size, 4, none⟩ = some (S []) := (blk_cell hbl 4).trans rfl
      have f4 : w1.frozen? ⟨wr.heap.size, 4, none⟩ = false := blk_free hbl 4
      have c5 : w1.cell? ⟨wr.heap.size, 5, none⟩ = some NilS := (blk_cell hbl 5).trans rfl
      have f5 : w1.frozen? ⟨wr.heap.size, 5, none⟩ = false := blk_free hbl 5
      clear hb1 hbl
      have hB2 := below_part hB1 (Nat.le_refl _) (I 1) (.bool true) (S []) (S [120]) (S []) NilS
      go_wp2_with fail
      refine (add_append 0 NilS [] (partX true) _ (Sl.nil _ _ _ _) (by simp) (by simp) ⟨_, _, _, rfl⟩ (.inr rfl)).mono ?_
      rintro e w3 ⟨r, rfl, hr, hb3⟩
      have hB3 := hB2.trans (hb3.mono hB2.size)
      have hr3 : w3.ownsRow wr.heap.size 42 6 r 1 (partCells [partX true]) := by
        rcases hr.2 with hn | ⟨g, cap, cur, hv, hb, rest⟩
        · exact ⟨hr.1, .inl hn⟩
        · exact ⟨hr.1, .inr ⟨g, cap, cur, hv, Nat.le_trans hB2.size hb, rest⟩⟩
      clear hB2 hb3 hr hB1 c0 c1 c2 c3 c4 c5 f0 f1 f2 f3 f4 f5
      go_wp2_with fail
      go_roundw
      case rel => exact .inr ⟨rfl, hr3, hB3⟩
      case measure => simp [strLen]; decide
    · go_wp2_with fail
      go_ret2
      exact ⟨_, rfl, ho, hbe⟩

theorem ownsRow_low {w : World} {B B' : Nat} {e : TypeId} {k : Nat} {v : Value} {n : Nat} {xs : List Value} (h : w.ownsRow B e k v n xs) (hB : B' ≤ B) : w.ownsRow B' e k v n xs := by
  rcases h.2 with hn | ⟨g, cap, cur, hv, hb, rest⟩
  · exact ⟨h.1, .inl hn⟩
  · exact ⟨h.1, .inr ⟨g, cap, cur, hv, Nat.le_trans hB hb, rest⟩⟩
theorem add_on (B : Nat) (v : Value) (ps : List PartS) (p : PartS) (w : World) (hB : B ≤ w.heap.size) (hv : w.ownsRow B 42 6 v ps.length (partCells ps)) (hn : ps.length ≤ 1048576) (hw : ∀ p ∈ ps, ∃ a n c, p.word = .slice a n c) (hwp : ∃ a n c, p.word = .slice a n c) (hk : p.kind ≠ 0 ∨ ps = []) :
    Calls Tryz.prog 59 #[v, p.agg] w fun e w' => ∃ r, e = .returned r ∧ w'.ownsRow B 42 6 r (ps ++ [p]).length (partCells (ps ++ [p])) ∧ Below w.heap.size w w' := by
  refine (add_append B v ps p w (Sl.of_owns hv) hn hw hwp hk).mono ?_
  rintro e w' ⟨r, rfl, hr, hb⟩
  exact ⟨r, rfl, by rw [List.length_append]; exact ownsRow_low hr hB, hb⟩

abbrev partA : PartS := ⟨0, false, [97], [], [], NilS⟩
abbrev awakeText : List UInt8 := [97, 36, 120, 34, 36, 120, 34]
abbrev awakeParts : List PartS := [partA, partX false, partX true]

set_option maxRecDepth 100000 in
set_option maxHeartbeats 1000000 in
theorem parts_awake (w : World) :
    Calls Tryz.prog 32 #[S awakeText, I 1] w fun e w' => ∃ r, e = .returned (.tuple #[r, I 0]) ∧ w'.ownsRow w.heap.size 42 6 r 3 (partCells awakeParts) ∧ Below w.heap.size w w' := by
  go_enter Tryz.func32, Tryz.ntmps32
  go_wp2_with fail
  go_loopw [0, 6] (fun x v wr => Below w.heap.size w wr ∧ ((x = S awakeText ∧ v = NilS) ∨ (x = S [36, 120, 34, 36, 120, 34] ∧ wr.ownsRow w.heap.size 42 6 v 1 (partCells [partA])) ∨ (x = S [34, 36, 120, 34] ∧ wr.ownsRow w.heap.size 42 6 v 2 (partCells [partA, partX false])) ∨
    (x = S [] ∧ wr.ownsRow w.heap.size 42 6 v 3 (partCells awakeParts)))) (fun x _ _ => strLen x)
  case atStart => exact ⟨Below.refl _ _, .inl ⟨rfl, rfl⟩⟩
  case round =>
    obtain ⟨hbe, hst⟩ := hrel
    have hbs := hbe.size
    have hbN : ∀ o, Below w.heap.size w (wr.alloc o) := fun o => hbe.alloc hbs o
    rcases hst with ⟨rfl, rfl⟩ | ⟨rfl, ho⟩ | ⟨rfl, ho⟩ | ⟨rfl, ho⟩
    · go_wp2_with fail
      refine (add_on w.heap.size NilS [] partA _ (by simp; omega) ⟨rfl, .inl ⟨rfl, rfl⟩⟩ (by simp) (by simp) ⟨_, _, _, rfl⟩ (.inr rfl)).mono ?_
      rintro e w3 ⟨r, rfl, hr, hb3⟩
      have hB3 := (hbN _).trans (hb3.mono (by simp; omega))
      clear hb3 hbN
      go_wp2_with fail
      go_roundw
      case rel => exact ⟨hB3, .inr (.inl ⟨rfl, hr⟩)⟩
      case measure => simp [strLen]; decide
    · go_wp2_with fail
      refine (dollar_x [34, 36, 120, 34] false 1 _ (.inr ⟨_, rfl⟩) (by simp)).mono ?_
      rintro e w1 ⟨rfl, hb1⟩
      have hbl := blk_ext hb1 (blk_new wr _)
      have hB1 : Below wr.heap.size wr w1 := ((Below.refl _ wr).alloc (Nat.le_refl _) _).trans (hb1.mono (by simp))
      have hl := blk_lt hbl
      have c0 : w1.cell? ⟨wr.heap.size, 0, none⟩ = some (.int .i64 0) := (blk_cell hbl 0).trans rfl
      have f0 : w1.frozen? ⟨wr.heap.size, 0, none⟩ = false := blk_free hbl 0
      have c1 : w1.cell? ⟨wr.heap.size, 1, none⟩ = some (.bool false) := (blk_cell hbl 1).trans rfl
      have f1 : w1.frozen? ⟨wr.heap.size, 1, none⟩ = false := blk_free hbl 1
      have c2 : w1.cell? ⟨wr.heap.size, 2, none⟩ = some (S [36]) := (blk_cell hbl 2).trans rfl
      have f2 : w1.frozen? ⟨wr.heap.size, 2, none⟩ = false := blk_free hbl 2
      have c3 : w1.cell? ⟨wr.heap.size, 3, none⟩ = some (S []) := (blk_cell hbl 3).trans rfl
      have f3 : w1.frozen? ⟨wr.heap.size, 3, none⟩ = false := blk_free hbl 3
      have c4 : w1.cell? ⟨wr.heap.size, 4, none⟩ = some (S []) := (blk_cell hbl 4).trans rfl
      have f4 : w1.frozen? ⟨wr.heap.size, 4, none⟩ = false := blk_free hbl 4
      have c5 : w1.cell? ⟨wr.heap.size, 5, none⟩ = some NilS := (blk_cell hbl 5).trans rfl
      have f5 : w1.frozen? ⟨wr.heap.size, 5, none⟩ = false := blk_free hbl 5
      have hB2' := below_part hB1 (Nat.le_refl _) (I 1) (.bool false) (S []) (S [120]) (S []) NilS
      have hO2 := ownsRow_fr ho (C := 0) (E := []) (Fr.of_below hB2' (Nat.le_refl _)) (.inl (by simp))
      have hB2 := hbe.trans (hB2'.mono hbs)
      have H := Lib.hid (And.intro hB2 hO2)
      clear hb1 hbl hB2 hB2' hO2 hbN hB1 ho
      go_wp2_with fail
      refine (add_on w.heap.size _ [partA] (partX false) _ H.out.1.size H.out.2 (by simp) (by simp) ⟨_, _, _, rfl⟩ (.inl (by decide))).mono ?_
      rintro e w3 ⟨r, rfl, hr, hb3⟩
      have hB3 := H.out.1.trans (hb3.mono H.out.1.size)
      clear hb3 H c0 c1 c2 c3 c4 c5 f0 f1 f2 f3 f4 f5
      go_wp2_with fail
      go_roundw
      case rel => exact ⟨hB3, .inr (.inr (.inl ⟨rfl, hr⟩))⟩
      case measure => simp [strLen]; decide
    · have hsk : ∀ W, Calls Tryz.prog 57 #[S [34, 36, 120, 34], I 0, I 1] W fun e w' => e = .returned (I 4) ∧ W = w' := fun W =>
        skip_quote [34, 36, 120, 34] 0 3 1 W (by decide) (by decide) (by decide) (by simp) rfl rfl (by
          intro t h h1 h2
          have : t = 1 ∨ t = 2 := by omega
          rcases this with rfl | rfl <;> simp [plainAt, begins])
      have HK := Lib.hid hsk
      clear hsk
      go_wp2_with fail
      refine (HK.out _).mono ?_
      rintro e w' ⟨rfl, rfl⟩
      clear HK
      go_wp2_with fail
      refine (double_x 1 _).mono ?_
      rintro e w5 ⟨r, rfl, hr, hb5⟩
      obtain ⟨ra, rc, rfl⟩ := ownsRow_slice hr
      have hO5 := ownsRow_fr ((ho.alloc (.cells #[.int .i64 0, .bool true, S [36, 120], S [], S [], NilS] 42))) (C := 0) (E := []) (Fr.of_below hb5 (Nat.le_refl _)) (.inl (by simp))
      have hB5 := (hbN _).trans (hb5.mono (by simp; omega))
      obtain ⟨a', c', hv', _, hcs⟩ := part_cell (l := [partX true]) (Sl.of_owns (B := 0) hr)
      obtain ⟨rb, ro, rfl, hrb, d0, d1, d2, d3, d4, d5⟩ := hcs 0 (by simp)
      cases hv'
      rw [Nat.zero_mul, Nat.add_zero] at d0 d1 d2 d3 d4 d5
      have d0' : w5.cell? ⟨rb, ro, none⟩ = some (I 1) := d0
      have d1' : w5.cell? ⟨rb, ro + 1, none⟩ = some (.bool true) := d1
      have d2' : w5.cell? ⟨rb, ro + 1 + 1, none⟩ = some (S []) := d2
      have d3' : w5.cell? ⟨rb, ro + 1 + 1 + 1, none⟩ = some (S [120]) := d3
      have d4' : w5.cell? ⟨rb, ro + 1 + 1 + 1 + 1, none⟩ = some (S []) := d4
      have d5' : w5.cell? ⟨rb, ro + 1 + 1 + 1 + 1 + 1, none⟩ = some NilS := d5
      clear d0 d1 d2 d3 d4 d5 hcs hr hb5 ho hbN hbe
      go_wp2_with fail
      go_loopw [6, 11] (fun v i w6 => (v = u6 ∧ i = I 0 ∧ w6 = w5) ∨ (i = I 1 ∧ w6.ownsRow w.heap.size 42 6 v 3 (partCells awakeParts) ∧ Below w.heap.size w w6)) (fun _ i _ => 1 - (intOf i).toNat)
      case atStart => exact .inl ⟨rfl, rfl, rfl⟩
      case round =>
        rcases hrel with ⟨rfl, rfl, rfl⟩ | ⟨rfl, ho6, hB6⟩
        · go_wp2_with fail
          refine (add_on w.heap.size _ [partA, partX false] (partX true) _ hB5.size hO5 (by simp) (by simp) ⟨_, _, _, rfl⟩ (.inl (by decide))).mono ?_
          rintro e w7 ⟨r7, rfl, hr7, hb7⟩
          have hB7 := hB5.trans (hb7.mono hB5.size)
          clear hb7 d0' d1' d2' d3' d4' d5'
          go_wp2_with fail
          go_roundw
          case rel => exact .inr ⟨rfl, hr7, hB7⟩
          case measure => simp [intOf]
        · go_wp2_with fail
          go_roundw
          case rel => exact ⟨hB6, .inr (.inr (.inr ⟨rfl, ho6⟩))⟩
          case measure => simp [strLen]; decide
    · go_wp2_with fail
      go_ret2
      exact ⟨_, rfl, ho, hbe⟩
end Go.Proofs.YtdffbbfhcdhpdaaGreatDoor
