/- ref08.dollar, out of the contract of ref08.parts one deeper. -/
import Derived.Test.YtdffbbfhcdhpdaaGreatDoorF5
namespace Go.Proofs.YtdffbbfhcdhpdaaGreatDoor
open Go.RowKit

def BracesC (d : Nat) : Prop := ∀ (s : List UInt8) (q : Bool) (w : World), s.length ≤ 1048576 → Calls Tryz.prog 97 #[S s, .bool q, I d] w (BrE s w)
/-- What dollar answers. -/
def DoE (s : List UInt8) (w : World) (e : Ending) (w' : World) : Prop :=
  ∃ (p : PartS) (t : PT) (n err : Int), e = .returned (.tuple #[p.agg, I n, I err]) ∧ t.at w.heap.size w' p ∧ (err = 0 → t.wf ∧ ∃ k : Nat, n = k ∧ 1 ≤ k ∧ k ≤ s.length ∧ t.size ≤ 2 * k) ∧ Below w.heap.size w w'
theorem dollar_end2 (R : Ending → World → Prop) (T : Array Value) (B : Nat) (p : PartS) (n err : Int) (W : World) (hwd : ∃ a n c, p.word = .slice a n c) (h6 : T.getD 6 undef = Ptr B) (h7 : T.getD 7 undef = I n) (h8 : T.getD 8 undef = I err)
    (hb : W.heap[B]? = some (.cells #[I p.kind, .bool p.quoted, S p.text, S p.name, S p.op, p.word] 42 (0, 0))) (hR : R (.returned (.tuple #[p.agg, I n, I err])) W) : bodyPost Tryz.prog Tryz.f58 R .ret ⟨T, []⟩ W := by
  have e0 : W.cell? ⟨B, 0, none⟩ = some (I p.kind) := (blk_cell hb 0).trans rfl
  have e1 : W.cell? ⟨B, 1, none⟩ = some (.bool p.quoted) := (blk_cell hb 1).trans rfl
  have e2 : W.cell? ⟨B, 2, none⟩ = some (S p.text) := (blk_cell hb 2).trans rfl
  have e3 : W.cell? ⟨B, 3, none⟩ = some (S p.name) := (blk_cell hb 3).trans rfl
  have e4 : W.cell? ⟨B, 4, none⟩ = some (S p.op) := (blk_cell hb 4).trans rfl
  have e5 : W.cell? ⟨B, 5, none⟩ = some p.word := (blk_cell hb 5).trans rfl
  obtain ⟨k, q, t, m, o, wd⟩ := p
  obtain ⟨a1, a2, a3, rfl⟩ := hwd
  refine bodyPost_ret ?_ rfl hR
  simp only [Array.getD_eq_getD_getElem?] at h6 h7 h8
  simp only at e0 e1 e2 e3 e4 e5
  simp [results, Tryz.results58, go_sem, h6, h7, h8, e0, e1, e2, e3, e4, e5]
/-- A part without a word of its own, in the result's variable. -/
theorem dollar_leaf {s : List UInt8} {w : World} (k : Int) (q : Bool) (t n o : List UInt8) (m : Nat) (n' : Int) (hn' : n' = m) (hk : k = 0 ∨ k = 1 ∨ k = 2 ∨ k = 3) (hn : k = 1 → NameP n ∧ OpP n o) (h1 : 1 ≤ m) (h2 : m ≤ s.length) (hz : 1 + t.length + n.length + o.length ≤ 2 * m) (o' : Obj) :
    DoE s w (.returned (.tuple #[PartS.agg ⟨k, q, t, n, o, NilS⟩, I n', I 0])) (w.alloc o') :=
  ⟨_, .mk k q t n o [], n', 0, rfl, PT.at_leaf _ _ _ _ _ _ _, fun _ => ⟨by rw [PT.wf_iff]; exact ⟨hk, hn, by simp [PT.word, PT.wfs]⟩, m, hn', h1, h2, by simp only [PT.size, PT.sizes]; omega⟩, (Below.refl _ w).alloc (Nat.le_refl _) _⟩

set_option maxRecDepth 100000 in
set_option maxHeartbeats 2000000 in
theorem dollar_in (d : Nat) (hBr : BracesC d) (s : List UInt8) (q : Bool) (w : World) (hs : s.length ≤ 1048576) (hb : begins s [36, 40] = true ∨ (begins s [36, 40] = false ∧ begins s [36, 123] = true)) :
    Calls Tryz.prog 58 #[S s, .bool q, I d] w (DoE s w) := by
  have h2 : 2 ≤ s.length := by
    rcases hb with h | ⟨_, h⟩ <;> exact begins_le h
  have hsk := skip_any 1 (by decide) s 0 (w.alloc zPart) (by omega) (by omega)
  have hb3 : begins (s.drop 0) [36, 40] = true ∨ begins (s.drop 0) [36, 123] = true := hb.imp id (fun h => h.2)
  have SK := Lib.hid hsk
  have HB3 := Lib.hid hb3
  have HBr := Lib.hid hBr
  have HS := Lib.hid hs
  clear hsk hb3 hBr
  go_enter Tryz.func58, Tryz.ntmps58
  go_wp2_with fail
  refine (begins08 s [36, 40] _).mono ?_
  rintro e w' ⟨rfl, rfl⟩
  rcases hb with hb | ⟨hb1, hb2⟩
  rotate_left
  focus
    rw [hb1]
    clear hb1
    have HB2 := Lib.hid hb2
    clear hb2
    go_wp2_with fail
    refine (begins08 s [36, 123] _).mono ?_
    rintro e w' ⟨rfl, rfl⟩
    rw [HB2.out]
    clear HB2
    go_wp2_with fail
  rotate_left
  focus
    rw [hb]
    clear hb
    go_wp2_with fail
  all_goals
    refine SK.out.mono ?_
    rintro e w' ⟨r, rfl, hr, rfl⟩
    rcases hr with rfl | ⟨k, rfl, hk1, hk2, _, hk3⟩
    · have fin : DoE s w (.returned (.tuple #[PartS.agg ⟨0, false, [], [], [], NilS⟩, I 0, I 90])) (w.alloc zPart) :=
        ⟨_, .mk 0 false [] [] [] [], 0, 90, rfl, PT.at_leaf _ _ _ _ _ _ _, fun h => absurd h (by decide), (Below.refl _ w).alloc (Nat.le_refl _) _⟩
      have FIN := Lib.hid fin
      clear fin SK
      go_wp2_with fail
      refine dollar_end2 _ _ w.heap.size ⟨0, false, [], [], [], NilS⟩ 0 90 _ ⟨_, _, _, rfl⟩ rfl rfl rfl (blk_new _ _) FIN.out
    · have hk4 := hk3 HB3.out
      obtain ⟨m, rfl⟩ : ∃ m, k = m + 3 := ⟨k - 3, by omega⟩
      clear hk3 hk1 SK HB3
      have hm1 : (m : Int) + 3 ≤ s.length := by omega
      have hm2 : (m : Int) + 2 ≤ s.length := by omega
      have hm3 : (0 : Int) ≤ m := by omega
      cases hc : (((s[1]'(by omega)).toNat : Int) == 123) with
      | true =>
        have hln : ((s.take (m + 2)).drop 2).length = m := by rw [List.length_drop, List.length_take]; omega
        have HL := Lib.hid hln
        clear hln
        go_wp2_with fail
        refine (HBr.out ((s.take (m + 2)).drop 2) q _ (by rw [HL.out]; omega)).mono ?_
        rintro e w2 ⟨p, t, err, rfl, hat, hok, hb2⟩
        have hwd := PT.at_word hat
        obtain ⟨kd, qq, tx, nm, op, wd⟩ := p
        obtain ⟨wa, wn, wc, hwd⟩ := hwd
        dsimp only at hwd
        subst hwd
        have z6 := blk_ext hb2 (blk_new w zPart)
        have hB2 : Below w.heap.size w w2 := ((Below.refl _ w).alloc (Nat.le_refl _) zPart).trans (hb2.mono (by simp))
        have hB3 := hB2.alloc hB2.size (.cells #[I kd, .bool qq, S tx, S nm, S op, .slice wa wn wc] 42)
        have z6' := blk_alloc z6 (.cells #[I kd, .bool qq, S tx, S nm, S op, .slice wa wn wc] 42)
        have hl6 := blk_lt z6
        have hl6' := blk_lt z6'
        have c0 : w2.cell? ⟨w.heap.size, 0, none⟩ = some (I 0) := (blk_cell z6 0).trans rfl
        have c1 : w2.cell? ⟨w.heap.size, 1, none⟩ = some (.bool false) := (blk_cell z6 1).trans rfl
        have c2 : w2.cell? ⟨w.heap.size, 2, none⟩ = some (S []) := (blk_cell z6 2).trans rfl
        have c3 : w2.cell? ⟨w.heap.size, 3, none⟩ = some (S []) := (blk_cell z6 3).trans rfl
        have c4 : w2.cell? ⟨w.heap.size, 4, none⟩ = some (S []) := (blk_cell z6 4).trans rfl
        have c5 : w2.cell? ⟨w.heap.size, 5, none⟩ = some NilS := (blk_cell z6 5).trans rfl
        have g0 : ∀ j, w2.frozen? ⟨w.heap.size, j, none⟩ = false := fun j => blk_free z6 j
        have hat2 := (PT.at_iff _ _ _ _).1 hat
        have hsz : err = 0 → t.wf ∧ t.size ≤ 2 * (m + 3) := fun h => by
          have := hok h
          rw [HL.out] at this
          exact ⟨this.1, by omega⟩
        have fin : ∀ (u0 u1 u2 u3 u4 u5 : Value) (o : Obj), DoE s w (.returned (.tuple #[PartS.agg ⟨kd, qq, tx, nm, op, .slice wa wn wc⟩, I ((m : Int) + 3), I err])) ((World.part w2 w.heap.size u0 u1 u2 u3 u4 u5).alloc o) := by
          intro u0 u1 u2 u3 u4 u5 o
          have htr : Tree (w.heap.size + 1) w2 (.slice wa wn wc) t.word := by have := hat2.2.2.2.2.2; simpa using this
          have hB4 := below_part hB2 (Nat.le_refl _) u0 u1 u2 u3 u4 u5
          refine ⟨_, t, _, err, rfl, (PT.at_iff _ _ _ _).2 ⟨hat2.1, hat2.2.1, hat2.2.2.1, hat2.2.2.2.1, hat2.2.2.2.2.1, ((htr.part (Nat.lt_succ_self _) _ _ _ _ _ _).ext ((Below.refl _ _).alloc (Nat.le_refl _) _)).low (Nat.le_succ _)⟩, fun h => ⟨(hsz h).1, m + 3, by omega, by omega, by omega, (hsz h).2⟩, hB4.alloc hB4.size _⟩
        have FIN := Lib.hid (And.intro z6 fin)
        clear fin hsz hat2 hat hok hb2 z6 z6' hB2 hB3
        go_wp2_with fail
        refine dollar_end2 _ _ w.heap.size ⟨kd, qq, tx, nm, op, .slice wa wn wc⟩ ((m : Int) + 3) err _ ⟨_, _, _, rfl⟩ rfl rfl rfl (blk_alloc (blk_part FIN.out.1 _ _ _ _ _ _) _) (FIN.out.2 _ _ _ _ _ _ _)
      | false =>
        have fin2 : ∀ (X : List UInt8) (n' : Int) (o : Obj), n' = ((m + 3 : Nat) : Int) → X.length ≤ m → DoE s w (.returned (.tuple #[PartS.agg ⟨2, q, X, [], [], NilS⟩, I n', I 0])) (w.alloc o) :=
          fun X n' o hn hX => dollar_leaf 2 q X [] [] (m + 3) n' hn (by decide) (fun h => absurd h (by decide)) (by omega) (by omega) (by simp; omega) o
        have FIN2 := Lib.hid fin2
        clear fin2
        by_cases hm4 : 2 ≤ m
        · obtain ⟨j, rfl⟩ : ∃ j, m = j + 2 := ⟨m - 2, by omega⟩
          have hj : (4 : Int) < (j : Int) + 5 := by omega
          have fin3 : ∀ (X : List UInt8) (n' : Int) (o : Obj), n' = ((j + 2 + 3 : Nat) : Int) → X.length ≤ j → DoE s w (.returned (.tuple #[PartS.agg ⟨3, q, X, [], [], NilS⟩, I n', I 0])) (w.alloc o) :=
            fun X n' o hn hX => dollar_leaf 3 q X [] [] (j + 2 + 3) n' hn (by decide) (fun h => absurd h (by decide)) (by omega) (by omega) (by simp; omega) o
          have FIN3 := Lib.hid fin3
          clear fin3
          have hj2 : (j : Int) + 3 < s.length := by omega
          have hj3 : (0 : Int) ≤ j := by omega
          have hj4 : (2 : Int) < s.length := by omega
          cases h40 : (((s[2]'(by omega)).toNat : Int) == 40)
          · go_wp2_with fail
            refine dollar_end2 _ _ w.heap.size ⟨2, q, _, [], [], NilS⟩ _ 0 _ ⟨_, _, _, rfl⟩ rfl rfl rfl (blk_new _ _) (FIN2.out _ _ _ (by omega) (by simp; omega))
          · cases h41 : (((s[j + 3]'(by omega)).toNat : Int) == 41)
            · go_wp2_with fail
              refine dollar_end2 _ _ w.heap.size ⟨2, q, _, [], [], NilS⟩ _ 0 _ ⟨_, _, _, rfl⟩ rfl rfl rfl (blk_new _ _) (FIN2.out _ _ _ (by omega) (by simp; omega))
            · go_wp2_with fail
              refine dollar_end2 _ _ w.heap.size ⟨3, q, _, [], [], NilS⟩ _ 0 _ ⟨_, _, _, rfl⟩ rfl rfl rfl (blk_new _ _) (FIN3.out _ _ _ (by omega) (by simp; omega))
        · have hm5 : ¬ (4 : Int) < (m : Int) + 3 := by omega
          have hm6 : (m : Int) + 3 ≤ 4 := by omega
          go_wp2_with fail
          refine dollar_end2 _ _ w.heap.size ⟨2, q, _, [], [], NilS⟩ _ 0 _ ⟨_, _, _, rfl⟩ rfl rfl rfl (blk_new _ _) (FIN2.out _ _ _ (by omega) (by simp; omega))

set_option maxRecDepth 100000 in
set_option maxHeartbeats 1000000 in
theorem dollar_out (d : Nat) (s : List UInt8) (q : Bool) (w : World) (hs1 : 1 ≤ s.length) (hs : s.length ≤ 1048576) (b1 : begins s [36, 40] = false) (b2 : begins s [36, 123] = false) :
    Calls Tryz.prog 58 #[S s, .bool q, I d] w (DoE s w) := by
  obtain ⟨c, r, rfl⟩ : ∃ c r, s = c :: r := by
    cases s with
    | nil => simp at hs1
    | cons c r => exact ⟨c, r, rfl⟩
  have hle := nameOf_le r
  have hpre := nameOf_pre r
  by_cases hn : 0 < (nameOf r).length
  · refine (dollar_name (c :: r) q d w hs1 (by omega) b1 b2 hn (by simp only [List.tail_cons, List.length_cons]; omega) (by simp only [List.tail_cons, List.take_succ_cons]; exact hpre)).mono ?_
    rintro e w' ⟨rfl, hb⟩
    simp only [List.tail_cons]
    refine ⟨_, .mk 1 q [] (nameOf r) [] [], _, 0, rfl, PT.at_leaf _ _ _ _ _ _ _, fun _ => ⟨?_, (nameOf r).length + 1, by omega, by omega, by simp only [List.length_cons]; omega, ?_⟩, hb⟩
    · rw [PT.wf_iff]; exact ⟨.inr (.inl rfl), fun _ => ⟨NameP.of_name hn, .inl rfl⟩, by simp [PT.word, PT.wfs]⟩
    · simp only [PT.size, PT.sizes, List.length_nil]; omega
  · have h0 : (nameOf r).length = 0 := by omega
    have hrl : r.length ≤ 4294967296 := by simp only [List.length_cons] at hs; omega
    have fin0 : ∀ (o : Obj), DoE (c :: r) w (.returned (.tuple #[PartS.agg ⟨0, q, [36], [], [], NilS⟩, I 1, I 0])) (w.alloc o) := fun o =>
      dollar_leaf 0 q [36] [] [] 1 1 rfl (by decide) (fun h => absurd h (by decide)) (by omega) (by simp) (by simp) o
    have fin1 : ∀ (x : UInt8) (n' : Int) (o : Obj), isSp x = true → n' = 2 → 1 ≤ r.length → DoE (c :: r) w (.returned (.tuple #[PartS.agg ⟨1, q, [], [x], [], NilS⟩, I n', I 0])) (w.alloc o) := fun x n' o hx hn' hl =>
      dollar_leaf 1 q [] [x] [] 2 n' hn' (by decide) (fun _ => ⟨NameP.of_sp hx, .inl rfl⟩) (by omega) (by simp only [List.length_cons]; omega) (by simp) o
    have H := Lib.hid (And.intro b1 (And.intro b2 (And.intro h0 (And.intro fin0 fin1))))
    clear b1 b2 h0 fin0 fin1 hle hpre hn
    go_enter Tryz.func58, Tryz.ntmps58
    go_wp2_with fail
    refine (begins08 (c :: r) [36, 40] _).mono ?_
    rintro e w' ⟨rfl, rfl⟩
    rw [H.out.1]
    go_wp2_with fail
    refine (begins08 (c :: r) [36, 123] _).mono ?_
    rintro e w' ⟨rfl, rfl⟩
    rw [H.out.2.1]
    go_wp2_with fail
    refine (name08 r _ hrl).mono ?_
    rintro e w' ⟨rfl, rfl⟩
    rw [H.out.2.2.1]
    cases r with
    | nil =>
      go_wp2_with fail
      refine dollar_end2 _ _ w.heap.size ⟨0, q, [36], [], [], NilS⟩ _ 0 _ ⟨_, _, _, rfl⟩ rfl rfl rfl (blk_new _ _) (H.out.2.2.2.1 _)
    | cons x r2 =>
      have hl2 : (1 : Int) < (r2.length : Int) + 1 + 1 := by omega
      have hl3 : (2 : Int) ≤ (r2.length : Int) + 1 + 1 := by omega
      go_wp2_with fail
      refine (special08 x _).mono ?_
      rintro e w' ⟨rfl, rfl⟩
      cases hx : isSp x with
      | true =>
        have HX := Lib.hid hx
        clear hx
        go_wp2_with fail
        refine dollar_end2 _ _ w.heap.size ⟨1, q, [], [x], [], NilS⟩ _ 0 _ ⟨_, _, _, rfl⟩ rfl rfl rfl (blk_new _ _) (H.out.2.2.2.2 x _ _ HX.out (by omega) (by simp))
      | false =>
        clear hx
        go_wp2_with fail
        refine dollar_end2 _ _ w.heap.size ⟨0, q, [36], [], [], NilS⟩ _ 0 _ ⟨_, _, _, rfl⟩ rfl rfl rfl (blk_new _ _) (H.out.2.2.2.1 _)
theorem dollar_step (d : Nat) (hBr : BracesC d) (s : List UInt8) (q : Bool) (w : World) (hs1 : 1 ≤ s.length) (hs : s.length ≤ 1048576) : Calls Tryz.prog 58 #[S s, .bool q, I d] w (DoE s w) := by
  cases b1 : begins s [36, 40] with
  | true => exact dollar_in d hBr s q w hs (.inl b1)
  | false =>
    cases b2 : begins s [36, 123] with
    | true => exact dollar_in d hBr s q w hs (.inr ⟨b1, b2⟩)
    | false => exact dollar_out d s q w hs1 hs b1 b2
end Go.Proofs.YtdffbbfhcdhpdaaGreatDoor
