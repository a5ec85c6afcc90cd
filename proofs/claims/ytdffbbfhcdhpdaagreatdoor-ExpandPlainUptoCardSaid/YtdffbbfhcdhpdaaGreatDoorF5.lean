/- ref08.braces, out of the contract of ref08.parts one deeper. -/
import Derived.Test.YtdffbbfhcdhpdaaGreatDoorF1
import Derived.Test.YtdffbbfhcdhpdaaGreatDoorF3
import Derived.Test.YtdffbbfhcdhpdaaGreatDoorF4
namespace Go.Proofs.YtdffbbfhcdhpdaaGreatDoor
open Go.RowKit

/-- What parts answers. -/
def PaE (s : List UInt8) (w : World) (e : Ending) (w' : World) : Prop :=
  ∃ (v : Value) (ts : List PT) (err : Int), e = .returned (.tuple #[v, I err]) ∧ Tree w.heap.size w' v ts ∧ (err = 0 → PT.wfs ts ∧ PT.sizes ts ≤ 2 * s.length) ∧ Below w.heap.size w w'
def PartsC (d : Nat) : Prop := ∀ (s : List UInt8) (w : World), s.length ≤ 1048576 → Calls Tryz.prog 32 #[S s, I d] w (PaE s w)
/-- What braces answers. -/
def BrE (s : List UInt8) (w : World) (e : Ending) (w' : World) : Prop :=
  ∃ (p : PartS) (t : PT) (err : Int), e = .returned (.tuple #[p.agg, I err]) ∧ t.at w.heap.size w' p ∧ (err = 0 → t.wf ∧ t.size ≤ 2 * s.length + 3) ∧ Below w.heap.size w w'
theorem PT.at_leaf (B : Nat) (w : World) (k : Int) (q : Bool) (t n o : List UInt8) : PT.at B w (.mk k q t n o []) ⟨k, q, t, n, o, NilS⟩ := by
  rw [PT.at_iff]; exact ⟨rfl, rfl, rfl, rfl, rfl, Tree.nil _ _⟩
theorem braces_end (R : Ending → World → Prop) (T : Array Value) (B : Nat) (p : PartS) (n : Int) (W : World) (hwd : ∃ a n c, p.word = .slice a n c) (h6 : T.getD 6 undef = Ptr B) (h7 : T.getD 7 undef = I n)
    (hb : W.heap[B]? = some (.cells #[I p.kind, .bool p.quoted, S p.text, S p.name, S p.op, p.word] 42 (0, 0))) (hR : R (.returned (.tuple #[p.agg, I n])) W) : bodyPost Tryz.prog Tryz.f97 R .ret ⟨T, []⟩ W := by
  have e0 : W.cell? ⟨B, 0, none⟩ = some (I p.kind) := (blk_cell hb 0).trans rfl
  have e1 : W.cell? ⟨B, 1, none⟩ = some (.bool p.quoted) := (blk_cell hb 1).trans rfl
  have e2 : W.cell? ⟨B, 2, none⟩ = some (S p.text) := (blk_cell hb 2).trans rfl
  have e3 : W.cell? ⟨B, 3, none⟩ = some (S p.name) := (blk_cell hb 3).trans rfl
  have e4 : W.cell? ⟨B, 4, none⟩ = some (S p.op) := (blk_cell hb 4).trans rfl
  have e5 : W.cell? ⟨B, 5, none⟩ = some p.word := (blk_cell hb 5).trans rfl
  obtain ⟨k, q, t, m, o, wd⟩ := p
  obtain ⟨a1, a2, a3, rfl⟩ := hwd
  refine bodyPost_ret ?_ rfl hR
  simp only [Array.getD_eq_getD_getElem?] at h6 h7
  simp only at e0 e1 e2 e3 e4 e5
  simp [results, Tryz.results97, go_sem, h6, h7, e0, e1, e2, e3, e4, e5]
theorem begins_le {s p : List UInt8} (h : begins s p = true) : p.length ≤ s.length := by
  unfold begins at h
  rw [Bool.and_eq_true] at h
  exact of_decide_eq_true h.1
theorem nameP_name {n : List UInt8} (h : NameP n) (hl : (nameOf n).length ≠ 0) : nameOf n = n := by
  obtain ⟨h0, h1 | h1 | rfl | rfl | rfl | rfl⟩ := h
  · exact h1
  · cases n with
    | nil => exact absurd rfl h0
    | cons c r =>
      exfalso
      have hd := h1 c (by simp)
      have hL : isL c = false := by
        rw [isD, digitR_iff] at hd
        rw [isL, ← Bool.not_eq_true, letterR_iff]; omega
      simp [nameOf, hL] at hl
  all_goals exact absurd rfl hl
abbrev zPart : Obj := .cells #[I 0, .bool false, S [], S [], S [], NilS] 42
abbrev opsCells : Array Value := #[S [58, 45], S [58, 61], S [58, 63], S [58, 43], S [37, 37], S [35, 35], S [45], S [61], S [63], S [43], S [37], S [35]]
theorem opsCells_get (k : Nat) (h : k < 12) : opsCells[k]? = some (S (opsL[k]'h)) := by
  have : k = 0 ∨ k = 1 ∨ k = 2 ∨ k = 3 ∨ k = 4 ∨ k = 5 ∨ k = 6 ∨ k = 7 ∨ k = 8 ∨ k = 9 ∨ k = 10 ∨ k = 11 := by omega
  rcases this with rfl | rfl | rfl | rfl | rfl | rfl | rfl | rfl | rfl | rfl | rfl | rfl <;> rfl
theorem opsL_ne {o : List UInt8} (h : o ∈ opsL) : o ≠ [] := by
  intro e; subst e; exact absurd h (by decide)
theorem opsL_le {o : List UInt8} (h : o ∈ opsL) : o.length ≤ 2 := by
  simp only [opsL, List.mem_cons, List.not_mem_nil, or_false] at h
  rcases h with rfl | rfl | rfl | rfl | rfl | rfl | rfl | rfl | rfl | rfl | rfl | rfl <;> decide

theorem blk_part {w : World} {b : Nat} {x0 x1 x2 x3 x4 x5 : Value} (h : w.heap[b]? = some (.cells #[x0, x1, x2, x3, x4, x5] 42 (0, 0))) (u0 u1 u2 u3 u4 u5 : Value) :
    (World.part w b u0 u1 u2 u3 u4 u5).heap[b]? = some (.cells #[u0, u1, u2, u3, u4, u5] 42 (0, 0)) :=
  blk_set (blk_set (blk_set (blk_set (blk_set (blk_set h 0 u0) 1 u1) 2 u2) 3 u3) 4 u4) 5 u5
theorem Tree.part {B : Nat} {w : World} {v : Value} {ts : List PT} (h : Tree B w v ts) {b : Nat} (hb : b < B) (u0 u1 u2 u3 u4 u5 : Value) : Tree B (World.part w b u0 u1 u2 u3 u4 u5) v ts :=
  (((((h.set hb 0 u0).set hb 1 u1).set hb 2 u2).set hb 3 u3).set hb 4 u4).set hb 5 u5
/-- While braces looks for the operator: the result's variable, the part, the operators. -/
def BrW (w wr : World) (q : Bool) (nm o : List UInt8) : Prop :=
  wr.heap[w.heap.size]? = some zPart ∧ wr.heap[w.heap.size + 1]? = some (.cells #[I 1, .bool q, S [], S nm, S o, NilS] 42 (0, 0)) ∧ wr.heap[w.heap.size + 2]? = some (.cells opsCells 9 (0, 0)) ∧ Below w.heap.size w wr

set_option maxRecDepth 100000 in
set_option maxHeartbeats 4000000 in
theorem braces_step (d : Nat) (hd : d ≤ 30) (hP : PartsC (d + 1)) (s : List UInt8) (q : Bool) (w : World) (hs : s.length ≤ 1048576) : Calls Tryz.prog 97 #[S s, .bool q, I d] w (BrE s w) := by
  have HP := Lib.hid hP
  clear hP
  have hdd : (d : Int) ≤ 30 := by omega
  have hpre : ¬ 1 < s.length ∨ (∃ h : 0 < s.length, 1 < s.length ∧ ((s[0].toNat : Int) == 35) = false) ∨ (∃ h : 0 < s.length, 1 < s.length ∧ ((s[0].toNat : Int) == 35) = true) := by
    by_cases h : 1 < s.length
    · cases h2 : ((s[0].toNat : Int) == 35)
      · exact .inr (.inl ⟨by omega, h, h2⟩)
      · exact .inr (.inr ⟨by omega, h, h2⟩)
    · exact .inl h
  have hle : s.length ≤ 4294967296 := by omega
  go_enter Tryz.func97, Tryz.ntmps97
  rcases hpre with hp | ⟨h0, hp, hq⟩ | ⟨h0, hp, hq⟩
  rotate_left 2
  focus
    have hp' : (1 : Int) < s.length := by omega
    have htl : s.tail.length ≤ 4294967296 := by rw [List.length_tail]; omega
    go_wp2_with fail
    refine (param_any s.tail _ htl).mono ?_
    rintro e w' ⟨k, rfl, hk, hnp, rfl⟩
    cases hkk : ((k : Int) == (s.length : Int) - 1)
    rotate_left
    · have hk1 : k = s.tail.length := by rw [beq_iff_eq] at hkk; rw [List.length_tail]; omega
      have hN := hnp (by rw [hk1, List.length_tail]; omega)
      rw [hk1, List.take_length] at hN
      have fin : ∀ W', Below w.heap.size w W' → BrE s w (.returned (.tuple #[PartS.agg ⟨1, q, [], s.tail, [108, 101, 110], NilS⟩, I 0])) W' := fun W' hb =>
        ⟨_, .mk 1 q [] s.tail [108, 101, 110] [], 0, rfl, PT.at_leaf _ _ _ _ _ _ _, fun _ => ⟨by
          rw [PT.wf_iff]; exact ⟨.inr (.inl rfl), fun _ => ⟨hN, .inr (.inl rfl)⟩, by simp [PT.word, PT.wfs]⟩, by
          simp only [PT.size, PT.sizes, List.length_tail, List.length_cons, List.length_nil]; omega⟩, hb⟩
      have FIN := Lib.hid fin
      clear fin hN hk1 hnp
      go_wp2_with fail
      refine braces_end _ _ w.heap.size ⟨1, q, [], s.tail, [108, 101, 110], NilS⟩ 0 _ ⟨_, _, _, rfl⟩ rfl rfl ?_ (FIN.out _ (((Below.refl _ w).alloc (Nat.le_refl _) _).alloc (by simp) _))
      exact blk_alloc (blk_new w _) _
    clear hnp hk htl
    go_wp2_with fail
  rotate_left
  focus
    have hp' : (s.length : Int) ≤ 1 := by omega
    go_wp2_with fail
  rotate_left
  focus
    have hp' : (1 : Int) < s.length := by omega
    go_wp2_with fail
  all_goals
    refine (param_any s _ hle).mono ?_
    rintro e w' ⟨n, rfl, hn, hnp, rfl⟩
    by_cases hn0 : n = 0
    · subst hn0
      have fin : ∀ W', Below w.heap.size w W' → BrE s w (.returned (.tuple #[PartS.agg ⟨1, q, [], [], [], NilS⟩, I 90])) W' := fun W' hb =>
        ⟨_, .mk 1 q [] [] [] [], 90, rfl, PT.at_leaf _ _ _ _ _ _ _, fun h => absurd h (by decide), hb⟩
      have FIN := Lib.hid fin
      clear fin hnp hn
      go_wp2_with fail
      refine braces_end _ _ w.heap.size ⟨1, q, [], [], [], NilS⟩ 90 _ ⟨_, _, _, rfl⟩ rfl rfl ?_ (FIN.out _ (((Below.refl _ w).alloc (Nat.le_refl _) _).alloc (by simp) _))
      exact blk_alloc (blk_new w _) _
    · have hn1 : 0 < n := by omega
      have hN := Lib.hid (hnp hn1)
      have hn2 : ((n : Int) == 0) = false := by rw [beq_eq_false_iff_ne]; omega
      have hn3 : (n : Int) ≤ s.length := by omega
      clear hnp hn0
      by_cases hend : n = s.length
      · have hdr : s.drop n = [] := by rw [hend, List.drop_length]
        have fin : ∀ W', Below w.heap.size w W' → BrE s w (.returned (.tuple #[PartS.agg ⟨1, q, [], s.take n, [], NilS⟩, I 0])) W' := fun W' hb =>
          ⟨_, .mk 1 q [] (s.take n) [] [], 0, rfl, PT.at_leaf _ _ _ _ _ _ _, fun _ => ⟨by
            rw [PT.wf_iff]; exact ⟨.inr (.inl rfl), fun _ => ⟨hN.out, .inl rfl⟩, by simp [PT.word, PT.wfs]⟩, by
            simp only [PT.size, PT.sizes, List.length_take, List.length_nil]; omega⟩, hb⟩
        have FIN := Lib.hid fin
        clear fin hend
        go_wp2_with fail
        refine braces_end _ _ w.heap.size ⟨1, q, [], s.take n, [], NilS⟩ 0 _ ⟨_, _, _, rfl⟩ rfl rfl ?_ (FIN.out _ (((Below.refl _ w).alloc (Nat.le_refl _) _).alloc (by simp) _))
        exact blk_alloc (blk_new w _) _
      · have hnl : n < s.length := by omega
        try (exfalso; omega)
        all_goals
          have hd0 : ¬ s.drop n = [] := by intro e; have := congrArg List.length e; rw [List.length_drop, List.length_nil] at this; omega
          have hd1 : (s.drop n).isEmpty = false := by cases h : s.drop n with
            | nil => exact absurd h hd0
            | cons a l => rfl
          have hsum : (s.take n).length + (s.drop n).length = s.length := by rw [← List.length_append, List.take_append_drop]
          have HS := Lib.hid hsum
          clear hsum hend
          go_wp2_with fail
          generalize s.take n = nm at *
          generalize s.drop n = r at *
          have hrl : r.length ≤ 1048576 := by have := HS.out; omega
          clear hd0 hd1 hn2 hn3 hnl hn1 hn
          go_loopw [11] (fun i wr => ∃ (k : Nat) (o : List UInt8), k ≤ 12 ∧ i = I k ∧ BrW w wr q nm o ∧ Hid (o = [] ∨ o ∈ opsL ∧ begins r o = true)) (fun i _ => 12 - (intOf i).toNat)
          case atStart =>
            refine ⟨0, [], by omega, rfl, ⟨blk_alloc (blk_alloc (blk_new w _) _) _, blk_alloc ?_ _, ?_, (((Below.refl _ w).alloc (Nat.le_refl _) _).alloc (by simp) _).alloc (by simp; omega) _⟩, Lib.hid (.inl rfl)⟩
            · have := blk_new (w.alloc zPart) (.cells #[I 1, .bool q, S [], S nm, S [], NilS] 42)
              rw [size_alloc'] at this
              exact this
            · have := blk_new ((w.alloc zPart).alloc (.cells #[I 1, .bool q, S [], S nm, S [], NilS] 42)) (.cells opsCells 9)
              rw [size_alloc', size_alloc'] at this
              exact this
          case round =>
            obtain ⟨k, o, hk, rfl, ⟨z6, z8, z10, hbe⟩, ho⟩ := hrel
            have hbs := hbe.size
            have hl6 := blk_lt z6
            have hl8 := blk_lt z8
            have hl10 := blk_lt z10
            have e0 : wr.cell? ⟨w.heap.size + 1, 0, none⟩ = some (I 1) := (blk_cell z8 0).trans rfl
            have e1 : wr.cell? ⟨w.heap.size + 1, 1, none⟩ = some (.bool q) := (blk_cell z8 1).trans rfl
            have e2 : wr.cell? ⟨w.heap.size + 1, 2, none⟩ = some (S []) := (blk_cell z8 2).trans rfl
            have e3 : wr.cell? ⟨w.heap.size + 1, 3, none⟩ = some (S nm) := (blk_cell z8 3).trans rfl
            have e4 : wr.cell? ⟨w.heap.size + 1, 4, none⟩ = some (S o) := (blk_cell z8 4).trans rfl
            have e5 : wr.cell? ⟨w.heap.size + 1, 5, none⟩ = some NilS := (blk_cell z8 5).trans rfl
            have f4 : wr.frozen? ⟨w.heap.size + 1, 4, none⟩ = false := blk_free z8 4
            by_cases ho0 : o = []
            · subst ho0
              by_cases hk12 : k < 12
              · have g : wr.cell? ⟨w.heap.size + 2, k, none⟩ = some (S (opsL[k]'hk12)) := (blk_cell z10 k).trans (opsCells_get k hk12)
                have hm : opsL[k]'hk12 ∈ opsL := List.getElem_mem hk12
                generalize opsL[k]'hk12 = ok at g hm
                have HM := Lib.hid hm
                clear hm
                go_wp2_with fail
                refine (begins08 r ok _).mono ?_
                rintro e w' ⟨rfl, rfl⟩
                cases hbg : begins r ok with
                | true =>
                  have z8' := blk_set z8 4 (S ok)
                  have z6' := blk_other z6 (a := ⟨w.heap.size + 1, 4, none⟩) (by show w.heap.size ≠ w.heap.size + 1; omega) (S ok)
                  have z10' := blk_other z10 (a := ⟨w.heap.size + 1, 4, none⟩) (by show w.heap.size + 2 ≠ w.heap.size + 1; omega) (S ok)
                  have hbe' := hbe.setCell (p := ⟨w.heap.size + 1, 4, none⟩) (Nat.le_succ _) (S ok)
                  have R := Lib.hid (And.intro z6' (And.intro z8' (And.intro z10' (And.intro hbe' hbg))))
                  clear z6' z8' z10' hbe' hbg
                  go_wp2_with fail
                  go_roundw
                  case rel => exact ⟨k + 1, ok, by omega, by go_num, ⟨R.out.1, R.out.2.1, R.out.2.2.1, R.out.2.2.2.1⟩, Lib.hid (.inr ⟨HM.out, R.out.2.2.2.2⟩)⟩
                  case measure => simp [intOf]; omega
                | false =>
                  clear hbg
                  go_wp2_with fail
                  go_roundw
                  case rel => exact ⟨k + 1, [], by omega, by go_num, ⟨z6, z8, z10, hbe⟩, Lib.hid (.inl rfl)⟩
                  case measure => simp [intOf]; omega
              · obtain rfl : k = 12 := by omega
                have c0 : wr.cell? ⟨w.heap.size, 0, none⟩ = some (I 0) := (blk_cell z6 0).trans rfl
                have c1 : wr.cell? ⟨w.heap.size, 1, none⟩ = some (.bool false) := (blk_cell z6 1).trans rfl
                have c2 : wr.cell? ⟨w.heap.size, 2, none⟩ = some (S []) := (blk_cell z6 2).trans rfl
                have c3 : wr.cell? ⟨w.heap.size, 3, none⟩ = some (S []) := (blk_cell z6 3).trans rfl
                have c4 : wr.cell? ⟨w.heap.size, 4, none⟩ = some (S []) := (blk_cell z6 4).trans rfl
                have c5 : wr.cell? ⟨w.heap.size, 5, none⟩ = some NilS := (blk_cell z6 5).trans rfl
                have g0 : ∀ j, wr.frozen? ⟨w.heap.size, j, none⟩ = false := fun j => blk_free z6 j
                go_wp2_with fail
                refine braces_end _ _ w.heap.size ⟨1, q, [], nm, [], NilS⟩ 90 _ ⟨_, _, _, rfl⟩ rfl rfl (blk_part z6 _ _ _ _ _ _) ?_
                exact ⟨_, .mk 1 q [] nm [] [], 90, rfl, PT.at_leaf _ _ _ _ _ _ _, fun h => absurd h (by decide), below_part hbe (Nat.le_refl _) _ _ _ _ _ _⟩
            · have ho1 : o.isEmpty = false := by
                cases o with
                | nil => exact absurd rfl ho0
                | cons a l => rfl
              have hoo := ho.out.resolve_left ho0
              have hor : o.length ≤ r.length := begins_le hoo.2
              have hor' : (o.length : Int) ≤ r.length := by omega
              have hrest : (r.drop o.length).length ≤ 1048576 := by rw [List.length_drop]; omega
              have hnm : nm.length ≤ 4294967296 := by have := HS.out; omega
              have HO := Lib.hid hoo
              clear ho hoo
              have c0 : wr.cell? ⟨w.heap.size, 0, none⟩ = some (I 0) := (blk_cell z6 0).trans rfl
              have c1 : wr.cell? ⟨w.heap.size, 1, none⟩ = some (.bool false) := (blk_cell z6 1).trans rfl
              have c2 : wr.cell? ⟨w.heap.size, 2, none⟩ = some (S []) := (blk_cell z6 2).trans rfl
              have c3 : wr.cell? ⟨w.heap.size, 3, none⟩ = some (S []) := (blk_cell z6 3).trans rfl
              have c4 : wr.cell? ⟨w.heap.size, 4, none⟩ = some (S []) := (blk_cell z6 4).trans rfl
              have c5 : wr.cell? ⟨w.heap.size, 5, none⟩ = some NilS := (blk_cell z6 5).trans rfl
              have g0 : ∀ j, wr.frozen? ⟨w.heap.size, j, none⟩ = false := fun j => blk_free z6 j
              by_cases hk12 : k < 12
              rotate_left
              focus obtain rfl : k = 12 := by omega
              all_goals
                have hop : ((o == [61]) = true) ∨ ((o == [61]) = false ∧ (o == [58, 61]) = true) ∨ ((o == [61]) = false ∧ (o == [58, 61]) = false) := by
                  cases (o == [61]) <;> cases (o == [58, 61]) <;> simp
                rcases hop with h1 | ⟨h1, h2⟩ | ⟨h1, h2⟩
                focus
                  go_wp2_with fail
                  refine (name08 nm _ hnm).mono ?_
                  rintro e w' ⟨rfl, rfl⟩
                  by_cases hz : (nameOf nm).length = 0
                  · have hz' : (((nameOf nm).length : Int) == 0) = true := by rw [hz]; rfl
                    clear hz
                    go_wp2_with fail
                    refine braces_end _ _ w.heap.size ⟨1, q, [], nm, o, NilS⟩ 90 _ ⟨_, _, _, rfl⟩ rfl rfl (blk_part z6 _ _ _ _ _ _) ?_
                    exact ⟨_, .mk 1 q [] nm o [], 90, rfl, PT.at_leaf _ _ _ _ _ _ _, fun h => absurd h (by decide), below_part hbe (Nat.le_refl _) _ _ _ _ _ _⟩
                  have hz' : (((nameOf nm).length : Int) == 0) = false := by rw [beq_eq_false_iff_ne]; omega
                  have HOP : Hid (OpP nm o) := Lib.hid (.inr (.inr ⟨HO.out.1, fun _ => nameP_name hN.out hz⟩))
                  clear hz
                  go_wp2_with fail
                rotate_left
                focus
                  go_wp2_with fail
                  refine (name08 nm _ hnm).mono ?_
                  rintro e w' ⟨rfl, rfl⟩
                  by_cases hz : (nameOf nm).length = 0
                  · have hz' : (((nameOf nm).length : Int) == 0) = true := by rw [hz]; rfl
                    clear hz
                    go_wp2_with fail
                    refine braces_end _ _ w.heap.size ⟨1, q, [], nm, o, NilS⟩ 90 _ ⟨_, _, _, rfl⟩ rfl rfl (blk_part z6 _ _ _ _ _ _) ?_
                    exact ⟨_, .mk 1 q [] nm o [], 90, rfl, PT.at_leaf _ _ _ _ _ _ _, fun h => absurd h (by decide), below_part hbe (Nat.le_refl _) _ _ _ _ _ _⟩
                  have hz' : (((nameOf nm).length : Int) == 0) = false := by rw [beq_eq_false_iff_ne]; omega
                  have HOP : Hid (OpP nm o) := Lib.hid (.inr (.inr ⟨HO.out.1, fun _ => nameP_name hN.out hz⟩))
                  clear hz
                  go_wp2_with fail
                rotate_left
                focus
                  have HOP : Hid (OpP nm o) := Lib.hid (.inr (.inr ⟨HO.out.1, fun h => by
                    rcases h with h | h
                    · rw [h] at h1; exact absurd h1 (by decide)
                    · rw [h] at h2; exact absurd h2 (by decide)⟩))
                  go_wp2_with fail
                all_goals
                  refine (HP.out (r.drop o.length) _ hrest).mono ?_
                  rintro e w2 ⟨v, ts, err, rfl, ht, hok, hb2⟩
                  obtain ⟨va, vc, rfl⟩ := ht.slice
                  have z6' := blk_ext hb2 z6
                  have z8' := blk_ext hb2 z8
                  have hs2 := hb2.size
                  have hB2 := hbe.trans (hb2.mono hbs)
                  clear e0 e1 e2 e3 e4 e5 f4 c0 c1 c2 c3 c4 c5 g0
                  have e0 : w2.cell? ⟨w.heap.size + 1, 0, none⟩ = some (I 1) := (blk_cell z8' 0).trans rfl
                  have c0 : w2.cell? ⟨w.heap.size, 0, none⟩ = some (I 0) := (blk_cell z6' 0).trans rfl
                  have e1 : w2.cell? ⟨w.heap.size + 1, 1, none⟩ = some (.bool q) := (blk_cell z8' 1).trans rfl
                  have c1 : w2.cell? ⟨w.heap.size, 1, none⟩ = some (.bool false) := (blk_cell z6' 1).trans rfl
                  have e2 : w2.cell? ⟨w.heap.size + 1, 2, none⟩ = some (S []) := (blk_cell z8' 2).trans rfl
                  have c2 : w2.cell? ⟨w.heap.size, 2, none⟩ = some (S []) := (blk_cell z6' 2).trans rfl
                  have e3 : w2.cell? ⟨w.heap.size + 1, 3, none⟩ = some (S nm) := (blk_cell z8' 3).trans rfl
                  have c3 : w2.cell? ⟨w.heap.size, 3, none⟩ = some (S []) := (blk_cell z6' 3).trans rfl
                  have e4 : w2.cell? ⟨w.heap.size + 1, 4, none⟩ = some (S o) := (blk_cell z8' 4).trans rfl
                  have c4 : w2.cell? ⟨w.heap.size, 4, none⟩ = some (S []) := (blk_cell z6' 4).trans rfl
                  have e5 : w2.cell? ⟨w.heap.size + 1, 5, none⟩ = some NilS := (blk_cell z8' 5).trans rfl
                  have c5 : w2.cell? ⟨w.heap.size, 5, none⟩ = some NilS := (blk_cell z6' 5).trans rfl
                  have g0 : ∀ j, w2.frozen? ⟨w.heap.size, j, none⟩ = false := fun j => blk_free z6' j
                  have f5 : w2.frozen? ⟨w.heap.size + 1, 5, none⟩ = false := blk_free z8' 5
                  by_cases herr : err = 0
                  · subst herr
                    have hts := hok rfl
                    have htz : PT.sizes ts + 1 ≤ 4194304 := by omega
                    have hsz : (PT.mk 1 q [] nm o ts).size ≤ 2 * s.length + 3 := by
                      have h3 := hts.2
                      rw [List.length_drop] at h3
                      have h4 := HS.out
                      simp only [PT.size, List.length_nil]; omega
                    have hwf : (PT.mk 1 q [] nm o ts).wf := by
                      rw [PT.wf_iff]; exact ⟨.inr (.inl rfl), fun _ => ⟨hN.out, HOP.out⟩, hts.1⟩
                    have HT := Lib.hid (And.intro ht (And.intro hsz (And.intro hwf htz)))
                    have hvn := ts.length
                    generalize hvn' : ts.length = vn at *
                    clear hvn' hvn hts hok ht hsz hwf htz
                    go_wp2_with fail
                    refine (commands_any (PT.sizes ts + 1) _ ts _ _ (by omega) HT.out.2.2.2 HT.out.1).mono ?_
                    rintro e w' ⟨⟨bb, rfl⟩, rfl⟩
                    cases bb with
                    | true =>
                      go_wp2_with fail
                      refine braces_end _ _ w.heap.size ⟨1, q, [], nm, o, NilS⟩ 90 _ ⟨_, _, _, rfl⟩ rfl rfl (blk_part z6' _ _ _ _ _ _) ?_
                      exact ⟨_, .mk 1 q [] nm o [], 90, rfl, PT.at_leaf _ _ _ _ _ _ _, fun h => absurd h (by decide), below_part hB2 (Nat.le_refl _) _ _ _ _ _ _⟩
                    | false =>
                      have hB3 := hB2.setCell (p := ⟨w.heap.size + 1, 5, none⟩) (Nat.le_succ _) (.slice va vn vc)
                      have z6'' := blk_other z6' (a := ⟨w.heap.size + 1, 5, none⟩) (by show w.heap.size ≠ w.heap.size + 1; omega) (.slice va vn vc)
                      have z8'' := blk_set z8' 5 (.slice va vn vc)
                      have ht3 := HT.out.1.set (n := w.heap.size + 1) hl8 5 (.slice va vn vc)
                      have HU := Lib.hid (And.intro hB3 (And.intro z6'' (And.intro z8'' ht3)))
                      clear hB3 z6'' z8'' ht3
                      cases q with
                      | false =>
                        go_wp2_with fail
                        refine braces_end _ _ w.heap.size ⟨1, false, [], nm, o, .slice va vn vc⟩ 0 _ ⟨_, _, _, rfl⟩ rfl rfl (blk_part HU.out.2.1 _ _ _ _ _ _) ?_
                        exact ⟨_, .mk 1 false [] nm o ts, 0, rfl, (PT.at_iff _ _ _ _).2 ⟨rfl, rfl, rfl, rfl, rfl, (HU.out.2.2.2.part hl6 _ _ _ _ _ _).low hbs⟩, fun _ => ⟨HT.out.2.2.1, HT.out.2.1⟩, below_part HU.out.1 (Nat.le_refl _) _ _ _ _ _ _⟩
                      | true =>
                        go_wp2_with fail
                        refine (quotes_any (PT.sizes ts + 1) _ ts _ _ (by omega) HT.out.2.2.2 HU.out.2.2.2).mono ?_
                        rintro e w4 ⟨r4, rfl, ht4, hb4⟩
                        obtain ⟨va4, vc4, rfl⟩ := ht4.slice
                        have y6 := blk_ext hb4 HU.out.2.1
                        have y8 := blk_ext hb4 HU.out.2.2.1
                        have hB4 := HU.out.1.trans (hb4.mono HU.out.1.size)
                        have hs4 := hb4.size
                        have hl6' := blk_lt HU.out.2.1
                        have hl8' := blk_lt HU.out.2.2.1
                        clear e0 e1 e2 e3 e4 e5 f5 c0 c1 c2 c3 c4 c5 g0
                        have e0 : w4.cell? ⟨w.heap.size + 1, 0, none⟩ = some (I 1) := (blk_cell y8 0).trans rfl
                        have c0 : w4.cell? ⟨w.heap.size, 0, none⟩ = some (I 0) := (blk_cell y6 0).trans rfl
                        have e1 : w4.cell? ⟨w.heap.size + 1, 1, none⟩ = some (.bool true) := (blk_cell y8 1).trans rfl
                        have c1 : w4.cell? ⟨w.heap.size, 1, none⟩ = some (.bool false) := (blk_cell y6 1).trans rfl
                        have e2 : w4.cell? ⟨w.heap.size + 1, 2, none⟩ = some (S []) := (blk_cell y8 2).trans rfl
                        have c2 : w4.cell? ⟨w.heap.size, 2, none⟩ = some (S []) := (blk_cell y6 2).trans rfl
                        have e3 : w4.cell? ⟨w.heap.size + 1, 3, none⟩ = some (S nm) := (blk_cell y8 3).trans rfl
                        have c3 : w4.cell? ⟨w.heap.size, 3, none⟩ = some (S []) := (blk_cell y6 3).trans rfl
                        have e4 : w4.cell? ⟨w.heap.size + 1, 4, none⟩ = some (S o) := (blk_cell y8 4).trans rfl
                        have c4 : w4.cell? ⟨w.heap.size, 4, none⟩ = some (S []) := (blk_cell y6 4).trans rfl
                        have e5 : w4.cell? ⟨w.heap.size + 1, 5, none⟩ = some (.slice va vn vc) := (blk_cell y8 5).trans rfl
                        have c5 : w4.cell? ⟨w.heap.size, 5, none⟩ = some NilS := (blk_cell y6 5).trans rfl
                        have g0 : ∀ j, w4.frozen? ⟨w.heap.size, j, none⟩ = false := fun j => blk_free y6 j
                        have f5 : w4.frozen? ⟨w.heap.size + 1, 5, none⟩ = false := blk_free y8 5
                        have htq : PT.sizes (PT.quotesT ts []) ≤ PT.sizes ts := by have := PT.quotesT_size ts []; simp only [PT.sizes] at this; omega
                        have hwq := PT.quotesT_wf ts [] (((PT.wf_iff _).1 HT.out.2.2.1).2.2) (by simp [PT.wfs])
                        have hsz : (PT.mk 1 true [] nm o (PT.quotesT ts [])).size ≤ 2 * s.length + 3 := by
                          have := HT.out.2.1
                          simp only [PT.size] at this ⊢; omega
                        have hwf : (PT.mk 1 true [] nm o (PT.quotesT ts [])).wf := by
                          rw [PT.wf_iff]; exact ⟨.inr (.inl rfl), fun _ => ⟨hN.out, HOP.out⟩, hwq⟩
                        have z6q := blk_other y6 (a := ⟨w.heap.size + 1, 5, none⟩) (by show w.heap.size ≠ w.heap.size + 1; omega) (.slice va4 (PT.quotesT ts []).length vc4)
                        have hB5 := hB4.setCell (p := ⟨w.heap.size + 1, 5, none⟩) (Nat.le_succ _) (.slice va4 (PT.quotesT ts []).length vc4)
                        have ht5 := (ht4.set (n := w.heap.size + 1) hl8' 5 (.slice va4 (PT.quotesT ts []).length vc4)).low (Nat.le_of_lt hl8')
                        have HV := Lib.hid (And.intro hB5 (And.intro z6q (And.intro ht5 (And.intro hsz hwf))))
                        generalize (PT.quotesT ts []).length = qn at *
                        clear hB5 z6q ht5 hsz hwf htq hwq ht4 hb4 y6 y8 hB4
                        go_wp2_with fail
                        refine braces_end _ _ w.heap.size ⟨1, true, [], nm, o, .slice va4 qn vc4⟩ 0 _ ⟨_, _, _, rfl⟩ rfl rfl (blk_part HV.out.2.1 _ _ _ _ _ _) ?_
                        exact ⟨_, .mk 1 true [] nm o (PT.quotesT ts []), 0, rfl, (PT.at_iff _ _ _ _).2 ⟨rfl, rfl, rfl, rfl, rfl, (HV.out.2.2.1.part (by omega) _ _ _ _ _ _).low (by omega)⟩, fun _ => ⟨HV.out.2.2.2.2, HV.out.2.2.2.1⟩, below_part HV.out.1 (Nat.le_refl _) _ _ _ _ _ _⟩
                  · have herr1 : (err == 0) = false := by rw [beq_eq_false_iff_ne]; exact herr
                    have herr2 : (err != 0) = true := by rw [bne_iff_ne]; exact herr
                    generalize ts.length = vn at *
                    clear ht hok
                    go_wp2_with fail
                    refine braces_end _ _ w.heap.size ⟨1, q, [], nm, o, NilS⟩ err _ ⟨_, _, _, rfl⟩ rfl rfl (blk_part z6' _ _ _ _ _ _) ?_
                    exact ⟨_, .mk 1 q [] nm o [], err, rfl, PT.at_leaf _ _ _ _ _ _ _, fun h => absurd h herr, below_part hB2 (Nat.le_refl _) _ _ _ _ _ _⟩
end Go.Proofs.YtdffbbfhcdhpdaaGreatDoor
