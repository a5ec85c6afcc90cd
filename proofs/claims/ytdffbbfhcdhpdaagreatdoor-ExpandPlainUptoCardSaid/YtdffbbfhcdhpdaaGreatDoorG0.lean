/- law16.made: a shell by five numbers. -/
import Derived.Test.YtdffbbfhcdhpdaaGreatDoorD7
import Derived.Deep.Cut
import Derived.Deep.RegionHeld3
import Derived.Deep.Cut
import Derived.IntWalk
namespace Go.Proofs.YtdffbbfhcdhpdaaGreatDoor
open Go.RowKit

def strsL : List (List UInt8) := [[], [97], [49, 32, 50], [32, 98, 32], [97, 58, 98], [42], [97, 92, 42], [120, 10, 121], [58, 58]]
def ifsL : List (List UInt8) := [[32, 9, 10], [58], [], [58, 32]]
def pickV (c : UInt8) : List UInt8 := strsL.getD (c.toNat % 9) []
def ifsV (c : UInt8) : List UInt8 := ifsL.getD (c.toNat % 4) []
abbrev strsCells : Array Value := #[S [], S [97], S [49, 32, 50], S [32, 98, 32], S [97, 58, 98], S [42], S [97, 92, 42], S [120, 10, 121], S [58, 58]]
abbrev ifsCells : Array Value := #[S [32, 9, 10], S [58], S [], S [58, 32]]
theorem strs_get (c : UInt8) : strsCells[c.toNat % 9]? = some (S (pickV c)) := by
  have h : c.toNat % 9 < 9 := Nat.mod_lt _ (by decide)
  unfold pickV
  generalize c.toNat % 9 = k at h
  have : k = 0 ∨ k = 1 ∨ k = 2 ∨ k = 3 ∨ k = 4 ∨ k = 5 ∨ k = 6 ∨ k = 7 ∨ k = 8 := by omega
  rcases this with rfl | rfl | rfl | rfl | rfl | rfl | rfl | rfl | rfl <;> rfl
theorem ifs_get (c : UInt8) : ifsCells[c.toNat % 4]? = some (S (ifsV c)) := by
  have h : c.toNat % 4 < 4 := Nat.mod_lt _ (by decide)
  unfold ifsV
  generalize c.toNat % 4 = k at h
  have : k = 0 ∨ k = 1 ∨ k = 2 ∨ k = 3 := by omega
  rcases this with rfl | rfl | rfl | rfl <;> rfl

/-- The table that made's function value reads. -/
def PickW (b a : Nat) (w : World) : Prop := w.cell? ⟨b, 0, none⟩ = some (.slice (some ⟨a, 0, none⟩) 9 9) ∧ (∀ c : UInt8, w.cell? ⟨a, c.toNat % 9, none⟩ = some (S (pickV c))) ∧ b < w.heap.size ∧ a < w.heap.size
theorem PickW.ext {b a : Nat} {w w' : World} (h : PickW b a w) (hb : Below w.heap.size w w') : PickW b a w' :=
  ⟨(hb.cell (p := ⟨b, 0, none⟩) h.2.2.1).trans h.1, fun c => (hb.cell (p := ⟨a, _, none⟩) h.2.2.2).trans (h.2.1 c), Nat.lt_of_lt_of_le h.2.2.1 hb.size, Nat.lt_of_lt_of_le h.2.2.2 hb.size⟩
set_option maxRecDepth 100000 in
set_option maxHeartbeats 400000 in
theorem pick_any (b a : Nat) (c : UInt8) (w : World) (h : PickW b a w) : Calls Tryz.prog 33 #[B8 c, Ptr b] w fun e w' => e = .returned (S (pickV c)) ∧ w' = w := by
  have h0 := c.toNat_lt
  have h1 : (c.toNat : Int) % 9 < 9 := by omega
  have h2 : (0 : Int) ≤ (c.toNat : Int) % 9 := by omega
  have hb := h.1
  have ha := h.2.1 c
  clear h
  go_enter Tryz.func33, Tryz.ntmps33
  go_wp2_with fail
  go_ret
  exact ⟨rfl, rfl⟩

def xVar (A D : UInt8) : VarD := ⟨[120], pickV A, false, decide (200 < D.toNat)⟩
def madeArgs (A B C : UInt8) : List (List UInt8) := [pickV A, pickV B].take (C.toNat % 3)
def madeVars (A B D F : UInt8) : List VarD := if 128 ≤ F.toNat then [xVar A D, ⟨[121], pickV B, false, false⟩] else [⟨IFS, ifsV F, false, false⟩, xVar A D, ⟨[121], pickV B, false, false⟩]
def MadeC (A B D : UInt8) (W : World) (t : Value) (wc : World) : Prop :=
  ∃ b5 ba, t = Ptr b5 ∧ wc.heap[b5]? = some (.cells #[NilS, .slice (some ⟨ba, 0, none⟩) 2 2, I D.toNat] 30 (0, 0)) ∧ wc.heap[ba]? = some (.cells #[S (pickV A), S (pickV B)] 9 (0, 0)) ∧ W.heap.size ≤ b5 ∧ b5 ≠ ba ∧ W.heap.size ≤ ba ∧ Below W.heap.size W wc
abbrev varsCells (A B D F : UInt8) : Array Value := #[S IFS, S (ifsV F), .bool false, .bool false, S [120], S (pickV A), .bool false, .bool (decide ((200 : Int) < (D.toNat : Int))), S [121], S (pickV B), .bool false, .bool false]
def MadeD (A B D F : UInt8) (W0 W2 : World) (b5 : Nat) (v1 t : Value) (wc : World) : Prop :=
  t = Ptr b5 ∧ ∃ n1, wc.heap[b5]? = some (.cells #[.slice (some ⟨n1, 0, none⟩) 3 3, v1, I D.toNat] 30 (0, 0)) ∧ wc.heap[n1]? = some (.cells (varsCells A B D F) 27 (0, 0)) ∧ W2.heap.size ≤ n1 ∧ (∀ k, k < W2.heap.size → k ≠ b5 → wc.heap[k]? = W2.heap[k]?) ∧ Below W0.heap.size W0 wc
def MadeE (A B C D F : UInt8) (w : World) (e : Ending) (w' : World) : Prop :=
  ∃ vv av, e = .returned (.agg #[vv, av, I D.toNat]) ∧ Sl w'.heap.size 27 w' vv (madeVars A B D F).length 4 (varCells (madeVars A B D F)) ∧ Sl w'.heap.size 9 w' av (madeArgs A B C).length 1 ((madeArgs A B C).map S) ∧ Below w.heap.size w w'

/-- A slice of a block that is known whole. -/
theorem Sl.of_blk {B : Nat} {e : TypeId} {w : World} {b : Nat} {cs : Array Value} {T : TypeId} {f : Nat × Nat} (h : w.heap[b]? = some (.cells cs T f)) (hB : b < B) {o n c k : Nat} {xs : List Value} (hx : xs.length = n * k) (hnc : n ≤ c) (hc : c ≤ maxLen) (hd : (cs.toList.drop o).take xs.length = xs) :
    Sl B e w (.slice (some ⟨b, o, none⟩) n c) n k xs := by
  refine ⟨hx, .inr ⟨b, o, c, rfl, hnc, hc, blk_lt h, .inl hB, fun j u hj => ?_⟩⟩
  rw [blk_cell h]
  have h1 : j < xs.length := (List.getElem?_eq_some_iff.1 hj).1
  rw [← hd, List.getElem?_take, if_pos h1, List.getElem?_drop] at hj
  rw [← Array.getElem?_toList]
  exact hj
theorem made_fin {A B C D F : UInt8} {w W : World} {n1 ba m3 o n : Nat} (hn : W.heap[n1]? = some (.cells (varsCells A B D F) 27 (0, 0))) (ha : W.heap[ba]? = some (.cells #[S (pickV A), S (pickV B)] 9 (0, 0))) (hm : C.toNat % 3 = m3)
    (hon : (o = 4 ∧ n = 2 ∧ 128 ≤ F.toNat) ∨ (o = 0 ∧ n = 3 ∧ ¬ 128 ≤ F.toNat)) (hB : Below w.heap.size w W) :
    MadeE A B C D F w (.returned (.agg #[.slice (some ⟨n1, o, none⟩) n n, .slice (some ⟨ba, 0, none⟩) m3 2, I D.toNat])) W := by
  have hlen : (madeArgs A B C).length = m3 := by
    have : C.toNat % 3 < 3 := Nat.mod_lt _ (by decide)
    simp [madeArgs]; omega
  have hdec : decide ((200 : Int) < (D.toNat : Int)) = decide (200 < D.toNat) := decide_eq_decide.2 (by omega)
  refine ⟨_, _, rfl, ?_, ?_, hB⟩
  · rcases hon with ⟨rfl, rfl, hF⟩ | ⟨rfl, rfl, hF⟩
    · have hv : madeVars A B D F = [xVar A D, ⟨[121], pickV B, false, false⟩] := if_pos hF
      rw [hv]
      exact Sl.of_blk hn (blk_lt hn) (n := 2) rfl (Nat.le_refl _) (by unfold maxLen; decide) (by simp [varCells, VarD.cells, xVar, hdec])
    · have hv : madeVars A B D F = [⟨IFS, ifsV F, false, false⟩, xVar A D, ⟨[121], pickV B, false, false⟩] := if_neg hF
      rw [hv]
      exact Sl.of_blk hn (blk_lt hn) (n := 3) rfl (Nat.le_refl _) (by unfold maxLen; decide) (by simp [varCells, VarD.cells, xVar, hdec])
  · rw [hlen]
    have : C.toNat % 3 < 3 := Nat.mod_lt _ (by decide)
    refine Sl.of_blk ha (blk_lt ha) (by rw [List.length_map, hlen]; omega) (by omega) (by unfold maxLen; decide) ?_
    rw [List.length_map, hlen]
    simp [madeArgs, hm, List.map_take]
theorem made_end (R : Ending → World → Prop) (T : Array Value) (B : Nat) (va aa : Value) (st : Int) (W : World) (h2 : T.getD 2 undef = Ptr B)
    (hb : W.heap[B]? = some (.cells #[va, aa, I st] 30 (0, 0))) (hva : ∃ a n c, va = .slice a n c) (haa : ∃ a n c, aa = .slice a n c) (hR : R (.returned (.agg #[va, aa, I st])) W) : bodyPost Tryz.prog Tryz.f15 R .ret ⟨T, []⟩ W := by
  have e0 : W.cell? ⟨B, 0, none⟩ = some va := (blk_cell hb 0).trans rfl
  have e1 : W.cell? ⟨B, 1, none⟩ = some aa := (blk_cell hb 1).trans rfl
  have e2 : W.cell? ⟨B, 2, none⟩ = some (I st) := (blk_cell hb 2).trans rfl
  obtain ⟨a1, a2, a3, rfl⟩ := hva
  obtain ⟨a4, a5, a6, rfl⟩ := haa
  refine bodyPost_ret ?_ rfl hR
  simp only [Array.getD_eq_getD_getElem?] at h2
  simp [results, Tryz.results15, go_sem, h2, e0, e1, e2]

abbrev zeroShell : Obj := .cells #[NilS, NilS, .int .i64 0] 30
theorem cell_far {w : World} {x n : Nat} (h : ¬ x = n) (o j : Nat) (u : Value) : (w.setCell ⟨n, j, none⟩ u).cell? ⟨x, o, none⟩ = w.cell? ⟨x, o, none⟩ := World.cell?_of_block (w := w) (Below.heap_setCell w ⟨n, j, none⟩ u x h)
theorem wpAnyH_strong {P : Program} {ops : Array Oper} {Q : Exit → Act → World → Prop} {md : Region.Mode} {S S' : World → Prop} (hSS : ∀ w, S' w → S w) :
    ∀ {fuel : Nat} {listed : Array Bool} {a : Act} {w : World}, S' w → (S' w → wpAnyH P md ops Q S' fuel listed a w) → wpAnyH P md ops Q S fuel listed a w := by
  have key : ∀ (fuel : Nat) (listed : Array Bool) (a : Act) (w : World), wpAnyH P md ops Q S' fuel listed a w → wpAnyH P md ops Q S fuel listed a w := by
    intro fuel
    induction fuel with
    | zero => intro listed a w h; exact h
    | succ n ih => intro listed a w h; exact ⟨h.1, fun i hi => wpOp_mono (fun a' w' hh => ⟨hSS _ hh.1, ih _ a' w' hh.2⟩) (h.2 i hi)⟩
  intro fuel listed a w hw h
  exact key _ _ _ _ (h hw)
theorem blk_new1 (w : World) (o o' : Obj) : ((w.alloc o).alloc o').heap[w.heap.size + 1]? = some o' := by
  have := blk_new (w.alloc o) o'
  rw [size_alloc'] at this
  exact this
set_option maxRecDepth 100000 in
set_option maxHeartbeats 8000000 in
theorem made_any (A B C D F : UInt8) (w : World) : Calls Tryz.prog 15 #[.agg #[B8 A, B8 B, B8 C, B8 D, B8 F]] w (MadeE A B C D F w) := by
  have h0 := A.toNat_lt
  have h1 := B.toNat_lt
  have h2 := C.toNat_lt
  have h3 := D.toNat_lt
  have h4 := F.toNat_lt
  go_enter Tryz.func15, Tryz.ntmps15
  go_wp2_with fail
  have hW : Below w.heap.size w ((((w.alloc (.cells #[B8 A, B8 B, B8 C, B8 D, B8 F] 49)).alloc zeroShell).alloc (.cells strsCells 9)).alloc (.cells #[.slice (some ⟨w.heap.size + 1 + 1, 0, none⟩) 9 9] 22)) := ((((Below.refl _ w).alloc (Nat.le_refl _) _).alloc (by simp) _).alloc (by simp; omega) _).alloc (by simp; omega) _
  have p1 := blk_alloc (blk_alloc (blk_alloc (blk_new w (.cells #[B8 A, B8 B, B8 C, B8 D, B8 F] 49)) zeroShell) (.cells strsCells 9)) (.cells #[.slice (some ⟨w.heap.size + 1 + 1, 0, none⟩) 9 9] 22)
  have p2 := blk_alloc (blk_alloc (blk_new (w.alloc (.cells #[B8 A, B8 B, B8 C, B8 D, B8 F] 49)) zeroShell) (.cells strsCells 9)) (.cells #[.slice (some ⟨w.heap.size + 1 + 1, 0, none⟩) 9 9] 22)
  have p3 := blk_alloc (blk_new ((w.alloc (.cells #[B8 A, B8 B, B8 C, B8 D, B8 F] 49)).alloc zeroShell) (.cells strsCells 9)) (.cells #[.slice (some ⟨w.heap.size + 1 + 1, 0, none⟩) 9 9] 22)
  have p4 := blk_new (((w.alloc (.cells #[B8 A, B8 B, B8 C, B8 D, B8 F] 49)).alloc zeroShell).alloc (.cells strsCells 9)) (.cells #[.slice (some ⟨w.heap.size + 1 + 1, 0, none⟩) 9 9] 22)
  rw [size_alloc'] at p2
  rw [size_alloc', size_alloc'] at p3
  rw [size_alloc', size_alloc', size_alloc'] at p4
  have hPk : PickW (w.heap.size + 1 + 1 + 1) (w.heap.size + 1 + 1) ((((w.alloc (.cells #[B8 A, B8 B, B8 C, B8 D, B8 F] 49)).alloc zeroShell).alloc (.cells strsCells 9)).alloc (.cells #[.slice (some ⟨w.heap.size + 1 + 1, 0, none⟩) 9 9] 22)) :=
    ⟨(blk_cell p4 0).trans rfl, fun c => (blk_cell p3 _).trans (strs_get c), blk_lt p4, blk_lt p3⟩
  generalize ((((w.alloc (.cells #[B8 A, B8 B, B8 C, B8 D, B8 F] 49)).alloc (.cells #[.slice none 0 0, .slice none 0 0, .int .i64 0] 30)).alloc (.cells strsCells 9)).alloc (.cells #[.slice (some ⟨w.heap.size + 1 + 1, 0, none⟩) 9 9] 22)) = W0 at *
  clear p3 p4
  have n1 := blk_lt p1
  have n2 := blk_lt p2
  generalize w.heap.size + 1 + 1 + 1 = b3 at *
  generalize w.heap.size + 1 + 1 = b2 at *
  have c0 : W0.cell? ⟨w.heap.size, 0, none⟩ = some (B8 A) := (blk_cell p1 0).trans rfl
  have c1 : W0.cell? ⟨w.heap.size, 1, none⟩ = some (B8 B) := (blk_cell p1 1).trans rfl
  have c2 : W0.cell? ⟨w.heap.size, 2, none⟩ = some (B8 C) := (blk_cell p1 2).trans rfl
  have c3 : W0.cell? ⟨w.heap.size, 3, none⟩ = some (B8 D) := (blk_cell p1 3).trans rfl
  have c4 : W0.cell? ⟨w.heap.size, 4, none⟩ = some (B8 F) := (blk_cell p1 4).trans rfl
  have m0 : ¬ w.heap.size = W0.heap.size := by omega
  have m1 : ¬ w.heap.size = W0.heap.size + 1 := by omega
  have hDw : IntKind.i64.wrap (D.toNat : Int) = D.toNat := IntWalk.i64_in _ (by omega)
  go_cut [5] from 6 (fun t wc => MadeC A B D W0 t wc)
  case rest =>
    obtain ⟨b5, ba, h5, e5, ea, k1, k2, k3, hbV⟩ := hcut
    subst h5
    generalize wc = W1 at *
    clear hDw
    have hsV := hbV.size
    have hl5 := blk_lt e5
    have hla := blk_lt ea
    have d1 : W1.cell? ⟨b5, 1, none⟩ = some (.slice (some ⟨ba, 0, none⟩) 2 2) := (blk_cell e5 1).trans rfl
    have f1 : W1.frozen? ⟨b5, 1, none⟩ = false := blk_free e5 1
    have g2 : W1.cell? ⟨w.heap.size, 2, none⟩ = some (B8 C) := (hbV.cell (p := ⟨w.heap.size, 2, none⟩) n1).trans c2
    have hC0 : (0 : Int) ≤ (C.toNat : Int) % 3 := by omega
    have hC1 : (C.toNat : Int) % 3 ≤ 2 := by omega
    have hC2 : ((C.toNat : Int) % 3).toNat = C.toNat % 3 := by omega
    go_wp2_with fail
    generalize hm3 : C.toNat % 3 = mm at *
    have HM3 := Lib.hid hm3
    clear hm3 hC0 hC1 hC2 d1 f1 g2
    have m6 : ¬ w.heap.size + 1 = b5 := by omega
    have k6 : ba ≠ w.heap.size + 1 := by omega
    have hWs := hW.size
    have q5 := blk_set e5 1 (.slice (some ⟨ba, 0, none⟩) mm 2)
    have qa := blk_other ea (a := ⟨b5, 1, none⟩) (by show ba ≠ b5; omega) (.slice (some ⟨ba, 0, none⟩) mm 2)
    have hbU : Below W0.heap.size W0 (W1.setCell ⟨b5, 1, none⟩ (.slice (some ⟨ba, 0, none⟩) mm 2)) := hbV.setCell (p := ⟨b5, 1, none⟩) k1 (.slice (some ⟨ba, 0, none⟩) mm 2)
    generalize W1.setCell ⟨b5, 1, none⟩ (.slice (some ⟨ba, 0, none⟩) mm 2) = W2 at *
    have hPk2 := hPk.ext hbU
    have r1 := blk_ext hbU p1
    have r2 := blk_ext hbU p2
    have t0 : W2.cell? ⟨w.heap.size, 0, none⟩ = some (B8 A) := (blk_cell r1 0).trans rfl
    have t1 : W2.cell? ⟨w.heap.size, 1, none⟩ = some (B8 B) := (blk_cell r1 1).trans rfl
    have t3 : W2.cell? ⟨w.heap.size, 3, none⟩ = some (B8 D) := (blk_cell r1 3).trans rfl
    have t4 : W2.cell? ⟨w.heap.size, 4, none⟩ = some (B8 F) := (blk_cell r1 4).trans rfl
    have s0 : W2.frozen? ⟨b5, 0, none⟩ = false := blk_free q5 0
    have s1 : W2.cell? ⟨b5, 0, none⟩ = some NilS := (blk_cell q5 0).trans rfl
    have m2 : ¬ w.heap.size = W2.heap.size := by have := blk_lt r1; omega
    have m3 : ¬ w.heap.size = W2.heap.size + 1 := by have := blk_lt r1; omega
    have m4 : ¬ w.heap.size = b5 := by omega
    have l5 := blk_lt q5
    have l1 := blk_lt r1
    have l1' : w.heap.size < W2.heap.size + 1 := by omega
    have l5' : b5 < W2.heap.size + 1 := by omega
    have hif : (W2.alloc (.cells ifsCells 9)).cell? ⟨W2.heap.size, F.toNat % 4, none⟩ = some (S (ifsV F)) := (blk_cell (blk_new W2 (.cells ifsCells 9)) _).trans (ifs_get F)
    have hF0 : (0 : Int) ≤ (F.toNat : Int) % 4 := by omega
    have hF1 : (F.toNat : Int) % 4 < 4 := by omega
    have hF2 : ((F.toNat : Int) % 4).toNat = F.toNat % 4 := by omega
    have hFw : IntKind.i64.wrap (F.toNat : Int) = F.toNat := IntWalk.i64_in _ (by omega)
    have hFm : (F.toNat : Int).tmod 4 = (F.toNat : Int) % 4 := Int.tmod_eq_emod_of_nonneg (by omega)
    clear c0 c1 c2 c3 c4 m0 m1 n1 n2 p1 p2 hPk hbV e5 ea hl5 hla hsV
    go_cut [5] from 6 (fun t wc => MadeD A B D F W0 W2 b5 (.slice (some ⟨ba, 0, none⟩) mm 2) t wc)
    case rest =>
      obtain ⟨h5', n1', d5, dn, k4, k5, hbW⟩ := hcut
      subst h5'
      generalize wc = W3 at *
      have r1' : W3.heap[w.heap.size]? = _ := (k5 _ l1 m4).trans r1
      have r2' : W3.heap[w.heap.size + 1]? = _ := (k5 _ (blk_lt r2) m6).trans r2
      have ra' : W3.heap[ba]? = _ := (k5 _ (blk_lt qa) (fun e => k2 e.symm)).trans qa
      have g4 : W3.cell? ⟨w.heap.size, 4, none⟩ = some (B8 F) := (blk_cell r1' 4).trans rfl
      have x0 : W3.cell? ⟨b5, 0, none⟩ = some (.slice (some ⟨n1', 0, none⟩) 3 3) := (blk_cell d5 0).trans rfl
      have x1 : W3.cell? ⟨b5, 1, none⟩ = some (.slice (some ⟨ba, 0, none⟩) mm 2) := (blk_cell d5 1).trans rfl
      have x2 : W3.cell? ⟨b5, 2, none⟩ = some (I D.toNat) := (blk_cell d5 2).trans rfl
      have x3 : W3.frozen? ⟨b5, 0, none⟩ = false := blk_free d5 0
      have y0 : W3.cell? ⟨w.heap.size + 1, 0, none⟩ = some NilS := (blk_cell r2' 0).trans rfl
      have z0 : W3.frozen? ⟨w.heap.size + 1, 0, none⟩ = false := blk_free r2' 0
      have y1 : W3.cell? ⟨w.heap.size + 1, 1, none⟩ = some NilS := (blk_cell r2' 1).trans rfl
      have z1 : W3.frozen? ⟨w.heap.size + 1, 1, none⟩ = false := blk_free r2' 1
      have y2 : W3.cell? ⟨w.heap.size + 1, 2, none⟩ = some (.int .i64 0) := (blk_cell r2' 2).trans rfl
      have z2 : W3.frozen? ⟨w.heap.size + 1, 2, none⟩ = false := blk_free r2' 2
      have hbw := hW.trans (hbW.mono hW.size)
      have ln1 := blk_lt dn
      have e1 : n1' ≠ b5 := by omega
      have e2 : n1' ≠ w.heap.size + 1 := by have := blk_lt r2; omega
      have e3 := k6
      have fin : ∀ (W4 : World) (o n : Nat), W4.heap[n1']? = W3.heap[n1']? → W4.heap[ba]? = W3.heap[ba]? → Below w.heap.size w W4 → (o = 4 ∧ n = 2 ∧ 128 ≤ F.toNat) ∨ (o = 0 ∧ n = 3 ∧ ¬ 128 ≤ F.toNat) → MadeE A B C D F w (.returned (.agg #[.slice (some ⟨n1', o, none⟩) n n, .slice (some ⟨ba, 0, none⟩) mm 2, I D.toNat])) W4 :=
        fun W4 o n h1 h2 h3 h4 => made_fin (h1.trans dn) (h2.trans ra') HM3.out h4 h3
      have FIN := Lib.hid fin
      have HH := Lib.hid (And.intro d5 (And.intro r2' (And.intro hbw (And.intro e1 (And.intro e2 (And.intro e3 k2))))))
      clear fin d5 dn r1' r2' ra' hbw e1 e2 e3 k4 k5 hbW hbU hPk2 q5 qa r1 r2 t0 t1 t3 t4 s0 s1 hif hF0 hF1 hF2 hFw hFm
      by_cases hF : 128 ≤ F.toNat
      · have hF' : (128 : Int) ≤ F.toNat := by omega
        go_wp2_with fail
        refine made_end _ _ (w.heap.size + 1) (.slice (some ⟨n1', 4, none⟩) 2 2) (.slice (some ⟨ba, 0, none⟩) mm 2) D.toNat _ rfl ?_ ⟨_, _, _, rfl⟩ ⟨_, _, _, rfl⟩ ?_
        · exact blk_set (blk_set (blk_set (blk_other HH.out.2.1 (a := ⟨b5, 0, none⟩) m6 _) 0 _) 1 _) 2 _
        · refine FIN.out _ 4 2 ?_ ?_ ?_ (.inl ⟨rfl, rfl, hF⟩)
          · exact (Below.heap_setCell _ _ _ _ HH.out.2.2.2.2.1).trans ((Below.heap_setCell _ _ _ _ HH.out.2.2.2.2.1).trans ((Below.heap_setCell _ _ _ _ HH.out.2.2.2.2.1).trans (Below.heap_setCell _ _ _ _ HH.out.2.2.2.1)))
          · exact (Below.heap_setCell _ _ _ _ HH.out.2.2.2.2.2.1).trans ((Below.heap_setCell _ _ _ _ HH.out.2.2.2.2.2.1).trans ((Below.heap_setCell _ _ _ _ HH.out.2.2.2.2.2.1).trans (Below.heap_setCell _ _ _ _ (fun e => HH.out.2.2.2.2.2.2 e.symm))))
          · exact (((HH.out.2.2.1.setCell (p := ⟨b5, 0, none⟩) (by show _ ≤ b5; omega) _).setCell (p := ⟨w.heap.size + 1, 0, none⟩) (Nat.le_succ _) _).setCell (p := ⟨w.heap.size + 1, 1, none⟩) (Nat.le_succ _) _).setCell (p := ⟨w.heap.size + 1, 2, none⟩) (Nat.le_succ _) _
      · have hF' : (F.toNat : Int) < 128 := by omega
        go_wp2_with fail
        refine made_end _ _ (w.heap.size + 1) (.slice (some ⟨n1', 0, none⟩) 3 3) (.slice (some ⟨ba, 0, none⟩) mm 2) D.toNat _ rfl ?_ ⟨_, _, _, rfl⟩ ⟨_, _, _, rfl⟩ ?_
        · exact blk_set (blk_set (blk_set HH.out.2.1 0 _) 1 _) 2 _
        · refine FIN.out _ 0 3 ?_ ?_ ?_ (.inr ⟨rfl, rfl, hF⟩)
          · exact (Below.heap_setCell _ _ _ _ HH.out.2.2.2.2.1).trans ((Below.heap_setCell _ _ _ _ HH.out.2.2.2.2.1).trans (Below.heap_setCell _ _ _ _ HH.out.2.2.2.2.1))
          · exact (Below.heap_setCell _ _ _ _ HH.out.2.2.2.2.2.1).trans ((Below.heap_setCell _ _ _ _ HH.out.2.2.2.2.2.1).trans (Below.heap_setCell _ _ _ _ HH.out.2.2.2.2.2.1))
          · exact ((HH.out.2.2.1.setCell (p := ⟨w.heap.size + 1, 0, none⟩) (Nat.le_succ _) _).setCell (p := ⟨w.heap.size + 1, 1, none⟩) (Nat.le_succ _) _).setCell (p := ⟨w.heap.size + 1, 2, none⟩) (Nat.le_succ _) _
    case first =>
      rename_i J2 K2 hJ2 hK2
      have keep5 : ∀ (u : Value) (o : Obj), (((W2.setCell ⟨b5, 0, none⟩ u).alloc (.cells ifsCells 9)).alloc o).cell? ⟨W2.heap.size, F.toNat % 4, none⟩ = some (S (ifsV F)) := by
        intro u o
        have h := blk_new (W2.setCell ⟨b5, 0, none⟩ u) (.cells ifsCells 9)
        have hz : (W2.setCell ⟨b5, 0, none⟩ u).heap.size = W2.heap.size := by simp [World.setCell]
        rw [hz] at h
        exact (blk_cell (blk_alloc h o) _).trans (ifs_get F)
      have keepC : ∀ (u : Value) (o : Obj) (j : Nat), (((W2.setCell ⟨b5, 0, none⟩ u).alloc (.cells ifsCells 9)).alloc o).cell? ⟨w.heap.size, j, none⟩ = W2.cell? ⟨w.heap.size, j, none⟩ := fun u o j =>
        World.cell?_of_block (w := W2) (by
          rw [Below.heap_alloc _ _ _ (by simp [World.setCell]; omega), Below.heap_alloc _ _ _ (by simp [World.setCell]; omega)]
          exact Below.heap_setCell W2 ⟨b5, 0, none⟩ u w.heap.size m4)
      have end1 : ∀ t, t = Ptr b5 → MadeD A B D F W0 W2 b5 (.slice (some ⟨ba, 0, none⟩) mm 2) t ((((W2.setCell ⟨b5, 0, none⟩ (.slice (some ⟨W2.heap.size + 1, 0, none⟩) 3 3)).alloc (.cells ifsCells 9)).alloc (.cells (varsCells A B D F) 27))).drew := by
        intro t ht
        have hz : (W2.setCell ⟨b5, 0, none⟩ (.slice (some ⟨W2.heap.size + 1, 0, none⟩) 3 3)).heap.size = W2.heap.size := by simp [World.setCell]
        have hB := (hbU.setCell (p := ⟨b5, 0, none⟩) k1 (.slice (some ⟨W2.heap.size + 1, 0, none⟩) 3 3))
        have hv := blk_new1 (W2.setCell ⟨b5, 0, none⟩ (.slice (some ⟨W2.heap.size + 1, 0, none⟩) 3 3)) (.cells ifsCells 9) (.cells (varsCells A B D F) 27)
        rw [hz] at hv
        refine ⟨ht, W2.heap.size + 1, blk_alloc (blk_alloc (blk_set q5 0 _) _) _, hv, by omega, fun k hk hkb => ?_, ((hB.alloc hB.size _).alloc (by have := hB.size; simp; omega) _).drew⟩
        refine (Below.heap_alloc _ _ _ (by simp [World.setCell]; omega)).trans ((Below.heap_alloc _ _ _ (by simp [World.setCell]; omega)).trans ?_)
        exact Below.heap_setCell W2 ⟨b5, 0, none⟩ _ k hkb
      have END1 := Lib.hid (end1 _ rfl)
      clear end1
      refine wp_region_held_drew (S := fun w' => w'.cell? ⟨w.heap.size, 0, none⟩ = some (B8 A) ∧ w'.cell? ⟨w.heap.size, 1, none⟩ = some (B8 B) ∧ w'.cell? ⟨w.heap.size, 3, none⟩ = some (B8 D) ∧ w'.cell? ⟨w.heap.size, 4, none⟩ = some (B8 F)) (by kernel_rfl) ⟨t0, t1, t3, t4⟩ (fun hHeld => ?_)
      refine wpAnyH_take (i := 1) (v := ?_) rfl (by kernel_rfl) (by kernel_rfl) (by kernel_rfl) (fun _ _ _ h => h) (Or.inl ⟨by rfl, ?_⟩) (by assumption) ?_
      rotate_left
      focus (intro wz hSz; (try dsimp only at hSz); go_simp; try with_reducible rfl)
      try simp only [Act.put, List.setIfInBounds_toArray, List.set_cons_zero, List.set_cons_succ]
      refine wpAnyH_take (i := 2) (v := ?_) rfl (by kernel_rfl) (by kernel_rfl) (by kernel_rfl) (fun _ _ _ h => h) (Or.inl ⟨by rfl, ?_⟩) (by assumption) ?_
      rotate_left
      focus (intro wz hSz; (try dsimp only at hSz); go_simp; try with_reducible rfl)
      try simp only [Act.put, List.setIfInBounds_toArray, List.set_cons_zero, List.set_cons_succ]
      refine wpAnyH_take (i := 3) (v := ?_) rfl (by kernel_rfl) (by kernel_rfl) (by kernel_rfl) (fun _ _ _ h => h) (Or.inl ⟨by rfl, ?_⟩) (by assumption) ?_
      rotate_left
      focus (intro wz hSz; (try dsimp only at hSz); go_simp; try with_reducible rfl)
      try simp only [Act.put, List.setIfInBounds_toArray, List.set_cons_zero, List.set_cons_succ]
      refine wpAnyH_take (i := 4) (v := ?_) rfl (by kernel_rfl) (by kernel_rfl) (by kernel_rfl) (fun _ _ _ h => h) (Or.inl ⟨by rfl, ?_⟩) (by assumption) ?_
      rotate_left
      focus (intro wz hSz; (try dsimp only at hSz); go_simp; try with_reducible rfl)
      try simp only [Act.put, List.setIfInBounds_toArray, List.set_cons_zero, List.set_cons_succ]
      refine wpAnyH_take (i := 8) (v := ?_) rfl (by kernel_rfl) (by kernel_rfl) (by kernel_rfl) (fun _ _ _ h => h) (Or.inl ⟨by rfl, ?_⟩) (by assumption) ?_
      rotate_left
      focus (intro wz hSz; (try dsimp only at hSz); go_simp; try with_reducible rfl)
      try simp only [Act.put, List.setIfInBounds_toArray, List.set_cons_zero, List.set_cons_succ]
      refine wpAnyH_take (i := 9) (v := ?_) rfl (by kernel_rfl) (by kernel_rfl) (by kernel_rfl) (fun _ _ _ h => h) (Or.inl ⟨by rfl, ?_⟩) (by assumption) ?_
      rotate_left
      focus (intro wz hSz; (try dsimp only at hSz); go_simp; try with_reducible rfl)
      try simp only [Act.put, List.setIfInBounds_toArray, List.set_cons_zero, List.set_cons_succ]
      refine wpAnyH_take (i := 10) (v := ?_) rfl (by kernel_rfl) (by kernel_rfl) (by kernel_rfl) (fun _ _ _ h => h) (Or.inl ⟨by rfl, ?_⟩) (by assumption) ?_
      rotate_left
      focus (intro wz hSz; (try dsimp only at hSz); go_simp; try with_reducible rfl)
      try simp only [Act.put, List.setIfInBounds_toArray, List.set_cons_zero, List.set_cons_succ]
      refine wpAnyH_take (i := 12) (v := ?_) rfl (by kernel_rfl) (by kernel_rfl) (by kernel_rfl) (fun _ _ _ h => h) (Or.inl ⟨by rfl, ?_⟩) (by assumption) ?_
      rotate_left
      focus (intro wz hSz; (try dsimp only at hSz); go_simp; try with_reducible rfl)
      try simp only [Act.put, List.setIfInBounds_toArray, List.set_cons_zero, List.set_cons_succ]
      refine wpAnyH_take (i := 13) (v := ?_) rfl (by kernel_rfl) (by kernel_rfl) (by kernel_rfl) (fun _ _ _ h => h) (Or.inl ⟨by rfl, ?_⟩) (by assumption) ?_
      rotate_left
      focus (intro wz hSz; (try dsimp only at hSz); go_simp; try with_reducible rfl)
      try simp only [Act.put, List.setIfInBounds_toArray, List.set_cons_zero, List.set_cons_succ]
      refine wpAnyH_take (i := 14) (v := ?_) rfl (by kernel_rfl) (by kernel_rfl) (by kernel_rfl) (fun _ _ _ h => h) (Or.inl ⟨by rfl, ?_⟩) (by assumption) ?_
      rotate_left
      focus (intro wz hSz; (try dsimp only at hSz); go_simp; try with_reducible rfl)
      try simp only [Act.put, List.setIfInBounds_toArray, List.set_cons_zero, List.set_cons_succ]
      refine wpAnyH_take (i := 16) (v := ?_) rfl (by kernel_rfl) (by kernel_rfl) (by kernel_rfl) (fun _ _ _ h => h) (Or.inl ⟨by rfl, ?_⟩) (by assumption) ?_
      rotate_left
      focus (intro wz hSz; (try dsimp only at hSz); go_simp; try with_reducible rfl)
      try simp only [Act.put, List.setIfInBounds_toArray, List.set_cons_zero, List.set_cons_succ]
      refine wpAnyH_take (i := 17) (v := ?_) rfl (by kernel_rfl) (by kernel_rfl) (by kernel_rfl) (fun _ _ _ h => h) (Or.inl ⟨by rfl, ?_⟩) (by assumption) ?_
      rotate_left
      focus (intro wz hSz; (try dsimp only at hSz); go_simp; try with_reducible rfl)
      try simp only [Act.put, List.setIfInBounds_toArray, List.set_cons_zero, List.set_cons_succ]
      refine wpAnyH_take (i := 18) (v := ?_) rfl (by kernel_rfl) (by kernel_rfl) (by kernel_rfl) (fun _ _ _ h => h) (Or.inl ⟨by rfl, ?_⟩) (by assumption) ?_
      rotate_left
      focus (intro wz hSz; (try dsimp only at hSz); go_simp; try with_reducible rfl)
      try simp only [Act.put, List.setIfInBounds_toArray, List.set_cons_zero, List.set_cons_succ]
      refine wpAnyH_ready (rs := [0, 11]) (by kernel_rfl) (by simp) ?_
      refine AllReadyH.cons rfl (fun K hK => ?_) ?_
      · go_simp
        refine hK.out _ _ ?_ (fun hHeld2 => ?_)
        · try dsimp only
          go_keep
        clear hK K
        try simp only [Act.put, List.setIfInBounds_toArray, List.set_cons_zero, List.set_cons_succ]
        refine wpAnyH_strong (S' := fun w' => (w'.cell? ⟨w.heap.size, 0, none⟩ = some (B8 A) ∧ w'.cell? ⟨w.heap.size, 1, none⟩ = some (B8 B) ∧ w'.cell? ⟨w.heap.size, 3, none⟩ = some (B8 D) ∧ w'.cell? ⟨w.heap.size, 4, none⟩ = some (B8 F)) ∧ w'.cell? ⟨W2.heap.size, F.toNat % 4, none⟩ = some (S (ifsV F))) (fun _ h => h.1) ⟨hHeld2, hif⟩ (fun hHeld3 => ?_)
        clear hHeld2
        refine wpAnyH_take (i := 5) (v := ?_) rfl (by kernel_rfl) (by kernel_rfl) (by kernel_rfl) (fun _ _ _ h => h) (Or.inl ⟨by rfl, ?_⟩) (by assumption) ?_
        rotate_left
        focus (intro wz hSz; (try dsimp only at hSz); go_simp; try with_reducible rfl)
        try simp only [Act.put, List.setIfInBounds_toArray, List.set_cons_zero, List.set_cons_succ]
        refine wpAnyH_take (i := 6) (v := ?_) rfl (by kernel_rfl) (by kernel_rfl) (by kernel_rfl) (fun _ _ _ h => h) (Or.inl ⟨by rfl, ?_⟩) (by assumption) ?_
        rotate_left
        focus (intro wz hSz; (try dsimp only at hSz); go_simp; try with_reducible rfl)
        try simp only [Act.put, List.setIfInBounds_toArray, List.set_cons_zero, List.set_cons_succ]
        refine wpAnyH_take (i := 7) (v := ?_) rfl (by kernel_rfl) (by kernel_rfl) (by kernel_rfl) (fun _ _ _ h => h) (Or.inl ⟨by rfl, ?_⟩) (by assumption) ?_
        rotate_left
        focus (intro wz hSz; (try dsimp only at hSz); go_simp; try with_reducible rfl)
        try simp only [Act.put, List.setIfInBounds_toArray, List.set_cons_zero, List.set_cons_succ]
        refine wpAnyH_ready (rs := [11]) (by kernel_rfl) (by simp) ?_
        refine AllReadyH.cons rfl (fun K hK => ?_) ?_
        · go_simp
          refine (pick_any b3 b2 _ _ (hPk2.ext (by repeat (first | exact Below.refl _ _ | apply Below.drew | (refine Below.alloc ?_ (by first | (simp; done) | (simp; omega)) _))))).mono ?_
          rintro e w3 ⟨rfl, rfl⟩
          try go_wp2_with fail
          refine hK.out _ _ ?_ (fun hHeld2 => ?_)
          · try dsimp only
            go_keep
          clear hK K
          try simp only [Act.put, List.setIfInBounds_toArray, List.set_cons_zero, List.set_cons_succ]
          refine wpAnyH_take (i := 15) (v := ?_) rfl (by kernel_rfl) (by kernel_rfl) (by kernel_rfl) (fun _ _ _ h => h) (Or.inl ⟨by rfl, ?_⟩) (by assumption) ?_
          rotate_left
          focus (intro wz hSz; (try dsimp only at hSz); go_simp; try with_reducible rfl)
          try simp only [Act.put, List.setIfInBounds_toArray, List.set_cons_zero, List.set_cons_succ]
          refine wpAnyH_ready (rs := [19]) (by kernel_rfl) (by simp) ?_
          refine AllReadyH.cons rfl (fun K hK => ?_) ?_
          · go_simp
            refine (pick_any b3 b2 _ _ (hPk2.ext (by repeat (first | exact Below.refl _ _ | apply Below.drew | (refine Below.alloc ?_ (by first | (simp; done) | (simp; omega)) _))))).mono ?_
            rintro e w3 ⟨rfl, rfl⟩
            try go_wp2_with fail
            refine hK.out _ _ ?_ (fun hHeld2 => ?_)
            · try dsimp only
              go_keep
            clear hK K
            try simp only [Act.put, List.setIfInBounds_toArray, List.set_cons_zero, List.set_cons_succ]
            refine wpAnyH_take (i := 20) (v := ?_) rfl (by kernel_rfl) (by kernel_rfl) (by kernel_rfl) (fun _ _ _ h => h) (Or.inl ⟨by rfl, ?_⟩) (by assumption) ?_
            rotate_left
            focus (intro wz hSz; (try dsimp only at hSz); go_simp; try with_reducible rfl)
            try simp only [Act.put, List.setIfInBounds_toArray, List.set_cons_zero, List.set_cons_succ]
            refine wpAnyH_ready (rs := [21]) (by kernel_rfl) (by simp) ?_
            refine AllReadyH.cons rfl (fun K hK => ?_) ?_
            · go_simp
              refine hK.out _ _ ?_ (fun hHeld2 => ?_)
              · try dsimp only
                go_keep
              clear hK K
              try simp only [Act.put, List.setIfInBounds_toArray, List.set_cons_zero, List.set_cons_succ]
              refine wpAnyH_take (i := 22) (v := ?_) rfl (by kernel_rfl) (by kernel_rfl) (by kernel_rfl) (fun _ _ _ h => h) (Or.inl ⟨by rfl, ?_⟩) (by assumption) ?_
              rotate_left
              focus (intro wz hSz; (try dsimp only at hSz); go_simp; try with_reducible rfl)
              try simp only [Act.put, List.setIfInBounds_toArray, List.set_cons_zero, List.set_cons_succ]
              refine wpAnyH_ready (rs := [23]) (by kernel_rfl) (by simp) ?_
              refine AllReadyH.cons rfl (fun K hK => ?_) ?_
              · go_simp
                refine hK.out _ _ ?_ (fun hHeld2 => ?_)
                · try dsimp only
                  exact ⟨⟨(keepC _ _ _).trans t0, (keepC _ _ _).trans t1, (keepC _ _ _).trans t3, (keepC _ _ _).trans t4⟩, keep5 _ _⟩
                clear hK K
                try simp only [Act.put, List.setIfInBounds_toArray, List.set_cons_zero, List.set_cons_succ]
                refine wpAnyH_done (by kernel_rfl) ?_ _
                refine hK2 _ _ (Met.intro (hJ2 _ _ ?_))
                repeat apply Exists.intro
                refine ⟨?rel, rfl⟩
                case rel => exact END1.out
              exact AllReadyH.nil
            exact AllReadyH.nil
          exact AllReadyH.nil
        exact AllReadyH.nil
      refine AllReadyH.cons rfl (fun K hK => ?_) ?_
      · go_simp
        refine (pick_any b3 b2 _ _ (hPk2.ext (by repeat (first | exact Below.refl _ _ | apply Below.drew | (refine Below.alloc ?_ (by first | (simp; done) | (simp; omega)) _))))).mono ?_
        rintro e w3 ⟨rfl, rfl⟩
        try go_wp2_with fail
        refine hK.out _ _ ?_ (fun hHeld2 => ?_)
        · try dsimp only
          go_keep
        clear hK K
        try simp only [Act.put, List.setIfInBounds_toArray, List.set_cons_zero, List.set_cons_succ]
        refine wpAnyH_take (i := 15) (v := ?_) rfl (by kernel_rfl) (by kernel_rfl) (by kernel_rfl) (fun _ _ _ h => h) (Or.inl ⟨by rfl, ?_⟩) (by assumption) ?_
        rotate_left
        focus (intro wz hSz; (try dsimp only at hSz); go_simp; try with_reducible rfl)
        try simp only [Act.put, List.setIfInBounds_toArray, List.set_cons_zero, List.set_cons_succ]
        refine wpAnyH_ready (rs := [0, 19]) (by kernel_rfl) (by simp) ?_
        refine AllReadyH.cons rfl (fun K hK => ?_) ?_
        · go_simp
          refine hK.out _ _ ?_ (fun hHeld2 => ?_)
          · try dsimp only
            go_keep
          clear hK K
          try simp only [Act.put, List.setIfInBounds_toArray, List.set_cons_zero, List.set_cons_succ]
          refine wpAnyH_strong (S' := fun w' => (w'.cell? ⟨w.heap.size, 0, none⟩ = some (B8 A) ∧ w'.cell? ⟨w.heap.size, 1, none⟩ = some (B8 B) ∧ w'.cell? ⟨w.heap.size, 3, none⟩ = some (B8 D) ∧ w'.cell? ⟨w.heap.size, 4, none⟩ = some (B8 F)) ∧ w'.cell? ⟨W2.heap.size, F.toNat % 4, none⟩ = some (S (ifsV F))) (fun _ h => h.1) ⟨hHeld2, hif⟩ (fun hHeld3 => ?_)
          clear hHeld2
          refine wpAnyH_take (i := 5) (v := ?_) rfl (by kernel_rfl) (by kernel_rfl) (by kernel_rfl) (fun _ _ _ h => h) (Or.inl ⟨by rfl, ?_⟩) (by assumption) ?_
          rotate_left
          focus (intro wz hSz; (try dsimp only at hSz); go_simp; try with_reducible rfl)
          try simp only [Act.put, List.setIfInBounds_toArray, List.set_cons_zero, List.set_cons_succ]
          refine wpAnyH_take (i := 6) (v := ?_) rfl (by kernel_rfl) (by kernel_rfl) (by kernel_rfl) (fun _ _ _ h => h) (Or.inl ⟨by rfl, ?_⟩) (by assumption) ?_
          rotate_left
          focus (intro wz hSz; (try dsimp only at hSz); go_simp; try with_reducible rfl)
          try simp only [Act.put, List.setIfInBounds_toArray, List.set_cons_zero, List.set_cons_succ]
          refine wpAnyH_take (i := 7) (v := ?_) rfl (by kernel_rfl) (by kernel_rfl) (by kernel_rfl) (fun _ _ _ h => h) (Or.inl ⟨by rfl, ?_⟩) (by assumption) ?_
          rotate_left
          focus (intro wz hSz; (try dsimp only at hSz); go_simp; try with_reducible rfl)
          try simp only [Act.put, List.setIfInBounds_toArray, List.set_cons_zero, List.set_cons_succ]
          refine wpAnyH_ready (rs := [19]) (by kernel_rfl) (by simp) ?_
          refine AllReadyH.cons rfl (fun K hK => ?_) ?_
          · go_simp
            refine (pick_any b3 b2 _ _ (hPk2.ext (by repeat (first | exact Below.refl _ _ | apply Below.drew | (refine Below.alloc ?_ (by first | (simp; done) | (simp; omega)) _))))).mono ?_
            rintro e w3 ⟨rfl, rfl⟩
            try go_wp2_with fail
            refine hK.out _ _ ?_ (fun hHeld2 => ?_)
            · try dsimp only
              go_keep
            clear hK K
            try simp only [Act.put, List.setIfInBounds_toArray, List.set_cons_zero, List.set_cons_succ]
            refine wpAnyH_take (i := 20) (v := ?_) rfl (by kernel_rfl) (by kernel_rfl) (by kernel_rfl) (fun _ _ _ h => h) (Or.inl ⟨by rfl, ?_⟩) (by assumption) ?_
            rotate_left
            focus (intro wz hSz; (try dsimp only at hSz); go_simp; try with_reducible rfl)
            try simp only [Act.put, List.setIfInBounds_toArray, List.set_cons_zero, List.set_cons_succ]
            refine wpAnyH_ready (rs := [21]) (by kernel_rfl) (by simp) ?_
            refine AllReadyH.cons rfl (fun K hK => ?_) ?_
            · go_simp
              refine hK.out _ _ ?_ (fun hHeld2 => ?_)
              · try dsimp only
                go_keep
              clear hK K
              try simp only [Act.put, List.setIfInBounds_toArray, List.set_cons_zero, List.set_cons_succ]
              refine wpAnyH_take (i := 22) (v := ?_) rfl (by kernel_rfl) (by kernel_rfl) (by kernel_rfl) (fun _ _ _ h => h) (Or.inl ⟨by rfl, ?_⟩) (by assumption) ?_
              rotate_left
              focus (intro wz hSz; (try dsimp only at hSz); go_simp; try with_reducible rfl)
              try simp only [Act.put, List.setIfInBounds_toArray, List.set_cons_zero, List.set_cons_succ]
              refine wpAnyH_ready (rs := [23]) (by kernel_rfl) (by simp) ?_
              refine AllReadyH.cons rfl (fun K hK => ?_) ?_
              · go_simp
                refine hK.out _ _ ?_ (fun hHeld2 => ?_)
                · try dsimp only
                  exact ⟨⟨(keepC _ _ _).trans t0, (keepC _ _ _).trans t1, (keepC _ _ _).trans t3, (keepC _ _ _).trans t4⟩, keep5 _ _⟩
                clear hK K
                try simp only [Act.put, List.setIfInBounds_toArray, List.set_cons_zero, List.set_cons_succ]
                refine wpAnyH_done (by kernel_rfl) ?_ _
                refine hK2 _ _ (Met.intro (hJ2 _ _ ?_))
                repeat apply Exists.intro
                refine ⟨?rel, rfl⟩
                case rel => exact END1.out
              exact AllReadyH.nil
            exact AllReadyH.nil
          exact AllReadyH.nil
        refine AllReadyH.cons rfl (fun K hK => ?_) ?_
        · go_simp
          refine (pick_any b3 b2 _ _ (hPk2.ext (by repeat (first | exact Below.refl _ _ | apply Below.drew | (refine Below.alloc ?_ (by first | (simp; done) | (simp; omega)) _))))).mono ?_
          rintro e w3 ⟨rfl, rfl⟩
          try go_wp2_with fail
          refine hK.out _ _ ?_ (fun hHeld2 => ?_)
          · try dsimp only
            go_keep
          clear hK K
          try simp only [Act.put, List.setIfInBounds_toArray, List.set_cons_zero, List.set_cons_succ]
          refine wpAnyH_take (i := 20) (v := ?_) rfl (by kernel_rfl) (by kernel_rfl) (by kernel_rfl) (fun _ _ _ h => h) (Or.inl ⟨by rfl, ?_⟩) (by assumption) ?_
          rotate_left
          focus (intro wz hSz; (try dsimp only at hSz); go_simp; try with_reducible rfl)
          try simp only [Act.put, List.setIfInBounds_toArray, List.set_cons_zero, List.set_cons_succ]
          refine wpAnyH_ready (rs := [0]) (by kernel_rfl) (by simp) ?_
          refine AllReadyH.cons rfl (fun K hK => ?_) ?_
          · go_simp
            refine hK.out _ _ ?_ (fun hHeld2 => ?_)
            · try dsimp only
              go_keep
            clear hK K
            try simp only [Act.put, List.setIfInBounds_toArray, List.set_cons_zero, List.set_cons_succ]
            refine wpAnyH_strong (S' := fun w' => (w'.cell? ⟨w.heap.size, 0, none⟩ = some (B8 A) ∧ w'.cell? ⟨w.heap.size, 1, none⟩ = some (B8 B) ∧ w'.cell? ⟨w.heap.size, 3, none⟩ = some (B8 D) ∧ w'.cell? ⟨w.heap.size, 4, none⟩ = some (B8 F)) ∧ w'.cell? ⟨W2.heap.size, F.toNat % 4, none⟩ = some (S (ifsV F))) (fun _ h => h.1) ⟨hHeld2, hif⟩ (fun hHeld3 => ?_)
            clear hHeld2
            refine wpAnyH_take (i := 5) (v := ?_) rfl (by kernel_rfl) (by kernel_rfl) (by kernel_rfl) (fun _ _ _ h => h) (Or.inl ⟨by rfl, ?_⟩) (by assumption) ?_
            rotate_left
            focus (intro wz hSz; (try dsimp only at hSz); go_simp; try with_reducible rfl)
            try simp only [Act.put, List.setIfInBounds_toArray, List.set_cons_zero, List.set_cons_succ]
            refine wpAnyH_take (i := 6) (v := ?_) rfl (by kernel_rfl) (by kernel_rfl) (by kernel_rfl) (fun _ _ _ h => h) (Or.inl ⟨by rfl, ?_⟩) (by assumption) ?_
            rotate_left
            focus (intro wz hSz; (try dsimp only at hSz); go_simp; try with_reducible rfl)
            try simp only [Act.put, List.setIfInBounds_toArray, List.set_cons_zero, List.set_cons_succ]
            refine wpAnyH_take (i := 7) (v := ?_) rfl (by kernel_rfl) (by kernel_rfl) (by kernel_rfl) (fun _ _ _ h => h) (Or.inl ⟨by rfl, ?_⟩) (by assumption) ?_
            rotate_left
            focus (intro wz hSz; (try dsimp only at hSz); go_simp; try with_reducible rfl)
            try simp only [Act.put, List.setIfInBounds_toArray, List.set_cons_zero, List.set_cons_succ]
            refine wpAnyH_ready (rs := [21]) (by kernel_rfl) (by simp) ?_
            refine AllReadyH.cons rfl (fun K hK => ?_) ?_
            · go_simp
              refine hK.out _ _ ?_ (fun hHeld2 => ?_)
              · try dsimp only
                go_keep
              clear hK K
              try simp only [Act.put, List.setIfInBounds_toArray, List.set_cons_zero, List.set_cons_succ]
              refine wpAnyH_take (i := 22) (v := ?_) rfl (by kernel_rfl) (by kernel_rfl) (by kernel_rfl) (fun _ _ _ h => h) (Or.inl ⟨by rfl, ?_⟩) (by assumption) ?_
              rotate_left
              focus (intro wz hSz; (try dsimp only at hSz); go_simp; try with_reducible rfl)
              try simp only [Act.put, List.setIfInBounds_toArray, List.set_cons_zero, List.set_cons_succ]
              refine wpAnyH_ready (rs := [23]) (by kernel_rfl) (by simp) ?_
              refine AllReadyH.cons rfl (fun K hK => ?_) ?_
              · go_simp
                refine hK.out _ _ ?_ (fun hHeld2 => ?_)
                · try dsimp only
                  exact ⟨⟨(keepC _ _ _).trans t0, (keepC _ _ _).trans t1, (keepC _ _ _).trans t3, (keepC _ _ _).trans t4⟩, keep5 _ _⟩
                clear hK K
                try simp only [Act.put, List.setIfInBounds_toArray, List.set_cons_zero, List.set_cons_succ]
                refine wpAnyH_done (by kernel_rfl) ?_ _
                refine hK2 _ _ (Met.intro (hJ2 _ _ ?_))
                repeat apply Exists.intro
                refine ⟨?rel, rfl⟩
                case rel => exact END1.out
              exact AllReadyH.nil
            exact AllReadyH.nil
          exact AllReadyH.nil
        exact AllReadyH.nil
      exact AllReadyH.nil
  case first =>
    rename_i J K1 hJ hK1
    go_region_held3 (fun w' => w'.cell? ⟨w.heap.size, 0, none⟩ = some (B8 A) ∧ w'.cell? ⟨w.heap.size, 1, none⟩ = some (B8 B) ∧ w'.cell? ⟨w.heap.size, 3, none⟩ = some (B8 D)) (first | go_keep | (simp only [cell_far m0, cell_far m1]; go_keep)) ((go_at_call 33; refine (pick_any b3 b2 _ _ (hPk.ext (by repeat (first | exact Below.refl _ _ | apply Below.drew | (refine Below.alloc ?_ (by first | (simp; done) | (simp; omega)) _))))).mono ?_; rintro e w3 ⟨rfl, rfl⟩))
    all_goals
      refine hK1 _ _ (Met.intro (hJ _ _ ?_))
      repeat apply Exists.intro
      refine ⟨?rel, rfl⟩
      case rel =>
        first
          | exact ⟨_, _, rfl, blk_new1 W0 _ _, blk_alloc (blk_new W0 _) _, by omega, by omega, by omega, ((((Below.refl _ W0).alloc (Nat.le_refl _) _).alloc (by simp) _).drew)⟩
          | exact ⟨_, _, rfl, blk_alloc (blk_new W0 _) _, blk_new1 W0 _ _, by omega, by omega, by omega, ((((Below.refl _ W0).alloc (Nat.le_refl _) _).alloc (by simp) _).drew)⟩
end Go.Proofs.YtdffbbfhcdhpdaaGreatDoor
