/- ref08.Add on every list of parts. -/
import Derived.Test.YtdffbbfhcdhpdaaGreatDoorF0
import Derived.RegionTactic
namespace Go.Proofs.YtdffbbfhcdhpdaaGreatDoor
open Go.RowKit

theorem ownsRow_store {w : World} {base : Nat} {e : TypeId} {size g n cap : Nat} {xs : List Value} (h : w.ownsRow base e size (.slice (some ⟨g, 0, none⟩) n cap) n xs) (j : Nat) (u : Value) :
    (w.setCell ⟨g, j, none⟩ u).ownsRow base e size (.slice (some ⟨g, 0, none⟩) n cap) n (xs.set j u) := by
  refine ⟨by rw [List.length_set]; exact h.1, ?_⟩
  rcases h.2 with ⟨hn, _⟩ | ⟨g', cap', cur, hv, hb, hh, hn, hm, hs, ht⟩
  · simp at hn
  · cases hv
    refine .inr ⟨g, cap, cur.setIfInBounds j u, rfl, hb, blk_set hh j u, hn, hm, by rw [Array.size_setIfInBounds]; exact hs, ?_⟩
    rw [Array.toList_setIfInBounds, ← ht, List.take_set]
theorem partCells_set (r : List PartS) (q : PartS) (t : List UInt8) : (partCells (r ++ [q])).set (r.length * 6 + 2) (S t) = partCells (r ++ [{ q with text := t }]) := by
  have hl : (partCells r).length = r.length * 6 := flat_len PartS.cells 6 part_len r
  rw [partCells_one, partCells_one, List.set_append_right _ _ (by rw [hl]; omega), hl, Nat.add_sub_cancel_left]
  rfl
theorem partCells_get (r : List PartS) (q : PartS) (j : Nat) (hj : j < 6) : (partCells (r ++ [q]))[r.length * 6 + j]? = q.cells[j]? := by
  have hl : (partCells r).length = r.length * 6 := flat_len PartS.cells 6 part_len r
  rw [partCells_one, List.getElem?_append_right (by rw [hl]; omega), hl, Nat.add_sub_cancel_left]

set_option maxRecDepth 100000 in
set_option maxHeartbeats 1000000 in
theorem add_merge (C : Nat) (v : Value) (r : List PartS) (q p : PartS) (m : Nat) (hm : m = r.length) (w : World) (hv : Sl C 42 w v (m + 1) 6 (partCells (r ++ [q]))) (hn : m ≤ 4194304) (hw : ∀ p ∈ r ++ [q], ∃ a n c, p.word = .slice a n c) (hwp : ∃ a n c, p.word = .slice a n c)
    (h1 : p.kind = 0) (h2 : q.kind = 0) (h3 : q.quoted = p.quoted) (hl : q.text.length + p.text.length ≤ 1073741824) :
    Calls Tryz.prog 59 #[v, p.agg] w fun e w' => ∃ v', e = .returned v' ∧ w'.ownsRow w.heap.size 42 6 v' (m + 1) (partCells (r ++ [{ q with text := q.text ++ p.text }])) ∧ Below w.heap.size w w' := by
  obtain ⟨i0, hi, hz0, hz1, hz2⟩ := info_parts Tryz.infoPart
  have hone := partCells_cell hw
  obtain ⟨a, c, rfl⟩ := hv.slice
  obtain ⟨kd, pq, pt, pn, po, wd⟩ := p
  obtain ⟨wa, wn, wc, hwd⟩ := hwp
  obtain rfl : wd = .slice wa wn wc := hwd
  obtain ⟨qk, qq, qt, qn, qo, qw⟩ := q
  obtain rfl : kd = 0 := h1
  obtain rfl : qk = 0 := h2
  obtain rfl : qq = pq := h3
  dsimp only at hl
  have hb0 := (Below.refl _ w).alloc (Nat.le_refl _) (.cells #[I 0, .bool qq, S pt, S pn, S po, .slice wa wn wc] 42)
  have hv1 := hv.ext hb0
  have ho0 : (w.alloc (.cells #[I 0, .bool qq, S pt, S pn, S po, .slice wa wn wc] 42)).ownsRow (w.heap.size + 1) 42 6 NilS 0 [] := ⟨rfl, .inl ⟨rfl, rfl⟩⟩
  have H := Lib.hid (And.intro hone (And.intro hb0 hm))
  clear hone hb0 hw hv hm
  go_enter Tryz.func59, Tryz.ntmps59
  go_wp2_with (at_builtin; go_must (refine wpList_app _ rfl _ _ 40 rfl (w.heap.size + 1) 42 i0 (.agg #[I 0, .bool false, S [], S [], S [], NilS]) 6 88 Tryz.underlying40 hi hz0 hz1 hz2 rfl (by decide) _ _ _ rfl ho0 _ _ _ _ _ rfl hv1 H.out.1 ?c3 ?c4 ?c5 ?_))
  case c3 => unfold maxLen; omega
  case c4 => omega
  case c5 => simp
  intro v1 w1 ho1 hg1 hnil
  try simp only [Nat.zero_add, List.nil_append] at ho1
  obtain ⟨g, c1, rfl⟩ := ownsRow_succ ho1
  have hblk : w1.heap[w.heap.size]? = some (.cells #[I 0, .bool qq, S pt, S pn, S po, .slice wa wn wc] 42 (0, 0)) := (hg1.block w.heap.size (by simp) (by simp [Value.ownBlock])).trans (blk_new w _)
  have e0 : w1.cell? ⟨w.heap.size, 0, none⟩ = some (I 0) := (blk_cell hblk 0).trans rfl
  have e1 : w1.cell? ⟨w.heap.size, 1, none⟩ = some (.bool qq) := (blk_cell hblk 1).trans rfl
  have e2 : w1.cell? ⟨w.heap.size, 2, none⟩ = some (S pt) := (blk_cell hblk 2).trans rfl
  have hfr1 : Fr (w.heap.size + 1) [42] (w.alloc (.cells #[I 0, .bool qq, S pt, S pn, S po, .slice wa wn wc] 42)) w1 := (Fr.refl _ _ _).grownRow ho0 hg1 (by simp)
  have hB1 := H.out.2.1.trans ((hfr1.below (by simp)).mono (Nat.le_succ _))
  have cell : ∀ j u, (⟨0, qq, qt, qn, qo, qw⟩ : PartS).cells[j]? = some u → j < 6 → w1.cell? ⟨g, m * 6 + j, none⟩ = some u := by
    intro j u hj h6
    have := ho1.cells (g := g) rfl (m * 6 + j) u (by rw [H.out.2.2, partCells_get _ _ _ h6]; exact hj)
    rw [← this]
    unfold Addr.add; split <;> simp_all
  have g0 : w1.cell? ⟨g, m * 6, none⟩ = some (I 0) := cell 0 _ rfl (by decide)
  have g1 : w1.cell? ⟨g, m * 6 + 1, none⟩ = some (.bool qq) := cell 1 _ rfl (by decide)
  have g2 : w1.cell? ⟨g, m * 6 + 2, none⟩ = some (S qt) := cell 2 _ rfl (by decide)
  have f2 : w1.frozen? ⟨g, m * 6 + 2, none⟩ = false := by
    rcases ho1.2 with ⟨hn, _⟩ | ⟨g', cap', cur, hv, _, hh, _⟩
    · simp at hn
    · cases hv; exact blk_free hh _
  have fin : ∀ k, ((w1.drewN k).setCell ⟨g, m * 6 + 2, none⟩ (S (qt ++ pt))).ownsRow w.heap.size 42 6 (.slice (some ⟨g, 0, none⟩) (m + 1) c1) (m + 1) (partCells (r ++ [⟨0, qq, qt ++ pt, qn, qo, qw⟩])) ∧
      Below w.heap.size w ((w1.drewN k).setCell ⟨g, m * 6 + 2, none⟩ (S (qt ++ pt))) := by
    intro k
    have h1 : (w1.drewN k).ownsRow (w.heap.size + 1) 42 6 (.slice (some ⟨g, 0, none⟩) (m + 1) c1) (m + 1) (partCells (r ++ [⟨0, qq, qt, qn, qo, qw⟩])) := ho1
    have h2 := ownsRow_store h1 (m * 6 + 2) (S (qt ++ pt))
    rw [H.out.2.2, partCells_set, ← H.out.2.2] at h2
    refine ⟨ownsRow_low h2 (Nat.le_succ _), ?_⟩
    have hg : w.heap.size + 1 ≤ g := (ownsRow_row ho1 g rfl).1
    exact Below.setCell (p := ⟨g, m * 6 + 2, none⟩) (below_drewN hB1 k) (by show _ ≤ g; omega) _
  have FIN := Lib.hid fin
  clear fin cell hfr1 hB1 hblk hg1 hnil ho0 hv1 hz0 hz1 hz2 hi
  have hm0 : (0 : Int) ≤ m := by omega
  have hm1 : (m : Int) < (m : Int) + 1 := by omega
  have hll : ¬ 9223372036854775807 < qt.length + pt.length := by omega
  have happ : (ByteArray.mk qt.toArray ++ ByteArray.mk pt.toArray) = ByteArray.mk (qt ++ pt).toArray := by apply ByteArray.ext; simp
  go_wp2_with fail
  go_quiet (fail)
  all_goals
    go_wp2_with fail
    go_region_law (fail)
    all_goals
      go_wp2_with fail
      go_ret
      exact ⟨_, rfl, FIN.out _⟩

set_option maxRecDepth 100000 in
set_option maxHeartbeats 1000000 in
theorem add_keep (C : Nat) (v : Value) (r : List PartS) (l p : PartS) (m : Nat) (hm : m = r.length) (w : World) (hv : Sl C 42 w v (m + 1) 6 (partCells (r ++ [l]))) (hnn : m ≤ 4194304) (hw : ∀ p ∈ r ++ [l], ∃ a n c, p.word = .slice a n c) (hwp : ∃ a n c, p.word = .slice a n c)
    (hk : (p.kind == 0) = false ∨ ((p.kind == 0) = true ∧ (l.kind == 0) = false) ∨ ((p.kind == 0) = true ∧ (l.kind == 0) = true ∧ l.quoted = !p.quoted)) :
    Calls Tryz.prog 59 #[v, p.agg] w fun e w' => ∃ v', e = .returned v' ∧ w'.ownsRow w.heap.size 42 6 v' (m + 1 + 1) (partCells (r ++ [l, p])) ∧ Below w.heap.size w w' := by
  obtain ⟨i0, hi, hz0, hz1, hz2⟩ := info_parts Tryz.infoPart
  have hone := partCells_cell hw
  obtain ⟨a, c, rfl⟩ := hv.slice
  obtain ⟨kd, q, t, n, o, wd⟩ := p
  obtain ⟨wa, wn, wc, hwd⟩ := hwp
  obtain rfl : wd = .slice wa wn wc := hwd
  obtain ⟨lk, lq, lt, ln, lo, lw⟩ := l
  dsimp only at hk
  have hb0 := (Below.refl _ w).alloc (Nat.le_refl _) (.cells #[I kd, .bool q, S t, S n, S o, .slice wa wn wc] 42)
  have hv1 := hv.ext hb0
  have ho0 : (w.alloc (.cells #[I kd, .bool q, S t, S n, S o, .slice wa wn wc] 42)).ownsRow (w.heap.size + 1) 42 6 NilS 0 [] := ⟨rfl, .inl ⟨rfl, rfl⟩⟩
  have H := Lib.hid (And.intro hk (And.intro hone (And.intro hb0 hm)))
  clear hk hone hb0 hw hv hm
  go_enter Tryz.func59, Tryz.ntmps59
  go_wp2_with (at_builtin; go_must (refine wpList_app _ rfl _ _ 40 rfl (w.heap.size + 1) 42 i0 (.agg #[I 0, .bool false, S [], S [], S [], NilS]) 6 88 Tryz.underlying40 hi hz0 hz1 hz2 rfl (by decide) _ _ _ rfl ho0 _ _ _ _ _ rfl hv1 H.out.2.1 ?c3 ?c4 ?c5 ?_))
  case c3 => unfold maxLen; omega
  case c4 => omega
  case c5 => simp
  intro v1 w1 ho1 hg1 hnil
  try simp only [Nat.zero_add, List.nil_append] at ho1
  obtain ⟨g, c1, rfl⟩ := ownsRow_succ ho1
  have hblk : w1.heap[w.heap.size]? = some (.cells #[I kd, .bool q, S t, S n, S o, .slice wa wn wc] 42 (0, 0)) := (hg1.block w.heap.size (by simp) (by simp [Value.ownBlock])).trans (blk_new w _)
  have e0 : w1.cell? ⟨w.heap.size, 0, none⟩ = some (I kd) := (blk_cell hblk 0).trans rfl
  have e1 : w1.cell? ⟨w.heap.size, 1, none⟩ = some (.bool q) := (blk_cell hblk 1).trans rfl
  have e2 : w1.cell? ⟨w.heap.size, 2, none⟩ = some (S t) := (blk_cell hblk 2).trans rfl
  have e3 : w1.cell? ⟨w.heap.size, 3, none⟩ = some (S n) := (blk_cell hblk 3).trans rfl
  have e4 : w1.cell? ⟨w.heap.size, 4, none⟩ = some (S o) := (blk_cell hblk 4).trans rfl
  have e5 : w1.cell? ⟨w.heap.size, 5, none⟩ = some (.slice wa wn wc) := (blk_cell hblk 5).trans rfl
  have hfr1 : Fr (w.heap.size + 1) [42] (w.alloc (.cells #[I kd, .bool q, S t, S n, S o, .slice wa wn wc] 42)) w1 := (Fr.refl _ _ _).grownRow ho0 hg1 (by simp)
  have hB1 := H.out.2.2.1.trans ((hfr1.below (by simp)).mono (Nat.le_succ _))
  have hs1 := hB1.size
  have cell : ∀ j u, (⟨lk, lq, lt, ln, lo, lw⟩ : PartS).cells[j]? = some u → j < 6 → w1.cell? ⟨g, m * 6 + j, none⟩ = some u := by
    intro j u hj h6
    have := ho1.cells (g := g) rfl (m * 6 + j) u (by rw [H.out.2.2.2, partCells_get _ _ _ h6]; exact hj)
    rw [← this]
    unfold Addr.add; split <;> simp_all
  have g0 : w1.cell? ⟨g, m * 6, none⟩ = some (I lk) := cell 0 _ rfl (by decide)
  have g1 : w1.cell? ⟨g, m * 6 + 1, none⟩ = some (.bool lq) := cell 1 _ rfl (by decide)
  have hone2 : ∀ u ∈ [I kd, .bool q, S t, S n, S o, .slice wa wn wc], u.oneCell' = true := by
    intro u hu; simp only [List.mem_cons, List.not_mem_nil, or_false] at hu; rcases hu with rfl | rfl | rfl | rfl | rfl | rfl <;> rfl
  have K := Lib.hid (And.intro ho1 (And.intro hB1 hone2))
  clear ho1 hB1 hg1 hnil hblk hfr1 hone2 hv1 ho0 cell
  have h63 : m + 1 + 1 ≤ maxLen := by unfold maxLen; omega
  have h88 : (m + 1 + 1) * 88 ≤ 140737488355328 := by omega
  have hbs : ∀ m, w.heap.size + 1 ≤ ((w1.drewN m).alloc (.cells #[I kd, .bool q, S t, S n, S o, .slice wa wn wc] 42)).heap.size := fun m => by simp; omega
  have hcs : ∀ m j u, [I kd, .bool q, S t, S n, S o, .slice wa wn wc][j]? = some u → ((w1.drewN m).alloc (.cells #[I kd, .bool q, S t, S n, S o, .slice wa wn wc] 42)).cell? ((⟨(w1.drewN m).heap.size, 0, none⟩ : Addr).add j) = some u := fun m => new_cells rfl _ _
  have hown : ∀ k, ((w1.drewN k).alloc (.cells #[I kd, .bool q, S t, S n, S o, .slice wa wn wc] 42)).ownsRow (w.heap.size + 1) 42 6 (.slice (some ⟨g, 0, none⟩) (m + 1) c1) (m + 1) (partCells (r ++ [⟨lk, lq, lt, ln, lo, lw⟩])) := fun k => World.ownsRow.alloc (w := w1.drewN k) K.out.1 _
  have K2 := Lib.hid (And.intro h63 (And.intro h88 (And.intro hbs (And.intro hcs hown))))
  clear h63 h88 hbs hcs hown
  have fin : ∀ (k : Nat) (v' : Value) (w3 : World), w3.ownsRow (w.heap.size + 1) 42 6 v' (m + 1 + 1) (partCells (r ++ [⟨lk, lq, lt, ln, lo, lw⟩]) ++ [I kd, .bool q, S t, S n, S o, .slice wa wn wc]) → ((w1.drewN k).alloc (.cells #[I kd, .bool q, S t, S n, S o, .slice wa wn wc] 42)).grownBy w3 (Value.slice (some ⟨g, 0, none⟩) (m + 1) c1).ownBlock →
      w3.ownsRow w.heap.size 42 6 v' (m + 1 + 1) (partCells (r ++ [⟨lk, lq, lt, ln, lo, lw⟩, ⟨kd, q, t, n, o, .slice wa wn wc⟩])) ∧ Below w.heap.size w w3 := by
    intro k v' w3 ho hg
    have hB2 : Below w.heap.size w ((w1.drewN k).alloc (.cells #[I kd, .bool q, S t, S n, S o, .slice wa wn wc] 42)) := (below_drewN K.out.2.1 k).alloc K.out.2.1.size _
    have hf : Fr w.heap.size [42] ((w1.drewN k).alloc (.cells #[I kd, .bool q, S t, S n, S o, .slice wa wn wc] 42)) w3 := ((Fr.refl _ _ _).grownRow (K2.out.2.2.2.2 k) hg (by simp)).mono (Nat.le_succ _) (fun _ h => h)
    refine ⟨?_, hB2.trans (hf.below hB2.size)⟩
    have e : partCells (r ++ [⟨lk, lq, lt, ln, lo, lw⟩, ⟨kd, q, t, n, o, .slice wa wn wc⟩]) = partCells (r ++ [⟨lk, lq, lt, ln, lo, lw⟩]) ++ [I kd, .bool q, S t, S n, S o, .slice wa wn wc] := by
      simp [partCells, PartS.cells]
    rw [e]
    exact ownsRow_low ho (Nat.le_succ _)
  have FIN := Lib.hid fin
  clear fin
  have hm0 : (0 : Int) ≤ m := by omega
  have hm1 : (m : Int) < (m : Int) + 1 := by omega
  have HK := Lib.hid H.out.1
  rcases HK.out with hkd | ⟨hkd, hld⟩ | ⟨hkd, hld, hqq⟩
  rotate_left 2
  · subst hqq
    cases q
    all_goals
      go_wp2_with fail
      go_quiet (fail)
      all_goals
        go_wp2_with (at_builtin; go_must (refine wpList_append_own _ rfl _ _ 40 rfl (w.heap.size + 1) 42 i0 (.agg #[I 0, .bool false, S [], S [], S [], NilS]) 6 88 Tryz.underlying40 hi hz0 hz1 hz2 rfl (by decide) _ _ _ rfl (K2.out.2.2.2.2 _) ⟨w1.heap.size, 0, none⟩ 1 1 [I kd, .bool _, S t, S n, S o, .slice wa wn wc] rfl rfl (K2.out.2.2.2.1 _) K.out.2.2 K2.out.1 K2.out.2.1 (K2.out.2.2.1 _) ?_))
        intro v' w3 hown3 hgrow3 _
        go_wp2_with fail
        go_ret
        exact ⟨v', rfl, FIN.out _ v' w3 hown3 hgrow3⟩
  all_goals
    go_wp2_with fail
    go_quiet (fail)
    all_goals
      go_wp2_with (at_builtin; go_must (refine wpList_append_own _ rfl _ _ 40 rfl (w.heap.size + 1) 42 i0 (.agg #[I 0, .bool false, S [], S [], S [], NilS]) 6 88 Tryz.underlying40 hi hz0 hz1 hz2 rfl (by decide) _ _ _ rfl (K2.out.2.2.2.2 _) ⟨w1.heap.size, 0, none⟩ 1 1 [I kd, .bool q, S t, S n, S o, .slice wa wn wc] rfl rfl (K2.out.2.2.2.1 _) K.out.2.2 K2.out.1 K2.out.2.1 (K2.out.2.2.1 _) ?_))
      intro v' w3 hown3 hgrow3 _
      go_wp2_with fail
      go_ret
      exact ⟨v', rfl, FIN.out _ v' w3 hown3 hgrow3⟩

/-- Add, on trees. -/
def AddE (B : Nat) (ts : List PT) (t : PT) (w : World) (e : Ending) (w' : World) : Prop := ∃ v, e = .returned v ∧ Tree B w' v (addT ts t) ∧ Below w.heap.size w w'
theorem add_any (B : Nat) (v : Value) (ts : List PT) (t : PT) (p : PartS) (w : World) (hv : Tree B w v ts) (hp : t.at B w p) (hB : B ≤ w.heap.size) (hs : PT.sizes ts + t.size ≤ 4194304) :
    Calls Tryz.prog 59 #[v, p.agg] w (AddE B ts t w) := by
  obtain ⟨ps, hr, hrows⟩ := hv
  have hlen := PT.rows_len hrows
  have hsz := PT.len_sizes ts
  have hwp := PT.at_word hp
  have hww := PT.rows_word hrows
  have hpi := (PT.at_iff B w t p).1 hp
  rcases list_snoc ts with rfl | ⟨r, q, rfl⟩
  · obtain rfl : ps = [] := List.eq_nil_of_length_eq_zero hlen
    refine (add_append w.heap.size v [] p w hr.1 (by simp) (by simp) hwp (.inr rfl)).mono ?_
    rintro e w' ⟨v', rfl, ho, hb⟩
    refine ⟨v', rfl, ⟨[p], RowAt.of_owns ho rfl hB, ?_⟩, hb⟩
    exact PT.rows_one (PT.at_keep hb.size (fun b _ h => hb.block b h) t p hp)
  · obtain ⟨pr, pq, rfl, h1, h2⟩ := PT.rows_snoc hrows
    have hqi := (PT.at_iff B w q pq).1 h2
    have hlr := PT.rows_len h1
    have hn : pr.length ≤ 4194304 := by
      rw [List.length_append] at hsz; simp at hsz; omega
    have hsl : Sl w.heap.size 42 w v (pr.length + 1) 6 (partCells (pr ++ [pq])) := by
      have := hr.1
      rw [List.length_append] at this
      exact this
    have hszq : q.size ≤ PT.sizes (r ++ [q]) := PT.size_mem (by simp)
    have hq1 := q.size_eq
    have ht1 := t.size_eq
    by_cases hm : q.mergeable t = true
    · have hm' := hm
      unfold PT.mergeable at hm'
      simp only [Bool.and_eq_true, beq_iff_eq] at hm'
      refine (add_merge w.heap.size v pr pq p pr.length rfl w hsl hn hww hwp (by rw [hpi.1]; exact hm'.1.1) (by rw [hqi.1]; exact hm'.1.2) (by rw [hqi.2.1, hpi.2.1]; exact hm'.2) (by rw [hqi.2.2.1, hpi.2.2.1]; omega)).mono ?_
      rintro e w' ⟨v', rfl, ho, hb⟩
      refine ⟨v', rfl, ⟨_, RowAt.of_owns ho (by simp) hB, ?_⟩, hb⟩
      rw [addT_snoc, if_pos hm]
      refine PT.rows_append (PT.rows_keep hb.size (fun b _ h => hb.block b h) r pr h1) (PT.rows_one ?_)
      rw [PT.at_iff]
      refine ⟨hqi.1, hqi.2.1, ?_, hqi.2.2.2.1, hqi.2.2.2.2.1, ?_⟩
      · show pq.text ++ p.text = q.text ++ t.text
        rw [hqi.2.2.1, hpi.2.2.1]
      · exact hqi.2.2.2.2.2.ext hb
    · have hk : (p.kind == 0) = false ∨ ((p.kind == 0) = true ∧ (pq.kind == 0) = false) ∨ ((p.kind == 0) = true ∧ (pq.kind == 0) = true ∧ pq.quoted = !p.quoted) := by
        rw [hpi.1, hpi.2.1, hqi.1, hqi.2.1]
        unfold PT.mergeable at hm
        cases h3 : (t.kind == 0) <;> cases h4 : (q.kind == 0) <;> simp [h3, h4] at hm ⊢
        cases h5 : q.quoted <;> cases h6 : t.quoted <;> simp_all
      refine (add_keep w.heap.size v pr pq p pr.length rfl w hsl hn hww hwp hk).mono ?_
      rintro e w' ⟨v', rfl, ho, hb⟩
      refine ⟨v', rfl, ⟨_, RowAt.of_owns ho (by simp) hB, ?_⟩, hb⟩
      rw [addT_snoc, if_neg hm]
      refine PT.rows_append (PT.rows_keep hb.size (fun b _ h => hb.block b h) r pr h1) ?_
      simp only [PT.rows]
      exact ⟨pq, [p], rfl, PT.at_keep hb.size (fun b _ h => hb.block b h) q pq h2, p, [], rfl, PT.at_keep hb.size (fun b _ h => hb.block b h) t p hp, rfl⟩
end Go.Proofs.YtdffbbfhcdhpdaaGreatDoor
