/- slices.Grow at nil, slices.Concat (at strings, at variables). -/
import Derived.Test.YtdffbbfhcdhpdaaGreatDoorA8
import Derived.Lib.AppendZerosOnto
import Derived.Lib.AppendZeros
import Derived.Deep.Upon
namespace Go.Proofs.YtdffbbfhcdhpdaaGreatDoor
open Go.RowKit

theorem run_app {P : Program} (w : World) (base : Nat) (t ty e : TypeId) (i : TypeInfo) (z : Value) (size bytes : Nat) (ht : P.underlying t = some (.slice e)) (hi : P.info? e = some i) (hz : i.zero = some z)
    (hsize : i.size = size) (hby : i.bytes = bytes) (hzs : z.cells.size = size) (hsz : 0 < size)
    (v : Value) (n : Nat) (xs : List Value) (hown : w.ownsRow base e size v n xs) (C : Nat) (e' : TypeId) (u : Value) (m : Nat) (news : List Value) (hsrc : Sl C e' w u m size news) (h1 : ∀ u ∈ news, u.oneCell' = true)
    (h63 : n + m ≤ maxLen) (hbytes : (n + m) * bytes ≤ 140737488355328) (hbase : base ≤ w.heap.size) :
    ∃ v' w', (Builtin.append_ #[t, t] ty #[v, u]).run P w = .ok v' w' ∧ w'.ownsRow base e size v' (n + m) (xs ++ news) ∧ w.grownBy w' v.ownBlock ∧ (v' = NilS ↔ v = NilS ∧ m = 0) := by
  obtain ⟨hl, ⟨rfl, rfl⟩ | ⟨b, o, c, rfl, hnc, hcm, hb, hk, hc⟩⟩ := hsrc
  · have hn : news = [] := List.eq_nil_of_length_eq_zero (by simpa using hl)
    subst hn
    subst hsize
    have hr : ∀ (a : Option Addr) (cap : Nat), n ≤ cap → (Builtin.append_ #[t, t] ty #[.slice a n cap, NilS]).run P w = .ok (.slice a n cap) w := fun a cap hle =>
      run_append_nothing w t t ty e i ht hi a n cap hle _ (Src.ofNil w ht 0)
    rcases hown.2 with ⟨rfl, h0⟩ | ⟨g, cap, cur, rfl, hbg, hg, hnc, r⟩
    · have h2 := hr none 0 (by omega)
      rw [h0] at h2
      exact ⟨_, _, h2, by simpa using hown, ⟨rfl, rfl, rfl, Nat.le_refl _, fun _ _ _ => rfl⟩, by simp⟩
    · exact ⟨_, _, hr _ cap hnc, by simpa using hown, ⟨rfl, rfl, rfl, Nat.le_refl _, fun _ _ _ => rfl⟩, by simp⟩
  · exact run_append_own w base t ty e i z size bytes ht hi hz hsize hby hzs hsz v n xs hown ⟨b, o, none⟩ m c news hl
      (fun j u hu => by
        have hadd : (⟨b, o, none⟩ : Addr).add j = ⟨b, o + j, none⟩ := by unfold Addr.add; split <;> simp_all
        rw [hadd]; exact hc j u hu) h1 h63 hbytes hbase
theorem wpList_app {P : Program} (w : World) {ops : Array Oper} {rest : List Oper} {o : Oper} {a : Act} {Q : Exit → Act → World → Prop} (hgd : o.guard = none) (s x : Operand) (t : TypeId)
    (ho : o.op = .call { callee := .builtin .append, args := #[s, x], argTypes := #[t, t] })
    (base : Nat) (e : TypeId) (i : TypeInfo) (z : Value) (size bytes : Nat) (ht : P.underlying t = some (.slice e)) (hi : P.info? e = some i) (hz : i.zero = some z)
    (hsize : i.size = size) (hby : i.bytes = bytes) (hzs : z.cells.size = size) (hsz : 0 < size)
    (v : Value) (n : Nat) (xs : List Value) (hs : a.eval s = v) (hown : w.ownsRow base e size v n xs) (C : Nat) (e' : TypeId) (u : Value) (m : Nat) (news : List Value) (hx : a.eval x = u) (hsrc : Sl C e' w u m size news)
    (h1 : ∀ u ∈ news, u.oneCell' = true) (h63 : n + m ≤ maxLen) (hbytes : (n + m) * bytes ≤ 140737488355328) (hbase : base ≤ w.heap.size)
    (h : ∀ v' w', w'.ownsRow base e size v' (n + m) (xs ++ news) → w.grownBy w' v.ownBlock → (v' = NilS ↔ v = NilS ∧ m = 0) → wpList P ops Q rest (a.put o.dst v') w') : wpList P ops Q (o :: rest) a w := by
  obtain ⟨v', w', hr, h2, h3, h4⟩ := run_app w base t o.type e i z size bytes ht hi hz hsize hby hzs hsz v n xs hown C e' u m news hsrc h1 h63 hbytes hbase
  exact Lib.wpList_append_run w hgd s x t t ho v u hs hx v' w' hr (h v' w' h2 h3 h4)
theorem Sl.slice {B : Nat} {e : TypeId} {w : World} {v : Value} {n k : Nat} {xs : List Value} (h : Sl B e w v n k xs) : ∃ a c, v = .slice a n c := by
  obtain ⟨_, ⟨rfl, rfl⟩ | ⟨b, o, c, rfl, _⟩⟩ := h
  · exact ⟨_, _, rfl⟩
  · exact ⟨_, _, rfl⟩

/-- How many elements parts have; their cells. -/
def psum (l : List (Value × Nat × List Value)) : Nat := (l.map (·.2.1)).sum
def pcells (l : List (Value × Nat × List Value)) : List Value := l.flatMap (·.2.2)
theorem psum_nil : psum [] = 0 := rfl
theorem pcells_nil : pcells [] = [] := rfl
theorem psum_snoc (parts : List (Value × Nat × List Value)) (k : Nat) (h : k < parts.length) : psum (parts.take (k + 1)) = psum (parts.take k) + parts[k].2.1 := by
  rw [List.take_succ_eq_append_getElem h]; simp only [psum, List.map_append, List.map_cons, List.map_nil, List.sum_append, List.sum_cons, List.sum_nil, Nat.add_zero]
theorem psum_le (parts : List (Value × Nat × List Value)) (k : Nat) : psum (parts.take k) ≤ psum parts := by
  conv => rhs; rw [← List.take_append_drop k parts]
  simp only [psum, List.map_append, List.sum_append]; omega

theorem Tryz.infoVar : (Tryz.prog.info? 27).map (fun i => (i.zero, i.size, i.bytes)) = some (some (.agg #[S [], S [], .bool false, .bool false]), 4, 40) := by kernel_rfl

set_option maxRecDepth 100000 in
set_option maxHeartbeats 1000000 in
theorem Grow_nil_string (n : Nat) (w : World) (hn : n ≤ 1073741824) :
    Calls Tryz.prog 46 #[NilS, I n] w fun e w' => ∃ v, e = .returned v ∧ w'.ownsRow w.heap.size 9 1 v 0 [] ∧ Below w.heap.size w w' := by
  obtain ⟨i0, hi, hz0, hz1, hz2⟩ := info_parts Tryz.infoStr
  by_cases h0 : n = 0
  · subst h0
    go_enter Tryz.func46, Tryz.ntmps46
    go_wp2
    go_ret
    exact ⟨_, rfl, World.ownsRow_nil _ _ _ _, Below.refl _ _⟩
  · have hrz := fun ty => Lib.run_append_grow_zeros w 22 3 ty 9 i0 (S []) .i64 .i64 Tryz.underlying22 Tryz.underlying3 hi hz0 none 0 0 [] (run_firstCells_none w.drew i0.size 0 0 0) n (by omega) (by omega) (by omega) (by omega) (by rw [hz2]; omega)
      (growslice_fits (by omega) (by rw [hz2]; omega))
    have hG : n ≤ grownCap w n 0 9 := grownCap_ge w _ _ _
    have hGm : grownCap w n 0 9 ≤ maxLen := grownCap_le_maxLen w n 0 9 (by unfold maxLen; omega)
    simp only [Nat.zero_add] at hrz
    generalize grownCap w n 0 9 = G at hrz hG hGm
    have hres : (w.drew.alloc (.cells (([] : List Value).toArray ++ Builtin.zeroCells (Value.cells (S [])) n ++ Builtin.zeroCells (Value.cells (S [])) (G - n)) 9)).ownsRow w.heap.size 9 1 (.slice (some ⟨w.heap.size, 0, none⟩) 0 G) 0 [] :=
      ⟨by simp, .inr ⟨w.heap.size, G, _, rfl, Nat.le_refl _, blk_new w.drew _, Nat.zero_le _, hGm, by
        simp only [Array.size_append, size_zeroCells, List.size_toArray, List.length_nil, show (Value.cells (S [])).size = 1 from rfl]; omega, by simp⟩⟩
    have hbe : Below w.heap.size w (w.drew.alloc (.cells (([] : List Value).toArray ++ Builtin.zeroCells (Value.cells (S [])) n ++ Builtin.zeroCells (Value.cells (S [])) (G - n)) 9)) := ((Below.refl _ w).drew).alloc (Nat.le_refl _) _
    generalize w.drew.alloc (.cells (([] : List Value).toArray ++ Builtin.zeroCells (Value.cells (S [])) n ++ Builtin.zeroCells (Value.cells (S [])) (G - n)) 9) = W at hrz hres hbe
    have HR := Lib.hid (And.intro hres hbe)
    unfold maxLen at hGm
    clear hres hbe
    go_enter Tryz.func46, Tryz.ntmps46
    go_wp2_with (at_builtin; go_must (refine Lib.wpList_append_run _ rfl _ _ _ _ rfl _ _ rfl rfl _ _ (hrz _) ?_))
    go_ret
    exact ⟨_, rfl, HR.out.1, HR.out.2⟩

set_option maxRecDepth 100000 in
set_option maxHeartbeats 1000000 in
theorem Concat_string (C D : Nat) (vv : Value) (parts : List (Value × Nat × List Value)) (w : World) (hv : Sl C 22 w vv parts.length 1 (parts.map (·.1)))
    (hp : ∀ p ∈ parts, Sl D 9 w p.1 p.2.1 1 p.2.2 ∧ ∀ u ∈ p.2.2, u.oneCell' = true) (hN : psum parts ≤ 1073741824) (hn : parts.length ≤ 1073741824) :
    Calls Tryz.prog 28 #[vv] w fun e w' => ∃ v, e = .returned v ∧ w'.ownsRow w.heap.size 9 1 v (psum parts) (pcells parts) ∧ Below w.heap.size w w' := by
  obtain ⟨i0, hi, hz0, hz1, hz2⟩ := info_parts Tryz.infoStr
  have hcells : ∃ (a : Option Addr) (c : Nat), vv = .slice a parts.length c ∧ ∀ k (h : k < parts.length), ∃ b o, a = some ⟨b, o, none⟩ ∧ b < w.heap.size ∧ w.cell? ⟨b, o + k, none⟩ = some parts[k].1 := by
    obtain ⟨h0, ⟨rfl, hn0⟩ | ⟨b, o, c, rfl, hnc, hcm, hb, hk, hc⟩⟩ := hv
    · exact ⟨none, 0, by rw [hn0], fun k h => by omega⟩
    · exact ⟨_, c, rfl, fun k h => ⟨b, o, rfl, hb, hc k _ (by simp [h])⟩⟩
  obtain ⟨a, c, rfl, hcs⟩ := hcells
  clear hv
  have hsum := fun k h => psum_snoc parts k h
  have hle := fun k => psum_le parts k
  have hfl : ∀ k (h : k < parts.length), pcells (parts.take (k + 1)) = pcells (parts.take k) ++ parts[k].2.2 := fun k h => flat_snoc _ parts k h
  have hC := Lib.hid hcs
  have hP := Lib.hid hp
  have hNN := Lib.hid hN
  have hS := Lib.hid hsum
  have hL := Lib.hid hle
  have hF := Lib.hid hfl
  clear hcs hp hN hsum hle hfl
  go_enter Tryz.func28, Tryz.ntmps28
  go_wp2
  go_loop [3, 11] (fun t i => ∃ k : Nat, k ≤ parts.length ∧ i = I k ∧ t = I (psum (parts.take k))) (fun _ i => parts.length - (intOf i).toNat)
  case atStart => exact ⟨0, by omega, rfl, by rw [List.take_zero, psum_nil]; rfl⟩
  case round =>
    obtain ⟨k, hk, rfl, rfl⟩ := hrel
    by_cases hlt : k < parts.length
    · obtain ⟨b, o, rfl, hb, c0⟩ := hC.out k hlt
      obtain ⟨a', c', hsl⟩ := (hP.out _ (List.getElem_mem hlt)).1.slice
      rw [hsl] at c0
      have h1 := hS.out k hlt
      have h2 := hL.out (k + 1)
      have h3 := hNN.out
      have h4 : psum (parts.take k) + parts[k].2.1 ≤ 1073741824 := by omega
      have H1 := Lib.hid h1
      clear hsl h1 h2 h3
      generalize psum (parts.take k) = T at *
      go_wp2
      go_round
      case rel => exact ⟨k + 1, by omega, by go_num, by rw [H1.out]; go_num⟩
      case measure => simp [intOf]; omega
    · have hkk : k = parts.length := by omega
      subst hkk
      rw [List.take_length]
      have hT := hNN.out
      generalize hTT : psum parts = T at *
      have HTT := Lib.hid hTT
      clear hTT
      go_wp2_with fail
      refine (Grow_nil_string T _ hT).mono ?_
      rintro e w1 ⟨v1, rfl, ho1, hb1⟩
      go_wp2
      go_loopw [6, 27] (fun v i wr => ∃ k : Nat, k ≤ parts.length ∧ i = I k ∧ wr.ownsRow w.heap.size 9 1 v (psum (parts.take k)) (pcells (parts.take k)) ∧ Below w.heap.size w wr) (fun _ i _ => parts.length - (intOf i).toNat)
      case atStart => exact ⟨0, by omega, rfl, by rw [List.take_zero, psum_nil, pcells_nil]; exact ho1, hb1⟩
      case round =>
        obtain ⟨k, hk, rfl, ho, hbe⟩ := hrel
        by_cases hlt : k < parts.length
        · obtain ⟨b, o, rfl, hb, c0'⟩ := hC.out k hlt
          have c0 : wr.cell? ⟨b, o + k, none⟩ = some parts[k].1 := (hbe.cell (p := ⟨b, _, none⟩) hb).trans c0'
          obtain ⟨hsrc0, h1c⟩ := hP.out _ (List.getElem_mem hlt)
          have hsrc := hsrc0.ext hbe
          obtain ⟨a', c', hsl⟩ := hsrc.slice
          rw [hsl] at c0 hsrc
          have h1 := hS.out k hlt
          have h2 := hL.out (k + 1)
          have h4 : psum (parts.take k) + parts[k].2.1 ≤ 1073741824 := by omega
          have H1 := Lib.hid h1
          have H2 := Lib.hid (hF.out k hlt)
          have hbs := hbe.size
          clear hsl h1 h2 c0' hsrc0 ho1 hb1
          go_wp2_with (at_builtin; go_must (refine wpList_app _ rfl _ _ 22 rfl w.heap.size 9 i0 (S []) 1 16 Tryz.underlying22 hi hz0 hz1 hz2 rfl (by decide) _ _ _ rfl ho _ _ _ _ _ rfl hsrc h1c ?c3 ?c4 ?c5 ?_))
          case c3 => unfold maxLen; omega
          case c4 => omega
          case c5 => omega
          intro v' w2 hown' hgrow _
          have hb2 := below_grownRow hbe ho hgrow hbs
          rw [← H1.out, ← H2.out] at hown'
          clear ho hgrow
          go_wp2
          go_roundw
          case rel => exact ⟨k + 1, by omega, by go_num, hown', hb2⟩
          case measure => simp [intOf]; omega
        · have hkk : k = parts.length := by omega
          subst hkk
          rw [List.take_length] at ho
          go_wp2_with fail
          go_ret
          exact ⟨_, rfl, ho, hbe⟩
set_option maxRecDepth 100000 in
set_option maxHeartbeats 1000000 in
theorem Grow_nil_Var (n : Nat) (w : World) (hn : n ≤ 1073741824) :
    Calls Tryz.prog 295 #[NilS, I n] w fun e w' => ∃ v, e = .returned v ∧ w'.ownsRow w.heap.size 27 4 v 0 [] ∧ Below w.heap.size w w' := by
  obtain ⟨i0, hi, hz0, hz1, hz2⟩ := info_parts Tryz.infoVar
  by_cases h0 : n = 0
  · subst h0
    go_enter Tryz.func295, Tryz.ntmps295
    go_wp2
    go_ret
    exact ⟨_, rfl, World.ownsRow_nil _ _ _ _, Below.refl _ _⟩
  · have hrz := fun ty => Lib.run_append_grow_zeros w 28 3 ty 27 i0 (.agg #[S [], S [], .bool false, .bool false]) .i64 .i64 Tryz.underlying28 Tryz.underlying3 hi hz0 none 0 0 [] (run_firstCells_none w.drew i0.size 0 0 0) n (by omega) (by omega) (by omega) (by omega) (by rw [hz2]; omega)
      (growslice_fits (by omega) (by rw [hz2]; omega))
    have hG : n ≤ grownCap w n 0 27 := grownCap_ge w _ _ _
    have hGm : grownCap w n 0 27 ≤ maxLen := grownCap_le_maxLen w n 0 27 (by unfold maxLen; omega)
    simp only [Nat.zero_add] at hrz
    generalize grownCap w n 0 27 = G at hrz hG hGm
    have hres : (w.drew.alloc (.cells (([] : List Value).toArray ++ Builtin.zeroCells (Value.cells (.agg #[S [], S [], .bool false, .bool false])) n ++ Builtin.zeroCells (Value.cells (.agg #[S [], S [], .bool false, .bool false])) (G - n)) 27)).ownsRow w.heap.size 27 4 (.slice (some ⟨w.heap.size, 0, none⟩) 0 G) 0 [] :=
      ⟨by simp, .inr ⟨w.heap.size, G, _, rfl, Nat.le_refl _, blk_new w.drew _, Nat.zero_le _, hGm, by
        simp only [Array.size_append, size_zeroCells, List.size_toArray, List.length_nil, show (Value.cells (.agg #[S [], S [], .bool false, .bool false])).size = 4 from rfl]; omega, by simp⟩⟩
    have hbe : Below w.heap.size w (w.drew.alloc (.cells (([] : List Value).toArray ++ Builtin.zeroCells (Value.cells (.agg #[S [], S [], .bool false, .bool false])) n ++ Builtin.zeroCells (Value.cells (.agg #[S [], S [], .bool false, .bool false])) (G - n)) 27)) := ((Below.refl _ w).drew).alloc (Nat.le_refl _) _
    generalize w.drew.alloc (.cells (([] : List Value).toArray ++ Builtin.zeroCells (Value.cells (.agg #[S [], S [], .bool false, .bool false])) n ++ Builtin.zeroCells (Value.cells (.agg #[S [], S [], .bool false, .bool false])) (G - n)) 27) = W at hrz hres hbe
    have HR := Lib.hid (And.intro hres hbe)
    unfold maxLen at hGm
    clear hres hbe
    go_enter Tryz.func295, Tryz.ntmps295
    go_wp2_with (at_builtin; go_must (refine Lib.wpList_append_run _ rfl _ _ _ _ rfl _ _ rfl rfl _ _ (hrz _) ?_))
    go_ret
    exact ⟨_, rfl, HR.out.1, HR.out.2⟩

set_option maxRecDepth 100000 in
set_option maxHeartbeats 1000000 in
theorem Concat_Var (C D : Nat) (vv : Value) (parts : List (Value × Nat × List Value)) (w : World) (hv : Sl C 28 w vv parts.length 1 (parts.map (·.1)))
    (hp : ∀ p ∈ parts, Sl D 27 w p.1 p.2.1 4 p.2.2 ∧ ∀ u ∈ p.2.2, u.oneCell' = true) (hN : psum parts ≤ 1073741824) (hn : parts.length ≤ 1073741824) :
    Calls Tryz.prog 262 #[vv] w fun e w' => ∃ v, e = .returned v ∧ w'.ownsRow w.heap.size 27 4 v (psum parts) (pcells parts) ∧ Below w.heap.size w w' := by
  obtain ⟨i0, hi, hz0, hz1, hz2⟩ := info_parts Tryz.infoVar
  have hcells : ∃ (a : Option Addr) (c : Nat), vv = .slice a parts.length c ∧ ∀ k (h : k < parts.length), ∃ b o, a = some ⟨b, o, none⟩ ∧ b < w.heap.size ∧ w.cell? ⟨b, o + k, none⟩ = some parts[k].1 := by
    obtain ⟨h0, ⟨rfl, hn0⟩ | ⟨b, o, c, rfl, hnc, hcm, hb, hk, hc⟩⟩ := hv
    · exact ⟨none, 0, by rw [hn0], fun k h => by omega⟩
    · exact ⟨_, c, rfl, fun k h => ⟨b, o, rfl, hb, hc k _ (by simp [h])⟩⟩
  obtain ⟨a, c, rfl, hcs⟩ := hcells
  clear hv
  have hsum := fun k h => psum_snoc parts k h
  have hle := fun k => psum_le parts k
  have hfl : ∀ k (h : k < parts.length), pcells (parts.take (k + 1)) = pcells (parts.take k) ++ parts[k].2.2 := fun k h => flat_snoc _ parts k h
  have hC := Lib.hid hcs
  have hP := Lib.hid hp
  have hNN := Lib.hid hN
  have hS := Lib.hid hsum
  have hL := Lib.hid hle
  have hF := Lib.hid hfl
  clear hcs hp hN hsum hle hfl
  go_enter Tryz.func262, Tryz.ntmps262
  go_wp2
  go_loop [3, 11] (fun t i => ∃ k : Nat, k ≤ parts.length ∧ i = I k ∧ t = I (psum (parts.take k))) (fun _ i => parts.length - (intOf i).toNat)
  case atStart => exact ⟨0, by omega, rfl, by rw [List.take_zero, psum_nil]; rfl⟩
  case round =>
    obtain ⟨k, hk, rfl, rfl⟩ := hrel
    by_cases hlt : k < parts.length
    · obtain ⟨b, o, rfl, hb, c0⟩ := hC.out k hlt
      obtain ⟨a', c', hsl⟩ := (hP.out _ (List.getElem_mem hlt)).1.slice
      rw [hsl] at c0
      have h1 := hS.out k hlt
      have h2 := hL.out (k + 1)
      have h3 := hNN.out
      have h4 : psum (parts.take k) + parts[k].2.1 ≤ 1073741824 := by omega
      have H1 := Lib.hid h1
      clear hsl h1 h2 h3
      generalize psum (parts.take k) = T at *
      go_wp2
      go_round
      case rel => exact ⟨k + 1, by omega, by go_num, by rw [H1.out]; go_num⟩
      case measure => simp [intOf]; omega
    · have hkk : k = parts.length := by omega
      subst hkk
      rw [List.take_length]
      have hT := hNN.out
      generalize hTT : psum parts = T at *
      have HTT := Lib.hid hTT
      clear hTT
      go_wp2_with fail
      refine (Grow_nil_Var T _ hT).mono ?_
      rintro e w1 ⟨v1, rfl, ho1, hb1⟩
      go_wp2
      go_loopw [6, 27] (fun v i wr => ∃ k : Nat, k ≤ parts.length ∧ i = I k ∧ wr.ownsRow w.heap.size 27 4 v (psum (parts.take k)) (pcells (parts.take k)) ∧ Below w.heap.size w wr) (fun _ i _ => parts.length - (intOf i).toNat)
      case atStart => exact ⟨0, by omega, rfl, by rw [List.take_zero, psum_nil, pcells_nil]; exact ho1, hb1⟩
      case round =>
        obtain ⟨k, hk, rfl, ho, hbe⟩ := hrel
        by_cases hlt : k < parts.length
        · obtain ⟨b, o, rfl, hb, c0'⟩ := hC.out k hlt
          have c0 : wr.cell? ⟨b, o + k, none⟩ = some parts[k].1 := (hbe.cell (p := ⟨b, _, none⟩) hb).trans c0'
          obtain ⟨hsrc0, h1c⟩ := hP.out _ (List.getElem_mem hlt)
          have hsrc := hsrc0.ext hbe
          obtain ⟨a', c', hsl⟩ := hsrc.slice
          rw [hsl] at c0 hsrc
          have h1 := hS.out k hlt
          have h2 := hL.out (k + 1)
          have h4 : psum (parts.take k) + parts[k].2.1 ≤ 1073741824 := by omega
          have H1 := Lib.hid h1
          have H2 := Lib.hid (hF.out k hlt)
          have hbs := hbe.size
          clear hsl h1 h2 c0' hsrc0 ho1 hb1
          go_wp2_with (at_builtin; go_must (refine wpList_app _ rfl _ _ 28 rfl w.heap.size 27 i0 (.agg #[S [], S [], .bool false, .bool false]) 4 40 Tryz.underlying28 hi hz0 hz1 hz2 rfl (by decide) _ _ _ rfl ho _ _ _ _ _ rfl hsrc h1c ?c3 ?c4 ?c5 ?_))
          case c3 => unfold maxLen; omega
          case c4 => omega
          case c5 => omega
          intro v' w2 hown' hgrow _
          have hb2 := below_grownRow hbe ho hgrow hbs
          rw [← H1.out, ← H2.out] at hown'
          clear ho hgrow
          go_wp2
          go_roundw
          case rel => exact ⟨k + 1, by omega, by go_num, hown', hb2⟩
          case measure => simp [intOf]; omega
        · have hkk : k = parts.length := by omega
          subst hkk
          rw [List.take_length] at ho
          go_wp2_with fail
          go_ret
          exact ⟨_, rfl, ho, hbe⟩
end Go.Proofs.YtdffbbfhcdhpdaaGreatDoor
