/- law16.ExpandQuoted. -/
import Derived.Test.YtdffbbfhcdhpdaaGreatDoorD7
import Derived.Deep.Cut
namespace Go.Proofs.YtdffbbfhcdhpdaaGreatDoor
open Go.RowKit

abbrev big : Nat := 140737488355328

theorem cell_other {w : World} {x n : Nat} (h : ¬ x = n) (o j : Nat) (u : Value) : (w.setCell ⟨n, j, none⟩ u).cell? ⟨x, o, none⟩ = w.cell? ⟨x, o, none⟩ := World.cell?_of_block (w := w) (Below.heap_setCell w ⟨n, j, none⟩ u x h)
abbrev zShell : Obj := .cells #[NilS, NilS, .int .i64 0] 30
theorem shell_facts {w : World} {n : Nat} (h : w.heap[n]? = some zShell) : w.cell? ⟨n, 0, none⟩ = some NilS ∧ w.cell? ⟨n, 1, none⟩ = some NilS ∧ w.cell? ⟨n, 2, none⟩ = some (.int .i64 0) ∧ w.frozen? ⟨n, 0, none⟩ = false ∧ w.frozen? ⟨n, 1, none⟩ = false ∧ w.frozen? ⟨n, 2, none⟩ = false :=
  ⟨(blk_cell h 0).trans rfl, (blk_cell h 1).trans rfl, (blk_cell h 2).trans rfl, blk_free h 0, blk_free h 1, blk_free h 2⟩
theorem QW.shell {s : List UInt8} {al : List (List UInt8)} {vv av : Value} {w : World} (h : QW s al vv av w) {g : Nat} {i : Int} {f : Nat × Nat} (hg : w.heap[g]? = some (.cells #[NilS, NilS, I i] 30 f)) (a1 a2 : Option Addr) (n1 n2 c1 c2 : Nat) (j : Int) :
    QW s al vv av (((w.setCell ⟨g, 0, none⟩ (.slice a1 n1 c1)).setCell ⟨g, 1, none⟩ (.slice a2 n2 c2)).setCell ⟨g, 2, none⟩ (I j)) := by
  refine ⟨?_, (h.vars.shell var_first hg _ _ _ _ _ _).top, (h.args.shell str_first hg _ _ _ _ _ _).top⟩
  obtain ⟨m, hm⟩ := h.glob
  have hne : ¬ 0 = g := by
    intro e; subst e
    have := (blk_cell hg 0).symm.trans hm
    simp at this
  exact ⟨m, by rw [cell_other hne, cell_other hne, cell_other hne]; exact hm⟩
def Cut17 (s : List UInt8) (al : List (List UInt8)) (W : World) (r t e : Value) (wc : World) : Prop :=
  e = I 0 ∧ (∃ a c, r = .slice a al.length c) ∧ Sl wc.heap.size 9 wc r al.length 1 (al.map S) ∧
    (∃ bt va vc aa ac, t = Ptr bt ∧ wc.heap[bt]? = some (.cells #[.slice va 1 vc, .slice aa al.length ac, I 0] 30 (0, 0)) ∧ QW s al (.slice va 1 vc) (.slice aa al.length ac) wc) ∧ Below W.heap.size W wc
set_option maxRecDepth 100000 in
set_option maxHeartbeats 4000000 in
theorem quoted_true (C : Nat) (s : List UInt8) (v : Value) (al : List (List UInt8)) (w : World) (hg : Glob w) (hv : Sl C 9 w v al.length 1 (al.map S)) (hs : s.length ≤ big) (hl : ∀ a ∈ al, a.length ≤ big) :
    Calls Tryz.prog 3 #[S s, v] w fun e w' => e = .returned (.bool true) ∧ Below w.heap.size w w' := by
  obtain ⟨a0, c0, rfl⟩ := hv.slice
  go_enter Tryz.func3, Tryz.ntmps3
  go_wp2_with fail
  refine (awake_true _ hg).mono ?_
  rintro e w1 ⟨rfl, hb1⟩
  go_wp2_with fail
  refine (begun_zero _).mono ?_
  rintro e w2 ⟨b, c, rfl, hbl, hcb, hb2⟩
  have hB2 := hb1.trans (hb2.mono hb1.size)
  have hv2 := hv.ext hB2
  have hg2 := hg.ext hB2
  clear hb1 hb2
  by_cases hc : s.length ≤ 200 ∧ al.length ≤ 10
  · obtain ⟨hc1, hc2⟩ := hc
    have hsum : ∀ k, slen (al.take k) ≤ 10 * big := fun k => by
      have h1 := slen_le (al.take k) big (fun a ha => hl a (List.mem_of_mem_take ha))
      have h2 : (al.take k).length ≤ 10 := Nat.le_trans (by rw [List.length_take]; exact Nat.min_le_right _ _) hc2
      exact Nat.le_trans h1 (Nat.mul_le_mul_right _ h2)
    have hsn := fun k h => slen_snoc al k h
    have HS := Lib.hid (And.intro hsum (And.intro hsn hl))
    clear hsum hsn hl
    go_wp2_with fail
    go_loopw [7, 8] (fun n i wr => ∃ k : Nat, k ≤ al.length ∧ i = I k ∧ n = I (slen (al.take k)) ∧ w2 = wr) (fun _ i _ => al.length - (intOf i).toNat)
    case atStart => exact ⟨0, by omega, rfl, rfl, rfl⟩
    case round =>
      obtain ⟨k, hk, rfl, rfl, rfl⟩ := hrel
      by_cases hlt : k < al.length
      · obtain ⟨b', o', rfl, hb', d0⟩ := str_cell hv2 k hlt
        have h1 := HS.out.1 k
        have h2 := HS.out.2.2 al[k] (List.getElem_mem hlt)
        have h3 := HS.out.2.1 k hlt
        have H3 := Lib.hid h3
        clear h3
        unfold big at h1 h2
        generalize slen (al.take k) = T at *
        go_wp2_with fail
        go_roundw
        case rel => exact ⟨k + 1, by omega, by go_num, by rw [H3.out]; go_num, by trivial⟩
        case measure => simp [intOf]; omega
      · obtain rfl : k = al.length := by omega
        rw [List.take_length]
        have h1 := HS.out.1 al.length
        rw [List.take_length] at h1
        generalize hT : slen al = T at *
        have HT := Lib.hid hT
        clear hT
        by_cases hn : T ≤ 200
        · have hn' : (T : Int) ≤ 200 := by omega
          have hT2 : slen al ≤ 200 := by rw [HT.out]; exact hn
          have hmx : 1 ≤ maxLen := by unfold maxLen; decide
          have hbW0 : Below w2.heap.size w2 ((w2.alloc (.cells #[S [118], S s, .bool false, .bool false] 27)).alloc (.cells #[.slice (some ⟨w2.heap.size, 0, none⟩) 1 1, .slice a0 al.length c0, .int .i64 0] 30)) := ((Below.refl _ w2).alloc (Nat.le_refl _) _).alloc (by simp) _
          have hQ0 : QW s al (.slice (some ⟨w2.heap.size, 0, none⟩) 1 1) (.slice a0 al.length c0) ((w2.alloc (.cells #[S [118], S s, .bool false, .bool false] 27)).alloc (.cells #[.slice (some ⟨w2.heap.size, 0, none⟩) 1 1, .slice a0 al.length c0, .int .i64 0] 30)) :=
            ⟨hg2.ext hbW0, ((Sl.new rfl 27 [S [118], S s, .bool false, .bool false] 1 4 rfl hmx).ext ((Below.refl _ _).alloc (Nat.le_refl _) _)).top, (hv2.ext hbW0).top⟩
          have p9 := blk_new (w2.alloc (.cells #[S [118], S s, .bool false, .bool false] 27)) (.cells #[.slice (some ⟨w2.heap.size, 0, none⟩) 1 1, .slice a0 al.length c0, .int .i64 0] 30)
          rw [size_alloc'] at p9
          have hcb0 : ((w2.alloc (.cells #[S [118], S s, .bool false, .bool false] 27)).alloc (.cells #[.slice (some ⟨w2.heap.size, 0, none⟩) 1 1, .slice a0 al.length c0, .int .i64 0] 30)).cell? ⟨b, 1, none⟩ = some (Ptr c) := (hbW0.cell (p := ⟨b, 1, none⟩) hbl).trans hcb
          have hl9 := blk_lt p9
          have hbl0 : b < ((w2.alloc (.cells #[S [118], S s, .bool false, .bool false] 27)).alloc (.cells #[.slice (some ⟨w2.heap.size, 0, none⟩) 1 1, .slice a0 al.length c0, .int .i64 0] 30)).heap.size := by have := hbW0.size; omega
          have hBB0 := hB2.trans (hbW0.mono hB2.size)
          go_wp2_with fail
          generalize ((w2.alloc (.cells #[.string ⟨#[118]⟩, S s, .bool false, .bool false] 27)).alloc (.cells #[.slice (some ⟨w2.heap.size, 0, none⟩) 1 1, .slice a0 al.length c0, .int .i64 0] 30)) = W0 at *
          generalize w2.heap.size + 1 = n9 at *
          generalize w2.heap.size = n8 at *
          have hbl1 : b < W0.heap.size + 1 := by omega
          have hl91 : n9 < W0.heap.size + 1 := by omega
          have d0 : W0.cell? ⟨n9, 0, none⟩ = some (.slice (some ⟨n8, 0, none⟩) 1 1) := (blk_cell p9 0).trans rfl
          have d1 : W0.cell? ⟨n9, 1, none⟩ = some (.slice a0 al.length c0) := (blk_cell p9 1).trans rfl
          have d2 : W0.cell? ⟨n9, 2, none⟩ = some (.int .i64 0) := (blk_cell p9 2).trans rfl
          have nb0 : ¬ b = W0.heap.size := by omega
          have nb1 : ¬ b = W0.heap.size + 1 := by omega
          have nn0 : ¬ n9 = W0.heap.size := by omega
          have nn1 : ¬ n9 = W0.heap.size + 1 := by omega
          go_cut [10, 12] from 22 (fun r e wc => e = I 0 ∧ (∃ a c', r = .slice a 1 c') ∧ Sl wc.heap.size 9 wc r 1 1 [S s] ∧ Below W0.heap.size W0 wc)
          case rest =>
            obtain ⟨h12, ⟨a10, c10, h10⟩, hr10, hbV⟩ := hcut
            subst h12
            subst h10
            generalize wc = W1 at *
            have hsV := hbV.size
            have hQ1 := hQ0.ext hbV
            have v1 : W1.cell? ⟨b, 1, none⟩ = some (Ptr c) := (hbV.cell (p := ⟨b, 1, none⟩) hbl0).trans hcb0
            have v2 : W1.cell? ⟨n9, 0, none⟩ = some (.slice (some ⟨n8, 0, none⟩) 1 1) := (hbV.cell (p := ⟨n9, 0, none⟩) hl9).trans d0
            have v3 : W1.cell? ⟨n9, 1, none⟩ = some (.slice a0 al.length c0) := (hbV.cell (p := ⟨n9, 1, none⟩) hl9).trans d1
            have v4 : W1.cell? ⟨n9, 2, none⟩ = some (.int .i64 0) := (hbV.cell (p := ⟨n9, 2, none⟩) hl9).trans d2
            have mb0 : ¬ b = W1.heap.size := by omega
            have mb1 : ¬ b = W1.heap.size + 1 := by omega
            have mn0 : ¬ n9 = W1.heap.size := by omega
            have mn1 : ¬ n9 = W1.heap.size + 1 := by omega
            have kb0 : b < W1.heap.size := by omega
            have kn0 : n9 < W1.heap.size := by omega
            have kb1 : b < W1.heap.size + 1 := by omega
            have kn1 : n9 < W1.heap.size + 1 := by omega
            clear hcb0 d0 d1 d2 nb0 nb1 nn0 nn1 hbl1 hl91 p9
            go_wp2_with fail
            go_cut [13, 15] from 22 (fun r e wc => e = I 0 ∧ (∃ a c', r = .slice a 1 c') ∧ Sl wc.heap.size 9 wc r 1 1 [S s] ∧ Below W1.heap.size W1 wc)
            case rest =>
              obtain ⟨h15, ⟨a13, c13, h13⟩, hr13, hbV2⟩ := hcut
              subst h15
              subst h13
              generalize wc = W2 at *
              have hsV2 := hbV2.size
              have hQ2 := hQ1.ext hbV2
              have x1 : W2.cell? ⟨b, 1, none⟩ = some (Ptr c) := (hbV2.cell (p := ⟨b, 1, none⟩) kb0).trans v1
              have x2 : W2.cell? ⟨n9, 0, none⟩ = some (.slice (some ⟨n8, 0, none⟩) 1 1) := (hbV2.cell (p := ⟨n9, 0, none⟩) kn0).trans v2
              have x3 : W2.cell? ⟨n9, 1, none⟩ = some (.slice a0 al.length c0) := (hbV2.cell (p := ⟨n9, 1, none⟩) kn0).trans v3
              have x4 : W2.cell? ⟨n9, 2, none⟩ = some (.int .i64 0) := (hbV2.cell (p := ⟨n9, 2, none⟩) kn0).trans v4
              have hr10b := (hr10.ext hbV2).top
              have pb0 : ¬ b = W2.heap.size := by omega
              have pb1 : ¬ b = W2.heap.size + 1 := by omega
              have pn0 : ¬ n9 = W2.heap.size := by omega
              have pn1 : ¬ n9 = W2.heap.size + 1 := by omega
              have qb0 : b < W2.heap.size := by omega
              have qn0 : n9 < W2.heap.size := by omega
              have qb1 : b < W2.heap.size + 1 := by omega
              have qn1 : n9 < W2.heap.size + 1 := by omega
              have hBB1 := hBB0.trans (hbV.mono hBB0.size)
              have hBB2 := hBB1.trans (hbV2.mono hBB1.size)
              clear v1 v2 v3 v4 mb0 mb1 mn0 mn1 kb1 kn1
              go_wp2_with fail
              go_cut [16, 17, 18] from 22 (fun r t e wc => Cut17 s al W2 r t e wc)
              case rest =>
                obtain ⟨h18, ⟨a16, c16, h16⟩, hr16, ⟨bt, va, vc, aa, ac, h17, hbt, hQt⟩, hbV3⟩ := hcut
                subst h18
                subst h16
                subst h17
                generalize wc = W3 at *
                have hsV3 := hbV3.size
                have hQ3 := hQ2.ext hbV3
                have y2 : W3.cell? ⟨n9, 0, none⟩ = some (.slice (some ⟨n8, 0, none⟩) 1 1) := (hbV3.cell (p := ⟨n9, 0, none⟩) qn0).trans x2
                have y3 : W3.cell? ⟨n9, 1, none⟩ = some (.slice a0 al.length c0) := (hbV3.cell (p := ⟨n9, 1, none⟩) qn0).trans x3
                have y4 : W3.cell? ⟨n9, 2, none⟩ = some (.int .i64 0) := (hbV3.cell (p := ⟨n9, 2, none⟩) qn0).trans x4
                have hr10c := (hr10b.ext hbV3).top
                have hr13c := (hr13.ext hbV3).top
                have hBB3 := hBB2.trans (hbV3.mono hBB2.size)
                have rn0 : n9 < W3.heap.size := by omega
                clear x1 x2 x3 x4 pb0 pb1 pn0 pn1 qb1 qn1
                go_wp2_with fail
                have hb9 : Below W3.heap.size W3 (W3.alloc (.cells #[I 1, .bool false, S [], S [118], S [], NilS] 42)) := (Below.refl _ _).alloc (Nat.le_refl _) _
                refine (tq4 s al _ _ _ _ (hQ3.ext hb9) (Sl.new rfl 42 [I 1, .bool false, S [], S [118], S [], NilS] 1 6 rfl hmx) hc1 hc2 hT2).mono ?_
                rintro e w4 ⟨v4', u4', rfl, ⟨va4, vc4, rfl⟩, ⟨ua4, uc4, rfl⟩, hQ4, hb4⟩
                have hbW4 := hb9.trans (hb4.mono hb9.size)
                have hbt4 := blk_ext hbW4 hbt
                have hQt4 := hQt.ext hbW4
                have hQ34 := hQ3.ext hbW4
                have hr10d := (hr10c.ext hbW4).top
                have hr13d := (hr13c.ext hbW4).top
                have hr16d := (hr16.ext hbW4).top
                have hBB4 := hBB3.trans (hbW4.mono hBB3.size)
                have z2 : w4.cell? ⟨n9, 0, none⟩ = some (.slice (some ⟨n8, 0, none⟩) 1 1) := (hbW4.cell (p := ⟨n9, 0, none⟩) rn0).trans y2
                have z3 : w4.cell? ⟨n9, 1, none⟩ = some (.slice a0 al.length c0) := (hbW4.cell (p := ⟨n9, 1, none⟩) rn0).trans y3
                have z4 : w4.cell? ⟨n9, 2, none⟩ = some (.int .i64 0) := (hbW4.cell (p := ⟨n9, 2, none⟩) rn0).trans y4
                have rn4 : n9 < w4.heap.size := by have := hbW4.size; omega
                clear y2 y3 y4 hb9 hb4 hbW4 hbt hQt hQ3 hr10c hr13c hr16 hBB3 hQ4
                go_wp2_with fail
                have hb5 : Below w4.heap.size w4 ((w4.alloc (.cells #[.slice va4 1 vc4, .slice ua4 al.length uc4, .int .i64 0] 30)).alloc (.cells #[S s] 9)) := ((Below.refl _ _).alloc (Nat.le_refl _) _).alloc (by simp) _
                refine (same_str _ _ _ _ [s] _ (hr10d.ext hb5) (Sl.new (b := w4.heap.size + 1) (by simp) 9 [S s] 1 1 rfl hmx) (by simp)).mono ?_
                rintro e w5 ⟨rfl, hb6⟩
                have hB5 := hb5.trans (hb6.mono hb5.size)
                clear hb5 hb6 hr10d
                go_wp2_with fail
                have hb7 : Below w5.heap.size w5 (w5.alloc (.cells #[S s] 9)) := (Below.refl _ _).alloc (Nat.le_refl _) _
                have hB7 := hB5.trans (hb7.mono hB5.size)
                refine (same_str _ _ _ _ [s] _ (hr13d.ext hB7) (Sl.new rfl 9 [S s] 1 1 rfl hmx) (by simp)).mono ?_
                rintro e w6 ⟨rfl, hb8⟩
                have hB8 := hB7.trans (hb8.mono hB7.size)
                clear hB5 hb7 hB7 hb8 hr13d
                go_wp2_with fail
                refine (same_str _ _ _ _ al _ (hr16d.ext hB8) (hQ34.args.ext hB8) (by omega)).mono ?_
                rintro e w7 ⟨rfl, hb9⟩
                have hB9 := hB8.trans (hb9.mono hB8.size)
                have hbt7 := blk_ext hB9 hbt4
                have j0 : w7.cell? ⟨bt, 0, none⟩ = some (.slice va 1 vc) := (blk_cell hbt7 0).trans rfl
                have j1 : w7.cell? ⟨bt, 1, none⟩ = some (.slice aa al.length ac) := (blk_cell hbt7 1).trans rfl
                have j2 : w7.cell? ⟨bt, 2, none⟩ = some (.int .i64 0) := (blk_cell hbt7 2).trans rfl
                have i0 : w7.cell? ⟨n9, 0, none⟩ = some (.slice (some ⟨n8, 0, none⟩) 1 1) := (hB9.cell (p := ⟨n9, 0, none⟩) rn4).trans z2
                have i1 : w7.cell? ⟨n9, 1, none⟩ = some (.slice a0 al.length c0) := (hB9.cell (p := ⟨n9, 1, none⟩) rn4).trans z3
                have i2 : w7.cell? ⟨n9, 2, none⟩ = some (.int .i64 0) := (hB9.cell (p := ⟨n9, 2, none⟩) rn4).trans z4
                have hq1 := hQt4.vars.ext hB9
                have hq2 := hQt4.args.ext hB9
                have hq3 := hQ34.vars.ext hB9
                have hq4 := hQ34.args.ext hB9
                clear hB8 hb9 hr16d hbt7 hbt4 z2 z3 z4 hQt4 hQ34
                go_wp2_with fail
                refine (same_shell _ _ _ _ (qvars s) al 0 _ _ _ _ _ hq1 hq3 (by simp) hq2 hq4 (by omega)).mono ?_
                rintro e w8 ⟨rfl, hb10⟩
                have hB10 := hBB4.trans ((hB9.trans (hb10.mono hB9.size)).mono hBB4.size)
                clear hq1 hq2 hq3 hq4 hb10 hB9 hBB4 j0 j1 j2 i0 i1 i2
                go_wp2_with fail
                go_ret
                exact ⟨rfl, hB10⟩
              case first =>
                rename_i J K1 hJ hK1
                go_region_held3 (fun w' => w'.cell? ⟨b, 1, none⟩ = some (Ptr c) ∧ w'.cell? ⟨n9, 0, none⟩ = some (.slice (some ⟨n8, 0, none⟩) 1 1) ∧ w'.cell? ⟨n9, 1, none⟩ = some (.slice a0 al.length c0) ∧ w'.cell? ⟨n9, 2, none⟩ = some (.int .i64 0)) (first | go_keep | (simp only [cell_other pb0, cell_other pb1, cell_other pn0, cell_other pn1]; go_keep)) (first | (go_at_call 10; refine (fq3 s al _ _ _ _ _ (hQ2.ext (by repeat (first | exact Below.refl _ _ | apply Below.drew | (refine Below.alloc ?_ (by first | (simp; done) | (simp; omega)) _)))) (by first | exact Sl.new (by simp) 42 [I 1, .bool true, S [], S [64], S [], NilS] 1 6 rfl hmx | exact ((Sl.new (by simp) 42 [I 1, .bool true, S [], S [64], S [], NilS] 1 6 rfl hmx).ext ((Below.refl _ _).alloc (Nat.le_refl _) _)).top) hc2 hT2).mono ?_; rintro e w3 ⟨r3, v3, u3, rfl, ⟨ra3, rc3, rfl⟩, ⟨va3, vc3, rfl⟩, ⟨ua3, uc3, rfl⟩, hr3, hQ3, hb3⟩; have hbT : Below W2.heap.size W2 w3 := (Below.trans (by repeat (first | exact Below.refl _ _ | apply Below.drew | (refine Below.alloc ?_ (by first | (simp; done) | (simp; omega)) _))) (hb3.mono (by first | (simp; done) | (simp; omega)))); have hs3 := hbT.size; have nb3 : ¬ b = w3.heap.size := (by omega); have nn3 : ¬ n9 = w3.heap.size := (by omega); have lb3 : b < w3.heap.size := (by omega); have ln3 : n9 < w3.heap.size := (by omega); have m1 := (hbT.cell (p := ⟨b, 1, none⟩) qb0).trans x1; have m2 := (hbT.cell (p := ⟨n9, 0, none⟩) qn0).trans x2; have m3 := (hbT.cell (p := ⟨n9, 1, none⟩) qn0).trans x3; have m4 := (hbT.cell (p := ⟨n9, 2, none⟩) qn0).trans x4; (first | (have z3 : w3.heap[W2.heap.size]? = some zShell := (by have q := blk_ext hb3 (blk_alloc (blk_new _ zShell) _); simpa using q); obtain ⟨y0, y1, y2, y3, y4, y5⟩ := shell_facts z3) | (have z3 : w3.heap[W2.heap.size + 1]? = some zShell := (by have q := blk_ext hb3 (blk_new _ zShell); simpa using q); obtain ⟨y0, y1, y2, y3, y4, y5⟩ := shell_facts z3) | skip)))
                all_goals
                  refine hK1 _ _ (Met.intro (hJ _ _ ?_))
                  repeat apply Exists.intro
                  refine ⟨?rel, rfl⟩
                  case rel =>
                    first
                      | exact ⟨rfl, ⟨_, _, rfl⟩, (hr3.ext ((Below.refl _ _).alloc (Nat.le_refl _) _)).top, ⟨_, _, _, _, _, rfl, blk_new _ _, hQ3.ext ((Below.refl _ _).alloc (Nat.le_refl _) _)⟩, hbT.alloc hs3 _⟩
                      | exact ⟨rfl, ⟨_, _, rfl⟩, (Sl.shell hr3 str_first z3 _ _ _ _ _ _).top, ⟨_, _, _, _, _, rfl, blk_set (blk_set (blk_set z3 0 _) 1 _) 2 _, hQ3.shell z3 _ _ _ _ _ _ _⟩, ((hbT.setCell (p := ⟨W2.heap.size, 0, none⟩) (Nat.le_refl _) _).setCell (p := ⟨W2.heap.size, 1, none⟩) (Nat.le_refl _) _).setCell (p := ⟨W2.heap.size, 2, none⟩) (Nat.le_refl _) _⟩
                      | exact ⟨rfl, ⟨_, _, rfl⟩, (Sl.shell hr3 str_first z3 _ _ _ _ _ _).top, ⟨_, _, _, _, _, rfl, blk_set (blk_set (blk_set z3 0 _) 1 _) 2 _, hQ3.shell z3 _ _ _ _ _ _ _⟩, ((hbT.setCell (p := ⟨W2.heap.size + 1, 0, none⟩) (Nat.le_succ _) _).setCell (p := ⟨W2.heap.size + 1, 1, none⟩) (Nat.le_succ _) _).setCell (p := ⟨W2.heap.size + 1, 2, none⟩) (Nat.le_succ _) _⟩
            case first =>
              rename_i J K1 hJ hK1
              go_region_held3 (fun w' => w'.cell? ⟨b, 1, none⟩ = some (Ptr c) ∧ w'.cell? ⟨n9, 0, none⟩ = some (.slice (some ⟨n8, 0, none⟩) 1 1) ∧ w'.cell? ⟨n9, 1, none⟩ = some (.slice a0 al.length c0) ∧ w'.cell? ⟨n9, 2, none⟩ = some (.int .i64 0)) (first | go_keep | (simp only [cell_other mb0, cell_other mb1, cell_other mn0, cell_other mn1]; go_keep)) (first | (go_at_call 10; refine (fq2 s al _ _ _ _ _ (hQ1.ext (by repeat (first | exact Below.refl _ _ | apply Below.drew | (refine Below.alloc ?_ (by first | (simp; done) | (simp; omega)) _)))) (by first | exact Sl.new (by simp) 42 [I 1, .bool true, S [], S [118], S [], NilS] 1 6 rfl hmx | exact ((Sl.new (by simp) 42 [I 1, .bool true, S [], S [118], S [], NilS] 1 6 rfl hmx).ext ((Below.refl _ _).alloc (Nat.le_refl _) _)).top) hc1 hc2 hT2).mono ?_; rintro e w3 ⟨r3, v3, u3, rfl, ⟨ra3, rc3, rfl⟩, ⟨va3, vc3, rfl⟩, ⟨ua3, uc3, rfl⟩, hr3, hQ3, hb3⟩; have hbT : Below W1.heap.size W1 w3 := (Below.trans (by repeat (first | exact Below.refl _ _ | apply Below.drew | (refine Below.alloc ?_ (by first | (simp; done) | (simp; omega)) _))) (hb3.mono (by first | (simp; done) | (simp; omega)))); have hs3 := hbT.size; have nb3 : ¬ b = w3.heap.size := (by omega); have nn3 : ¬ n9 = w3.heap.size := (by omega); have lb3 : b < w3.heap.size := (by omega); have ln3 : n9 < w3.heap.size := (by omega); have m1 := (hbT.cell (p := ⟨b, 1, none⟩) kb0).trans v1; have m2 := (hbT.cell (p := ⟨n9, 0, none⟩) kn0).trans v2; have m3 := (hbT.cell (p := ⟨n9, 1, none⟩) kn0).trans v3; have m4 := (hbT.cell (p := ⟨n9, 2, none⟩) kn0).trans v4; (first | (have z3 : w3.heap[W1.heap.size]? = some zShell := (by have q := blk_ext hb3 (blk_alloc (blk_new _ zShell) _); simpa using q); obtain ⟨y0, y1, y2, y3, y4, y5⟩ := shell_facts z3) | (have z3 : w3.heap[W1.heap.size + 1]? = some zShell := (by have q := blk_ext hb3 (blk_new _ zShell); simpa using q); obtain ⟨y0, y1, y2, y3, y4, y5⟩ := shell_facts z3) | skip)))
              all_goals
                refine hK1 _ _ (Met.intro (hJ _ _ ?_))
                repeat apply Exists.intro
                refine ⟨?rel, rfl⟩
                case rel =>
                  first
                    | exact ⟨rfl, ⟨_, _, rfl⟩, (hr3.ext ((Below.refl _ _).alloc (Nat.le_refl _) _)).top, hbT.alloc hs3 _⟩
                    | exact ⟨rfl, ⟨_, _, rfl⟩, (Sl.shell hr3 str_first z3 _ _ _ _ _ _).top, ((hbT.setCell (p := ⟨W1.heap.size, 0, none⟩) (Nat.le_refl _) _).setCell (p := ⟨W1.heap.size, 1, none⟩) (Nat.le_refl _) _).setCell (p := ⟨W1.heap.size, 2, none⟩) (Nat.le_refl _) _⟩
                    | exact ⟨rfl, ⟨_, _, rfl⟩, (Sl.shell hr3 str_first z3 _ _ _ _ _ _).top, ((hbT.setCell (p := ⟨W1.heap.size + 1, 0, none⟩) (Nat.le_succ _) _).setCell (p := ⟨W1.heap.size + 1, 1, none⟩) (Nat.le_succ _) _).setCell (p := ⟨W1.heap.size + 1, 2, none⟩) (Nat.le_succ _) _⟩
          case first =>
            rename_i J K1 hJ hK1
            go_region_held3 (fun w' => w'.cell? ⟨b, 1, none⟩ = some (Ptr c) ∧ w'.cell? ⟨n9, 0, none⟩ = some (.slice (some ⟨n8, 0, none⟩) 1 1) ∧ w'.cell? ⟨n9, 1, none⟩ = some (.slice a0 al.length c0) ∧ w'.cell? ⟨n9, 2, none⟩ = some (.int .i64 0)) (first | go_keep | (simp only [cell_other nb0, cell_other nb1, cell_other nn0, cell_other nn1]; go_keep)) (first | (go_at_call 10; refine (fq1 s al _ _ _ _ _ (hQ0.ext (by repeat (first | exact Below.refl _ _ | apply Below.drew | (refine Below.alloc ?_ (by first | (simp; done) | (simp; omega)) _)))) (by first | exact Sl.new (by simp) 42 [I 0, .bool true, S s, S [], S [], NilS] 1 6 rfl hmx | exact ((Sl.new (by simp) 42 [I 0, .bool true, S s, S [], S [], NilS] 1 6 rfl hmx).ext ((Below.refl _ _).alloc (Nat.le_refl _) _)).top) hc1 hc2 hT2).mono ?_; rintro e w3 ⟨r3, v3, u3, rfl, ⟨ra3, rc3, rfl⟩, ⟨va3, vc3, rfl⟩, ⟨ua3, uc3, rfl⟩, hr3, hQ3, hb3⟩; have hbT : Below W0.heap.size W0 w3 := (Below.trans (by repeat (first | exact Below.refl _ _ | apply Below.drew | (refine Below.alloc ?_ (by first | (simp; done) | (simp; omega)) _))) (hb3.mono (by first | (simp; done) | (simp; omega)))); have hs3 := hbT.size; have nb3 : ¬ b = w3.heap.size := (by omega); have nn3 : ¬ n9 = w3.heap.size := (by omega); have lb3 : b < w3.heap.size := (by omega); have ln3 : n9 < w3.heap.size := (by omega); have m1 := (hbT.cell (p := ⟨b, 1, none⟩) hbl0).trans hcb0; have m2 := (hbT.cell (p := ⟨n9, 0, none⟩) hl9).trans d0; have m3 := (hbT.cell (p := ⟨n9, 1, none⟩) hl9).trans d1; have m4 := (hbT.cell (p := ⟨n9, 2, none⟩) hl9).trans d2; (first | (have z3 : w3.heap[W0.heap.size]? = some zShell := (by have q := blk_ext hb3 (blk_alloc (blk_new _ zShell) _); simpa using q); obtain ⟨y0, y1, y2, y3, y4, y5⟩ := shell_facts z3) | (have z3 : w3.heap[W0.heap.size + 1]? = some zShell := (by have q := blk_ext hb3 (blk_new _ zShell); simpa using q); obtain ⟨y0, y1, y2, y3, y4, y5⟩ := shell_facts z3) | skip)))
            all_goals
              refine hK1 _ _ (Met.intro (hJ _ _ ?_))
              repeat apply Exists.intro
              refine ⟨?rel, rfl⟩
              case rel =>
                first
                  | exact ⟨rfl, ⟨_, _, rfl⟩, (hr3.ext ((Below.refl _ _).alloc (Nat.le_refl _) _)).top, hbT.alloc hs3 _⟩
                  | exact ⟨rfl, ⟨_, _, rfl⟩, (Sl.shell hr3 str_first z3 _ _ _ _ _ _).top, ((hbT.setCell (p := ⟨W0.heap.size, 0, none⟩) (Nat.le_refl _) _).setCell (p := ⟨W0.heap.size, 1, none⟩) (Nat.le_refl _) _).setCell (p := ⟨W0.heap.size, 2, none⟩) (Nat.le_refl _) _⟩
                  | exact ⟨rfl, ⟨_, _, rfl⟩, (Sl.shell hr3 str_first z3 _ _ _ _ _ _).top, ((hbT.setCell (p := ⟨W0.heap.size + 1, 0, none⟩) (Nat.le_succ _) _).setCell (p := ⟨W0.heap.size + 1, 1, none⟩) (Nat.le_succ _) _).setCell (p := ⟨W0.heap.size + 1, 2, none⟩) (Nat.le_succ _) _⟩
        · have hn' : (200 : Int) < T := by omega
          go_wp2_with fail
          go_ret
          exact ⟨rfl, hB2⟩
  · have hc' : s.length ≤ 200 → 10 < al.length := fun h => by omega
    by_cases hc1 : s.length ≤ 200
    · have hc2 := hc' hc1
      have hc1' : (s.length : Int) ≤ 200 := by omega
      have hc2' : (10 : Int) < al.length := by omega
      go_wp2_with fail
      go_ret
      exact ⟨rfl, hB2⟩
    · have hc1' : (200 : Int) < s.length := by omega
      go_wp2_with fail
      go_ret
      exact ⟨rfl, hB2⟩
end Go.Proofs.YtdffbbfhcdhpdaaGreatDoor
