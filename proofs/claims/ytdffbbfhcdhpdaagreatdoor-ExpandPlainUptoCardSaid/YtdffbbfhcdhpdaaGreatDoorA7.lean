/- fields.splitter's split. -/
import Derived.Test.YtdffbbfhcdhpdaaGreatDoorA6
namespace Go.Proofs.YtdffbbfhcdhpdaaGreatDoor
open Go.RowKit

set_option maxRecDepth 100000 in
set_option maxHeartbeats 1000000 in
theorem splitter_split (B b : Nat) (x : SplD) (s : List UInt8) (w : World) (h : SplAt B b x w) (hg : Glob w) (hB0 : 0 < B) (hf : x.field.length + 2 * s.length ≤ 4294967296) (hl : x.out.length + s.length ≤ 4294967296) :
    Calls Tryz.prog 82 #[Ptr b, S s] w fun e w' => e = .returned (.tuple #[]) ∧ SplAt B b (splText x s) w' ∧ Fr B SplE w w' := by
  have hsl : s.length ≤ 4294967296 := by omega
  have hG := Lib.hid hg
  have hF := Lib.hid hf
  have hL := Lib.hid hl
  clear hg hf hl
  go_enter Tryz.func82, Tryz.ntmps82
  go_wp2
  go_loopw [8] (fun i wr => ∃ k : Nat, k ≤ s.length ∧ i = I k ∧ SplAt B b (splText x (s.take k)) wr ∧ Fr B SplE w wr) (fun i _ => s.length - (intOf i).toNat)
  case atStart => exact ⟨0, by omega, rfl, h, Fr.refl _ _ _⟩
  case round =>
    obtain ⟨k, hk, rfl, hx, hfr⟩ := hrel
    by_cases hlt : k < s.length
    · have hsn := splText_snoc x s k hlt
      have htd := take_drop_one s k hlt
      have hlen := splText_len x (s.take k)
      rw [List.length_take, Nat.min_eq_left hk] at hlen
      have hgr : Glob wr := hG.out.fr hfr hB0
      generalize splText x (s.take k) = X at hx hsn hlen
      have HS := Lib.hid hsn
      have HG := Lib.hid hgr
      have hlf : X.field.length + 2 ≤ 4294967296 := by have := hF.out; omega
      have hlo : X.out.length + 1 ≤ 4294967296 := by have := hL.out; omega
      clear hsn hgr hlen
      have hbl := hx.lt
      obtain ⟨c0, c4, c5, f5⟩ := hx.cells
      cases h1 : X.ifs.contains s[k] with
      | false =>
        have hst : splStep X s[k] = { X with field := X.field ++ dbl [s[k]], begun := true, gap := false } := by unfold splStep; rw [if_pos h1]
        have HST := Lib.hid hst
        have H1 := Lib.hid h1
        clear hst h1 c4 c5 f5
        go_wp2_with fail
        refine (contains1 X.ifs s[k] false _ H1.out).mono ?_
        rintro e w' ⟨rfl, rfl⟩
        go_wp2_with fail
        refine (active_any [s[k]] _ HG.out (by simp)).mono ?_
        rintro e w1 ⟨rfl, hb1⟩
        go_wp2_with fail
        refine (splitter_put B b X (dbl [s[k]]) _ (hx.ext hb1) ?hlen).mono ?_
        case hlen => have := dbl_one_le s[k]; omega
        rintro e w2 ⟨rfl, hx2, hf2⟩
        go_wp2_with fail
        go_roundw
        case rel => exact ⟨k + 1, by omega, by go_num, by rw [HS.out, HST.out]; exact hx2, (hfr.trans (Fr.of_below hb1 (Nat.le_refl _))).trans hf2⟩
        case measure => simp [intOf]; omega
      | true =>
        have H1 := Lib.hid h1
        have hn1 : ¬ X.ifs.contains s[k] = false := by rw [h1]; simp
        have HN1 := Lib.hid hn1
        clear h1 hn1
        cases h2 : List.contains [32, 9, 10] s[k] with
        | true =>
          have H2 := Lib.hid h2
          clear h2
          cases h3 : X.begun with
          | true =>
            have hst : splStep X s[k] = { X.ended with gap := true } := by unfold splStep; rw [if_neg HN1.out, if_pos H2.out, if_pos h3]
            have HST := Lib.hid hst
            rw [h3] at c4
            clear hst h3 c5 f5
            go_wp2_with fail
            refine (contains1 X.ifs s[k] true _ H1.out).mono ?_
            rintro e w' ⟨rfl, rfl⟩
            go_wp2_with fail
            refine (contains1 [32, 9, 10] s[k] true _ H2.out).mono ?_
            rintro e w' ⟨rfl, rfl⟩
            go_wp2_with fail
            refine (splitter_end B b X _ hx hlo).mono ?_
            rintro e w1 ⟨rfl, hx1, hf1⟩
            obtain ⟨_, _, c5', f5'⟩ := hx1.cells
            have hbl1 := hx1.lt
            go_wp2_with fail
            obtain ⟨hx2, hf2⟩ := hx1.setGap true
            go_roundw
            case rel => exact ⟨k + 1, by omega, by go_num, by rw [HS.out, HST.out]; exact hx2, (hfr.trans hf1).trans hf2⟩
            case measure => simp [intOf]; omega
          | false =>
            have hst : splStep X s[k] = X := by unfold splStep; rw [if_neg HN1.out, if_pos H2.out, if_neg (by rw [h3]; simp)]
            have HST := Lib.hid hst
            rw [h3] at c4
            clear hst h3 c5 f5
            go_wp2_with fail
            refine (contains1 X.ifs s[k] true _ H1.out).mono ?_
            rintro e w' ⟨rfl, rfl⟩
            go_wp2_with fail
            refine (contains1 [32, 9, 10] s[k] true _ H2.out).mono ?_
            rintro e w' ⟨rfl, rfl⟩
            go_wp2_with fail
            go_roundw
            case rel => exact ⟨k + 1, by omega, by go_num, by rw [HS.out, HST.out]; exact hx, hfr⟩
            case measure => simp [intOf]; omega
        | false =>
          have H2 := Lib.hid h2
          have hn2 : ¬ List.contains [32, 9, 10] s[k] = true := by rw [h2]; simp
          have HN2 := Lib.hid hn2
          clear h2 hn2
          cases h3 : X.begun with
          | true =>
            have hst : splStep X s[k] = { X.ended with gap := false } := by unfold splStep; rw [if_neg HN1.out, if_neg HN2.out, if_pos (by rw [h3]; rfl)]
            have HST := Lib.hid hst
            rw [h3] at c4
            clear hst h3 c5 f5
            go_wp2_with fail
            refine (contains1 X.ifs s[k] true _ H1.out).mono ?_
            rintro e w' ⟨rfl, rfl⟩
            go_wp2_with fail
            refine (contains1 [32, 9, 10] s[k] false _ H2.out).mono ?_
            rintro e w' ⟨rfl, rfl⟩
            go_wp2_with fail
            refine (splitter_end B b X _ hx hlo).mono ?_
            rintro e w1 ⟨rfl, hx1, hf1⟩
            obtain ⟨_, _, c5', f5'⟩ := hx1.cells
            have hbl1 := hx1.lt
            go_wp2_with fail
            obtain ⟨hx2, hf2⟩ := hx1.setGap false
            go_roundw
            case rel => exact ⟨k + 1, by omega, by go_num, by rw [HS.out, HST.out]; exact hx2, (hfr.trans hf1).trans hf2⟩
            case measure => simp [intOf]; omega
          | false =>
            cases h4 : X.gap with
            | false =>
              have hst : splStep X s[k] = { X.ended with gap := false } := by unfold splStep; rw [if_neg HN1.out, if_neg HN2.out, if_pos (by rw [h3, h4]; rfl)]
              have HST := Lib.hid hst
              rw [h3] at c4
              rw [h4] at c5
              clear hst h3 h4 f5
              go_wp2_with fail
              refine (contains1 X.ifs s[k] true _ H1.out).mono ?_
              rintro e w' ⟨rfl, rfl⟩
              go_wp2_with fail
              refine (contains1 [32, 9, 10] s[k] false _ H2.out).mono ?_
              rintro e w' ⟨rfl, rfl⟩
              go_wp2_with fail
              refine (splitter_end B b X _ hx hlo).mono ?_
              rintro e w1 ⟨rfl, hx1, hf1⟩
              obtain ⟨_, _, c5', f5'⟩ := hx1.cells
              have hbl1 := hx1.lt
              go_wp2_with fail
              obtain ⟨hx2, hf2⟩ := hx1.setGap false
              go_roundw
              case rel => exact ⟨k + 1, by omega, by go_num, by rw [HS.out, HST.out]; exact hx2, (hfr.trans hf1).trans hf2⟩
              case measure => simp [intOf]; omega
            | true =>
              have hst : splStep X s[k] = { X with gap := false } := by unfold splStep; rw [if_neg HN1.out, if_neg HN2.out, if_neg (by rw [h3, h4]; simp)]
              have HST := Lib.hid hst
              rw [h3] at c4
              rw [h4] at c5
              clear hst h3 h4
              go_wp2_with fail
              refine (contains1 X.ifs s[k] true _ H1.out).mono ?_
              rintro e w' ⟨rfl, rfl⟩
              go_wp2_with fail
              refine (contains1 [32, 9, 10] s[k] false _ H2.out).mono ?_
              rintro e w' ⟨rfl, rfl⟩
              go_wp2_with fail
              obtain ⟨hx2, hf2⟩ := hx.setGap false
              go_roundw
              case rel => exact ⟨k + 1, by omega, by go_num, by rw [HS.out, HST.out]; exact hx2, hfr.trans hf2⟩
              case measure => simp [intOf]; omega
    · have hkk : k = s.length := by omega
      subst hkk
      rw [List.take_length] at hx
      go_wp2_with fail
      go_end0
      exact ⟨rfl, hx, hfr⟩
end Go.Proofs.YtdffbbfhcdhpdaaGreatDoor
