/- ref08: letter, digit, Name, begins. -/
import Derived.Test.YtdffbbfhcdhpdaaGreatDoorC9
namespace Go.Proofs.YtdffbbfhcdhpdaaGreatDoor
open Go.RowKit

set_option maxHeartbeats 400000 in
theorem letter08 (c : UInt8) (w : World) : Calls Tryz.prog 154 #[B8 c] w fun e w' => e = .returned (.bool (isL c)) ∧ w = w' := by
  have h := c.toNat_lt
  go_enter Tryz.func154, Tryz.ntmps154
  go_wp2
  all_goals
    go_ret
    refine ⟨ret_bool ?_, rfl⟩
    rw [isL, Bool.eq_iff_iff, letterR_iff]
    simp
    omega
set_option maxHeartbeats 400000 in
theorem digit08 (c : UInt8) (w : World) : Calls Tryz.prog 155 #[B8 c] w fun e w' => e = .returned (.bool (isD c)) ∧ w = w' := by
  have h := c.toNat_lt
  go_enter Tryz.func155, Tryz.ntmps155
  go_wp2
  all_goals
    go_ret
    refine ⟨ret_bool ?_, rfl⟩
    rw [isD, Bool.eq_iff_iff, digitR_iff]
    simp
    try omega

set_option maxRecDepth 100000 in
set_option maxHeartbeats 600000 in
theorem name08 (s : List UInt8) (w : World) (hs : s.length ≤ 4294967296) :
    Calls Tryz.prog 98 #[S s] w fun e w' => e = .returned (I (nameOf s).length) ∧ w = w' := by
  go_enter Tryz.func98, Tryz.ntmps98
  go_wp2
  go_loopw [3] (fun i wr => ∃ k : Nat, k ≤ s.length ∧ i = I k ∧ nameAt s k = nameOf s ∧ w = wr) (fun i _ => s.length - (intOf i).toNat)
  case atStart => exact ⟨0, by omega, rfl, rfl, rfl⟩
  case round =>
    obtain ⟨k, hk, rfl, hnm, rfl⟩ := hrel
    have HN := Lib.hid hnm
    clear hnm
    by_cases hlt : k < s.length
    · have hst := nameAt_step s k hlt
      have hsp := nameAt_stop s k hlt
      have H := Lib.hid (And.intro hst hsp)
      clear hst hsp
      go_wp2_with fail
      refine (letter08 s[k] _).mono ?_
      rintro e w' ⟨rfl, rfl⟩
      cases hL : isL s[k] with
      | true =>
        have HS := Lib.hid (H.out.1 (.inl hL))
        clear hL
        go_wp2_with fail
        go_roundw
        case rel => exact ⟨k + 1, by omega, by go_num, by rw [HS.out, HN.out], by trivial⟩
        case measure => simp [intOf]; omega
      | false =>
        by_cases h0 : k = 0
        · subst h0
          have HS := Lib.hid (H.out.2 ⟨hL, .inl rfl⟩)
          clear hL
          go_wp2_with fail
          go_ret
          exact ⟨by rw [← HN.out, HS.out]; simp, rfl⟩
        · have h1 : (0 : Int) < k := by omega
          go_wp2_with fail
          refine (digit08 s[k] _).mono ?_
          rintro e w' ⟨rfl, rfl⟩
          cases hD : isD s[k] with
          | true =>
            have HS := Lib.hid (H.out.1 (.inr ⟨by omega, hD⟩))
            clear hL hD
            go_wp2_with fail
            go_roundw
            case rel => exact ⟨k + 1, by omega, by go_num, by rw [HS.out, HN.out], by trivial⟩
            case measure => simp [intOf]; omega
          | false =>
            have HS := Lib.hid (H.out.2 ⟨hL, .inr hD⟩)
            clear hL hD
            go_wp2_with fail
            go_ret
            exact ⟨by rw [← HN.out, HS.out]; simp; omega, rfl⟩
    · obtain rfl : k = s.length := by omega
      go_wp2_with fail
      go_ret
      exact ⟨by rw [← HN.out, nameAt_end]; rfl, rfl⟩

def begins (s p : List UInt8) : Bool := decide (p.length ≤ s.length) && (s.take p.length == p)
set_option maxRecDepth 100000 in
set_option maxHeartbeats 600000 in
theorem begins08 (s p : List UInt8) (w : World) : Calls Tryz.prog 96 #[S s, S p] w fun e w' => e = .returned (.bool (begins s p)) ∧ w = w' := by
  unfold begins
  go_enter Tryz.func96, Tryz.ntmps96
  by_cases h : p.length ≤ s.length
  · have h' : (p.length : Int) ≤ s.length := by omega
    go_wp2
    go_ret
    exact ⟨by simp [h], rfl⟩
  · have h' : ¬ (p.length : Int) ≤ s.length := by omega
    go_wp2
    go_ret
    exact ⟨by simp [h], rfl⟩
set_option maxRecDepth 100000 in
set_option maxHeartbeats 600000 in
theorem begins07 (s p : List UInt8) (i : Nat) (w : World) (hi : i ≤ s.length) (hs : s.length ≤ 4294967296) (hp : p.length ≤ 4294967296) : Calls Tryz.prog 95 #[S s, I i, S p] w fun e w' => e = .returned (.bool (begins (s.drop i) p)) ∧ w = w' := by
  unfold begins
  go_enter Tryz.func95, Tryz.ntmps95
  by_cases h : i + p.length ≤ s.length
  · have h' : (i : Int) + p.length ≤ s.length := by omega
    go_wp2
    go_ret
    have e1 : (s.drop i).take p.length = (s.take (i + p.length)).drop i := by rw [List.drop_take, Nat.add_sub_cancel_left]
    have e2 : p.length ≤ (s.drop i).length := by rw [List.length_drop]; omega
    exact ⟨ret_bool (by rw [e1, decide_eq_true e2]; rfl), rfl⟩
  · have h' : ¬ (i : Int) + p.length ≤ s.length := by omega
    go_wp2
    go_ret
    exact ⟨by simp; omega, rfl⟩
end Go.Proofs.YtdffbbfhcdhpdaaGreatDoor
