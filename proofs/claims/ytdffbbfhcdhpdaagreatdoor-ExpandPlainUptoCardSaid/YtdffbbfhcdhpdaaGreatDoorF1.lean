/- ref07.Skip and ref07.until on every text: they end, and say where. -/
import Derived.Test.YtdffbbfhcdhpdaaGreatDoorD1
namespace Go.Proofs.YtdffbbfhcdhpdaaGreatDoor
open Go.RowKit

/-- What until answers from place i on. -/
def UntilR (s : List UInt8) (i : Nat) (r : Int) : Prop := r = -1 ∨ ∃ k : Nat, r = k ∧ i + 1 ≤ k ∧ k ≤ s.length
/-- What Skip answers at place i. -/
def SkipR (s : List UInt8) (i : Nat) (r : Int) : Prop :=
  r = -1 ∨ ∃ k : Nat, r = k ∧ i + 1 ≤ k ∧ k ≤ s.length ∧ (∀ h : i < s.length, s[i] = 92 ∨ s[i] = 39 ∨ s[i] = 34 → i + 2 ≤ k) ∧ (begins (s.drop i) [36, 40] = true ∨ begins (s.drop i) [36, 123] = true → i + 3 ≤ k)
def UntilE (s : List UInt8) (i : Nat) (w : World) (e : Ending) (w' : World) : Prop := ∃ r : Int, e = .returned (I r) ∧ UntilR s i r ∧ w = w'
def SkipE (s : List UInt8) (i : Nat) (w : World) (e : Ending) (w' : World) : Prop := ∃ r : Int, e = .returned (I r) ∧ SkipR s i r ∧ w = w'
def UntilC (d : Nat) : Prop := ∀ (s : List UInt8) (i : Nat) (c : UInt8) (w : World), i ≤ s.length → s.length ≤ 4294967296 → Calls Tryz.prog 94 #[S s, I i, B8 c, I d] w (UntilE s i w)
def SkipC (d : Nat) : Prop := ∀ (s : List UInt8) (i : Nat) (w : World), i < s.length → s.length ≤ 4294967296 → Calls Tryz.prog 57 #[S s, I i, I d] w (SkipE s i w)

theorem begins_two {s : List UInt8} {i : Nat} {a b : UInt8} (h : begins (s.drop i) [a, b] = true) : i + 2 ≤ s.length ∧ ∃ h : i < s.length, s[i] = a := by
  unfold begins at h
  rw [Bool.and_eq_true] at h
  obtain ⟨h1, h2⟩ := h
  have h3 : 2 ≤ s.length - i := by simpa using h1
  refine ⟨by omega, by omega, ?_⟩
  have h4 : (s.drop i).take 2 = [a, b] := by simpa using h2
  have h5 := congrArg (fun l => l[0]?) h4
  simp [List.getElem?_take] at h5
  rw [List.getElem?_eq_getElem (by omega)] at h5
  simpa using h5

theorem skip_neg (s : List UInt8) (i : Nat) (w : World) : SkipE s i w (.returned (I (-1))) w := ⟨-1, rfl, .inl rfl, rfl⟩
theorem until_neg (s : List UInt8) (i : Nat) (w : World) : UntilE s i w (.returned (I (-1))) w := ⟨-1, rfl, .inl rfl, rfl⟩

set_option maxRecDepth 100000 in
set_option maxHeartbeats 600000 in
theorem skip_deep (d : Nat) (hd : 30 < d) (hd2 : d ≤ 100) : SkipC d := by
  intro s i w hi hs
  have hd' : (30 : Int) < d := by omega
  go_enter Tryz.func57, Tryz.ntmps57
  go_wp2_with fail
  go_ret
  exact skip_neg s i _

set_option maxRecDepth 100000 in
set_option maxHeartbeats 600000 in
theorem skip_step (d : Nat) (hd : d ≤ 30) (hU : UntilC (d + 1)) : SkipC d := by
  intro s i w hi hs
  have hd' : (d : Int) ≤ 30 := by omega
  by_cases h92 : s[i] = 92
  · have e1 : ((s[i].toNat : Int) == 92) = true := by rw [h92]; rfl
    clear h92
    by_cases hend : i + 1 = s.length
    · have e2 : ((i : Int) + 1 == (s.length : Int)) = true := by rw [beq_iff_eq]; omega
      clear hend
      go_enter Tryz.func57, Tryz.ntmps57
      go_wp2_with fail
      go_ret
      exact skip_neg s i _
    · have e2 : ((i : Int) + 1 == (s.length : Int)) = false := by rw [beq_eq_false_iff_ne]; omega
      have h2 : i + 2 ≤ s.length := by omega
      have hb : ¬ (begins (s.drop i) [36, 40] = true ∨ begins (s.drop i) [36, 123] = true) := by
        intro h
        have h36 : ∃ h : i < s.length, s[i] = 36 := by rcases h with h | h <;> exact (begins_two h).2
        obtain ⟨_, h36⟩ := h36
        rw [h36] at e1; exact absurd e1 (by decide)
      have fin : SkipE s i w (.returned (I ((i : Int) + 2))) w := ⟨_, rfl, .inr ⟨i + 2, by omega, by omega, h2, fun _ _ => Nat.le_refl _, fun h => (hb h).elim⟩, rfl⟩
      have FIN := Lib.hid fin
      clear fin hb hend
      go_enter Tryz.func57, Tryz.ntmps57
      go_wp2_with fail
      go_ret
      exact FIN.out
  · have e1 : ((s[i].toNat : Int) == 92) = false := u8_ne h92
    by_cases h39 : s[i] = 39
    · have e2 : ((s[i].toNat : Int) == 39) = true := by rw [h39]; rfl
      have hb : ¬ (begins (s.drop i) [36, 40] = true ∨ begins (s.drop i) [36, 123] = true) := by
        intro h
        have h36 : ∃ h : i < s.length, s[i] = 36 := by rcases h with h | h <;> exact (begins_two h).2
        obtain ⟨_, h36⟩ := h36
        rw [h36] at h39; exact absurd h39 (by decide)
      have fin : ∀ k, i + 1 ≤ k → k < s.length → SkipE s i w (.returned (I ((k : Int) + 1))) w := fun k h1 h2 => ⟨_, rfl, .inr ⟨k + 1, by omega, by omega, by omega, fun _ _ => by omega, fun h => (hb h).elim⟩, rfl⟩
      have FIN := Lib.hid fin
      clear fin hb h39 h92
      go_enter Tryz.func57, Tryz.ntmps57
      go_wp2_with fail
      go_loopw [7] (fun x wr => ∃ k : Nat, i + 1 ≤ k ∧ k ≤ s.length ∧ x = I k ∧ w = wr) (fun x _ => s.length - (intOf x).toNat)
      case atStart => exact ⟨i + 1, by omega, by omega, by go_num, rfl⟩
      case round =>
        obtain ⟨k, hik, hk, rfl, rfl⟩ := hrel
        by_cases hlt : k < s.length
        · cases hq : ((s[k].toNat : Int) == 39) with
          | true =>
            go_wp2_with fail
            go_ret
            exact FIN.out k hik hlt
          | false =>
            go_wp2_with fail
            go_roundw
            case rel => exact ⟨k + 1, by omega, by omega, by go_num, by trivial⟩
            case measure => simp [intOf]; omega
        · go_wp2_with fail
          go_ret
          exact skip_neg s i _
    · have e2 : ((s[i].toNat : Int) == 39) = false := u8_ne h39
      have HU := Lib.hid hU
      clear hU
      by_cases h34 : s[i] = 34
      · have e3 : ((s[i].toNat : Int) == 34) = true := by rw [h34]; rfl
        have hb : ¬ (begins (s.drop i) [36, 40] = true ∨ begins (s.drop i) [36, 123] = true) := by
          intro h
          have h36 : ∃ h : i < s.length, s[i] = 36 := by rcases h with h | h <;> exact (begins_two h).2
          obtain ⟨_, h36⟩ := h36
          rw [h36] at h34; exact absurd h34 (by decide)
        have fin : ∀ r, UntilR s (i + 1) r → SkipE s i w (.returned (I r)) w := fun r h => ⟨r, rfl, by
          rcases h with h | ⟨k, h1, h2, h3⟩
          · exact .inl h
          · exact .inr ⟨k, h1, by omega, h3, fun _ _ => by omega, fun h => (hb h).elim⟩, rfl⟩
        have FIN := Lib.hid fin
        clear fin hb h39 h92 h34
        go_enter Tryz.func57, Tryz.ntmps57
        go_wp2_with fail
        refine (HU.out s (i + 1) 34 _ (by omega) hs).mono ?_
        rintro e w' ⟨r, rfl, hr, rfl⟩
        have FIN2 := Lib.hid (FIN.out r hr)
        clear FIN hr
        go_wp2_with fail
        go_ret
        exact FIN2.out
      · have e3 : ((s[i].toNat : Int) == 34) = false := u8_ne h34
        have hq : ¬ (s[i] = 92 ∨ s[i] = 39 ∨ s[i] = 34) := by rintro (h | h | h) <;> contradiction
        have fin : ∀ r, begins (s.drop i) [36, 40] = true ∨ begins (s.drop i) [36, 123] = true → UntilR s (i + 2) r → SkipE s i w (.returned (I r)) w := fun r _ h => ⟨r, rfl, by
          rcases h with h | ⟨k, h1, h2, h3⟩
          · exact .inl h
          · exact .inr ⟨k, h1, by omega, h3, fun _ h => (hq h).elim, fun _ => by omega⟩, rfl⟩
        have fin1 : begins (s.drop i) [36, 40] = false → begins (s.drop i) [36, 123] = false → SkipE s i w (.returned (I ((i : Int) + 1))) w := fun h1 h2 => ⟨_, rfl, .inr ⟨i + 1, by omega, by omega, by omega, fun _ h => (hq h).elim, by rw [h1, h2]; simp⟩, rfl⟩
        have hl2 : ∀ a b : UInt8, begins (s.drop i) [a, b] = true → i + 2 ≤ s.length := fun a b h => (begins_two h).1
        have FIN := Lib.hid fin
        have FIN1 := Lib.hid fin1
        have HL := Lib.hid hl2
        clear fin fin1 hq hl2 h92 h39 h34
        go_enter Tryz.func57, Tryz.ntmps57
        go_wp2_with fail
        refine (begins07 s [36, 40] i _ (by omega) hs (by simp)).mono ?_
        rintro e w' ⟨rfl, rfl⟩
        cases hb1 : begins (s.drop i) [36, 40] with
        | true =>
          have hl := HL.out _ _ hb1
          have FIN2 := Lib.hid (fun r => FIN.out r (.inl hb1))
          clear hb1 FIN FIN1 HL
          go_wp2_with fail
          refine (HU.out s (i + 2) 41 _ (by omega) hs).mono ?_
          rintro e w' ⟨r, rfl, hr, rfl⟩
          have FIN3 := Lib.hid (FIN2.out r hr)
          clear FIN2 hr
          go_wp2_with fail
          go_ret
          exact FIN3.out
        | false =>
          have HB1 := Lib.hid hb1
          clear hb1
          go_wp2_with fail
          refine (begins07 s [36, 123] i _ (by omega) hs (by simp)).mono ?_
          rintro e w' ⟨rfl, rfl⟩
          cases hb2 : begins (s.drop i) [36, 123] with
          | true =>
            have hl := HL.out _ _ hb2
            have FIN2 := Lib.hid (fun r => FIN.out r (.inr hb2))
            clear hb2 FIN FIN1 HL
            go_wp2_with fail
            refine (HU.out s (i + 2) 125 _ (by omega) hs).mono ?_
            rintro e w' ⟨r, rfl, hr, rfl⟩
            have FIN3 := Lib.hid (FIN2.out r hr)
            clear FIN2 hr
            go_wp2_with fail
            go_ret
            exact FIN3.out
          | false =>
            have FIN2 := Lib.hid (FIN1.out HB1.out hb2)
            clear hb2 FIN FIN1 HL
            go_wp2_with fail
            go_ret
            exact FIN2.out

set_option maxRecDepth 100000 in
set_option maxHeartbeats 1000000 in
theorem until_step (d : Nat) (hd2 : d ≤ 100) (hS : SkipC d) (hU : d ≤ 30 → UntilC (d + 1)) : UntilC d := by
  intro s i c w hi hs
  have fin : ∀ k, i ≤ k → k < s.length → UntilE s i w (.returned (I ((k : Int) + 1))) w := fun k h1 h2 => ⟨_, rfl, .inr ⟨k + 1, by omega, by omega, by omega⟩, rfl⟩
  have FIN := Lib.hid fin
  have HS := Lib.hid hS
  have HU := Lib.hid hU
  clear fin hS hU
  go_enter Tryz.func94, Tryz.ntmps94
  go_wp2_with fail
  go_loopw [1] (fun x wr => ∃ k : Nat, i ≤ k ∧ k ≤ s.length ∧ x = I k ∧ w = wr) (fun x _ => s.length - (intOf x).toNat)
  case atStart => exact ⟨i, by omega, by omega, rfl, rfl⟩
  case round =>
    obtain ⟨k, hik, hkj, rfl, rfl⟩ := hrel
    by_cases hlt : k < s.length
    · cases hq : ((s[k].toNat : Int) == (c.toNat : Int)) with
      | true =>
        go_wp2_with fail
        go_ret
        exact FIN.out k hik hlt
      | false =>
        have hcase : (((c.toNat : Int) == 34) = true ∧ ((s[k].toNat : Int) == 39) = true) ∨ (((c.toNat : Int) == 34) = false ∧ ((c.toNat : Int) == 41) = true ∧ ((s[k].toNat : Int) == 40) = true) ∨
            (((c.toNat : Int) == 34) = true ∧ ((s[k].toNat : Int) == 39) = false ∧ ((c.toNat : Int) == 41) = false) ∨ (((c.toNat : Int) == 34) = false ∧ ((c.toNat : Int) == 41) = true ∧ ((s[k].toNat : Int) == 40) = false) ∨ (((c.toNat : Int) == 34) = false ∧ ((c.toNat : Int) == 41) = false) := by
          cases h1 : ((c.toNat : Int) == 34) with
          | true =>
            have h2 : ((c.toNat : Int) == 41) = false := by rw [beq_iff_eq] at h1; rw [beq_eq_false_iff_ne]; omega
            cases ((s[k].toNat : Int) == 39) <;> simp [h2]
          | false => cases ((c.toNat : Int) == 41) <;> cases ((s[k].toNat : Int) == 40) <;> simp
        rcases hcase with ⟨h1, h2⟩ | ⟨h1, h2, h3⟩ | ⟨h1, h2, h3⟩ | ⟨h1, h2, h3⟩ | ⟨h1, h2⟩
        · by_cases hd : d ≤ 30
          · have hd' : (d : Int) ≤ 30 := by omega
            go_wp2_with fail
            go_roundw
            case rel => exact ⟨k + 1, by omega, by omega, by go_num, by trivial⟩
            case measure => simp [intOf]; omega
          · have hd' : (30 : Int) < d := by omega
            go_wp2_with fail
            go_ret
            exact until_neg s i _
        · by_cases hd : d ≤ 30
          · have hd' : (d : Int) ≤ 30 := by omega
            go_wp2_with fail
            refine (HU.out hd s (k + 1) 41 _ (by omega) hs).mono ?_
            rintro e w' ⟨r, rfl, hr, rfl⟩
            rcases hr with rfl | ⟨m, rfl, hm1, hm2⟩
            · go_wp2_with fail
              go_ret
              exact until_neg s i _
            · have hm0 : (0 : Int) ≤ m := by omega
              go_wp2_with fail
              go_roundw
              case rel => exact ⟨m, by omega, by omega, rfl, by trivial⟩
              case measure => simp [intOf]; omega
          · have hd' : (30 : Int) < d := by omega
            go_wp2_with fail
            go_ret
            exact until_neg s i _
        all_goals
          go_wp2_with fail
          refine (HS.out s k _ hlt hs).mono ?_
          rintro e w' ⟨r, rfl, hr, rfl⟩
          rcases hr with rfl | ⟨m, rfl, hm1, hm2, _, _⟩
          · go_wp2_with fail
            go_ret
            exact until_neg s i _
          · have hm0 : (0 : Int) ≤ m := by omega
            go_wp2_with fail
            go_roundw
            case rel => exact ⟨m, by omega, by omega, rfl, by trivial⟩
            case measure => simp [intOf]; omega
    · go_wp2_with fail
      go_ret
      exact until_neg s i _

theorem skip_until : ∀ n d : Nat, 31 ≤ d + n → d ≤ 100 → SkipC d ∧ UntilC d
  | 0, d, h, hd => by
    have hs := skip_deep d (by omega) hd
    exact ⟨hs, until_step d hd hs (fun h => by omega)⟩
  | n + 1, d, h, hd => by
    by_cases h30 : d ≤ 30
    · have ih := skip_until n (d + 1) (by omega) (by omega)
      have hs := skip_step d h30 ih.2
      exact ⟨hs, until_step d hd hs (fun _ => ih.2)⟩
    · have hs := skip_deep d (by omega) hd
      exact ⟨hs, until_step d hd hs (fun h => by omega)⟩
theorem skip_any (d : Nat) (hd : d ≤ 30) : SkipC d := (skip_until 31 d (by omega) (by omega)).1
end Go.Proofs.YtdffbbfhcdhpdaaGreatDoor
