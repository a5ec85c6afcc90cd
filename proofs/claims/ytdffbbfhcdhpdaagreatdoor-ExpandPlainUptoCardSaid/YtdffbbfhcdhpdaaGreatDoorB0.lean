/- glob.Glob at what is no pattern; package word's letter, digit, Name. -/
import Derived.Test.YtdffbbfhcdhpdaaGreatDoorA9
import Derived.Lib.OthersKept
namespace Go.Proofs.YtdffbbfhcdhpdaaGreatDoor
open Go.RowKit

set_option maxRecDepth 100000 in
set_option maxHeartbeats 1000000 in
theorem glob_plain (p : Value) (s : List UInt8) (w : World) (h : special s = false ∨ 400 < s.length) (hs : s.length ≤ 4294967296) :
    Calls Tryz.prog 29 #[p, S s] w fun e w' => ∃ r, e = .returned r ∧ w'.ownsRow w.heap.size 9 1 r 1 [S (plain s)] ∧ Below w.heap.size w w' := by
  have fin : ∀ (w1 w2 : World), Below w.heap.size w w1 → Below w1.heap.size w1 w2 → (w2.alloc (.cells #[S (plain s)] 9)).ownsRow w.heap.size 9 1 (.slice (some ⟨w2.heap.size, 0, none⟩) 1 1) 1 [S (plain s)] ∧ Below w.heap.size w (w2.alloc (.cells #[S (plain s)] 9)) := fun w1 w2 h1 h2 =>
    ⟨⟨rfl, .inr ⟨_, 1, _, rfl, by have := h1.size; have := h2.size; omega, blk_new _ _, Nat.le_refl _, by unfold maxLen; decide, rfl, rfl⟩⟩, (h1.trans (h2.mono h1.size)).alloc (by have := h1.size; have := h2.size; omega) _⟩
  have HFin := Lib.hid fin
  clear fin
  cases hsp : special s with
  | false =>
    clear h
    have HS := Lib.hid hsp
    clear hsp
    go_enter Tryz.func29, Tryz.ntmps29
    go_wp2_with fail
    refine (special_any s _).mono ?_
    rintro e w1 ⟨rfl, hb1⟩
    rw [HS.out]
    go_wp2_with fail
    refine (plain_any s _ hs).mono ?_
    rintro e w2 ⟨rfl, hb2⟩
    go_wp2_with fail
    go_ret
    exact ⟨_, rfl, HFin.out w1 w2 hb1 hb2⟩
  | true =>
    have h4 : 400 < s.length := h.resolve_left (by rw [hsp]; simp)
    have HS := Lib.hid hsp
    clear h hsp
    go_enter Tryz.func29, Tryz.ntmps29
    go_wp2_with fail
    refine (special_any s _).mono ?_
    rintro e w1 ⟨rfl, hb1⟩
    rw [HS.out]
    go_wp2_with fail
    refine (plain_any s _ hs).mono ?_
    rintro e w2 ⟨rfl, hb2⟩
    go_wp2_with fail
    go_ret
    exact ⟨_, rfl, HFin.out w1 w2 hb1 hb2⟩

def letterR (c : Int) : Bool := decide (97 ≤ c ∧ c ≤ 122 ∨ 65 ≤ c ∧ c ≤ 90 ∨ c = 95)
def digitR (c : Int) : Bool := decide (48 ≤ c ∧ c ≤ 57)
theorem letterR_iff (c : Int) : letterR c = true ↔ (97 ≤ c ∧ c ≤ 122 ∨ 65 ≤ c ∧ c ≤ 90 ∨ c = 95) := by simp [letterR]
theorem digitR_iff (c : Int) : digitR c = true ↔ (48 ≤ c ∧ c ≤ 57) := by simp [digitR]

theorem ret_bool {a b : Bool} (h : a = b) : Ending.returned (.bool a) = .returned (.bool b) := by rw [h]
set_option maxHeartbeats 400000 in
theorem word_letter (c : Int) (w : World) : Calls Tryz.prog 222 #[.int .i32 c] w fun e w' => e = .returned (.bool (letterR c)) ∧ w = w' := by
  go_enter Tryz.func222, Tryz.ntmps222
  go_wp2
  all_goals
    go_ret
    refine ⟨ret_bool ?_, rfl⟩
    rw [Bool.eq_iff_iff, letterR_iff]
    simp
    omega
set_option maxHeartbeats 400000 in
theorem word_digit (c : Int) (w : World) : Calls Tryz.prog 223 #[.int .i32 c] w fun e w' => e = .returned (.bool (digitR c)) ∧ w = w' := by
  go_enter Tryz.func223, Tryz.ntmps223
  go_wp2
  all_goals
    go_ret
    refine ⟨ret_bool ?_, rfl⟩
    rw [Bool.eq_iff_iff, digitR_iff]
    simp
    try omega

/-! ### Names -/
def isL (c : UInt8) : Bool := letterR c.toNat
def isD (c : UInt8) : Bool := digitR c.toNat
def nameOf : List UInt8 → List UInt8
  | [] => []
  | c :: r => if isL c then c :: r.takeWhile (fun d => isL d || isD d) else []
theorem decode_ascii' (s : List UInt8) (k : Nat) (h : k < s.length) (ha : s[k].toNat < 128) : Utf8.decode ⟨s.toArray⟩ k = (s[k].toNat, 1) := decode_ascii ⟨s.toArray⟩ k h ha
theorem decode_high (s : List UInt8) (k : Nat) (h : k < s.length) (ha : 128 ≤ s[k].toNat) : 128 ≤ (Utf8.decode ⟨s.toArray⟩ k).1 := by
  have h0 : ((⟨s.toArray⟩ : ByteArray).get! (k + 0)).toNat = s[k].toNat := by
    show ((s.toArray)[k]!).toNat = _
    simp [h]
  unfold Utf8.decode
  simp only [h0]
  rw [if_neg (by omega)]
  repeat' split
  all_goals (simp [Utf8.runeError] at *; try omega)
theorem decode_facts (s : List UInt8) (k : Nat) (h : k < s.length) :
    letterR ((Utf8.decode ⟨s.toArray⟩ k).1 : Nat) = isL s[k] ∧ digitR ((Utf8.decode ⟨s.toArray⟩ k).1 : Nat) = isD s[k] ∧ ((isL s[k] || isD s[k]) = true → (Utf8.decode ⟨s.toArray⟩ k).2 = 1) := by
  by_cases ha : s[k].toNat < 128
  · rw [decode_ascii' s k h ha]; exact ⟨rfl, rfl, fun _ => rfl⟩
  · have hh := decode_high s k h (by omega)
    have e1 : letterR ((Utf8.decode ⟨s.toArray⟩ k).1 : Nat) = false := by rw [← Bool.not_eq_true, letterR_iff]; omega
    have e2 : isL s[k] = false := by unfold isL; rw [← Bool.not_eq_true, letterR_iff]; omega
    have e3 : digitR ((Utf8.decode ⟨s.toArray⟩ k).1 : Nat) = false := by rw [← Bool.not_eq_true, digitR_iff]; omega
    have e4 : isD s[k] = false := by unfold isD; rw [← Bool.not_eq_true, digitR_iff]; omega
    rw [e1, e2, e3, e4]; simp
end Go.Proofs.YtdffbbfhcdhpdaaGreatDoor
