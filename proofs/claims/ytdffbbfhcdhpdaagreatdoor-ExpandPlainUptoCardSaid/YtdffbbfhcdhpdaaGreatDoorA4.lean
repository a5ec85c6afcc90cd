/- package pattern's single, Special, Plain, Escape; expand.every. -/
import Derived.Test.YtdffbbfhcdhpdaaGreatDoorA3
import Derived.Test.YtdffbbfhcdhpdaaGreatDoorShelf
import Derived.Deep.QuietTactic
import Derived.BigQuiet
import Derived.Deep.LoopGhost
namespace Go.Proofs.YtdffbbfhcdhpdaaGreatDoor
open Go.RowKit

def szOf : Value → Nat | .string b => b.size | _ => 0
theorem szOf_S (l : List UInt8) : szOf (S l) = l.length := rfl

def single : List UInt8 → UInt8 × List UInt8
  | [] => (0, [])
  | [c] => (c, [])
  | c :: d :: r => if c = 92 then (d, r) else (c, d :: r)
def isMeta (c : UInt8) : Bool := c == 42 || c == 63 || c == 91
def special : List UInt8 → Bool
  | [] => false
  | [c] => isMeta c
  | c :: d :: r => if isMeta c then true else if c = 92 then special r else special (d :: r)
def plain : List UInt8 → List UInt8
  | [] => []
  | [c] => [c]
  | c :: d :: r => if c = 92 then d :: plain r else c :: plain (d :: r)
def escape (l : List UInt8) : List UInt8 := l.flatMap fun c => [92, c]

theorem single_lt {l : List UInt8} (h : l ≠ []) : (single l).2.length < l.length := by
  match l, h with
  | [c], _ => simp [single]
  | c :: d :: r, _ => simp only [single]; split <;> (simp; try omega)
theorem special_step {l : List UInt8} (h : l ≠ []) : special l = (isMeta (l.head h) || special (single l).2) := by
  match l, h with
  | [c], _ => simp [single, special]
  | c :: d :: r, _ => simp only [single, special, List.head_cons]; cases isMeta c <;> simp; split <;> rfl
theorem plain_step {l : List UInt8} (h : l ≠ []) : plain l = (single l).1 :: plain (single l).2 := by
  match l, h with
  | [c], _ => simp [single, plain]
  | c :: d :: r, _ => simp only [single, plain]; split <;> rfl
theorem plain_escape (l : List UInt8) : plain (escape l) = l := by
  induction l with
  | nil => rfl
  | cons c l ih => simp only [escape, List.flatMap_cons] at ih ⊢; simp [plain, ih]
theorem special_escape (l : List UInt8) : special (escape l) = false := by
  induction l with
  | nil => rfl
  | cons c l ih => simp only [escape, List.flatMap_cons] at ih ⊢; simp [special, ih, isMeta]

set_option maxHeartbeats 400000 in
theorem every_any (s : List UInt8) (w : World) :
    Calls Tryz.prog 176 #[S s] w fun e w' => e = .returned (.bool (s == [64] || s == [42])) ∧ w = w' := by
  go_enter Tryz.func176, Tryz.ntmps176
  go_wp2
  all_goals
    go_ret
    exact ⟨by simp [*], rfl⟩

set_option maxHeartbeats 400000 in
theorem single_any (s : List UInt8) (w : World) (h0 : s ≠ []) :
    Calls Tryz.prog 86 #[S s] w fun e w' => e = .returned (.tuple #[B8 (single s).1, S (single s).2]) ∧ ∃ n, w' = w.drewN n := by
  match s, h0 with
  | [c], _ =>
    go_enter Tryz.func86, Tryz.ntmps86
    go_wp2
    go_quiet (fail)
    go_wp2
    go_ret2
    exact ⟨rfl, _, rfl⟩
  | c :: d :: r, _ =>
    by_cases hc : c = 92
    · subst hc
      go_enter Tryz.func86, Tryz.ntmps86
      go_wp2
      go_quiet (fail)
      go_wp2
      go_ret2
      exact ⟨rfl, _, rfl⟩
    · have hb : ((c.toNat : Int) == 92) = false := by simpa using u8_ne hc
      have hs : single (c :: d :: r) = (c, d :: r) := by simp [single, hc]
      have HS := Lib.hid hs
      clear hs hc
      go_enter Tryz.func86, Tryz.ntmps86
      go_wp2
      go_quiet (fail)
      go_wp2
      go_ret2
      exact ⟨by rw [HS.out]; rfl, _, rfl⟩

theorem indexByte_yes (t : List UInt8) (c : UInt8) (w : World) (h : t.contains c = true) :
    Calls Tryz.prog 85 #[S t, B8 c] w fun e w' => ∃ k : Int, e = .returned (I k) ∧ 0 ≤ k ∧ w = w' := by
  refine (Tryz.strings_IndexByte ⟨t.toArray⟩ c.toNat w).mono ?_
  rintro e w' ⟨rfl, rfl⟩
  refine ⟨_, rfl, ?_, rfl⟩
  have h1 := Lib.contains_iff_indexByte t c
  rw [h] at h1
  simpa using h1.symm
theorem indexByte_no (t : List UInt8) (c : UInt8) (w : World) (h : t.contains c = false) :
    Calls Tryz.prog 85 #[S t, B8 c] w fun e w' => ∃ k : Int, e = .returned (I k) ∧ k < 0 ∧ w = w' := by
  refine (Tryz.strings_IndexByte ⟨t.toArray⟩ c.toNat w).mono ?_
  rintro e w' ⟨rfl, rfl⟩
  refine ⟨_, rfl, ?_, rfl⟩
  have h1 := Lib.contains_iff_indexByte t c
  rw [h] at h1
  simpa using h1.symm
theorem isMeta_contains (c : UInt8) : isMeta c = List.contains [42, 63, 91] c := by
  simp [isMeta, List.contains, List.elem]
  cases c == 42 <;> cases c == 63 <;> cases c == 91 <;> rfl

set_option maxHeartbeats 1000000 in
theorem special_any (s : List UInt8) (w : World) :
    Calls Tryz.prog 47 #[S s] w fun e w' => e = .returned (.bool (special s)) ∧ Below w.heap.size w w' := by
  go_enter Tryz.func47, Tryz.ntmps47
  go_wp2
  go_loopw [0] (fun t wr => ∃ l : List UInt8, t = S l ∧ special l = special s ∧ Below w.heap.size w wr) (fun t _ => szOf t)
  case atStart => exact ⟨s, rfl, rfl, Below.refl _ _⟩
  case round =>
    obtain ⟨l, rfl, hl, hb⟩ := hrel
    have HL := Lib.hid hl
    clear hl
    cases l with
    | nil =>
      go_wp2_with fail
      go_ret
      exact ⟨by rw [← HL.out]; rfl, hb⟩
    | cons c r =>
      have hst := special_step (l := c :: r) (by simp)
      cases hm : isMeta c with
      | true =>
        rw [List.head_cons, hm] at hst
        have HS := Lib.hid hst
        clear hst
        rw [isMeta_contains] at hm
        go_wp2_with (go_at_call 85; go_must (refine (indexByte_yes [42, 63, 91] c _ hm).mono ?_))
        rintro e w' ⟨k, rfl, hk, rfl⟩
        go_wp2_with fail
        go_ret
        exact ⟨by rw [← HL.out, HS.out]; rfl, hb⟩
      | false =>
        rw [List.head_cons, hm] at hst
        have HS := Lib.hid hst
        clear hst
        rw [isMeta_contains] at hm
        go_wp2_with (go_at_call 85; go_must (refine (indexByte_no [42, 63, 91] c _ hm).mono ?_))
        rintro e w' ⟨k, rfl, hk, rfl⟩
        go_wp2_with (go_at_call 86; go_must (refine (single_any (c :: r) _ (by simp)).mono ?_))
        rintro e w' ⟨rfl, n, rfl⟩
        go_wp2_with fail
        go_roundw
        case rel => exact ⟨_, rfl, by rw [← HL.out, HS.out]; rfl, below_drewN hb n⟩
        case measure => rw [szOf_S, szOf_S]; exact single_lt (by simp)

theorem plain_le (l : List UInt8) : (plain l).length ≤ l.length := by
  have key : ∀ n (l : List UInt8), l.length ≤ n → (plain l).length ≤ l.length := by
    intro n
    induction n with
    | zero => intro l h; have := List.eq_nil_of_length_eq_zero (Nat.le_zero.1 h); subst this; simp [plain]
    | succ n ih =>
      intro l h
      cases l with
      | nil => simp [plain]
      | cons c r =>
        rw [plain_step (by simp)]
        have h1 := single_lt (l := c :: r) (by simp)
        have h2 := ih (single (c :: r)).2 (by simp only [List.length_cons] at h h1; omega)
        simp only [List.length_cons] at h1 ⊢; omega
  exact key _ l (Nat.le_refl _)

set_option maxRecDepth 100000 in
set_option maxHeartbeats 1000000 in
theorem plain_any (s : List UInt8) (w : World) (hs : s.length ≤ 4294967296) :
    Calls Tryz.prog 51 #[S s] w fun e w' => e = .returned (S (plain s)) ∧ Below w.heap.size w w' := by
  have hp := plain_le s
  go_enter Tryz.func51, Tryz.ntmps51
  go_wp2
  go_loopw [0] (fun t wr => ∃ (l d : List UInt8) (p v : Value), t = S l ∧ d ++ plain l = plain s ∧ wr.heap[w.heap.size]? = some (.cells #[p, v] 105 (0, 0)) ∧ (p = .pointer none ∨ p = Ptr w.heap.size) ∧
      Buf w.heap.size d v wr ∧ Below w.heap.size w wr) (fun t _ => szOf t)
  case atStart => exact ⟨s, [], _, _, rfl, rfl, blk_new w _, .inl rfl, Buf.nil _ _, (Below.refl _ _).alloc (Nat.le_refl _) _⟩
  case round =>
    obtain ⟨l, d, p, v, rfl, hl, hb, hpp, hbuf, hbe⟩ := hrel
    have HL := Lib.hid hl
    have hlen : d.length + (plain l).length ≤ 4294967296 := by rw [← List.length_append, hl]; omega
    clear hl
    cases l with
    | nil =>
      clear hlen
      go_wp2_with (go_at_call 56; go_must (refine (String_loc w.heap.size w.heap.size p v d _ hb hbuf).mono ?_))
      rintro e w' ⟨rfl, hf⟩
      go_wp2_with fail
      go_ret
      refine ⟨?_, hbe.trans (hf.below (Nat.le_of_lt (blk_lt hb)))⟩
      have := HL.out
      simp [plain] at this
      rw [this]; rfl
    | cons c r =>
      have hst := plain_step (l := c :: r) (by simp)
      have hd : d.length + 1 ≤ 4294967296 := by rw [hst] at hlen; simp at hlen; omega
      have HS := Lib.hid hst
      clear hst hlen
      go_wp2_with (go_at_call 86; go_must (refine (single_any (c :: r) _ (by simp)).mono ?_))
      rintro e w' ⟨rfl, n, rfl⟩
      go_wp2_with (go_at_call 52; go_must (refine (WriteByte_loc w.heap.size w.heap.size p v d _ (wr.drewN n) hb hpp (Nat.le_refl _) hbuf hd).mono ?_))
      rintro e w' ⟨rfl, v', hb', hbuf', hf⟩
      go_wp2_with fail
      go_roundw
      case rel =>
        refine ⟨_, _, _, v', rfl, ?_, hb', .inr rfl, hbuf', (below_drewN hbe n).trans (hf.below (Nat.le_of_lt (blk_lt hb)))⟩
        rw [← HL.out, HS.out]; simp
      case measure => rw [szOf_S, szOf_S]; exact single_lt (by simp)

theorem escape_length (l : List UInt8) : (escape l).length = 2 * l.length := by
  induction l with
  | nil => rfl
  | cons c l ih => simp only [escape, List.flatMap_cons] at ih ⊢; simp [ih]; omega
theorem escape_snoc (s : List UInt8) (k : Nat) (h : k < s.length) : escape (s.take (k + 1)) = escape (s.take k) ++ [92, s[k]] := by
  rw [List.take_succ_eq_append_getElem h]; simp only [escape, List.flatMap_append, List.flatMap_cons, List.flatMap_nil, List.append_nil]
theorem run_string_of {w : World} {B g cap : Nat} {l : List UInt8} (h : w.ownsRow B 5 1 (.slice (some ⟨g, 0, none⟩) l.length cap) l.length (Lib.byteCells l)) :
    (convert 54 9 (.slice (some ⟨g, 0, none⟩) l.length cap)).run Tryz.prog w = .ok (S l) w :=
  run_convert_bytes_back w 54 9 5 ⟨g, 0, none⟩ cap l Tryz.underlying54 Tryz.underlying5 Tryz.underlying9 (fun j hj => h.cells (g := g) rfl j _ (by simp [Lib.byteCells, hj]))

set_option maxRecDepth 100000 in
set_option maxHeartbeats 1000000 in
theorem escape_any (s : List UInt8) (w : World) (hs : s.length ≤ 1073741824) :
    Calls Tryz.prog 54 #[S s] w fun e w' => e = .returned (S (escape s)) ∧ Below w.heap.size w w' := by
  obtain ⟨i0, hi, hz0, hz1, hz2⟩ := info_parts Tryz.infoByte
  go_enter Tryz.func54, Tryz.ntmps54
  go_wp2_with (at_make; go_must (refine wpList_make_own _ rfl _ _ 54 rfl w.heap.size 5 i0 (.int .u8 0) 1 Tryz.underlying54 hi hz0 hz1 .i64 .i64 _ (2 * s.length) rfl rfl ?b1 ?b2 ?b3 ?b4 ?_))
  case b1 => simp
  case b2 => rw [hz2]; omega
  case b3 => unfold maxLen; omega
  case b4 => exact Nat.le_refl _
  intro w1 hown hgrow
  have hb1 : Below w.heap.size w w1 := (Below.refl _ _).grown hgrow (Nat.le_refl _) (by simp)
  go_wp2
  go_loopw [3, 11] (fun v i wr => ∃ (k g cap : Nat), k ≤ s.length ∧ i = I k ∧ v = .slice (some ⟨g, 0, none⟩) (2 * k) cap ∧
      wr.ownsRow w.heap.size 5 1 v (2 * k) (Lib.byteCells (escape (s.take k))) ∧ Below w.heap.size w wr) (fun _ i _ => s.length - (intOf i).toNat)
  case atStart => exact ⟨0, _, _, by omega, rfl, rfl, by simpa [escape, Lib.byteCells] using hown, hb1⟩
  case round =>
    obtain ⟨k, g, cap, hk, rfl, rfl, ho, hbe⟩ := hrel
    by_cases hlt : k < s.length
    · have hsn := escape_snoc s k hlt
      have HS := Lib.hid hsn
      clear hsn hown hgrow hb1
      go_wp2_with (at_builtin; go_must (refine wpList_append_own _ rfl _ _ 54 rfl w.heap.size 5 i0 (.int .u8 0) 1 1 Tryz.underlying54 hi hz0 hz1 hz2 rfl (by decide) _ _ _ rfl (ho.alloc _) ⟨wr.heap.size, 0, none⟩ 2 2 [.int .u8 92, B8 s[k]] rfl rfl ?c1 ?c2 ?c3 ?c4 ?c5 ?_))
      case c1 => exact new_cells rfl _ _
      case c2 => intro u hu; simp at hu; rcases hu with rfl | rfl <;> rfl
      case c3 => unfold maxLen; omega
      case c4 => omega
      case c5 => have := hbe.size; simp; omega
      intro v' w2 hown' hgrow' _
      have h2 : 2 * k + 2 = 2 * (k + 1) := by omega
      rw [h2] at hown'
      have hown2 : w2.ownsRow w.heap.size 5 1 v' (2 * (k + 1)) (Lib.byteCells (escape (s.take (k + 1)))) := by
        rw [HS.out, Lib.byteCells_append]; exact hown'
      clear hown' h2
      obtain ⟨g', cap', rfl⟩ := ownsRow_succ (k := 2 * k + 1) (by simpa [Nat.mul_add] using hown2)
      have hb2 : Below w.heap.size w w2 := below_grownRow (hbe.alloc hbe.size _) (ho.alloc _) hgrow' (by have := hbe.size; simp; omega)
      go_wp2
      go_roundw
      case rel => exact ⟨k + 1, g', cap', by omega, by go_num, by rfl, hown2, hb2⟩
      case measure => simp [intOf]; omega
    · have hkk : k = s.length := by omega
      subst hkk
      rw [List.take_length] at ho
      have hl2 := escape_length s
      have hcv := run_string_of (w := wr) (B := w.heap.size) (g := g) (cap := cap) (l := escape s) (by rw [hl2]; exact ho)
      rw [hl2] at hcv
      clear ho hl2 hown hgrow
      go_wp2
      go_ret
      exact ⟨rfl, hbe⟩
end Go.Proofs.YtdffbbfhcdhpdaaGreatDoor
