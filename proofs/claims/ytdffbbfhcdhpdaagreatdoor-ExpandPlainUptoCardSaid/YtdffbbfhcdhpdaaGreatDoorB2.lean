/- package vars' find, Get. -/
import Derived.Test.YtdffbbfhcdhpdaaGreatDoorB1
namespace Go.Proofs.YtdffbbfhcdhpdaaGreatDoor
open Go.RowKit

structure VarD where
  name : List UInt8
  value : List UInt8
  exported : Bool
  readOnly : Bool
def VarD.cells (v : VarD) : List Value := [S v.name, S v.value, .bool v.exported, .bool v.readOnly]
def varCells (l : List VarD) : List Value := l.flatMap VarD.cells
theorem var_len (v : VarD) : v.cells.length = 4 := rfl
abbrev VarD.agg (v : VarD) : Value := .agg #[S v.name, S v.value, .bool v.exported, .bool v.readOnly]
abbrev varZero : VarD := ⟨[], [], false, false⟩

set_option maxHeartbeats 400000 in
theorem find_cmp (v : VarD) (nm : List UInt8) (w : World) :
    Calls Tryz.prog 140 #[v.agg, S nm] w fun e w' => e = .returned (I (Lib.compareBytes v.name nm)) ∧ Below w.heap.size w w' := by
  go_enter Tryz.func140, Tryz.ntmps140
  go_wp2_with fail
  refine (Tryz.strings_Compare ⟨v.name.toArray⟩ ⟨nm.toArray⟩ _).mono ?_
  rintro e w' ⟨rfl, rfl⟩
  go_wp2_with fail
  go_ret
  exact ⟨rfl, (Below.refl _ _).alloc (Nat.le_refl _) _⟩

/-- Names below nm come first. -/
def VMono (l : List VarD) (nm : List UInt8) : Prop := ∀ a b (_ : a ≤ b) (hb : b < l.length), Lib.compareBytes l[b].name nm < 0 → Lib.compareBytes (l[a]'(by omega)).name nm < 0
def vcount (l : List VarD) (nm : List UInt8) : Nat := l.countP fun v => decide (Lib.compareBytes v.name nm < 0)
def vfound (l : List VarD) (nm : List UInt8) : Bool := (l[vcount l nm]?).any fun v => Lib.compareBytes v.name nm == 0
theorem countP_at {α : Type} (p : α → Bool) : ∀ (l : List α) (i : Nat), i ≤ l.length → (∀ t (h : t < l.length), t < i → p l[t] = true) → (∀ t (h : t < l.length), i ≤ t → p l[t] = false) → l.countP p = i
  | [], i, hi, _, _ => by simp at hi; simp [hi]
  | a :: r, 0, _, _, h2 => by
    rw [List.countP_eq_zero]
    intro x hx
    obtain ⟨t, ht, rfl⟩ := List.getElem_of_mem hx
    simp [h2 t ht (Nat.zero_le _)]
  | a :: r, i + 1, hi, h1, h2 => by
    have ha : p a = true := h1 0 (by simp) (Nat.succ_pos _)
    rw [List.countP_cons_of_pos ha, countP_at p r i (by simpa using hi) (fun t h ht => h1 (t + 1) (by simpa using h) (by omega)) (fun t h ht => h2 (t + 1) (by simpa using h) (by omega))]

theorem var_cell {C : Nat} {w : World} {v : Value} {l : List VarD} (hv : Sl C 27 w v l.length 4 (varCells l)) :
    ∃ (a : Option Addr) (c : Nat), v = .slice a l.length c ∧ l.length ≤ maxLen ∧ ∀ k (h : k < l.length), ∃ b o, a = some ⟨b, o, none⟩ ∧ b < w.heap.size ∧
      w.cell? ⟨b, o + k * 4, none⟩ = some (S l[k].name) ∧ w.cell? ⟨b, o + k * 4 + 1, none⟩ = some (S l[k].value) ∧ w.cell? ⟨b, o + k * 4 + 1 + 1, none⟩ = some (.bool l[k].exported) ∧ w.cell? ⟨b, o + k * 4 + 1 + 1 + 1, none⟩ = some (.bool l[k].readOnly) := by
  obtain ⟨h0, ⟨rfl, hn0⟩ | ⟨b, o, c, rfl, hnc, hcm, hb, hk, hc⟩⟩ := hv
  · exact ⟨none, 0, by rw [hn0], by omega, fun k h => by omega⟩
  · have g := fun k (h : k < l.length) r (hr : r < 4) => flat_get VarD.cells 4 var_len l k r h hr
    exact ⟨_, c, rfl, by omega, fun k h => ⟨b, o, rfl, hb, hc _ _ (g k h 0 (by omega)), by rw [Nat.add_assoc]; exact hc _ _ (g k h 1 (by omega)), by rw [Nat.add_assoc, Nat.add_assoc]; exact hc _ _ (g k h 2 (by omega)),
      by rw [Nat.add_assoc, Nat.add_assoc, Nat.add_assoc]; exact hc _ _ (g k h 3 (by omega))⟩⟩

set_option maxRecDepth 100000 in
set_option maxHeartbeats 2000000 in
theorem search_any (C : Nat) (v : Value) (l : List VarD) (nm : List UInt8) (w : World) (hv : Sl C 27 w v l.length 4 (varCells l)) (hm : VMono l nm) (hn : l.length ≤ 1073741824) :
    Calls Tryz.prog 139 #[v, S nm, .func (.func 140) #[] #[]] w fun e w' =>
      e = .returned (.tuple #[I (vcount l nm), .bool (vfound l nm)]) ∧ Below w.heap.size w w' := by
  obtain ⟨a, c, rfl, _, hcs⟩ := var_cell hv
  have hC := Lib.hid hcs
  have hM := Lib.hid hm
  clear hv hcs hm
  go_enter Tryz.func139, Tryz.ntmps139
  go_wp2
  go_loopw [9, 10] (fun s9 s10 wr => ∃ lo hi : Nat, s9 = I lo ∧ s10 = I hi ∧ lo ≤ hi ∧ hi ≤ l.length ∧ Below w.heap.size w wr ∧
    Hid ((∀ t (h : t < l.length), t < lo → Lib.compareBytes l[t].name nm < 0) ∧ (∀ t (h : t < l.length), hi ≤ t → 0 ≤ Lib.compareBytes l[t].name nm))) (fun s9 s10 _ => (intOf s10).toNat - (intOf s9).toNat)
  case atStart => exact ⟨0, l.length, rfl, rfl, by omega, by omega, Below.refl _ _, Lib.hid (p := _ ∧ _) ⟨fun t h h0 => by omega, fun t h h0 => by omega⟩⟩
  case round =>
    obtain ⟨lo, hi, rfl, rfl, hlh, hhi, hbe, hI⟩ := hrel
    by_cases hlt : lo < hi
    · obtain ⟨b, o, rfl, hb, c0', c1', c2', c3'⟩ := hC.out ((lo + hi) / 2) (by omega)
      have c0 := (hbe.cell (p := ⟨b, _, none⟩) hb).trans c0'
      have c1 := (hbe.cell (p := ⟨b, _, none⟩) hb).trans c1'
      have c2 := (hbe.cell (p := ⟨b, _, none⟩) hb).trans c2'
      have c3 := (hbe.cell (p := ⟨b, _, none⟩) hb).trans c3'
      clear c0' c1' c2' c3'
      go_wp2_with fail
      refine (find_cmp l[(lo + hi) / 2] nm _).mono ?_
      rintro e w2 ⟨rfl, hb2⟩
      have hbe2 := hbe.trans (hb2.mono hbe.size)
      clear hb2
      by_cases hc : Lib.compareBytes l[(lo + hi) / 2].name nm < 0
      · have hI2 : Hid ((∀ t (h : t < l.length), t < (lo + hi) / 2 + 1 → Lib.compareBytes l[t].name nm < 0) ∧ (∀ t (h : t < l.length), hi ≤ t → 0 ≤ Lib.compareBytes l[t].name nm)) :=
          Lib.hid (p := _ ∧ _) ⟨fun t h h1 => hM.out t ((lo + hi) / 2) (by omega) (by omega) hc, hI.out.2⟩
        generalize Lib.compareBytes l[(lo + hi) / 2].name nm = cv at hc
        go_wp2_with fail
        go_roundw
        case rel => exact ⟨(lo + hi) / 2 + 1, hi, by go_num, rfl, by omega, hhi, hbe2, hI2⟩
        case measure => simp [intOf]; omega
      · have hI2 : Hid ((∀ t (h : t < l.length), t < lo → Lib.compareBytes l[t].name nm < 0) ∧ (∀ t (h : t < l.length), (lo + hi) / 2 ≤ t → 0 ≤ Lib.compareBytes l[t].name nm)) :=
          Lib.hid (p := _ ∧ _) ⟨hI.out.1, fun t h h1 => Int.not_lt.1 fun h2 => hc (hM.out ((lo + hi) / 2) t h1 h h2)⟩
        generalize Lib.compareBytes l[(lo + hi) / 2].name nm = cv at hc
        go_wp2_with fail
        go_roundw
        case rel => exact ⟨lo, (lo + hi) / 2, rfl, by go_num, by omega, by omega, hbe2, hI2⟩
        case measure => simp [intOf]; omega
    · obtain rfl : hi = lo := by omega
      have hcnt : vcount l nm = hi := countP_at _ l hi hhi (fun t h ht => decide_eq_true (hI.out.1 t h ht)) (fun t h ht => decide_eq_false (Int.not_lt.2 (hI.out.2 t h ht)))
      by_cases hin : hi < l.length
      · have hf : vfound l nm = (Lib.compareBytes l[hi].name nm == 0) := by unfold vfound; rw [hcnt, List.getElem?_eq_getElem hin]; rfl
        have HC := Lib.hid (And.intro hcnt hf)
        clear hcnt hf
        obtain ⟨b, o, rfl, hb, c0', c1', c2', c3'⟩ := hC.out hi hin
        have c0 := (hbe.cell (p := ⟨b, _, none⟩) hb).trans c0'
        have c1 := (hbe.cell (p := ⟨b, _, none⟩) hb).trans c1'
        have c2 := (hbe.cell (p := ⟨b, _, none⟩) hb).trans c2'
        have c3 := (hbe.cell (p := ⟨b, _, none⟩) hb).trans c3'
        clear c0' c1' c2' c3'
        go_wp2_with fail
        refine (find_cmp l[hi] nm _).mono ?_
        rintro e w2 ⟨rfl, hb2⟩
        have hbe2 := hbe.trans (hb2.mono hbe.size)
        clear hb2
        generalize hcv : Lib.compareBytes l[hi].name nm = cv at HC
        clear hcv
        go_wp2_with fail
        all_goals
          go_ret2
          exact ⟨by rw [HC.out.1, HC.out.2]; rfl, hbe2⟩
      · have hf : vfound l nm = false := by unfold vfound; rw [hcnt, List.getElem?_eq_none (by omega)]; rfl
        have HC := Lib.hid (And.intro hcnt hf)
        clear hcnt hf
        go_wp2_with fail
        go_ret2
        exact ⟨by rw [HC.out.1, HC.out.2]; rfl, hbe⟩
end Go.Proofs.YtdffbbfhcdhpdaaGreatDoor
