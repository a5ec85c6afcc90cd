/- ref08.commands, ref08.quotes on every list of parts. -/
import Derived.Test.YtdffbbfhcdhpdaaGreatDoorF2
namespace Go.Proofs.YtdffbbfhcdhpdaaGreatDoor
open Go.RowKit

def CmdE (w : World) (e : Ending) (w' : World) : Prop := (∃ b : Bool, e = .returned (.bool b)) ∧ w = w'
set_option maxRecDepth 100000 in
set_option maxHeartbeats 600000 in
theorem commands_any : ∀ (n B : Nat) (ts : List PT) (v : Value) (w : World), PT.sizes ts < n → n ≤ 4194304 → Tree B w v ts → Calls Tryz.prog 152 #[v] w (CmdE w) := by
  intro n
  induction n with
  | zero => intro B ts v w h; omega
  | succ n ih =>
    intro B ts v w hn hN ht
    obtain ⟨ps, hr, hrows⟩ := ht
    have hlen := PT.rows_len hrows
    obtain ⟨a, c, rfl, hpm, _⟩ := part_cell hr.1
    have hpl : ps.length ≤ 4194304 := by have := PT.len_sizes ts; omega
    have HR := Lib.hid (And.intro hr (And.intro hrows hlen))
    have IH := Lib.hid ih
    clear hr hrows hlen ih hpm
    go_enter Tryz.func152, Tryz.ntmps152
    go_wp2_with fail
    go_loopw [3] (fun i wr => ∃ k : Nat, k ≤ ps.length ∧ i = I k ∧ w = wr) (fun i _ => ps.length - (intOf i).toNat)
    case atStart => exact ⟨0, by omega, rfl, rfl⟩
    case round =>
      obtain ⟨k, hk, rfl, rfl⟩ := hrel
      by_cases hlt : k < ps.length
      · have hkt : k < ts.length := by rw [← HR.out.2.2]; exact hlt
        obtain ⟨a', c', hv', _, hcs⟩ := part_cell HR.out.1.1
        obtain ⟨b, o, rfl, hb, c0, c1, c2, c3, c4, c5⟩ := hcs k hlt
        cases hv'
        have hat := (PT.at_iff _ _ _ _).1 (PT.rows_get HR.out.2.1 k hkt hlt)
        have htw := hat.2.2.2.2.2
        obtain ⟨wa, wc, hwd⟩ := htw.slice
        have c5' : w.cell? ⟨b, o + k * 6 + 5, none⟩ = some ps[k].word := c5
        rw [hwd] at c5' htw
        have hsz : PT.sizes ts[k].word < n := by
          have h1 := PT.size_mem (List.getElem_mem hkt)
          have h2 := (ts[k]).size_eq
          omega
        have HW := Lib.hid (And.intro htw hsz)
        generalize ts[k].word.length = wn at c5' HW
        generalize ps[k].kind = kd at c0
        clear c1 c2 c3 c4 c5 hcs hat htw hsz hwd
        cases hk2 : (kd == 2) with
        | true =>
          go_wp2_with fail
          go_ret
          exact ⟨⟨_, rfl⟩, rfl⟩
        | false =>
          go_wp2_with fail
          refine (IH.out B ts[k].word _ _ HW.out.2 (by omega) HW.out.1).mono ?_
          rintro e w' ⟨⟨bb, rfl⟩, rfl⟩
          cases bb with
          | true =>
            go_wp2_with fail
            go_ret
            exact ⟨⟨_, rfl⟩, rfl⟩
          | false =>
            go_wp2_with fail
            go_roundw
            case rel => exact ⟨k + 1, by omega, by go_num, by trivial⟩
            case measure => simp [intOf]; omega
      · have hkk : k = ps.length := by omega
        subst hkk
        go_wp2_with fail
        go_ret
        exact ⟨⟨_, rfl⟩, rfl⟩

def QuoE (ts : List PT) (w : World) (e : Ending) (w' : World) : Prop := ∃ r, e = .returned r ∧ Tree w.heap.size w' r (PT.quotesT ts []) ∧ Below w.heap.size w w'
set_option maxRecDepth 100000 in
set_option maxHeartbeats 1000000 in
theorem quotes_any : ∀ (n B : Nat) (ts : List PT) (v : Value) (w : World), PT.sizes ts < n → n ≤ 4194304 → Tree B w v ts → Calls Tryz.prog 153 #[v] w (QuoE ts w) := by
  intro n
  induction n with
  | zero => intro B ts v w h; omega
  | succ n ih =>
    intro B ts v w hn hN ht
    obtain ⟨ps, hr, hrows⟩ := ht
    have hlen := PT.rows_len hrows
    obtain ⟨a, c, rfl, hpm, _⟩ := part_cell hr.1
    have hpl : ps.length ≤ 4194304 := by have := PT.len_sizes ts; omega
    have HR := Lib.hid (And.intro hr (And.intro hrows (And.intro hlen hn)))
    have IH := Lib.hid ih
    clear hr hrows hlen ih hpm hn
    go_enter Tryz.func153, Tryz.ntmps153
    go_wp2_with fail
    go_loopw [3, 4] (fun out i wr => ∃ k : Nat, k ≤ ps.length ∧ i = I k ∧ Tree w.heap.size wr out (PT.quotesT (ts.take k) []) ∧ Below w.heap.size w wr) (fun _ i _ => ps.length - (intOf i).toNat)
    case atStart => exact ⟨0, by omega, rfl, by simp only [List.take_zero, PT.quotesT]; exact Tree.nil _ _, Below.refl _ _⟩
    case round =>
      obtain ⟨k, hk, rfl, hto, hbe⟩ := hrel
      have hbs := hbe.size
      by_cases hlt : k < ps.length
      · have hkt : k < ts.length := by rw [← HR.out.2.2.1]; exact hlt
        have hsn := PT.quotesT_snoc ts k hkt
        obtain ⟨a', c', hv', _, hcs⟩ := part_cell (HR.out.1.1.ext hbe)
        obtain ⟨b, o, rfl, hb, c0, c1, c2, c3, c4, c5⟩ := hcs k hlt
        cases hv'
        have hat := (PT.at_iff _ _ _ _).1 (PT.at_keep hbe.size (fun b _ h => hbe.block b h) _ _ (PT.rows_get HR.out.2.1 k hkt hlt))
        have hsz1 : PT.sizes ts[k].word < n := by
          have h1 := PT.size_mem (List.getElem_mem hkt)
          have h2 := (ts[k]).size_eq
          have := HR.out.2.2.2
          omega
        have hsz2 : PT.sizes (PT.quotesT (ts.take k) []) + ts[k].quoteT.size ≤ 4194304 := by
          have h1 := PT.quotesT_size (ts.take k) []
          have h2 := PT.quoteT_size ts[k]
          have h3 := PT.sizes_snoc ts k hkt
          have h4 := PT.sizes_take ts (k + 1)
          have := HR.out.2.2.2
          simp only [PT.sizes] at h1
          omega
        generalize ts[k] = t at hat hsz1 hsz2 hsn
        generalize PT.quotesT (ts.take k) [] = qs at hto hsz2 hsn
        clear hcs
        generalize ps[k] = p at c0 c1 c2 c3 c4 c5 hat
        obtain ⟨kd, q, tx, nm, op, wd⟩ := p
        obtain ⟨h1, h2, h3, h4, h5, htw⟩ := hat
        obtain ⟨wa, wc, hwd⟩ := htw.slice
        dsimp only at c0 c1 c2 c3 c4 c5 h1 h2 h3 h4 h5 htw hwd
        subst hwd
        obtain ⟨oa, oc, rfl⟩ := hto.slice
        generalize qs.length = on at *
        generalize t.word.length = wn at *
        have hb0 : Below wr.heap.size wr (wr.alloc (.cells #[I kd, .bool true, S tx, S nm, S op, .slice wa wn wc] 42)) := (Below.refl _ _).alloc (Nat.le_refl _) _
        have HW := Lib.hid (And.intro htw (And.intro hsz1 (And.intro hsz2 (And.intro hto (And.intro hsn (And.intro hb0 (And.intro h1 (And.intro h3 (And.intro h4 h5)))))))))
        clear hsn htw hsz1 hsz2 hto hb0 h1 h2 h3 h4 h5
        go_wp2_with fail
        refine (IH.out B t.word _ _ HW.out.2.1 (by omega) (HW.out.1.ext HW.out.2.2.2.2.2.1)).mono ?_
        rintro e w2 ⟨r, rfl, hr2, hb2⟩
        obtain ⟨ra, rc, rfl⟩ := hr2.slice
        generalize (PT.quotesT t.word []).length = rn at *
        have hbl := blk_ext hb2 (blk_new wr (.cells #[I kd, .bool true, S tx, S nm, S op, .slice wa wn wc] 42))
        have hl2 := blk_lt hbl
        have e0 : w2.cell? ⟨wr.heap.size, 0, none⟩ = some (I kd) := (blk_cell hbl 0).trans rfl
        have e1 : w2.cell? ⟨wr.heap.size, 1, none⟩ = some (.bool true) := (blk_cell hbl 1).trans rfl
        have e2 : w2.cell? ⟨wr.heap.size, 2, none⟩ = some (S tx) := (blk_cell hbl 2).trans rfl
        have e3 : w2.cell? ⟨wr.heap.size, 3, none⟩ = some (S nm) := (blk_cell hbl 3).trans rfl
        have e4 : w2.cell? ⟨wr.heap.size, 4, none⟩ = some (S op) := (blk_cell hbl 4).trans rfl
        have e5 : w2.cell? ⟨wr.heap.size, 5, none⟩ = some (.slice wa wn wc) := (blk_cell hbl 5).trans rfl
        have f5 : w2.frozen? ⟨wr.heap.size, 5, none⟩ = false := blk_free hbl 5
        have hB2 : Below wr.heap.size wr w2 := HW.out.2.2.2.2.2.1.trans (hb2.mono (by simp))
        have hB3 : Below wr.heap.size wr (w2.setCell ⟨wr.heap.size, 5, none⟩ (.slice ra rn rc)) := hB2.setCell (p := ⟨wr.heap.size, 5, none⟩) (Nat.le_refl _) _
        have hr3 : Tree w.heap.size (w2.setCell ⟨wr.heap.size, 5, none⟩ (.slice ra rn rc)) (.slice ra rn rc) (PT.quotesT t.word []) := (hr2.set (n := wr.heap.size) (by simp) 5 _).low (by simp; omega)
        have HX := Lib.hid (And.intro hB3 hr3)
        clear hr2 hb2 hbl hB2 hB3 hr3 c0 c1 c2 c3 c4 c5
        go_wp2_with fail
        refine (add_any w.heap.size _ qs t.quoteT ⟨kd, true, tx, nm, op, .slice ra rn rc⟩ _ (HW.out.2.2.2.1.ext HX.out.1) ?hat ?hBs HW.out.2.2.1).mono ?_
        case hat =>
          rw [PT.at_iff, PT.quoteT_eq]
          exact ⟨HW.out.2.2.2.2.2.2.1, rfl, HW.out.2.2.2.2.2.2.2.1, HW.out.2.2.2.2.2.2.2.2.1, HW.out.2.2.2.2.2.2.2.2.2, HX.out.2⟩
        case hBs => exact Nat.le_trans hbs HX.out.1.size
        rintro e w4 ⟨v', rfl, ht4, hb4⟩
        have hB4 := hbe.trans ((HX.out.1.trans (hb4.mono HX.out.1.size)).mono hbs)
        rw [← HW.out.2.2.2.2.1] at ht4
        clear hb4 HX HW e0 e1 e2 e3 e4 e5 f5
        go_wp2_with fail
        go_roundw
        case rel => exact ⟨k + 1, by omega, by go_num, ht4, hB4⟩
        case measure => simp [intOf]; omega
      · have hkk : k = ps.length := by omega
        subst hkk
        have htk : ts.take ps.length = ts := by rw [HR.out.2.2.1, List.take_length]
        rw [htk] at hto
        have FIN := Lib.hid (And.intro hto hbe)
        clear hto htk hbe
        go_wp2_with fail
        go_ret
        exact ⟨_, rfl, FIN.out.1, FIN.out.2⟩
end Go.Proofs.YtdffbbfhcdhpdaaGreatDoor
