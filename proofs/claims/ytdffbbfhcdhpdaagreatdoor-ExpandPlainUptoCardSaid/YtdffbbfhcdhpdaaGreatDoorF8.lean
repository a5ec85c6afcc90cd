/- ref08.parts, ref08.Parse: on every text they end; what they answer is a well-made word. -/
import Derived.Test.YtdffbbfhcdhpdaaGreatDoorF7
namespace Go.Proofs.YtdffbbfhcdhpdaaGreatDoor
open Go.RowKit

set_option maxRecDepth 100000 in
set_option maxHeartbeats 400000 in
theorem parts_deep (d : Nat) (hd : 30 < d) (hd2 : d ≤ 100) : PartsC d := by
  intro s w hs
  have hd' : (30 : Int) < d := by omega
  have fin : PaE s w (.returned (.tuple #[NilS, I 2])) w := ⟨_, [], 2, rfl, Tree.nil _ _, fun h => absurd h (by decide), Below.refl _ _⟩
  have FIN := Lib.hid fin
  clear fin
  go_enter Tryz.func32, Tryz.ntmps32
  go_wp2_with fail
  go_ret2
  exact FIN.out

set_option maxRecDepth 100000 in
set_option maxHeartbeats 4000000 in
theorem parts_step (d : Nat) (hd : d ≤ 30) (hD : DollarC d) (hDb : DoubleC d) : PartsC d := by
  intro s w hs
  have HD := Lib.hid hD
  have HDb := Lib.hid hDb
  clear hD hDb
  have hd' : (d : Int) ≤ 30 := by omega
  go_enter Tryz.func32, Tryz.ntmps32
  go_wp2_with fail
  go_loopw [0, 6] (fun x v wr => ∃ (rest : List UInt8) (ts : List PT), x = S rest ∧ RestW s w rest v ts wr) (fun x _ _ => strLen x)
  case atStart => exact ⟨s, [], rfl, Nat.le_refl _, Tree.nil _ _, by simp [PT.wfs], by simp [PT.sizes], Below.refl _ _⟩
  case round =>
    obtain ⟨rest, ts, rfl, hR⟩ := hrel
    have hrl : rest.length ≤ 1048576 := Nat.le_trans hR.1 hs
    have hwz : w.heap.size ≤ wr.heap.size := hR.2.2.2.2.size
    have hszs : PT.sizes ts + 2 * rest.length ≤ 2097152 := by have := hR.2.2.2.1; omega
    obtain ⟨va, vc, rfl⟩ := hR.2.1.slice
    have HR := Lib.hid hR
    clear hR
    generalize ts.length = vn at *
    cases rest with
    | nil =>
      go_wp2_with fail
      go_ret2
      exact ⟨_, ts, 0, rfl, HR.out.2.1, fun _ => ⟨HR.out.2.2.1, by have := HR.out.2.2.2.1; simpa using this⟩, HR.out.2.2.2.2⟩
    | cons c r =>
      have hlc : r.length + 1 ≤ 1048576 := hrl
      by_cases h36 : c = 36
      · subst h36
        go_wp2_with fail
        refine (HD.out (36 :: r) false _ (by simp) hrl).mono ?_
        rintro e w2 ⟨p, t, n, err, rfl, hat, hok, hb2⟩
        have hwd := PT.at_word hat
        obtain ⟨kd, qq, tx, nm, op, wd⟩ := p
        obtain ⟨wa, wn, wc, hwd⟩ := hwd
        dsimp only at hwd
        subst hwd
        have z7 := blk_ext hb2 (blk_new wr (.cells #[I 0, .bool false, S [36], S [], S [], NilS] 42))
        have hB2 : Below wr.heap.size wr w2 := ((Below.refl _ wr).alloc (Nat.le_refl _) _).trans (hb2.mono (by simp))
        have hl7 := blk_lt z7
        have c0 : w2.cell? ⟨wr.heap.size, 0, none⟩ = some (I 0) := (blk_cell z7 0).trans rfl
        have f0 : w2.frozen? ⟨wr.heap.size, 0, none⟩ = false := blk_free z7 0
        have c1 : w2.cell? ⟨wr.heap.size, 1, none⟩ = some (.bool false) := (blk_cell z7 1).trans rfl
        have f1 : w2.frozen? ⟨wr.heap.size, 1, none⟩ = false := blk_free z7 1
        have c2 : w2.cell? ⟨wr.heap.size, 2, none⟩ = some (S [36]) := (blk_cell z7 2).trans rfl
        have f2 : w2.frozen? ⟨wr.heap.size, 2, none⟩ = false := blk_free z7 2
        have c3 : w2.cell? ⟨wr.heap.size, 3, none⟩ = some (S []) := (blk_cell z7 3).trans rfl
        have f3 : w2.frozen? ⟨wr.heap.size, 3, none⟩ = false := blk_free z7 3
        have c4 : w2.cell? ⟨wr.heap.size, 4, none⟩ = some (S []) := (blk_cell z7 4).trans rfl
        have f4 : w2.frozen? ⟨wr.heap.size, 4, none⟩ = false := blk_free z7 4
        have c5 : w2.cell? ⟨wr.heap.size, 5, none⟩ = some NilS := (blk_cell z7 5).trans rfl
        have f5 : w2.frozen? ⟨wr.heap.size, 5, none⟩ = false := blk_free z7 5
        have hB3 := below_part hB2 (Nat.le_refl _) (I kd) (.bool qq) (S tx) (S nm) (S op) (.slice wa wn wc)
        have hat2 := (PT.at_iff _ _ _ _).1 hat
        have htr : Tree (wr.heap.size + 1) w2 (.slice wa wn wc) t.word := by have := hat2.2.2.2.2.2; simpa using this
        have hat3 : t.at w.heap.size (World.part w2 wr.heap.size (I kd) (.bool qq) (S tx) (S nm) (S op) (.slice wa wn wc)) ⟨kd, qq, tx, nm, op, .slice wa wn wc⟩ :=
          (PT.at_iff _ _ _ _).2 ⟨hat2.1, hat2.2.1, hat2.2.2.1, hat2.2.2.2.1, hat2.2.2.2.2.1, (htr.part (Nat.lt_succ_self _) _ _ _ _ _ _).low (Nat.le_succ_of_le hwz)⟩
        by_cases herr : err = 0
        · subst herr
          obtain ⟨hwf, k, rfl, hk1, hk2, hsz⟩ := hok rfl
          have hk2' : (k : Int) ≤ (r.length : Int) + 1 := by simp at hk2; omega
          have htv := HR.out.2.1.ext hB3
          have hz : PT.sizes ts + t.size ≤ 4194304 := by simp at hszs hk2; omega
          have hBs := Nat.le_trans hwz hB3.size
          have H := Lib.hid (And.intro hB3 (And.intro hat3 (And.intro hwf (And.intro hsz (And.intro htv (And.intro hz hBs))))))
          clear hB3 hat3 hwf hsz htv hz hBs hat2 hat htr hok hb2 z7 hB2
          go_wp2_with fail
          refine (add_any w.heap.size _ ts t ⟨kd, qq, tx, nm, op, .slice wa wn wc⟩ _ H.out.2.2.2.2.1 H.out.2.1 H.out.2.2.2.2.2.2 H.out.2.2.2.2.2.1).mono ?_
          rintro e w4 ⟨v', rfl, ht4, hb4⟩
          have hR' := HR.out.step (rest' := (36 :: r).drop k) (m := k) H.out.1 H.out.2.2.1 (by rw [List.length_drop]; omega) H.out.2.2.2.1 ht4 hb4
          have H2 := Lib.hid hR'
          clear hR' ht4 hb4 H c0 c1 c2 c3 c4 c5 f0 f1 f2 f3 f4 f5
          go_wp2_with fail
          go_roundw
          case rel => exact ⟨(36 :: r).drop k, _, rfl, H2.out⟩
          case measure => simp [strLen, ByteArray.size]; omega
        · have herr1 : (err == 0) = false := by rw [beq_eq_false_iff_ne]; exact herr
          have herr2 : (err != 0) = true := by rw [bne_iff_ne]; exact herr
          have fin : PaE s w (.returned (.tuple #[NilS, I err])) (World.part w2 wr.heap.size (I kd) (.bool qq) (S tx) (S nm) (S op) (.slice wa wn wc)) :=
            ⟨_, [], err, rfl, Tree.nil _ _, fun h => absurd h herr, HR.out.2.2.2.2.trans (hB3.mono hwz)⟩
          have FIN := Lib.hid fin
          clear fin hB3 hat3 hat2 hat htr hok hb2 z7 hB2
          go_wp2_with fail
          go_ret2
          exact FIN.out
      · have e36 : ((c.toNat : Int) == 36) = false := u8_ne h36
        clear h36
        by_cases hqt : c = 92 ∨ c = 39 ∨ c = 34
        · have hsk := skip_any 1 (by decide) (c :: r) 0 (wr.alloc (.cells #[I 0, .bool false, S [c], S [], S [], NilS] 42)) (by simp) (by simp; omega)
          have SK := Lib.hid hsk
          have HQ := Lib.hid hqt
          clear hsk
          have hch : ((c.toNat : Int) == 92) = true ∧ ((c.toNat : Int) != 34) = true ∨ ((c.toNat : Int) == 92) = false ∧ ((c.toNat : Int) == 39) = true ∧ ((c.toNat : Int) != 34) = true ∨ ((c.toNat : Int) == 92) = false ∧ ((c.toNat : Int) == 39) = false ∧ ((c.toNat : Int) == 34) = true ∧ ((c.toNat : Int) != 34) = false := by
            rcases hqt with rfl | rfl | rfl
            · exact .inl ⟨rfl, rfl⟩
            · exact .inr (.inl ⟨rfl, rfl, rfl⟩)
            · exact .inr (.inr ⟨rfl, rfl, rfl, rfl⟩)
          clear hqt
          have fin : PaE s w (.returned (.tuple #[NilS, I 90])) (wr.alloc (.cells #[I 0, .bool false, S [c], S [], S [], NilS] 42)) := ⟨_, [], 90, rfl, Tree.nil _ _, fun h => absurd h (by decide), HR.out.2.2.2.2.trans (((Below.refl _ wr).alloc (Nat.le_refl _) _).mono hwz)⟩
          have FIN := Lib.hid fin
          clear fin
          rcases hch with ⟨q1, q2⟩ | ⟨q1, q2, q3⟩ | ⟨q1, q2, q3, q4⟩
          · go_wp2_with fail
            refine SK.out.mono ?_
            rintro e w' ⟨rr, rfl, hr, rfl⟩
            clear SK
            rcases hr with rfl | ⟨k, rfl, hk1, hk2, hk3, _⟩
            · clear HD HDb
              go_wp2_with fail
              go_ret2
              exact FIN.out
            · have hk4 : 2 ≤ k := hk3 (by simp) HQ.out
              obtain ⟨m, rfl⟩ : ∃ m, k = m + 2 := ⟨k - 2, by omega⟩
              clear hk3 hk1 FIN
              rw [List.length_cons] at hk2
              have hm1 : (m : Int) + 2 ≤ (r.length : Int) + 1 := by omega
              have hm2 : (m : Int) + 1 ≤ (r.length : Int) + 1 := by omega
              have hm3 : (0 : Int) ≤ m := by omega
              have hm4 : (2 : Int) ≤ (r.length : Int) + 1 := by omega
              have hB : ∀ x : List UInt8, Below wr.heap.size wr (wr.alloc (.cells #[I 0, .bool true, S x, S [], S [], NilS] 42)) := fun x => (Below.refl _ wr).alloc (Nat.le_refl _) _
              have H := Lib.hid hB
              have hlt : (r.take m).length ≤ m := List.length_take_le _ _
              have hl1 : (r.take 1).length ≤ 1 := List.length_take_le _ _
              have HL := Lib.hid (And.intro hlt hl1)
              clear hB hlt hl1
              go_wp2_with fail
              refine (add_any w.heap.size _ ts (.mk 0 true (r.take 1) [] [] []) ⟨0, true, r.take 1, [], [], NilS⟩ _ (HR.out.2.1.ext (H.out _)) (PT.at_leaf _ _ _ _ _ _ _) (Nat.le_trans hwz (H.out (r.take 1)).size) (by have := HL.out; simp only [PT.size, PT.sizes, List.length_nil]; rw [List.length_cons] at hszs; omega)).mono ?_
              rintro e w4 ⟨v', rfl, ht4, hb4⟩
              have H2 := Lib.hid (And.intro ht4 hb4)
              clear ht4 hb4
              go_wp2_with fail
              go_roundw
              case rel => exact ⟨_, _, rfl, HR.out.step (m := m + 2) (H.out _) (wf_text _ _) (by simp; omega) (by have := HL.out; simp only [PT.size, PT.sizes, List.length_nil]; omega) H2.out.1 H2.out.2⟩
              case measure => simp [strLen, ByteArray.size]; omega
          · go_wp2_with fail
            refine SK.out.mono ?_
            rintro e w' ⟨rr, rfl, hr, rfl⟩
            clear SK
            rcases hr with rfl | ⟨k, rfl, hk1, hk2, hk3, _⟩
            · clear HD HDb
              go_wp2_with fail
              go_ret2
              exact FIN.out
            · have hk4 : 2 ≤ k := hk3 (by simp) HQ.out
              obtain ⟨m, rfl⟩ : ∃ m, k = m + 2 := ⟨k - 2, by omega⟩
              clear hk3 hk1 FIN
              rw [List.length_cons] at hk2
              have hm1 : (m : Int) + 2 ≤ (r.length : Int) + 1 := by omega
              have hm2 : (m : Int) + 1 ≤ (r.length : Int) + 1 := by omega
              have hm3 : (0 : Int) ≤ m := by omega
              have hm4 : (2 : Int) ≤ (r.length : Int) + 1 := by omega
              have hB : ∀ x : List UInt8, Below wr.heap.size wr (wr.alloc (.cells #[I 0, .bool true, S x, S [], S [], NilS] 42)) := fun x => (Below.refl _ wr).alloc (Nat.le_refl _) _
              have H := Lib.hid hB
              have hlt : (r.take m).length ≤ m := List.length_take_le _ _
              have hl1 : (r.take 1).length ≤ 1 := List.length_take_le _ _
              have HL := Lib.hid (And.intro hlt hl1)
              clear hB hlt hl1
              go_wp2_with fail
              refine (add_any w.heap.size _ ts (.mk 0 true (r.take m) [] [] []) ⟨0, true, r.take m, [], [], NilS⟩ _ (HR.out.2.1.ext (H.out _)) (PT.at_leaf _ _ _ _ _ _ _) (Nat.le_trans hwz (H.out (r.take m)).size) (by have := HL.out; simp only [PT.size, PT.sizes, List.length_nil]; rw [List.length_cons] at hszs; omega)).mono ?_
              rintro e w4 ⟨v', rfl, ht4, hb4⟩
              have H2 := Lib.hid (And.intro ht4 hb4)
              clear ht4 hb4
              go_wp2_with fail
              go_roundw
              case rel => exact ⟨_, _, rfl, HR.out.step (m := m + 2) (H.out _) (wf_text _ _) (by simp; omega) (by have := HL.out; simp only [PT.size, PT.sizes, List.length_nil]; omega) H2.out.1 H2.out.2⟩
              case measure => simp [strLen, ByteArray.size]; omega
          · go_wp2_with fail
            refine SK.out.mono ?_
            rintro e w' ⟨rr, rfl, hr, rfl⟩
            clear SK
            rcases hr with rfl | ⟨k, rfl, hk1, hk2, hk3, _⟩
            · clear HD HDb
              go_wp2_with fail
              go_ret2
              exact FIN.out
            · have hk4 : 2 ≤ k := hk3 (by simp) HQ.out
              obtain ⟨m, rfl⟩ : ∃ m, k = m + 2 := ⟨k - 2, by omega⟩
              clear hk3 hk1 FIN
              rw [List.length_cons] at hk2
              have hm1 : (m : Int) + 2 ≤ (r.length : Int) + 1 := by omega
              have hm2 : (m : Int) + 1 ≤ (r.length : Int) + 1 := by omega
              have hm3 : (0 : Int) ≤ m := by omega
              have hlt : (r.take m).length ≤ m := List.length_take_le _ _
              have HL := Lib.hid hlt
              clear hlt
              go_wp2_with fail
              refine (HDb.out (r.take m) _ (by have := HL.out; omega)).mono ?_
              rintro e w2 ⟨lv, tl, err, rfl, htl, hok, hb2⟩
              obtain ⟨la, lc, rfl⟩ := htl.slice
              have hB2 : Below wr.heap.size wr w2 := ((Below.refl _ wr).alloc (Nat.le_refl _) _).trans (hb2.mono (by simp))
              have htl2 : Tree w.heap.size w2 (.slice la tl.length lc) tl := htl.low (by simp; omega)
              by_cases herr : err = 0
              · subst herr
                obtain ⟨hwl, hzl⟩ := hok rfl
                have htv := HR.out.2.1.ext hB2
                have hzl2 : PT.sizes tl ≤ 2 * (m + 2) := by have := HL.out; omega
                have hlen : tl.length ≤ 4194304 := by have := PT.len_sizes tl; omega
                have H := Lib.hid (And.intro hB2 (And.intro htl2 (And.intro hwl (And.intro hzl2 htv))))
                clear hB2 htl2 hwl hzl hzl2 htv htl hok hb2
                have hB0 := H.out.1.size
                go_wp2_with fail
                obtain ⟨wo, rfl⟩ : ∃ wo : World, wo = wr := ⟨_, rfl⟩
                go_loopw [6, 11] (fun v i wr => ∃ (k : Nat) (ts' : List PT), k ≤ tl.length ∧ i = I k ∧ Hid (Tree w.heap.size wr v ts' ∧ PT.wfs ts' ∧ PT.sizes ts' + PT.sizes (tl.drop k) ≤ PT.sizes ts + PT.sizes tl ∧ Below w2.heap.size w2 wr)) (fun _ i _ => tl.length - (intOf i).toNat)
                case atStart => exact ⟨0, ts, by omega, rfl, Lib.hid ⟨H.out.2.2.2.2, HR.out.2.2.1, by simp, Below.refl _ _⟩⟩
                case round =>
                  obtain ⟨k, ts', hk, rfl, hI⟩ := hrel
                  obtain ⟨oa, oc, rfl⟩ := hI.out.1.slice
                  generalize hon : ts'.length = on at *
                  clear hon
                  by_cases hlk : k < tl.length
                  · obtain ⟨ps, hra, hrows⟩ := H.out.2.1.ext hI.out.2.2.2
                    have hpl := PT.rows_len hrows
                    obtain ⟨a', c', hv', _, hcs⟩ := part_cell hra.1
                    obtain ⟨b, o, rfl, hb, c0, c1, c2, c3, c4, c5⟩ := hcs k (by omega)
                    rw [hpl] at hv'
                    cases hv'
                    have hat := PT.rows_get hrows k hlk (by omega)
                    have hwd := PT.at_word hat
                    have hdr : PT.sizes (tl.drop k) = tl[k].size + PT.sizes (tl.drop (k + 1)) := by
                      rw [List.drop_eq_getElem_cons hlk]; rfl
                    have hwk := PT.wfs_mem H.out.2.2.1 (List.getElem_mem hlk)
                    generalize tl[k] = tk at hat hdr hwk
                    clear hcs
                    generalize ps[k] = p at c0 c1 c2 c3 c4 c5 hat hwd
                    obtain ⟨kd, qq, tx, nm, op, wd⟩ := p
                    obtain ⟨wa, wn, wc, hwd⟩ := hwd
                    dsimp only at hwd c0 c1 c2 c3 c4 c5
                    subst hwd
                    have hz := hI.out.2.2.1
                    have hz2 := H.out.2.2.2.1
                    have hz3 : PT.sizes ts' + tk.size ≤ 4194304 := by rw [List.length_cons] at hszs; omega
                    have HK := Lib.hid (And.intro hat (And.intro hdr (And.intro hwk hz3)))
                    have hB5 := Nat.le_trans (Nat.le_trans hwz hB0) hI.out.2.2.2.size
                    clear hat hdr hwk hz hz2 hz3 hra hrows hpl
                    go_wp2_with fail
                    refine (add_any w.heap.size _ ts' tk ⟨kd, qq, tx, nm, op, .slice wa wn wc⟩ _ hI.out.1 HK.out.1 hB5 HK.out.2.2.2).mono ?_
                    rintro e w6 ⟨v', rfl, ht6, hb6⟩
                    have hz4 : PT.sizes (addT ts' tk) + PT.sizes (tl.drop (k + 1)) ≤ PT.sizes ts + PT.sizes tl := by
                      have h1 := addT_size ts' tk
                      have h2 := hI.out.2.2.1
                      have h3 := HK.out.2.1
                      omega
                    have HJ := Lib.hid (And.intro ht6 (And.intro (addT_wf hI.out.2.1 HK.out.2.2.1) (And.intro hz4 (hI.out.2.2.2.trans (hb6.mono hI.out.2.2.2.size)))))
                    clear ht6 hb6 hz4 HK c0 c1 c2 c3 c4 c5
                    go_wp2_with fail
                    go_roundw
                    case rel => exact ⟨k + 1, _, by omega, by go_num, HJ⟩
                    case measure => simp [intOf]; omega
                  · obtain rfl : k = tl.length := by omega
                    have hR' : RestW s w ((c :: r).drop (m + 2)) (.slice oa on oc) ts' wr := by
                      obtain ⟨i1, i2, i3, i4⟩ := hI.out
                      have h1 := HR.out.2.2.2.1
                      have h2 := H.out.2.2.2.1
                      have h3 := HR.out.1
                      rw [List.drop_length] at i3
                      simp only [PT.sizes, Nat.add_zero] at i3
                      rw [List.length_cons] at h1 h3
                      exact ⟨by rw [List.length_drop, List.length_cons]; omega, i1, i2, by rw [List.length_drop, List.length_cons]; omega, HR.out.2.2.2.2.trans ((H.out.1.trans (i4.mono H.out.1.size)).mono hwz)⟩
                    have HJ := Lib.hid hR'
                    clear hR'
                    go_wp2_with fail
                    go_roundw
                    case rel => exact ⟨_, _, rfl, HJ.out⟩
                    case measure => simp [strLen, ByteArray.size]; omega
              · have herr1 : (err == 0) = false := by rw [beq_eq_false_iff_ne]; exact herr
                have herr2 : (err != 0) = true := by rw [bne_iff_ne]; exact herr
                have fin : PaE s w (.returned (.tuple #[NilS, I err])) w2 := ⟨_, [], err, rfl, Tree.nil _ _, fun h => absurd h herr, HR.out.2.2.2.2.trans (hB2.mono hwz)⟩
                have FIN := Lib.hid fin
                generalize tl.length = tn at *
                clear fin htl htl2 hok hb2 hB2
                go_wp2_with fail
                go_ret2
                exact FIN.out
        · have q1 : ((c.toNat : Int) == 92) = false := u8_ne (fun h => hqt (.inl h))
          have q2 : ((c.toNat : Int) == 39) = false := u8_ne (fun h => hqt (.inr (.inl h)))
          have q3 : ((c.toNat : Int) == 34) = false := u8_ne (fun h => hqt (.inr (.inr h)))
          have q4 : ((c.toNat : Int) != 34) = true := by rw [bne_iff_ne]; exact beq_eq_false_iff_ne.1 q3
          clear hqt
          have hB : Below wr.heap.size wr (wr.alloc (.cells #[I 0, .bool false, S [c], S [], S [], NilS] 42)) := (Below.refl _ wr).alloc (Nat.le_refl _) _
          have H := Lib.hid hB
          clear hB
          go_wp2_with fail
          refine (add_any w.heap.size _ ts (.mk 0 false [c] [] [] []) ⟨0, false, [c], [], [], NilS⟩ _ (HR.out.2.1.ext H.out) (PT.at_leaf _ _ _ _ _ _ _) (Nat.le_trans hwz H.out.size) (by simp only [PT.size, PT.sizes, List.length_cons, List.length_nil]; omega)).mono ?_
          rintro e w4 ⟨v', rfl, ht4, hb4⟩
          have H2 := Lib.hid (And.intro ht4 hb4)
          clear ht4 hb4
          go_wp2_with fail
          go_roundw
          case rel => exact ⟨_, _, rfl, HR.out.step (m := 1) H.out (wf_text _ _) (by simp) (by simp [PT.size, PT.sizes]) H2.out.1 H2.out.2⟩
          case measure => simp [strLen, ByteArray.size]
end Go.Proofs.YtdffbbfhcdhpdaaGreatDoor
