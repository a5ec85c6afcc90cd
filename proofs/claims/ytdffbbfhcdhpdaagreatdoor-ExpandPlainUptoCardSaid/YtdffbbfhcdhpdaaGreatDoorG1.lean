/- law16.ExpandPlain: the walk. -/
import Derived.Test.YtdffbbfhcdhpdaaGreatDoorF9
import Derived.Test.YtdffbbfhcdhpdaaGreatDoorG0
namespace Go.Proofs.YtdffbbfhcdhpdaaGreatDoor
open Go.RowKit

theorem rows_texts {B : Nat} {w : World} : ∀ {ts : List PT} {ps : List PartS}, PT.rows B w ts ps → (ps.flatMap (·.text)).length ≤ PT.sizes ts
  | [], ps, h => by simp only [PT.rows] at h; subst h; simp
  | t :: ts, ps, h => by
    simp only [PT.rows] at h
    obtain ⟨p, r, rfl, h1, h2⟩ := h
    have := rows_texts h2
    have h3 := ((PT.at_iff _ _ _ _).1 h1).2.2.1
    have h4 := t.size_eq
    rw [List.flatMap_cons, List.length_append, h3]
    simp only [PT.sizes]; omega
theorem joined_texts (vars : List VarD) (args : List (List UInt8)) : ∀ (ps : List PartS), (∀ p ∈ ps, p.kind = 0) → joined (ps.flatMap (partSegs vars args)) false = ps.flatMap (·.text)
  | [], _ => rfl
  | p :: ps, h => by
    have ih := joined_texts vars args ps (fun q hq => h q (List.mem_cons_of_mem _ hq))
    have hk := h p (List.mem_cons_self ..)
    have hp : partSegs vars args p = [⟨if p.quoted then 1 else 0, p.text⟩] := by unfold partSegs; rw [if_neg (by rw [hk]; decide)]
    unfold joined at ih ⊢
    rw [List.flatMap_cons, hp, List.flatMap_append, ih, List.flatMap_cons, List.flatMap_cons, List.flatMap_nil, List.append_nil]
    congr 1
    unfold segOut
    cases p.quoted <;> simp
theorem texts_mem (vars : List VarD) (args : List (List UInt8)) : ∀ (ps : List PartS), (∀ p ∈ ps, p.kind = 0) → ∀ sg ∈ ps.flatMap (partSegs vars args), sg.text.length ≤ (ps.flatMap (·.text)).length
  | [], _, sg, h => by simp at h
  | p :: ps, hk, sg, h => by
    have hk0 := hk p (List.mem_cons_self ..)
    have hp : partSegs vars args p = [⟨if p.quoted then 1 else 0, p.text⟩] := by unfold partSegs; rw [if_neg (by rw [hk0]; decide)]
    rw [List.flatMap_cons, List.length_append]
    rw [List.flatMap_cons, hp] at h
    rcases List.mem_append.1 h with h | h
    · obtain rfl := List.mem_singleton.1 h
      show p.text.length ≤ _
      omega
    · have := texts_mem vars args ps (fun q hq => hk q (List.mem_cons_of_mem _ hq)) sg h
      omega
theorem madeVars_len (A B D F : UInt8) : (madeVars A B D F).length ≤ 3 := by unfold madeVars; split <;> simp
theorem pickV_len (c : UInt8) : (pickV c).length ≤ 3 := by
  have h := strs_get c
  unfold pickV
  have h9 : c.toNat % 9 < 9 := Nat.mod_lt _ (by decide)
  generalize c.toNat % 9 = k at h9
  have : k = 0 ∨ k = 1 ∨ k = 2 ∨ k = 3 ∨ k = 4 ∨ k = 5 ∨ k = 6 ∨ k = 7 ∨ k = 8 := by omega
  rcases this with rfl | rfl | rfl | rfl | rfl | rfl | rfl | rfl | rfl <;> decide
theorem madeArgs_len (A B C : UInt8) : (madeArgs A B C).length ≤ 2 ∧ slen (madeArgs A B C) ≤ 6 := by
  have h1 := pickV_len A
  have h2 := pickV_len B
  have hc : C.toNat % 3 = 0 ∨ C.toNat % 3 = 1 ∨ C.toNat % 3 = 2 := by omega
  unfold madeArgs
  rcases hc with h | h | h <;> rw [h] <;> simp [slen] <;> omega

set_option maxRecDepth 100000 in
set_option maxHeartbeats 2000000 in
theorem plain_true (s : List UInt8) (A B C D F : UInt8) (w : World) (hg : Glob w) (hs : s.length ≤ 1048576) :
    Calls Tryz.prog 4 #[S s, .agg #[B8 A, B8 B, B8 C, B8 D, B8 F]] w fun e w' => e = .returned (.bool true) ∧ Below w.heap.size w w' := by
  have hB0 : Below w.heap.size w (w.alloc (.cells #[B8 A, B8 B, B8 C, B8 D, B8 F] 49)) := (Below.refl _ w).alloc (Nat.le_refl _) _
  have p0 := blk_new w (.cells #[B8 A, B8 B, B8 C, B8 D, B8 F] 49)
  have hg0 := hg.ext hB0
  clear hg
  go_enter Tryz.func4, Tryz.ntmps4
  go_wp2_with fail
  refine (awake_true _ hg0).mono ?_
  rintro e w1 ⟨rfl, hb1⟩
  have q1 := blk_ext hb1 p0
  have hg1 := hg0.ext hb1
  have hB1 := hB0.trans (hb1.mono hB0.size)
  clear p0 hg0 hB0 hb1
  go_wp2_with fail
  refine (parse_any s _ hs).mono ?_
  rintro e w2 ⟨v, ts, err, rfl, ht, hok, hb2⟩
  obtain ⟨ps, hra, hrows⟩ := ht
  obtain ⟨va, vc, rfl⟩ := hra.1.slice
  have q2 := blk_ext hb2 q1
  have hg2 := hg1.ext hb2
  have hB2 := hB1.trans (hb2.mono hB1.size)
  clear q1 hg1 hB1 hb2
  by_cases herr : err = 0
  rotate_left
  · have herr1 : (err == 0) = false := by rw [beq_eq_false_iff_ne]; exact herr
    have herr2 : (err != 0) = true := by rw [bne_iff_ne]; exact herr
    clear hok hra hrows
    go_wp2_with fail
    go_ret
    exact ⟨rfl, hB2⟩
  · subst herr
    obtain ⟨_, hsz⟩ := hok rfl
    clear hok
    by_cases hlen : s.length ≤ 200
    rotate_left
    · have hl' : (200 : Int) < s.length := by omega
      clear hra hrows hsz
      go_wp2_with fail
      go_ret
      exact ⟨rfl, hB2⟩
    · have hl' : (s.length : Int) ≤ 200 := by omega
      have hpl : ps.length ≤ 400 := by
        have h1 := PT.rows_len hrows
        have h2 := PT.len_sizes ts
        omega
      have htx : (ps.flatMap (·.text)).length ≤ 400 := by have := rows_texts hrows; omega
      have HR := Lib.hid (And.intro hra (And.intro hrows htx))
      clear hra hrows hsz htx hlen
      go_wp2_with fail
      go_loopw [8, 9] (fun t i wr => ∃ k : Nat, k ≤ ps.length ∧ i = I k ∧ t = S ((ps.take k).flatMap (·.text)) ∧ Hid (∀ p ∈ ps.take k, p.kind = 0) ∧ w2 = wr) (fun _ i _ => ps.length - (intOf i).toNat)
      case atStart => exact ⟨0, by omega, rfl, rfl, Lib.hid (by simp), rfl⟩
      case round =>
        obtain ⟨k, hk, rfl, rfl, hK, rfl⟩ := hrel
        by_cases hlt : k < ps.length
        · obtain ⟨a', c', hv', _, hcs⟩ := part_cell HR.out.1.1
          obtain ⟨b, o, rfl, hb, c0, c1, c2, c3, c4, c5⟩ := hcs k hlt
          cases hv'
          have c2' : w2.cell? ⟨b, o + k * 6 + 2, none⟩ = some (S ps[k].text) := c2
          have hsn := flat_snoc (·.text) ps k hlt
          have hle := flat_le (·.text) ps k hlt
          have htk : ps.take (k + 1) = ps.take k ++ [ps[k]] := List.take_succ_eq_append_getElem hlt
          have HS := Lib.hid (And.intro hsn htk)
          clear hsn htk c1 c2 c3 c4 c5 hcs
          have hbd : ((ps.take k).flatMap (·.text)).length + ps[k].text.length ≤ 400 := Nat.le_trans hle HR.out.2.2
          clear hle
          generalize hpk : ps[k] = p at *
          clear hpk
          generalize (ps.take k).flatMap (·.text) = T at *
          obtain ⟨kd, qq, tx, nm, op, wd⟩ := p
          dsimp only at c0 c2' hbd HS
          cases hkd : (kd != 0) with
          | true =>
            go_wp2_with fail
            go_ret
            exact ⟨rfl, hB2⟩
          | false =>
            have hk0 : kd = 0 := by simpa using hkd
            have hK' : Hid (∀ p ∈ ps.take (k + 1), p.kind = 0) := Lib.hid (by
              rw [HS.out.2]
              intro p hp
              rcases List.mem_append.1 hp with h | h
              · exact hK.out p h
              · obtain rfl := List.mem_singleton.1 h; exact hk0)
            have hll : ¬ 9223372036854775807 < T.length + tx.length := by omega
            have happ : (ByteArray.mk T.toArray ++ ByteArray.mk tx.toArray) = ByteArray.mk (T ++ tx).toArray := by apply ByteArray.ext; simp
            clear hk0 hbd
            go_wp2_with fail
            go_roundw
            case rel => exact ⟨k + 1, by omega, by go_num, by rw [HS.out.1], hK', by trivial⟩
            case measure => simp [intOf]; omega
        · obtain rfl : k = ps.length := by omega
          rw [List.take_length] at hK
          rw [List.take_length]
          have hj := joined_texts (madeVars A B D F) (madeArgs A B C) ps hK.out
          have htl := HR.out.2.2
          generalize hTX : ps.flatMap (·.text) = TX at *
          have HJ := Lib.hid (And.intro hj hTX)
          clear hj hTX
          have c0 : w2.cell? ⟨w.heap.size, 0, none⟩ = some (B8 A) := (blk_cell q2 0).trans rfl
          have c1 : w2.cell? ⟨w.heap.size, 1, none⟩ = some (B8 B) := (blk_cell q2 1).trans rfl
          have c2 : w2.cell? ⟨w.heap.size, 2, none⟩ = some (B8 C) := (blk_cell q2 2).trans rfl
          have c3 : w2.cell? ⟨w.heap.size, 3, none⟩ = some (B8 D) := (blk_cell q2 3).trans rfl
          have c4 : w2.cell? ⟨w.heap.size, 4, none⟩ = some (B8 F) := (blk_cell q2 4).trans rfl
          go_wp2_with fail
          refine (made_any A B C D F _).mono ?_
          rintro e w3 ⟨vv, av, rfl, hvv, hav, hb3⟩
          obtain ⟨xa, xc, rfl⟩ := hvv.slice
          obtain ⟨ya, yc, rfl⟩ := hav.slice
          have q3 := blk_ext hb3 q2
          have hg3 := hg2.ext hb3
          have hB3 := hB2.trans (hb3.mono hB2.size)
          have hv3 := (HR.out.1.1.ext hb3).top
          have hml := madeVars_len A B D F
          obtain ⟨hal, hasl⟩ := madeArgs_len A B C
          have hjl := join_len (madeArgs A B C)
          clear c0 c1 c2 c3 c4 hb3
          have hm := texts_mem (madeVars A B D F) (madeArgs A B C) ps hK.out
          rw [HJ.out.2] at hm
          have HM := Lib.hid hm
          clear hm
          go_wp2_with fail
          refine (text_any (.slice xa (madeVars A B D F).length xc) (.slice ya (madeArgs A B C).length yc) NilS _ ⟨madeVars A B D F, madeArgs A B C, D.toNat, [], []⟩ ps false w3 hg3 hvv hav (Sl.nil _ _ _ _) hv3 (fun p hp => ⟨PT.rows_word HR.out.2.1 p hp, .inl (hK.out p hp)⟩) (by dsimp only; omega) (by dsimp only; omega) (by dsimp only; exact Nat.le_trans (Nat.mul_le_mul (show _ ≤ 5 by omega) hpl) (by decide)) (fun sg hsg => Nat.le_trans (HM.out sg hsg) (by omega)) (by dsimp only; rw [HJ.out.1]; omega)).mono ?_
          rintro e w4 ⟨vv', av', rfl, hv4, ha4, hb4⟩
          dsimp only
          rw [HJ.out.1]
          dsimp only at hv4 ha4
          obtain ⟨xa', xc', rfl⟩ := hv4.slice
          obtain ⟨ya', yc', rfl⟩ := ha4.slice
          have q4 := blk_ext hb4 q3
          have hB4 := hB3.trans (hb4.mono hB3.size)
          clear hb4 hB3 hg3 hv3 q3 HM hvv hav
          go_wp2_with fail
          have q5 := blk_alloc q4 (.cells #[.slice xa' (madeVars A B D F).length xc', .slice ya' (madeArgs A B C).length yc', I D.toNat] 30)
          have y5 := blk_new w4 (.cells #[.slice xa' (madeVars A B D F).length xc', .slice ya' (madeArgs A B C).length yc', I D.toNat] 30)
          have hv5 := (hv4.ext ((Below.refl _ w4).alloc (Nat.le_refl _) (.cells #[.slice xa' (madeVars A B D F).length xc', .slice ya' (madeArgs A B C).length yc', I D.toNat] 30))).top
          have ha5 := (ha4.ext ((Below.refl _ w4).alloc (Nat.le_refl _) (.cells #[.slice xa' (madeVars A B D F).length xc', .slice ya' (madeArgs A B C).length yc', I D.toNat] 30))).top
          have hB5 := hB4.alloc hB4.size (.cells #[.slice xa' (madeVars A B D F).length xc', .slice ya' (madeArgs A B C).length yc', I D.toNat] 30)
          clear hv4 ha4 q4 hB4
          generalize w4.alloc (.cells #[.slice xa' (madeVars A B D F).length xc', .slice ya' (madeArgs A B C).length yc', .int .i64 D.toNat] 30) = W5 at *
          generalize w4.heap.size = b11 at *
          have l11 := blk_lt y5
          have l1 := blk_lt q5
          have y0 : W5.cell? ⟨b11, 0, none⟩ = some (.slice xa' (madeVars A B D F).length xc') := (blk_cell y5 0).trans rfl
          have y1 : W5.cell? ⟨b11, 1, none⟩ = some (.slice ya' (madeArgs A B C).length yc') := (blk_cell y5 1).trans rfl
          have y2 : W5.cell? ⟨b11, 2, none⟩ = some (I D.toNat) := (blk_cell y5 2).trans rfl
          have c0 : W5.cell? ⟨w.heap.size, 0, none⟩ = some (B8 A) := (blk_cell q5 0).trans rfl
          have c1 : W5.cell? ⟨w.heap.size, 1, none⟩ = some (B8 B) := (blk_cell q5 1).trans rfl
          have c2 : W5.cell? ⟨w.heap.size, 2, none⟩ = some (B8 C) := (blk_cell q5 2).trans rfl
          have c3 : W5.cell? ⟨w.heap.size, 3, none⟩ = some (B8 D) := (blk_cell q5 3).trans rfl
          have c4 : W5.cell? ⟨w.heap.size, 4, none⟩ = some (B8 F) := (blk_cell q5 4).trans rfl
          go_region_held3 (fun w' => w'.cell? ⟨b11, 0, none⟩ = some (.slice xa' (madeVars A B D F).length xc') ∧ w'.cell? ⟨b11, 1, none⟩ = some (.slice ya' (madeArgs A B C).length yc') ∧ w'.cell? ⟨b11, 2, none⟩ = some (I D.toNat) ∧ w'.cell? ⟨w.heap.size, 0, none⟩ = some (B8 A) ∧ w'.cell? ⟨w.heap.size, 1, none⟩ = some (B8 B) ∧ w'.cell? ⟨w.heap.size, 2, none⟩ = some (B8 C) ∧ w'.cell? ⟨w.heap.size, 3, none⟩ = some (B8 D) ∧ w'.cell? ⟨w.heap.size, 4, none⟩ = some (B8 F)) (go_keep) (first | (go_at_call 15; refine (made_any A B C D F _).mono ?_; rintro e w6 ⟨v6, a6, rfl, hv6, ha6, hb6⟩; obtain ⟨x6, z6, rfl⟩ := hv6.slice; obtain ⟨y6, z7, rfl⟩ := ha6.slice; have hbX : Below W5.heap.size W5 w6 := (Below.trans (by repeat (first | exact Below.refl _ _ | apply Below.drew)) (hb6.mono (by simp))); have j0 := (hbX.cell (p := ⟨b11, 0, none⟩) l11).trans y0; have j1 := (hbX.cell (p := ⟨b11, 1, none⟩) l11).trans y1; have j2 := (hbX.cell (p := ⟨b11, 2, none⟩) l11).trans y2; have i0 := (hbX.cell (p := ⟨w.heap.size, 0, none⟩) l1).trans c0; have i1 := (hbX.cell (p := ⟨w.heap.size, 1, none⟩) l1).trans c1; have i2 := (hbX.cell (p := ⟨w.heap.size, 2, none⟩) l1).trans c2; have i3 := (hbX.cell (p := ⟨w.heap.size, 3, none⟩) l1).trans c3; have i4 := (hbX.cell (p := ⟨w.heap.size, 4, none⟩) l1).trans c4) | (go_at_call 13; refine (same_shell _ _ _ _ (madeVars A B D F) (madeArgs A B C) D.toNat _ _ _ _ _ (hv5.ext (Below.trans hbX (by repeat (first | exact Below.refl _ _ | apply Below.drew)))) (hv6.ext (by repeat (first | exact Below.refl _ _ | apply Below.drew))) (by omega) (ha5.ext (Below.trans hbX (by repeat (first | exact Below.refl _ _ | apply Below.drew)))) (ha6.ext (by repeat (first | exact Below.refl _ _ | apply Below.drew))) (by omega)).mono ?_; rintro e w7 ⟨rfl, hb7⟩; have hbY : Below W5.heap.size W5 w7 := Below.trans (Below.trans hbX (by repeat (first | exact Below.refl _ _ | apply Below.drew))) (hb7.mono (by have := hbX.size; first | omega | (simp; omega))); have o0 := (hbY.cell (p := ⟨b11, 0, none⟩) l11).trans y0; have o1 := (hbY.cell (p := ⟨b11, 1, none⟩) l11).trans y1; have o2 := (hbY.cell (p := ⟨b11, 2, none⟩) l11).trans y2; have o3 := (hbY.cell (p := ⟨w.heap.size, 0, none⟩) l1).trans c0; have o4 := (hbY.cell (p := ⟨w.heap.size, 1, none⟩) l1).trans c1; have o5 := (hbY.cell (p := ⟨w.heap.size, 2, none⟩) l1).trans c2; have o6 := (hbY.cell (p := ⟨w.heap.size, 3, none⟩) l1).trans c3; have o7 := (hbY.cell (p := ⟨w.heap.size, 4, none⟩) l1).trans c4))
          all_goals
            have hB7 := hB5.trans (hbY.mono hB5.size)
            clear y0 y1 y2 c0 c1 c2 c3 c4 j0 j1 j2 i0 i1 i2 i3 i4 o0 o1 o2 o3 o4 o5 o6 o7
            go_wp2_with fail
            go_ret
            exact ⟨rfl, by repeat (first | exact hB7 | apply Below.drew)⟩
end Go.Proofs.YtdffbbfhcdhpdaaGreatDoor
