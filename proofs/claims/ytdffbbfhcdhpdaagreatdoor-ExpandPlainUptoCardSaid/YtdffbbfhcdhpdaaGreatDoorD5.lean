/- law16.awake. -/
import Derived.Test.YtdffbbfhcdhpdaaGreatDoorD4
namespace Go.Proofs.YtdffbbfhcdhpdaaGreatDoor
open Go.RowKit

abbrev awakeVars : List VarD := [⟨[120], [49, 32, 50], false, false⟩]
theorem awake_fields : fieldsOf (ifsOf awakeVars) (awakeParts.flatMap (partSegs awakeVars [])) = [[97, 49], [50, 92, 49, 92, 32, 92, 50]] := by decide +kernel
theorem awake_size : splSize (awakeParts.flatMap (partSegs awakeVars [])) ≤ 1073741824 := by decide +kernel
theorem awake_segs : awakeParts.flatMap (partSegs [] []) = [⟨0, [97]⟩, ⟨2, []⟩, ⟨1, []⟩] := by
  have h : vget [] [120] = varZero := rfl
  simp [partSegs, paramSegs, h, PartS.seg]
theorem awake_joined : joined (awakeParts.flatMap (partSegs [] [])) false = [97] := by rw [awake_segs]; decide +kernel
theorem awake_ok (vars : List VarD) (h : VMono vars [120]) : ∀ p ∈ awakeParts, PartOk vars p := by
  have hn : nameOf [120] ≠ [] := by decide
  intro p hp
  simp only [List.mem_cons, List.not_mem_nil, or_false] at hp
  rcases hp with rfl | rfl | rfl
  · exact ⟨⟨_, _, _, rfl⟩, .inl rfl⟩
  · exact ⟨⟨_, _, _, rfl⟩, .inr ⟨rfl, rfl, .inr ⟨hn, by simp, h⟩⟩⟩
  · exact ⟨⟨_, _, _, rfl⟩, .inr ⟨rfl, rfl, .inr ⟨hn, by simp, h⟩⟩⟩
theorem vmono_one (v : VarD) (n : List UInt8) : VMono [v] n := by
  intro t u hu htu hc
  have h0 : u = 0 := by simpa using htu
  subst h0
  obtain rfl : t = 0 := by omega
  exact hc
theorem vmono_nil (n : List UInt8) : VMono [] n := by
  intro t u hu htu hc
  simp at htu
theorem Sl.one (w : World) (T : TypeId) (l : List Value) (k : Nat) (hk : l.length = k) (hm : 1 ≤ maxLen := by unfold maxLen; decide) : Sl (w.alloc (.cells l.toArray T)).heap.size T (w.alloc (.cells l.toArray T)) (.slice (some ⟨w.heap.size, 0, none⟩) 1 1) 1 k l := by
  refine ⟨by omega, .inr ⟨_, 0, 1, rfl, Nat.le_refl _, hm, by simp, .inl (by simp), fun j u hj => ?_⟩⟩
  rw [blk_cell (blk_new w _), Nat.zero_add]
  simpa using hj

theorem Sl.new {w : World} {b : Nat} (hb : b = w.heap.size) (T : TypeId) (xs : List Value) (n k : Nat) (hk : xs.length = n * k) (hm : n ≤ maxLen) : Sl (w.alloc (.cells xs.toArray T)).heap.size T (w.alloc (.cells xs.toArray T)) (.slice (some ⟨b, 0, none⟩) n n) n k xs := by
  subst hb
  refine ⟨hk, .inr ⟨_, 0, n, rfl, Nat.le_refl _, hm, by simp, .inl (by simp), fun j u hj => ?_⟩⟩
  rw [blk_cell (blk_new w _), Nat.zero_add]
  simpa using hj
set_option maxRecDepth 100000 in
set_option maxHeartbeats 1000000 in
theorem awake_true (w : World) (hg : Glob w) : Calls Tryz.prog 8 #[] w fun e w' => e = .returned (.bool true) ∧ Below w.heap.size w w' := by
  have A := Lib.hid (And.intro awake_fields (And.intro awake_size awake_joined))
  go_enter Tryz.func8, Tryz.ntmps8
  go_wp2_with fail
  refine (begun_zero _).mono ?_
  rintro e w1 ⟨b, c, rfl, hbl, hcb, hb1⟩
  go_wp2_with fail
  refine (parse_awake _).mono ?_
  rintro e w2 ⟨r, rfl, hr, hb2⟩
  obtain ⟨ra, rc, rfl⟩ := ownsRow_slice hr
  have hcb2 : w2.cell? ⟨b, 1, none⟩ = some (Ptr c) := (hb2.cell (p := ⟨b, 1, none⟩) hbl).trans hcb
  have hB2 := hb1.trans (hb2.mono hb1.size)
  have hr2 := Sl.of_owns (B := w2.heap.size) hr
  have hg2 := hg.ext hB2
  clear hb1 hb2 hr hcb
  go_wp2_with fail
  have hB3 : Below w2.heap.size w2 (w2.alloc (.cells #[S [120], S [49, 32, 50], .bool false, .bool false] 27)) := (Below.refl _ w2).alloc (Nat.le_refl _) _
  refine (fieldsAll_any (.slice (some ⟨w2.heap.size, 0, none⟩) 1 1) NilS NilS (.slice ra 3 rc) (Ptr c) ⟨awakeVars, [], 0, [], []⟩ awakeParts _ (hg2.ext hB3) (Sl.one w2 27 [S [120], S [49, 32, 50], .bool false, .bool false] 4 rfl) (Sl.nil _ _ _ _) (Sl.nil _ _ _ _) (hr2.ext hB3).top
    (awake_ok _ (vmono_one _ _)) (by simp) (by simp [Lib.join]) (by simp) (vmono_one _ _) A.out.2.1 ?hng ?hfl).mono ?_
  case hng =>
    rw [A.out.1]
    intro f hf
    simp only [List.mem_cons, List.not_mem_nil, or_false] at hf
    rcases hf with rfl | rfl <;> exact ⟨.inl (by decide), by simp⟩
  case hfl => rw [A.out.1]; simp
  rintro e w3 ⟨r1, vv, av, rfl, hr1, hv1, ha1, hb3⟩
  have hr2' : Sl w3.heap.size 9 w3 r1 ([[97, 49], [50, 49, 32, 50]] : List (List UInt8)).length 1 (([[97, 49], [50, 49, 32, 50]] : List (List UInt8)).map S) := by
    have e := A.out.1
    dsimp only at hr1
    rw [e] at hr1
    exact hr1
  have hB4 := hB3.trans (hb3.mono hB3.size)
  have hB5 := hB2.trans (hB4.mono hB2.size)
  have hg3 := hg2.ext hB4
  have hr3 := hr2.ext hB4
  obtain ⟨a1, c1, rfl⟩ := hr2'.slice
  obtain ⟨a2, c2, rfl⟩ := hv1.slice
  obtain ⟨a3, c3, rfl⟩ := ha1.slice
  clear hr1 hv1 ha1 hb3 hB3 hB2 hg2 hr2 hcb2 hB4
  go_wp2_with fail
  have hB6 : Below w3.heap.size w3 (w3.alloc (.cells #[.slice a2 1 c2, .slice a3 0 c3, .int .i64 0] 30)) := (Below.refl _ w3).alloc (Nat.le_refl _) _
  refine (text_any NilS NilS NilS (.slice ra 3 rc) ⟨[], [], 3, [], []⟩ awakeParts false _ (hg3.ext hB6) (Sl.nil _ _ _ _) (Sl.nil _ _ _ _) (Sl.nil _ _ _ _) (hr3.ext hB6).top (awake_ok _ (vmono_nil _)) (by simp) (by simp [Lib.join]) (by simp) ?ht ?hjl).mono ?_
  case ht =>
    intro s hs
    rw [awake_segs] at hs
    simp only [List.mem_cons, List.not_mem_nil, or_false] at hs
    rcases hs with rfl | rfl | rfl <;> simp
  case hjl => rw [A.out.2.2]; simp
  rintro e w4 ⟨vv, av, rfl, hv4, ha4, hb4⟩
  have e3 := A.out.2.2
  dsimp only
  rw [e3]
  obtain ⟨a5, c5, rfl⟩ := hv4.slice
  obtain ⟨a6, c6, rfl⟩ := ha4.slice
  have hB7 := hB6.trans (hb4.mono hB6.size)
  have hB8 := hB5.trans (hB7.mono hB5.size)
  have hs1 := hr2'.ext hB7
  clear hv4 ha4 hb4 hB6 hB7 hB5 hr2' hr3 hg3 e3 A
  go_wp2_with fail
  have hB9 : Below w4.heap.size w4 ((w4.alloc (.cells #[.slice a5 0 c5, .slice a6 0 c6, .int .i64 3] 30)).alloc (.cells #[S [97, 49], S [50, 49, 32, 50]] 9)) := ((Below.refl _ w4).alloc (Nat.le_refl _) _).alloc (by simp) _
  have hB10 := hB8.trans (hB9.mono hB8.size)
  refine (same_str _ _ _ _ [[97, 49], [50, 49, 32, 50]] _ (hs1.ext hB9) (Sl.new (b := w4.heap.size + 1) (by simp) 9 [S [97, 49], S [50, 49, 32, 50]] 2 1 rfl (by unfold maxLen; decide)) (by simp)).mono ?_
  rintro e w5 ⟨rfl, hb5⟩
  have hB11 := hB10.trans (hb5.mono hB10.size)
  clear hB10 hb5 hB9 hB8 hs1
  go_wp2_with fail
  go_ret
  exact ⟨rfl, hB11⟩
end Go.Proofs.YtdffbbfhcdhpdaaGreatDoor
