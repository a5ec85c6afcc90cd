/- ExpandPlain: for every text and every five numbers that are together of bulk at most 1048576 (the second form) the law returns true and its arguments read as before (the row), and the card over it. Conditions: those of the given row (the bound; the listed variables of Go's library hold what the text lays), nothing else. -/
import Derived.Test.YtdffbbfhcdhpdaaGreatDoorG1
import Derived.Test.YtdffbbfhcdhpdaaGreatDoorG3
import Derived.Test.YtdffbbfhcdhpdaaGreatDoorTie
import Derived.ProofKit
import Derived.OpenShut
import Derived.SizedLaws
import Derived.Deep.DeepHandedRow
import Derived.Deep.DeepWitnessRowRef
import Derived.Lib.LaidIn
import Derived.Shelf.Vars
namespace Go.Proofs.YtdffbbfhcdhpdaaGreatDoor
open Go.ChangeShapes Go.WideShapes Go.ChangeAt Go.RowKit
open Go.ChangeMaps (open_string shut_string)
set_option maxRecDepth 100000

theorem own : ownKnob Tryz.prog.godebug = none := by kernel_rfl
theorem laidOut : laidOutB Tryz.prog = true := by kernel_rfl
/-- The variable of the library's own that lies first holds some number. -/
theorem glob_of_shaped {W : World} (h : W.ShapedOpen Tryz.prog) : Glob W :=
  cell_of_shapedOpen_int (g := 0) (t := 3) (zero := #[.int .i64 0]) h (of_decide_eq_true (by kernel_rfl)) (by kernel_rfl) rfl (by kernel_rfl) (by kernel_rfl) Tryz.underlying3
theorem okU8 {W : World} {base : Nat} {v : Value} (h : Cell.okWide Tryz.prog W .any base 5 v) : ∃ A : UInt8, v = B8 A := by
  simp only [Cell.okWide, Cell.ok, Tryz.underlying5] at h
  cases v with
  | int k n =>
    simp only [IntKind.has] at h
    obtain ⟨rfl, h1, h2⟩ := h
    have h3 : (0 : Int) ≤ n := h1
    have h4 : n ≤ 255 := h2
    refine ⟨UInt8.ofNat n.toNat, ?_⟩
    have : (UInt8.ofNat n.toNat).toNat = n.toNat := by
      rw [UInt8.toNat_ofNat']; omega
    rw [B8, this]
    congr 1; omega
  | _ => simp at h
/-- Five numbers that came in. -/
theorem open_bit {W : World} {base : Nat} {v : Value} (h : Value.okWide Tryz.prog W .any base 49 v) : ∃ A B C D F : UInt8, v = .agg #[B8 A, B8 B, B8 C, B8 D, B8 F] := by
  simp only [Value.okWide, Tryz.underlying49] at h
  obtain ⟨cs, rfl, hsz, ts, hts, _, hall⟩ := h
  have ht : Tryz.prog.cellTypes Tryz.prog.depth 49 = some [5, 5, 5, 5, 5] := by kernel_rfl
  have hc : Tryz.prog.cellsOf 49 = 5 := by kernel_rfl
  rw [ht] at hts
  cases hts
  rw [hc] at hsz
  obtain ⟨l⟩ := cs
  match l, hsz with
  | [v0, v1, v2, v3, v4], _ =>
    have key : ∀ (i : Nat) (u : Value), i < 5 → ([v0, v1, v2, v3, v4].toArray)[i]? = some u → ∃ A : UInt8, u = B8 A := by
      intro i u hi hu
      obtain ⟨t, ht, hok⟩ := hall i u hu
      have ht5 : t = 5 := by
        have h5 : i % 5 = i := Nat.mod_eq_of_lt hi
        have ht' : ([5, 5, 5, 5, 5] : List TypeId)[i % 5]? = some t := ht
        rw [h5] at ht'
        have : i = 0 ∨ i = 1 ∨ i = 2 ∨ i = 3 ∨ i = 4 := by omega
        rcases this with rfl | rfl | rfl | rfl | rfl <;> (simp at ht'; exact ht'.symm)
      subst ht5
      exact okU8 hok
    obtain ⟨A, rfl⟩ := key 0 v0 (by decide) rfl
    obtain ⟨B, rfl⟩ := key 1 v1 (by decide) rfl
    obtain ⟨C, rfl⟩ := key 2 v2 (by decide) rfl
    obtain ⟨D, rfl⟩ := key 3 v3 (by decide) rfl
    obtain ⟨F, rfl⟩ := key 4 v4 (by decide) rfl
    exact ⟨A, B, C, D, F, rfl⟩

theorem plain_contract (H : Type) (enc : TypeId × Value → H) (W : World) (base : Nat) (args : Array Value) (ds gs : List (DataW H)) (before : List MemPlace)
    (hval : ∀ (j : Nat) t v, (Tryz.f4).params[j]? = some t → args[j]? = some v → Value.okWide Tryz.prog W .any base t v)
    (hW : DataW.Whole enc Tryz.prog (Tryz.f4).params.toList Rows.expandPlainSpec.vars false W args.toList ds gs before)
    (hk : Rows.uptoSmall H (ds ++ gs) = true) (hG : Glob W) :
    Calls Tryz.prog 4 args W fun e W' => ∃ v, e = .returned v ∧ Rows.expandPlainSpec.post enc Tryz.prog Tryz.f4 false true false false W args v W' := by
  have hW' := hW
  obtain ⟨p, q, hA0, hV, rfl, hfz, hnd⟩ := hW
  have hA : DataW.TrodAll enc Tryz.prog W 0 (fun _ => true) true (Tryz.f4).params.toList args.toList ds p := hA0
  rw [Tryz.params4] at hA hval
  obtain ⟨v0, v1, d0, d1, p0, p1, hargs, rfl, rfl, h0, h1⟩ := trodAll_two hA
  obtain rfl : args = #[v0, v1] := by cases args; simp_all
  obtain ⟨rfl, rfl⟩ := trodVars_none hV
  obtain ⟨s, rfl, rfl, rfl, hmax⟩ := open_string Tryz.underlying9 (hval 0 9 v0 rfl rfl) h0
  obtain ⟨A, B, C, D, F, rfl⟩ := open_bit (hval 1 49 v1 rfl rfl)
  clear hA0 hval
  simp only [List.append_nil, List.nil_append] at hW' hk
  have hlt : ∀ x ∈ p1, x.block < W.heap.size := fun x hx => by simpa using hW'.lt x (by simpa using hx)
  have hs : s.data.toList.length ≤ 1048576 := by
    have h := of_decide_eq_true hk
    simp only [Rows.uptoBulkAll, Rows.uptoBulk] at h
    omega
  have key := plain_true s.data.toList A B C D F W hG hs
  refine Calls.mono key fun e W' ⟨he, hb⟩ => ?_
  subst he
  refine ⟨_, rfl, _, _, _, [], [] ++ p1, [], hW', ?_, ?_, rfl, hb.frame _, fun h => by cases h⟩
  · exact trodAll_mk1 (shut_bool Tryz.underlying4 true)
  · exact trodAll_cons_mk (shut_string Tryz.underlying9 hmax) (trodAll_mk1 (Below.trod laidOut (by kernel_rfl) (of_decide_eq_true (by kernel_rfl)) h1 hb hlt))

/-- A world for the witness: the settled one, the listed variables holding what their initialisers lay. -/
noncomputable def laidWorld (os : Os) : World :=
  let N := (World.settled Tryz.prog os).heap.size
  let w0 := World.holding Tryz.prog os ⟨#[.cells #[S [105, 110, 118, 97, 108, 105, 100, 32, 115, 121, 110, 116, 97, 120]] 338, .cells #[S [118, 97, 108, 117, 101, 32, 111, 117, 116, 32, 111, 102, 32, 114, 97, 110, 103, 101]] 338], #[], []⟩
  let put (h : Array Obj) (g : Nat) (cs : Array Value) : Array Obj := h.modify g fun
    | .cells _ t frozen => .cells cs t frozen
    | o => o
  let h1 := put w0.heap 1 (Go.Pinned.utf8FirstZ.map fun (z : Nat) => Value.int .u8 z).toArray
  let h2 := put h1 2 (([128, 191, 160, 191, 128, 159, 144, 191, 128, 143, 0, 0, 0, 0, 0, 0, 0, 0, 0, 0, 0, 0, 0, 0, 0, 0, 0, 0, 0, 0, 0, 0] : List Int).map fun z => Value.int .u8 z).toArray
  let h3 := put h2 3 #[.iface 336 (.pointer (some ⟨N, 0, none⟩))]
  let h4 := put h3 4 #[.iface 336 (.pointer (some ⟨N + 1, 0, none⟩))]
  let h5 := put h4 5 (([1, 10, 100, 1000, 10000, 100000, 1000000, 10000000, 100000000, 1000000000, 10000000000, 100000000000, 1000000000000, 10000000000000, 100000000000000, 1000000000000000, 10000000000000000, 100000000000000000, 1000000000000000000, 10000000000000000000] : List Int).map fun z => Value.int .u64 z).toArray
  let h6 := put h5 6 (([0, 1, 28, 2, 29, 14, 24, 3, 30, 22, 20, 15, 25, 17, 4, 8, 31, 27, 13, 23, 21, 19, 16, 7, 26, 12, 18, 6, 11, 5, 10, 9] : List Int).map fun z => Value.int .u8 z).toArray
  let h7 := put h6 7 (([0, 1, 56, 2, 57, 49, 28, 3, 61, 58, 42, 50, 38, 29, 17, 4, 62, 47, 59, 36, 45, 43, 51, 22, 53, 39, 33, 30, 24, 18, 12, 5, 63, 55, 48, 27, 60, 41, 37, 16, 46, 35, 44, 21, 52, 32, 23, 11, 54, 26, 40, 15, 34, 20, 31, 10, 25, 14, 19, 9, 13, 8, 7, 6] : List Int).map fun z => Value.int .u8 z).toArray
  { w0 with heap := h7 }
theorem laid_met (os : Os) (args : Array Value) : laidMet Tryz.prog Rows.expandPlainUptoRow.laid ((laidWorld os).forCall (fun _ _ => 0) ⟨#[], args, []⟩).memory :=
  laidMet_of_run' 8 (by kernel_rfl) (by kernel_rfl)
theorem witness_row (os : Os) {H : Type} (enc : TypeId × Value → H) :
    (Rows.OpenSpec.upto Rows.expandPlainSpec).preRow enc Tryz.prog Tryz.f4 Rows.expandPlainUptoRow.domain false Rows.expandPlainUptoRow.laid ((laidWorld os).forCall (fun _ _ => 0) ⟨#[], #[.string ⟨#[]⟩, .agg #[.int .u8 0, .int .u8 0, .int .u8 0, .int .u8 0, .int .u8 0]], []⟩).memory #[.string ⟨#[]⟩, .agg #[.int .u8 0, .int .u8 0, .int .u8 0, .int .u8 0, .int .u8 0]] := by
  have hw : (DataW.whole enc Tryz.prog ((laidWorld os).forCall (fun _ _ => 0) ⟨#[], #[.string ⟨#[]⟩, .agg #[.int .u8 0, .int .u8 0, .int .u8 0, .int .u8 0, .int .u8 0]], []⟩).memory (Tryz.f4).params.toList Rows.expandPlainSpec.vars false #[Value.string ⟨#[]⟩, .agg #[.int .u8 0, .int .u8 0, .int .u8 0, .int .u8 0, .int .u8 0]].toList 8).map (fun x => (x.1, x.2.1)) =
      some ([.lit (.string []), .agg [.lit (.int .u8 0), .lit (.int .u8 0), .lit (.int .u8 0), .lit (.int .u8 0), .lit (.int .u8 0)]], []) := by kernel_rfl
  obtain ⟨⟨x1, x2, x3⟩, hx, hx1⟩ := Option.map_eq_some_iff.1 hw
  simp only [Prod.mk.injEq] at hx1
  obtain ⟨rfl, rfl⟩ := hx1
  exact OpenSpec.preRow_of_cond 8 hx (by kernel_rfl) (fun k hk => by cases hk; kernel_rfl) (by kernel_rfl) (laid_met os _)

set_option maxHeartbeats 2000000 in
theorem plain_lifted (os : Os) (started : os.Started) (H : Type) (enc : TypeId × Value → H) (F : Stop.Interp) :
    ReturnsInHanded {} Tryz.checked os 4 .any ((Rows.OpenSpec.upto Rows.expandPlainSpec).preRow enc Tryz.prog Tryz.f4 Rows.expandPlainUptoRow.domain false Rows.expandPlainUptoRow.laid) (((Rows.OpenSpec.upto Rows.expandPlainSpec).at F).post enc Tryz.prog Tryz.f4 false true false false) := by
  refine returnsInHanded_of_row (C := Tryz.checked) (s := Rows.OpenSpec.upto Rows.expandPlainSpec) own started (by kernel_rfl) Tryz.func4
    (witness_row_atRef (enc := enc) (C := Tryz.checked) false (laidWorld os) #[.string ⟨#[]⟩, .agg #[.int .u8 0, .int .u8 0, .int .u8 0, .int .u8 0, .int .u8 0]] rfl (by kernel_rfl) (by kernel_rfl) (by kernel_rfl) (witness_row os enc)) ?_
  intro W base args ds gs before hval hW _ hcond _ _ hshape _
  exact plain_contract H enc W base args ds gs before hval hW (hcond _ rfl) (glob_of_shaped hshape)

theorem plain_said : Rows.ExpandPlainUptoSaid :=
  OpenClaim.holds_of_cond 4 Tryz.f4 rfl rfl rfl rfl rfl rfl rfl ⟨rfl, rfl, rfl, rfl, rfl⟩ rfl rfl rfl rfl rfl plain_named Tryz.func4 plain_closed plain_inst plain_wrap
    (fun os started H enc _ F => by rw [OpenClaim.pre_eq_preRow]; exact plain_lifted os started H enc F)

/-- No parameter wants a stand-in. -/
theorem plain_plain (f : FuncId) (fn : Func) (hf : Tryz.pinned.checked.prog.funcNamed "scullion/scullionlaw16.ExpandPlain" = some f) (hfn : Tryz.pinned.checked.prog.funcs[f]? = some fn) :
    true = Tryz.pinned.checked.prog.looks [] ∧ ∀ (j : Nat) t, fn.params[j]? = some t → Tryz.pinned.checked.prog.wantsStandIn t = false := by
  obtain rfl : f = 4 := Option.some.inj ((show Tryz.prog.funcNamed "scullion/scullionlaw16.ExpandPlain" = some 4 by kernel_rfl).symm.trans hf) |>.symm
  obtain rfl : fn = Tryz.f4 := (Option.some.inj ((Tryz.func4).symm.trans hfn)).symm
  refine ⟨by kernel_rfl, fun j t ht => ?_⟩
  rw [Tryz.params4] at ht
  have h : t = 9 ∨ t = 49 := by simpa using Array.mem_of_getElem? ht
  rcases h with rfl | rfl
  · exact (show Tryz.prog.wantsStandIn 9 = false by kernel_rfl)
  · exact (show Tryz.prog.wantsStandIn 49 = false by kernel_rfl)

theorem expandPlain_card : Rows.ExpandPlainUptoCardSaid :=
  Claim7.holds_tied_plain_at .later [] _ _ _ _ plain_said (fun _ h => by cases h) (by kernel_rfl) (fun _ h => by cases h) expandPlainUpto_row_tie rfl ⟨rfl, rfl⟩ (by kernel_rfl) rfl plain_plain (by kernel_rfl)
#print axioms expandPlain_card
end Go.Proofs.YtdffbbfhcdhpdaaGreatDoor
