/- ExpandQuoted: for every text and every list of arguments the law returns true and its arguments read as before (the row), and the card over it. Conditions: those of the given row (the listed variables of Go's library hold what the text lays), nothing else. -/
import Derived.Test.YtdffbbfhcdhpdaaGreatDoorE0
import Derived.Test.YtdffbbfhcdhpdaaGreatDoorE2
import Derived.Test.YtdffbbfhcdhpdaaGreatDoorCards
import Derived.Test.YtdffbbfhcdhpdaaGreatDoorTie
import Derived.ProofKit
import Derived.OpenShut
import Derived.SizedLaws
import Derived.SliceStrings
import Derived.Deep.DeepHandedRow
import Derived.Deep.DeepWitnessRowRef
import Derived.Lib.LaidIn
import Derived.Shelf.Vars
namespace Go.Proofs.YtdffbbfhcdhpdaaGreatDoor
open Go.ChangeShapes Go.WideShapes Go.ChangeAt Go.RowKit
open Go.ChangeMaps (open_string shut_string)
set_option maxRecDepth 100000

theorem own : ownKnob Tryz.prog.godebug = none := by kernel_rfl
theorem laidOut : laidOutB Tryz.prog = true := by kernel_rfl
theorem cells9 : Tryz.prog.cellsOf 9 = 1 := by kernel_rfl
theorem bytes9 : Tryz.prog.bytesOf 9 = 16 := by kernel_rfl

/-- A slice that came in: where it lies. -/
theorem okWide_strs {W : World} {base : Nat} {a : Addr} {n c : Nat} (h : Value.okWide Tryz.prog W .any base 22 (.slice (some a) n c)) : a.spot = none ∧ a.block < W.heap.size := by
  simp only [Value.okWide, Tryz.underlying22, Cell.okWide, Cell.ok, World.has] at h
  obtain ⟨_, _, _, h1, row, cells, h2, _⟩ := h
  refine ⟨h1, ?_⟩
  unfold World.shape? at h2
  cases hb : W.heap[a.block]? with
  | none => simp [hb] at h2
  | some o => exact (Array.getElem?_eq_some_iff.1 hb).1
/-- The variable of the library's own that lies first holds some number. -/
theorem glob_of_shaped {W : World} (h : W.ShapedOpen Tryz.prog) : Glob W :=
  cell_of_shapedOpen_int (g := 0) (t := 3) (zero := #[.int .i64 0]) h (of_decide_eq_true (by kernel_rfl)) (by kernel_rfl) rfl (by kernel_rfl) (by kernel_rfl) Tryz.underlying3
theorem strs_weights {H : Type} : ∀ (ss : List ByteArray) (s : ByteArray), s ∈ ss → s.data.toList.length ∈ DataW.weightsAll Tryz.prog 9 (H := H) (strs ss)
  | [], _, h => by cases h
  | x :: r, s, h => by
    show s.data.toList.length ∈ DataW.weightsAll Tryz.prog 9 (H := H) (.lit (.string x.data.toList) :: strs r)
    simp only [DataW.weightsAll, DataW.weights, List.cons_append, List.nil_append, List.mem_cons]
    rcases List.mem_cons.1 h with rfl | h
    · exact .inl rfl
    · exact .inr (strs_weights r s h)

/-- A list of texts that came in. -/
theorem open_args {H : Type} {enc : TypeId × Value → H} {W : World} {base : Nat} {v : Value} {d : DataW H} {p : List MemPlace} (hval : Value.okWide Tryz.prog W .any base 22 v)
    (h : DataW.Trod enc Tryz.prog W 0 (fun _ => true) true 22 v d p) :
    ∃ al : List (List UInt8), Sl W.heap.size 9 W v al.length 1 (al.map S) ∧ (d = .nil ∧ al = [] ∨ ∃ (ss : List ByteArray) (len : Nat), d = .slice (strs (ss.take len)) (strs (ss.drop len)) ∧ al = (ss.take len).map (·.data.toList)) := by
  obtain ⟨a0, len, cap, rfl⟩ := okWide_slice Tryz.underlying22 hval
  obtain ⟨fuel, hf⟩ := h
  rcases open_strings Tryz.underlying22 Tryz.underlying9 cells9 hf with ⟨hcs, hx⟩ | ⟨a, len', cap', ss, hcs, _, hl, hm, hz, hx, hcell, hws⟩
  · simp [Value.cells] at hcs
    obtain ⟨rfl, rfl, rfl⟩ := hcs
    simp only [Prod.mk.injEq] at hx
    exact ⟨[], Sl.nil _ _ _ _, .inl ⟨hx.1, rfl⟩⟩
  · simp [Value.cells] at hcs
    obtain ⟨rfl, rfl, rfl⟩ := hcs
    simp only [Prod.mk.injEq] at hx
    simp only [if_true] at hz
    obtain ⟨hsp, hb⟩ := okWide_strs hval
    obtain ⟨b, off, spot⟩ := a
    obtain rfl : spot = none := hsp
    refine ⟨(ss.take len).map (·.data.toList), ⟨by simp, .inr ⟨b, off, cap, ?_, ?_, hm, hb, .inl hb, ?_⟩⟩, .inr ⟨ss, len, hx.1, rfl⟩⟩
    · rw [List.length_map, List.length_take, hz, Nat.min_eq_left hl]
    · rw [List.length_map, List.length_take, hz, Nat.min_eq_left hl]; exact hl
    · intro j u hu
      have hj : j < len := by
        have := (List.getElem?_eq_some_iff.1 hu).1
        simp at this; omega
      have h1 := hcell j (by omega)
      have h2 : (⟨b, off, none⟩ : Addr).add j = ⟨b, off + j, none⟩ := by unfold Addr.add; split <;> simp_all
      rw [h2] at h1
      rw [h1]
      simp only [List.getElem?_map, List.getElem?_take, if_pos hj] at hu
      have h3 : ss[j]? = some (ss.getD j ByteArray.empty) := by
        rw [List.getD_eq_getElem?_getD, List.getElem?_eq_getElem (by omega)]; rfl
      rw [h3] at hu
      simp only [Option.map_some, Option.some.injEq] at hu
      rw [← hu]

set_option maxRecDepth 100000 in
theorem quoted_contract (H : Type) (enc : TypeId × Value → H) (W : World) (base : Nat) (args : Array Value) (ds gs : List (DataW H)) (before : List MemPlace)
    (hval : ∀ (j : Nat) t v, (Tryz.f3).params[j]? = some t → args[j]? = some v → Value.okWide Tryz.prog W .any base t v)
    (hW : DataW.Whole enc Tryz.prog (Tryz.f3).params.toList Rows.expandQuotedSpec.vars false W args.toList ds gs before)
    (hsz : (DataW.weightsEach Tryz.prog ((Tryz.f3).params.toList ++ Rows.expandQuotedSpec.plain.varTypes Tryz.prog) (ds ++ gs)).all (· ≤ reachBytes) = true) (hG : Glob W) :
    Calls Tryz.prog 3 args W fun e W' => ∃ v, e = .returned v ∧ Rows.expandQuotedSpec.post enc Tryz.prog Tryz.f3 false true false false W args v W' := by
  have hW' := hW
  obtain ⟨p, q, hA0, hV, rfl, hfz, hnd⟩ := hW
  have hA : DataW.TrodAll enc Tryz.prog W 0 (fun _ => true) true (Tryz.f3).params.toList args.toList ds p := hA0
  rw [Tryz.params3] at hA hval hsz
  obtain ⟨v0, v1, d0, d1, p0, p1, hargs, rfl, rfl, h0, h1⟩ := trodAll_two hA
  obtain rfl : args = #[v0, v1] := by cases args; simp_all
  obtain ⟨rfl, rfl⟩ := trodVars_none hV
  obtain ⟨s, rfl, rfl, rfl, hmax⟩ := open_string Tryz.underlying9 (hval 0 9 v0 rfl rfl) h0
  obtain ⟨al, hsl, hd⟩ := open_args (hval 1 22 v1 rfl rfl) h1
  clear hA0 hval
  simp only [List.append_nil, List.nil_append] at hW' hsz
  have hlt : ∀ x ∈ p1, x.block < W.heap.size := fun x hx => by simpa using hW'.lt x (by simpa using hx)
  have hs : s.data.toList.length ≤ big := by
    have := sized_string hsz (j := 0) (t := 9) (bytes := s.data.toList) rfl rfl
    unfold big; unfold reachBytes at this; omega
  have hl : ∀ a ∈ al, a.length ≤ big := by
    intro a ha
    rcases hd with ⟨rfl, rfl⟩ | ⟨ss, len, rfl, rfl⟩
    · cases ha
    · obtain ⟨x, hx, rfl⟩ := List.mem_map.1 ha
      have h2 := DataW.weights_mem_each (H := H) (P := Tryz.prog) (j := 1) (t := 22) (ts := [9, 22] ++ Rows.expandQuotedSpec.plain.varTypes Tryz.prog) (ds := [.lit (.string s.data.toList), .slice (strs (ss.take len)) (strs (ss.drop len))]) rfl rfl x.data.toList.length (by
        simp only [DataW.weights, Tryz.underlying22, List.mem_cons, List.mem_append]
        exact .inr (.inl (strs_weights (H := H) _ _ hx)))
      have h3 := of_decide_eq_true (List.all_eq_true.1 hsz _ h2)
      unfold big; unfold reachBytes at h3; omega
  have key := quoted_true W.heap.size s.data.toList v1 al W hG hsl hs hl
  refine Calls.mono key fun e W' ⟨he, hb⟩ => ?_
  subst he
  refine ⟨_, rfl, _, _, _, [], [] ++ p1, [], hW', ?_, ?_, rfl, hb.frame _, fun h => by cases h⟩
  · exact trodAll_mk1 (shut_bool Tryz.underlying4 true)
  · exact trodAll_cons_mk (shut_string Tryz.underlying9 hmax) (trodAll_mk1 (Below.trod laidOut (by kernel_rfl) (of_decide_eq_true (by kernel_rfl)) h1 hb hlt))

/-- A world for the witness: the settled one, the listed variables holding what their initialisers lay. -/
noncomputable def laidWorld (os : Os) : World :=
  let N := (World.settled Tryz.prog os).heap.size
  let w0 := World.holding Tryz.prog os ⟨#[.cells #[S [105, 110, 118, 97, 108, 105, 100, 32, 115, 121, 110, 116, 97, 120]] 338, .cells #[S [118, 97, 108, 117, 101, 32, 111, 117, 116, 32, 111, 102, 32, 114, 97, 110, 103, 101]] 338], #[], []⟩
  let put (h : Array Obj) (g : Nat) (cs : Array Value) : Array Obj := h.modify g fun
    | .cells _ t frozen => .cells cs t frozen
    | o => o
  let h1 := put w0.heap 1 (Go.Pinned.utf8FirstZ.map fun (z : Nat) => Value.int .u8 z).toArray
  let h2 := put h1 2 (([128, 191, 160, 191, 128, 159, 144, 191, 128, 143, 0, 0, 0, 0, 0, 0, 0, 0, 0, 0, 0, 0, 0, 0, 0, 0, 0, 0, 0, 0, 0, 0] : List Int).map fun z => Value.int .u8 z).toArray
  let h3 := put h2 3 #[.iface 336 (.pointer (some ⟨N, 0, none⟩))]
  let h4 := put h3 4 #[.iface 336 (.pointer (some ⟨N + 1, 0, none⟩))]
  let h5 := put h4 5 (([1, 10, 100, 1000, 10000, 100000, 1000000, 10000000, 100000000, 1000000000, 10000000000, 100000000000, 1000000000000, 10000000000000, 100000000000000, 1000000000000000, 10000000000000000, 100000000000000000, 1000000000000000000, 10000000000000000000] : List Int).map fun z => Value.int .u64 z).toArray
  let h6 := put h5 6 (([0, 1, 28, 2, 29, 14, 24, 3, 30, 22, 20, 15, 25, 17, 4, 8, 31, 27, 13, 23, 21, 19, 16, 7, 26, 12, 18, 6, 11, 5, 10, 9] : List Int).map fun z => Value.int .u8 z).toArray
  let h7 := put h6 7 (([0, 1, 56, 2, 57, 49, 28, 3, 61, 58, 42, 50, 38, 29, 17, 4, 62, 47, 59, 36, 45, 43, 51, 22, 53, 39, 33, 30, 24, 18, 12, 5, 63, 55, 48, 27, 60, 41, 37, 16, 46, 35, 44, 21, 52, 32, 23, 11, 54, 26, 40, 15, 34, 20, 31, 10, 25, 14, 19, 9, 13, 8, 7, 6] : List Int).map fun z => Value.int .u8 z).toArray
  { w0 with heap := h7 }
theorem laid_met (os : Os) (args : Array Value) : laidMet Tryz.prog Rows.expandQuotedRow.laid ((laidWorld os).forCall (fun _ _ => 0) ⟨#[], args, []⟩).memory :=
  laidMet_of_run' 8 (by kernel_rfl) (by kernel_rfl)
theorem witness_row (os : Os) {H : Type} (enc : TypeId × Value → H) :
    (OpenSpec.ofChange Rows.expandQuotedSpec).preRow enc Tryz.prog Tryz.f3 Rows.expandQuotedRow.domain false Rows.expandQuotedRow.laid ((laidWorld os).forCall (fun _ _ => 0) ⟨#[], #[.string ⟨#[]⟩, .slice none 0 0], []⟩).memory #[.string ⟨#[]⟩, .slice none 0 0] := by
  have hw : (DataW.whole enc Tryz.prog ((laidWorld os).forCall (fun _ _ => 0) ⟨#[], #[.string ⟨#[]⟩, .slice none 0 0], []⟩).memory (Tryz.f3).params.toList Rows.expandQuotedSpec.vars false #[Value.string ⟨#[]⟩, .slice none 0 0].toList 8).map (fun x => (x.1, x.2.1)) =
      some ([.lit (.string []), .nil], []) := by kernel_rfl
  obtain ⟨⟨x1, x2, x3⟩, hx, hx1⟩ := Option.map_eq_some_iff.1 hw
  simp only [Prod.mk.injEq] at hx1
  obtain ⟨rfl, rfl⟩ := hx1
  exact OpenSpec.preRow_of_cond 8 hx (by kernel_rfl) (fun k hk => by cases hk) (by kernel_rfl) (laid_met os _)

set_option maxHeartbeats 2000000 in
theorem quoted_lifted (os : Os) (started : os.Started) (H : Type) (enc : TypeId × Value → H) (F : Stop.Interp) :
    ReturnsInHanded {} Tryz.checked os 3 .any ((OpenSpec.ofChange Rows.expandQuotedSpec).preRow enc Tryz.prog Tryz.f3 Rows.expandQuotedRow.domain false Rows.expandQuotedRow.laid) (((OpenSpec.ofChange Rows.expandQuotedSpec).at F).post enc Tryz.prog Tryz.f3 false true false false) := by
  refine returnsInHanded_of_row (C := Tryz.checked) (s := OpenSpec.ofChange Rows.expandQuotedSpec) own started (by kernel_rfl) Tryz.func3
    (witness_row_atRef (enc := enc) (C := Tryz.checked) false (laidWorld os) #[.string ⟨#[]⟩, .slice none 0 0] rfl (by kernel_rfl) (by kernel_rfl) (by kernel_rfl) (witness_row os enc)) ?_
  intro W base args ds gs before hval hW _ _ hsz _ hshape _
  exact quoted_contract H enc W base args ds gs before hval hW hsz (glob_of_shaped hshape)

theorem quoted_said : Rows.ExpandQuotedSaid :=
  OpenClaim.holds_of_cond 3 Tryz.f3 rfl rfl rfl rfl rfl rfl rfl ⟨rfl, rfl, rfl, rfl, rfl⟩ rfl rfl rfl rfl rfl quoted_named Tryz.func3 quoted_closed quoted_inst quoted_wrap
    (fun os started H enc _ F => by rw [OpenClaim.pre_eq_preRow]; exact quoted_lifted os started H enc F)

/-- No parameter wants a stand-in. -/
theorem quoted_plain (f : FuncId) (fn : Func) (hf : Tryz.pinned.checked.prog.funcNamed "scullion/scullionlaw16.ExpandQuoted" = some f) (hfn : Tryz.pinned.checked.prog.funcs[f]? = some fn) :
    true = Tryz.pinned.checked.prog.looks [] ∧ ∀ (j : Nat) t, fn.params[j]? = some t → Tryz.pinned.checked.prog.wantsStandIn t = false := by
  obtain rfl : f = 3 := Option.some.inj ((show Tryz.prog.funcNamed "scullion/scullionlaw16.ExpandQuoted" = some 3 by kernel_rfl).symm.trans hf) |>.symm
  obtain rfl : fn = Tryz.f3 := (Option.some.inj ((Tryz.func3).symm.trans hfn)).symm
  refine ⟨by kernel_rfl, fun j t ht => ?_⟩
  rw [Tryz.params3] at ht
  have h : t = 9 ∨ t = 22 := by simpa using Array.mem_of_getElem? ht
  rcases h with rfl | rfl
  · exact (show Tryz.prog.wantsStandIn 9 = false by kernel_rfl)
  · exact (show Tryz.prog.wantsStandIn 22 = false by kernel_rfl)

theorem expandQuoted_card : Rows.ExpandQuotedCardSaid :=
  Claim7.holds_tied_plain_at .later [] _ _ _ _ quoted_said (fun _ h => by cases h) (by kernel_rfl) (fun _ h => by cases h) expandQuoted_row_tie rfl ⟨rfl, rfl⟩ (by kernel_rfl) rfl quoted_plain (by kernel_rfl)
#print axioms expandQuoted_card
end Go.Proofs.YtdffbbfhcdhpdaaGreatDoor
