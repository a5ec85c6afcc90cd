/- Closed facts of ExpandPlain's second row, each by the kernel. -/
import Derived.Test.YtdffbbfhcdhpdaaGreatDoorCards
import Derived.Deep.DeepHandedRow
namespace Go.Proofs.YtdffbbfhcdhpdaaGreatDoor
set_option maxRecDepth 100000
theorem plain_closed : joinedFacts Tryz.pinned.checked.prog 4 Tryz.f4 (Rows.OpenSpec.upto Rows.expandPlainSpec).bare Rows.expandPlainUptoRow = true := by kernel_rfl
theorem plain_named : Tryz.pinned.checked.prog.funcNamed Rows.expandPlainUptoRow.func = some 4 := by kernel_rfl
theorem plain_inst : (Tryz.f4).isInstance Tryz.pinned.checked.prog Rows.expandPlainUptoRow.origin Rows.expandPlainUptoRow.targs := of_decide_eq_true (by kernel_rfl)
theorem plain_wrap : (Tryz.f4).isWrapper Tryz.pinned.checked.prog Rows.expandPlainUptoRow.wrapper Rows.expandPlainUptoRow.mainSum := by
  unfold Func.isWrapper
  rw [if_neg (of_decide_eq_false (by kernel_rfl))]; exact ⟨rfl, rfl⟩
end Go.Proofs.YtdffbbfhcdhpdaaGreatDoor
