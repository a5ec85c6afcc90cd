/- Closed facts of ExpandQuoted's row, each by the kernel. -/
import Derived.Test.YtdffbbfhcdhpdaaGreatDoorCards
import Derived.Deep.DeepHandedRow
namespace Go.Proofs.YtdffbbfhcdhpdaaGreatDoor
set_option maxRecDepth 100000
theorem quoted_closed : joinedFacts Tryz.pinned.checked.prog 3 Tryz.f3 (OpenSpec.ofChange Rows.expandQuotedSpec).bare Rows.expandQuotedRow = true := by kernel_rfl
theorem quoted_named : Tryz.pinned.checked.prog.funcNamed Rows.expandQuotedRow.func = some 3 := by kernel_rfl
theorem quoted_inst : (Tryz.f3).isInstance Tryz.pinned.checked.prog Rows.expandQuotedRow.origin Rows.expandQuotedRow.targs := of_decide_eq_true (by kernel_rfl)
theorem quoted_wrap : (Tryz.f3).isWrapper Tryz.pinned.checked.prog Rows.expandQuotedRow.wrapper Rows.expandQuotedRow.mainSum := by
  unfold Func.isWrapper
  rw [if_neg (of_decide_eq_false (by kernel_rfl))]; exact ⟨rfl, rfl⟩
end Go.Proofs.YtdffbbfhcdhpdaaGreatDoor
