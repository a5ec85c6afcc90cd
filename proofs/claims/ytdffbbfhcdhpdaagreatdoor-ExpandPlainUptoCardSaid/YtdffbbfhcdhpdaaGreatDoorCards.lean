/-
  DERIVED. GIVEN WITH THE SEED: THE CARDS: each row of YtdffbbfhcdhpdaaGreatDoorRows.lean that lists a variable, with what it lists TIED to the program's text (the seventh form; the later family's looks); each row that meets fmt, with fmt's text TOLD by the authors' own Lean function (tested against real Go, not proved from fmt's source: count such statements apart). THE CARD IS WHAT COUNTS. Prove the row's statement (the work); the ties are given (YtdffbbfhcdhpdaaGreatDoorTie.lean); close each card by the builder's one call (the guide's Derived/Test/ToyasCard.lean, 'card_holds'). Laid BY PROGRAM, IN A SANDBOX (cutbox-door.mjs). By AI agents, Wed Nov 11 2026. No macro, syntax, notation, axiom, sorry.
-/
import Derived.Test.YtdffbbfhcdhpdaaGreatDoorRows
import GoSem.ClaimSeven
namespace Go.Proofs.YtdffbbfhcdhpdaaGreatDoor
namespace Rows

/-- THE TIED CARD OF 'scullionlaw16.ExpandQuoted'. -/
def expandQuotedCard : Claim7 := { stood := { row := expandQuotedRow, standIns := [], harness := (true, "0230eba87eaa37a622b115ac25f04562624e04fd8f1ef934d6815dfba34a056d"), looks := true }, kinds := [], alts := [], laidByText := true, laidKinds := [.data, .data, .data, .data, .sentinel, .sentinel, .pinned], laidTests := true, laidLooks := .later }
def ExpandQuotedCardSaid : Prop := Claim7.holds Tryz.pinned (.plain (OpenSpec.ofChange expandQuotedSpec)) expandQuotedCard

/-- THE TIED CARD OF 'scullionlaw16.ExpandPlain'. -/
def expandPlainCard : Claim7 := { stood := { row := expandPlainRow, standIns := [], harness := (true, "0230eba87eaa37a622b115ac25f04562624e04fd8f1ef934d6815dfba34a056d"), looks := true }, kinds := [], alts := [], laidByText := true, laidKinds := [.data, .data, .data, .data, .sentinel, .sentinel, .pinned], laidTests := true, laidLooks := .later }
def ExpandPlainCardSaid : Prop := Claim7.holds Tryz.pinned (.plain (OpenSpec.ofChange expandPlainSpec)) expandPlainCard

/-- THE TIED CARD OF 'scullionlaw16.ExpandSmall'. -/
def expandSmallCard : Claim7 := { stood := { row := expandSmallRow, standIns := [], harness := (true, "0230eba87eaa37a622b115ac25f04562624e04fd8f1ef934d6815dfba34a056d"), looks := true }, kinds := [], alts := [], laidByText := true, laidKinds := [.data, .data, .data, .data, .sentinel, .sentinel, .pinned], laidTests := true, laidLooks := .later }
def ExpandSmallCardSaid : Prop := Claim7.holds Tryz.pinned (.plain (OpenSpec.ofChange expandSmallSpec)) expandSmallCard

/-- THE TIED CARD OF 'scullionlaw16.ExpandOps'. -/
def expandOpsCard : Claim7 := { stood := { row := expandOpsRow, standIns := [], harness := (true, "0230eba87eaa37a622b115ac25f04562624e04fd8f1ef934d6815dfba34a056d"), looks := true }, kinds := [], alts := [], laidByText := true, laidKinds := [.data, .data, .data, .data, .sentinel, .sentinel, .pinned], laidTests := true, laidLooks := .later }
def ExpandOpsCardSaid : Prop := Claim7.holds Tryz.pinned (.plain (OpenSpec.ofChange expandOpsSpec)) expandOpsCard

/-- THE TIED CARD OF 'scullionlaw16.ExpandArgs'. -/
def expandArgsCard : Claim7 := { stood := { row := expandArgsRow, standIns := [], harness := (true, "0230eba87eaa37a622b115ac25f04562624e04fd8f1ef934d6815dfba34a056d"), looks := true }, kinds := [], alts := [], laidByText := true, laidKinds := [.data, .data, .data, .data, .sentinel, .sentinel, .pinned], laidTests := true, laidLooks := .later }
def ExpandArgsCardSaid : Prop := Claim7.holds Tryz.pinned (.plain (OpenSpec.ofChange expandArgsSpec)) expandArgsCard

/-- THE SECOND FORM's CARD OF 'scullionlaw16.ExpandQuoted'. -/
def expandQuotedUptoCard : Claim7 := { stood := { row := expandQuotedUptoRow, standIns := [], harness := (true, "0230eba87eaa37a622b115ac25f04562624e04fd8f1ef934d6815dfba34a056d"), looks := true }, kinds := [], alts := [], laidByText := true, laidKinds := [.data, .data, .data, .data, .sentinel, .sentinel, .pinned], laidTests := true, laidLooks := .later }
def ExpandQuotedUptoCardSaid : Prop := Claim7.holds Tryz.pinned (.plain (OpenSpec.upto expandQuotedSpec)) expandQuotedUptoCard

/-- THE SECOND FORM's CARD OF 'scullionlaw16.ExpandPlain'. -/
def expandPlainUptoCard : Claim7 := { stood := { row := expandPlainUptoRow, standIns := [], harness := (true, "0230eba87eaa37a622b115ac25f04562624e04fd8f1ef934d6815dfba34a056d"), looks := true }, kinds := [], alts := [], laidByText := true, laidKinds := [.data, .data, .data, .data, .sentinel, .sentinel, .pinned], laidTests := true, laidLooks := .later }
def ExpandPlainUptoCardSaid : Prop := Claim7.holds Tryz.pinned (.plain (OpenSpec.upto expandPlainSpec)) expandPlainUptoCard

/-- THE SECOND FORM's CARD OF 'scullionlaw16.ExpandSmall'. -/
def expandSmallUptoCard : Claim7 := { stood := { row := expandSmallUptoRow, standIns := [], harness := (true, "0230eba87eaa37a622b115ac25f04562624e04fd8f1ef934d6815dfba34a056d"), looks := true }, kinds := [], alts := [], laidByText := true, laidKinds := [.data, .data, .data, .data, .sentinel, .sentinel, .pinned], laidTests := true, laidLooks := .later }
def ExpandSmallUptoCardSaid : Prop := Claim7.holds Tryz.pinned (.plain (OpenSpec.upto expandSmallSpec)) expandSmallUptoCard

/-- THE SECOND FORM's CARD OF 'scullionlaw16.ExpandOps'. -/
def expandOpsUptoCard : Claim7 := { stood := { row := expandOpsUptoRow, standIns := [], harness := (true, "0230eba87eaa37a622b115ac25f04562624e04fd8f1ef934d6815dfba34a056d"), looks := true }, kinds := [], alts := [], laidByText := true, laidKinds := [.data, .data, .data, .data, .sentinel, .sentinel, .pinned], laidTests := true, laidLooks := .later }
def ExpandOpsUptoCardSaid : Prop := Claim7.holds Tryz.pinned (.plain (OpenSpec.upto expandOpsSpec)) expandOpsUptoCard

/-- THE SECOND FORM's CARD OF 'scullionlaw16.ExpandArgs'. -/
def expandArgsUptoCard : Claim7 := { stood := { row := expandArgsUptoRow, standIns := [], harness := (true, "0230eba87eaa37a622b115ac25f04562624e04fd8f1ef934d6815dfba34a056d"), looks := true }, kinds := [], alts := [], laidByText := true, laidKinds := [.data, .data, .data, .data, .sentinel, .sentinel, .pinned], laidTests := true, laidLooks := .later }
def ExpandArgsUptoCardSaid : Prop := Claim7.holds Tryz.pinned (.plain (OpenSpec.upto expandArgsSpec)) expandArgsUptoCard
end Rows
end Go.Proofs.YtdffbbfhcdhpdaaGreatDoor
