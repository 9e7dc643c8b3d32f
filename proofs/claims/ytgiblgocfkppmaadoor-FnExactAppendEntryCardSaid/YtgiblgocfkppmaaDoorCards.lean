/-
  DERIVED. GIVEN WITH THE SEED: THE CARDS: each row of YtgiblgocfkppmaaDoorRows.lean that lists a variable, with what it lists TIED to the program's text (the seventh form; the later family's looks); each row that meets fmt, with fmt's text TOLD by the authors' own Lean function (tested against real Go, not proved from fmt's source: count such statements apart). THE CARD IS WHAT COUNTS. Prove the row's statement (the work); the ties are given (YtgiblgocfkppmaaDoorTie.lean); close each card by the builder's one call (the guide's Derived/Test/ToyasCard.lean, 'card_holds'). Laid BY PROGRAM, IN A SANDBOX (cutbox-door.mjs). By AI agents, Wed Nov 11 2026. No macro, syntax, notation, axiom, sorry.
-/
import Derived.Test.YtgiblgocfkppmaaDoorRows
import GoSem.ClaimSeven
namespace Go.Proofs.YtgiblgocfkppmaaDoor
namespace Rows

/-- THE TIED CARD OF 'laws.FnExactCheckOf'. -/
def fnExactCheckOfCard : Claim7 := { stood := { row := fnExactCheckOfRow, standIns := [], harness := (true, "147201b3693b4549792e59f50cee6bae7c720ca2b39b797dbb356e6e4c1391c6"), looks := true }, kinds := [], alts := [], laidByText := true, laidKinds := [.data, .data, .data], laidTests := true, laidLooks := .later }
def FnExactCheckOfCardSaid : Prop := Claim7.holds Tryd.pinned (.plain (OpenSpec.ofChange fnExactCheckOfSpec)) fnExactCheckOfCard

/-- THE TIED CARD OF 'laws.FnExactWriteJournal'. -/
def fnExactWriteJournalCard : Claim7 := { stood := { row := fnExactWriteJournalRow, standIns := [], harness := (true, "147201b3693b4549792e59f50cee6bae7c720ca2b39b797dbb356e6e4c1391c6"), looks := true }, kinds := [], alts := [], laidByText := true, laidKinds := [.data, .data, .data], laidTests := true, laidLooks := .later }
def FnExactWriteJournalCardSaid : Prop := Claim7.holds Tryd.pinned (.plain (OpenSpec.ofChange fnExactWriteJournalSpec)) fnExactWriteJournalCard

/-- THE TIED CARD OF 'laws.FnExactIsWhole'. -/
def fnExactIsWholeCard : Claim7 := { stood := { row := fnExactIsWholeRow, standIns := [], harness := (true, "147201b3693b4549792e59f50cee6bae7c720ca2b39b797dbb356e6e4c1391c6"), looks := true }, kinds := [], alts := [], laidByText := true, laidKinds := [.data, .data, .data, .sentinel, .sentinel], laidTests := true, laidLooks := .later }
def FnExactIsWholeCardSaid : Prop := Claim7.holds Tryd.pinned (.plain (OpenSpec.ofChange fnExactIsWholeSpec)) fnExactIsWholeCard

/-- THE TIED CARD OF 'laws.FnExactLastOfKind'. -/
def fnExactLastOfKindCard : Claim7 := { stood := { row := fnExactLastOfKindRow, standIns := [], harness := (true, "147201b3693b4549792e59f50cee6bae7c720ca2b39b797dbb356e6e4c1391c6"), looks := true }, kinds := [], alts := [], laidByText := true, laidKinds := [.data, .data, .data, .sentinel, .sentinel], laidTests := true, laidLooks := .later }
def FnExactLastOfKindCardSaid : Prop := Claim7.holds Tryd.pinned (.plain (OpenSpec.ofChange fnExactLastOfKindSpec)) fnExactLastOfKindCard

/-- THE TIED CARD OF 'laws.FnExactCutJournal'. -/
def fnExactCutJournalCard : Claim7 := { stood := { row := fnExactCutJournalRow, standIns := [], harness := (true, "147201b3693b4549792e59f50cee6bae7c720ca2b39b797dbb356e6e4c1391c6"), looks := true }, kinds := [], alts := [], laidByText := true, laidKinds := [.data, .data, .data, .sentinel, .sentinel], laidTests := true, laidLooks := .later }
def FnExactCutJournalCardSaid : Prop := Claim7.holds Tryd.pinned (.plain (OpenSpec.ofChange fnExactCutJournalSpec)) fnExactCutJournalCard

/-- THE TIED CARD OF 'laws.FnExactReadJournal'. -/
def fnExactReadJournalCard : Claim7 := { stood := { row := fnExactReadJournalRow, standIns := [], harness := (true, "147201b3693b4549792e59f50cee6bae7c720ca2b39b797dbb356e6e4c1391c6"), looks := true }, kinds := [], alts := [], laidByText := true, laidKinds := [.data, .data, .data, .sentinel, .sentinel], laidTests := true, laidLooks := .later }
def FnExactReadJournalCardSaid : Prop := Claim7.holds Tryd.pinned (.plain (OpenSpec.ofChange fnExactReadJournalSpec)) fnExactReadJournalCard

/-- THE TIED CARD OF 'laws.FnExactAppendEntry'. -/
def fnExactAppendEntryCard : Claim7 := { stood := { row := fnExactAppendEntryRow, standIns := [], harness := (true, "147201b3693b4549792e59f50cee6bae7c720ca2b39b797dbb356e6e4c1391c6"), looks := true }, kinds := [], alts := [], laidByText := true, laidKinds := [.data, .data, .data, .sentinel, .sentinel], laidTests := true, laidLooks := .later }
def FnExactAppendEntryCardSaid : Prop := Claim7.holds Tryd.pinned (.plain (OpenSpec.ofChange fnExactAppendEntrySpec)) fnExactAppendEntryCard

/-- THE TIED CARD OF 'laws.FnAppended'. -/
def fnAppendedCard : Claim7 := { stood := { row := fnAppendedRow, standIns := [], harness := (true, "147201b3693b4549792e59f50cee6bae7c720ca2b39b797dbb356e6e4c1391c6"), looks := true }, kinds := [], alts := [], laidByText := true, laidKinds := [.data, .data, .data, .sentinel, .sentinel], laidTests := true, laidLooks := .later }
def FnAppendedCardSaid : Prop := Claim7.holds Tryd.pinned (.plain (OpenSpec.ofChange fnAppendedSpec)) fnAppendedCard

/-- THE TIED CARD OF 'laws.FnJournals'. -/
def fnJournalsCard : Claim7 := { stood := { row := fnJournalsRow, standIns := [], harness := (true, "147201b3693b4549792e59f50cee6bae7c720ca2b39b797dbb356e6e4c1391c6"), looks := true }, kinds := [], alts := [], laidByText := true, laidKinds := [.data, .data, .data, .sentinel, .sentinel], laidTests := true, laidLooks := .later }
def FnJournalsCardSaid : Prop := Claim7.holds Tryd.pinned (.plain (OpenSpec.ofChange fnJournalsSpec)) fnJournalsCard

/-- THE SECOND FORM's CARD OF 'laws.FnExactCheckOf'. -/
def fnExactCheckOfUptoCard : Claim7 := { stood := { row := fnExactCheckOfUptoRow, standIns := [], harness := (true, "147201b3693b4549792e59f50cee6bae7c720ca2b39b797dbb356e6e4c1391c6"), looks := true }, kinds := [], alts := [], laidByText := true, laidKinds := [.data, .data, .data], laidTests := true, laidLooks := .later }
def FnExactCheckOfUptoCardSaid : Prop := Claim7.holds Tryd.pinned (.plain (OpenSpec.upto fnExactCheckOfSpec)) fnExactCheckOfUptoCard

/-- THE SECOND FORM's CARD OF 'laws.FnExactWriteJournal'. -/
def fnExactWriteJournalUptoCard : Claim7 := { stood := { row := fnExactWriteJournalUptoRow, standIns := [], harness := (true, "147201b3693b4549792e59f50cee6bae7c720ca2b39b797dbb356e6e4c1391c6"), looks := true }, kinds := [], alts := [], laidByText := true, laidKinds := [.data, .data, .data], laidTests := true, laidLooks := .later }
def FnExactWriteJournalUptoCardSaid : Prop := Claim7.holds Tryd.pinned (.plain (OpenSpec.upto fnExactWriteJournalSpec)) fnExactWriteJournalUptoCard

/-- THE SECOND FORM's CARD OF 'laws.FnExactIsWhole'. -/
def fnExactIsWholeUptoCard : Claim7 := { stood := { row := fnExactIsWholeUptoRow, standIns := [], harness := (true, "147201b3693b4549792e59f50cee6bae7c720ca2b39b797dbb356e6e4c1391c6"), looks := true }, kinds := [], alts := [], laidByText := true, laidKinds := [.data, .data, .data, .sentinel, .sentinel], laidTests := true, laidLooks := .later }
def FnExactIsWholeUptoCardSaid : Prop := Claim7.holds Tryd.pinned (.plain (OpenSpec.upto fnExactIsWholeSpec)) fnExactIsWholeUptoCard

/-- THE SECOND FORM's CARD OF 'laws.FnExactLastOfKind'. -/
def fnExactLastOfKindUptoCard : Claim7 := { stood := { row := fnExactLastOfKindUptoRow, standIns := [], harness := (true, "147201b3693b4549792e59f50cee6bae7c720ca2b39b797dbb356e6e4c1391c6"), looks := true }, kinds := [], alts := [], laidByText := true, laidKinds := [.data, .data, .data, .sentinel, .sentinel], laidTests := true, laidLooks := .later }
def FnExactLastOfKindUptoCardSaid : Prop := Claim7.holds Tryd.pinned (.plain (OpenSpec.upto fnExactLastOfKindSpec)) fnExactLastOfKindUptoCard

/-- THE SECOND FORM's CARD OF 'laws.FnExactCutJournal'. -/
def fnExactCutJournalUptoCard : Claim7 := { stood := { row := fnExactCutJournalUptoRow, standIns := [], harness := (true, "147201b3693b4549792e59f50cee6bae7c720ca2b39b797dbb356e6e4c1391c6"), looks := true }, kinds := [], alts := [], laidByText := true, laidKinds := [.data, .data, .data, .sentinel, .sentinel], laidTests := true, laidLooks := .later }
def FnExactCutJournalUptoCardSaid : Prop := Claim7.holds Tryd.pinned (.plain (OpenSpec.upto fnExactCutJournalSpec)) fnExactCutJournalUptoCard

/-- THE SECOND FORM's CARD OF 'laws.FnExactReadJournal'. -/
def fnExactReadJournalUptoCard : Claim7 := { stood := { row := fnExactReadJournalUptoRow, standIns := [], harness := (true, "147201b3693b4549792e59f50cee6bae7c720ca2b39b797dbb356e6e4c1391c6"), looks := true }, kinds := [], alts := [], laidByText := true, laidKinds := [.data, .data, .data, .sentinel, .sentinel], laidTests := true, laidLooks := .later }
def FnExactReadJournalUptoCardSaid : Prop := Claim7.holds Tryd.pinned (.plain (OpenSpec.upto fnExactReadJournalSpec)) fnExactReadJournalUptoCard

/-- THE SECOND FORM's CARD OF 'laws.FnExactAppendEntry'. -/
def fnExactAppendEntryUptoCard : Claim7 := { stood := { row := fnExactAppendEntryUptoRow, standIns := [], harness := (true, "147201b3693b4549792e59f50cee6bae7c720ca2b39b797dbb356e6e4c1391c6"), looks := true }, kinds := [], alts := [], laidByText := true, laidKinds := [.data, .data, .data, .sentinel, .sentinel], laidTests := true, laidLooks := .later }
def FnExactAppendEntryUptoCardSaid : Prop := Claim7.holds Tryd.pinned (.plain (OpenSpec.upto fnExactAppendEntrySpec)) fnExactAppendEntryUptoCard

/-- THE SECOND FORM's CARD OF 'laws.FnAppended'. -/
def fnAppendedUptoCard : Claim7 := { stood := { row := fnAppendedUptoRow, standIns := [], harness := (true, "147201b3693b4549792e59f50cee6bae7c720ca2b39b797dbb356e6e4c1391c6"), looks := true }, kinds := [], alts := [], laidByText := true, laidKinds := [.data, .data, .data, .sentinel, .sentinel], laidTests := true, laidLooks := .later }
def FnAppendedUptoCardSaid : Prop := Claim7.holds Tryd.pinned (.plain (OpenSpec.upto fnAppendedSpec)) fnAppendedUptoCard

/-- THE SECOND FORM's CARD OF 'laws.FnJournals'. -/
def fnJournalsUptoCard : Claim7 := { stood := { row := fnJournalsUptoRow, standIns := [], harness := (true, "147201b3693b4549792e59f50cee6bae7c720ca2b39b797dbb356e6e4c1391c6"), looks := true }, kinds := [], alts := [], laidByText := true, laidKinds := [.data, .data, .data, .sentinel, .sentinel], laidTests := true, laidLooks := .later }
def FnJournalsUptoCardSaid : Prop := Claim7.holds Tryd.pinned (.plain (OpenSpec.upto fnJournalsSpec)) fnJournalsUptoCard
end Rows
end Go.Proofs.YtgiblgocfkppmaaDoor
