/-
  DERIVED. GIVEN WITH THE SEED: THE CARDS: each row of YtdibfppmodeiiaaDoorRows.lean that lists a variable, with what it lists TIED to the program's text (the seventh form; the later family's looks); each row that meets fmt, with fmt's text TOLD by the authors' own Lean function (tested against real Go, not proved from fmt's source: count such statements apart). THE CARD IS WHAT COUNTS. Prove the row's statement (the work); the ties are given (YtdibfppmodeiiaaDoorTie.lean); close each card by the builder's one call (the guide's Derived/Test/ToyasCard.lean, 'card_holds'). Laid BY PROGRAM, IN A SANDBOX (cutbox-door.mjs). By AI agents, Wed Nov 11 2026. No macro, syntax, notation, axiom, sorry.
-/
import Derived.Test.YtdibfppmodeiiaaDoorRows
import GoSem.ClaimSeven
namespace Go.Proofs.YtdibfppmodeiiaaDoor
namespace Rows

/-- THE TIED CARD OF 'laws.FnAppended'. -/
def fnAppendedCard : Claim7 := { stood := { row := fnAppendedRow, standIns := [], harness := (true, "56dfce275a9a7565f6a9f34b4f2c07552be8e12a77176c84516b5424570fb091"), looks := true }, kinds := [], alts := [], laidByText := true, laidKinds := [.data, .data, .data, .sentinel, .sentinel], laidTests := true, laidLooks := .later }
def FnAppendedCardSaid : Prop := Claim7.holds Tryd.pinned (.plain (OpenSpec.ofChange fnAppendedSpec)) fnAppendedCard

/-- THE TIED CARD OF 'laws.FnJournals'. -/
def fnJournalsCard : Claim7 := { stood := { row := fnJournalsRow, standIns := [], harness := (true, "56dfce275a9a7565f6a9f34b4f2c07552be8e12a77176c84516b5424570fb091"), looks := true }, kinds := [], alts := [], laidByText := true, laidKinds := [.data, .data, .data, .sentinel, .sentinel], laidTests := true, laidLooks := .later }
def FnJournalsCardSaid : Prop := Claim7.holds Tryd.pinned (.plain (OpenSpec.ofChange fnJournalsSpec)) fnJournalsCard

/-- THE SECOND FORM's CARD OF 'laws.FnAppended'. -/
def fnAppendedUptoCard : Claim7 := { stood := { row := fnAppendedUptoRow, standIns := [], harness := (true, "56dfce275a9a7565f6a9f34b4f2c07552be8e12a77176c84516b5424570fb091"), looks := true }, kinds := [], alts := [], laidByText := true, laidKinds := [.data, .data, .data, .sentinel, .sentinel], laidTests := true, laidLooks := .later }
def FnAppendedUptoCardSaid : Prop := Claim7.holds Tryd.pinned (.plain (OpenSpec.upto fnAppendedSpec)) fnAppendedUptoCard

/-- THE SECOND FORM's CARD OF 'laws.FnJournals'. -/
def fnJournalsUptoCard : Claim7 := { stood := { row := fnJournalsUptoRow, standIns := [], harness := (true, "56dfce275a9a7565f6a9f34b4f2c07552be8e12a77176c84516b5424570fb091"), looks := true }, kinds := [], alts := [], laidByText := true, laidKinds := [.data, .data, .data, .sentinel, .sentinel], laidTests := true, laidLooks := .later }
def FnJournalsUptoCardSaid : Prop := Claim7.holds Tryd.pinned (.plain (OpenSpec.upto fnJournalsSpec)) fnJournalsUptoCard
end Rows
end Go.Proofs.YtdibfppmodeiiaaDoor
