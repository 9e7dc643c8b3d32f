/-
  No cell of these rows narrows 'for every input' (looked for: loops, veiled, ifaces, maps, wideKeys, modest, calm, conditions, laid).
  DERIVED. THE GIVEN ROWS OF THIS SEAT. 10 by the template 'for every input the law returns true; each argument reads behind the call as it read before'; 0 by the template 'total and deterministic' (their statements: YtmpdbkkaknmdnaaTotals.lean).
  GIVEN WITH THE SEED: the statements are not yours to turn. If you find one false, say at which input.
  Laid BY PROGRAM, IN A SANDBOX (cutbox-rows.mjs): the forced cells as the released guide's own fill.sh prints them over the translation 53ad32504b297014… (all of the seat's roots in one cut). By AI agents, Wed Nov 11 2026. No macro, syntax, notation, axiom, sorry.
-/
import Derived.Test.YtmpdbkkaknmdnaaChecked
import GoSem.Claim
import GoSem.ClaimJoined
import GoSem.ClaimMapViews
import Derived.JoinedTies
import Derived.KernelRfl
namespace Go.Proofs.Ytmpdbkkaknmdnaa
/- THE CELL 'sum', in the pinned program and in every row, IS THE sha256 OF THE DUMP (.gsa) THAT YtmpdbkkaknmdnaaProg.lean LOADS. Nothing in Lean hashes anything: it is a label: what it is worth is what the hold of that sum in a sandbox is worth. -/
noncomputable def Try.pinned : Pinned := { name := "ytmpdbkkaknmdnaa", sum := "53ad32504b29701458a8352ae8fcd177b77113671020e06171e4c6460e71e30f", checked := Try.checked }
namespace Rows
def none {H : Type} : Left H := { results := [], args := [] }

/-- 'laws.FnExactAreAppeals': WHATEVER THE INPUT: true; the input reads as it did. -/
def fnExactAreAppealsSpec : ChangeSpec := { name := "fnExactAreAppeals", fn := fun _ => fun
  | [d1, d2, d3] => { results := [.lit (.bool true)], args := [d1, d2, d3] }
  | _ => none }
def fnExactAreAppealsRow : OpenClaim := { program := "ytmpdbkkaknmdnaa", sum := "53ad32504b29701458a8352ae8fcd177b77113671020e06171e4c6460e71e30f", func := "loop.example/g01027/laws.FnExactAreAppeals", spec := "fnExactAreAppeals", apart := false }
def FnExactAreAppealsSaid : Prop := fnExactAreAppealsRow.holds Try.pinned (OpenSpec.ofChange fnExactAreAppealsSpec)

/-- ITS FALSE NEIGHBOUR: 'it returns false'. Refute it at one input. -/
def fnExactAreAppealsWrong : ChangeSpec := { name := "fnExactAreAppeals", fn := fun _ => fun
  | [d1, d2, d3] => { results := [.lit (.bool false)], args := [d1, d2, d3] }
  | _ => none }
def FnExactAreAppealsWrongFalsely : Prop := fnExactAreAppealsRow.holds Try.pinned (OpenSpec.ofChange fnExactAreAppealsWrong)

/-- 'laws.FnExactLongestAppeal': WHATEVER THE INPUT: true; the input reads as it did. -/
def fnExactLongestAppealSpec : ChangeSpec := { name := "fnExactLongestAppeal", fn := fun _ => fun
  | [d1, d2, d3] => { results := [.lit (.bool true)], args := [d1, d2, d3] }
  | _ => none }
def fnExactLongestAppealRow : OpenClaim := { program := "ytmpdbkkaknmdnaa", sum := "53ad32504b29701458a8352ae8fcd177b77113671020e06171e4c6460e71e30f", func := "loop.example/g01027/laws.FnExactLongestAppeal", spec := "fnExactLongestAppeal", apart := false }
def FnExactLongestAppealSaid : Prop := fnExactLongestAppealRow.holds Try.pinned (OpenSpec.ofChange fnExactLongestAppealSpec)

/-- ITS FALSE NEIGHBOUR: 'it returns false'. Refute it at one input. -/
def fnExactLongestAppealWrong : ChangeSpec := { name := "fnExactLongestAppeal", fn := fun _ => fun
  | [d1, d2, d3] => { results := [.lit (.bool false)], args := [d1, d2, d3] }
  | _ => none }
def FnExactLongestAppealWrongFalsely : Prop := fnExactLongestAppealRow.holds Try.pinned (OpenSpec.ofChange fnExactLongestAppealWrong)

/-- 'laws.FnExactStandsOn': WHATEVER THE INPUT: true; the input reads as it did. -/
def fnExactStandsOnSpec : ChangeSpec := { name := "fnExactStandsOn", fn := fun _ => fun
  | [d1, d2, d3] => { results := [.lit (.bool true)], args := [d1, d2, d3] }
  | _ => none }
def fnExactStandsOnRow : OpenClaim := { program := "ytmpdbkkaknmdnaa", sum := "53ad32504b29701458a8352ae8fcd177b77113671020e06171e4c6460e71e30f", func := "loop.example/g01027/laws.FnExactStandsOn", spec := "fnExactStandsOn", apart := false }
def FnExactStandsOnSaid : Prop := fnExactStandsOnRow.holds Try.pinned (OpenSpec.ofChange fnExactStandsOnSpec)

/-- ITS FALSE NEIGHBOUR: 'it returns false'. Refute it at one input. -/
def fnExactStandsOnWrong : ChangeSpec := { name := "fnExactStandsOn", fn := fun _ => fun
  | [d1, d2, d3] => { results := [.lit (.bool false)], args := [d1, d2, d3] }
  | _ => none }
def FnExactStandsOnWrongFalsely : Prop := fnExactStandsOnRow.holds Try.pinned (OpenSpec.ofChange fnExactStandsOnWrong)

/-- 'laws.FnExactDeadlineFor': WHATEVER THE INPUT: true; the input reads as it did. -/
def fnExactDeadlineForSpec : ChangeSpec := { name := "fnExactDeadlineFor", fn := fun _ => fun
  | [d1, d2, d3] => { results := [.lit (.bool true)], args := [d1, d2, d3] }
  | _ => none }
def fnExactDeadlineForRow : OpenClaim := { program := "ytmpdbkkaknmdnaa", sum := "53ad32504b29701458a8352ae8fcd177b77113671020e06171e4c6460e71e30f", func := "loop.example/g01027/laws.FnExactDeadlineFor", spec := "fnExactDeadlineFor", apart := false }
def FnExactDeadlineForSaid : Prop := fnExactDeadlineForRow.holds Try.pinned (OpenSpec.ofChange fnExactDeadlineForSpec)

/-- ITS FALSE NEIGHBOUR: 'it returns false'. Refute it at one input. -/
def fnExactDeadlineForWrong : ChangeSpec := { name := "fnExactDeadlineFor", fn := fun _ => fun
  | [d1, d2, d3] => { results := [.lit (.bool false)], args := [d1, d2, d3] }
  | _ => none }
def FnExactDeadlineForWrongFalsely : Prop := fnExactDeadlineForRow.holds Try.pinned (OpenSpec.ofChange fnExactDeadlineForWrong)

/-- 'laws.FnExactIsFinalOn': WHATEVER THE INPUT: true; the input reads as it did. -/
def fnExactIsFinalOnSpec : ChangeSpec := { name := "fnExactIsFinalOn", fn := fun _ => fun
  | [d1, d2, d3, d4] => { results := [.lit (.bool true)], args := [d1, d2, d3, d4] }
  | _ => none }
def fnExactIsFinalOnRow : OpenClaim := { program := "ytmpdbkkaknmdnaa", sum := "53ad32504b29701458a8352ae8fcd177b77113671020e06171e4c6460e71e30f", func := "loop.example/g01027/laws.FnExactIsFinalOn", spec := "fnExactIsFinalOn", apart := false }
def FnExactIsFinalOnSaid : Prop := fnExactIsFinalOnRow.holds Try.pinned (OpenSpec.ofChange fnExactIsFinalOnSpec)

/-- ITS FALSE NEIGHBOUR: 'it returns false'. Refute it at one input. -/
def fnExactIsFinalOnWrong : ChangeSpec := { name := "fnExactIsFinalOn", fn := fun _ => fun
  | [d1, d2, d3, d4] => { results := [.lit (.bool false)], args := [d1, d2, d3, d4] }
  | _ => none }
def FnExactIsFinalOnWrongFalsely : Prop := fnExactIsFinalOnRow.holds Try.pinned (OpenSpec.ofChange fnExactIsFinalOnWrong)

/-- 'laws.FnExactReplyAppeal': WHATEVER THE INPUT: true; the input reads as it did. -/
def fnExactReplyAppealSpec : ChangeSpec := { name := "fnExactReplyAppeal", fn := fun _ => fun
  | [d1, d2, d3, d4] => { results := [.lit (.bool true)], args := [d1, d2, d3, d4] }
  | _ => none }
def fnExactReplyAppealRow : OpenClaim := { program := "ytmpdbkkaknmdnaa", sum := "53ad32504b29701458a8352ae8fcd177b77113671020e06171e4c6460e71e30f", func := "loop.example/g01027/laws.FnExactReplyAppeal", spec := "fnExactReplyAppeal", apart := false }
def FnExactReplyAppealSaid : Prop := fnExactReplyAppealRow.holds Try.pinned (OpenSpec.ofChange fnExactReplyAppealSpec)

/-- ITS FALSE NEIGHBOUR: 'it returns false'. Refute it at one input. -/
def fnExactReplyAppealWrong : ChangeSpec := { name := "fnExactReplyAppeal", fn := fun _ => fun
  | [d1, d2, d3, d4] => { results := [.lit (.bool false)], args := [d1, d2, d3, d4] }
  | _ => none }
def FnExactReplyAppealWrongFalsely : Prop := fnExactReplyAppealRow.holds Try.pinned (OpenSpec.ofChange fnExactReplyAppealWrong)

/-- 'laws.FnExactDecideAppeal': WHATEVER THE INPUT: true; the input reads as it did. -/
def fnExactDecideAppealSpec : ChangeSpec := { name := "fnExactDecideAppeal", fn := fun _ => fun
  | [d1, d2, d3, d4, d5] => { results := [.lit (.bool true)], args := [d1, d2, d3, d4, d5] }
  | _ => none }
def fnExactDecideAppealRow : OpenClaim := { program := "ytmpdbkkaknmdnaa", sum := "53ad32504b29701458a8352ae8fcd177b77113671020e06171e4c6460e71e30f", func := "loop.example/g01027/laws.FnExactDecideAppeal", spec := "fnExactDecideAppeal", apart := false }
def FnExactDecideAppealSaid : Prop := fnExactDecideAppealRow.holds Try.pinned (OpenSpec.ofChange fnExactDecideAppealSpec)

/-- ITS FALSE NEIGHBOUR: 'it returns false'. Refute it at one input. -/
def fnExactDecideAppealWrong : ChangeSpec := { name := "fnExactDecideAppeal", fn := fun _ => fun
  | [d1, d2, d3, d4, d5] => { results := [.lit (.bool false)], args := [d1, d2, d3, d4, d5] }
  | _ => none }
def FnExactDecideAppealWrongFalsely : Prop := fnExactDecideAppealRow.holds Try.pinned (OpenSpec.ofChange fnExactDecideAppealWrong)

/-- 'laws.FnExactFileAppeal': WHATEVER THE INPUT: true; the input reads as it did. -/
def fnExactFileAppealSpec : ChangeSpec := { name := "fnExactFileAppeal", fn := fun _ => fun
  | [d1, d2, d3, d4] => { results := [.lit (.bool true)], args := [d1, d2, d3, d4] }
  | _ => none }
def fnExactFileAppealRow : OpenClaim := { program := "ytmpdbkkaknmdnaa", sum := "53ad32504b29701458a8352ae8fcd177b77113671020e06171e4c6460e71e30f", func := "loop.example/g01027/laws.FnExactFileAppeal", spec := "fnExactFileAppeal", apart := false }
def FnExactFileAppealSaid : Prop := fnExactFileAppealRow.holds Try.pinned (OpenSpec.ofChange fnExactFileAppealSpec)

/-- ITS FALSE NEIGHBOUR: 'it returns false'. Refute it at one input. -/
def fnExactFileAppealWrong : ChangeSpec := { name := "fnExactFileAppeal", fn := fun _ => fun
  | [d1, d2, d3, d4] => { results := [.lit (.bool false)], args := [d1, d2, d3, d4] }
  | _ => none }
def FnExactFileAppealWrongFalsely : Prop := fnExactFileAppealRow.holds Try.pinned (OpenSpec.ofChange fnExactFileAppealWrong)

/-- 'laws.FnAppeals': WHATEVER THE INPUT: true; the input reads as it did. -/
def fnAppealsSpec : ChangeSpec := { name := "fnAppeals", fn := fun _ => fun
  | [d] => { results := [.lit (.bool true)], args := [d] }
  | _ => none }
def fnAppealsRow : OpenClaim := { program := "ytmpdbkkaknmdnaa", sum := "53ad32504b29701458a8352ae8fcd177b77113671020e06171e4c6460e71e30f", func := "loop.example/g01027/laws.FnAppeals", spec := "fnAppeals", apart := false }
def FnAppealsSaid : Prop := fnAppealsRow.holds Try.pinned (OpenSpec.ofChange fnAppealsSpec)

/-- ITS FALSE NEIGHBOUR: 'it returns false'. Refute it at one input. -/
def fnAppealsWrong : ChangeSpec := { name := "fnAppeals", fn := fun _ => fun
  | [d] => { results := [.lit (.bool false)], args := [d] }
  | _ => none }
def FnAppealsWrongFalsely : Prop := fnAppealsRow.holds Try.pinned (OpenSpec.ofChange fnAppealsWrong)

/-- 'laws.FnFinal': WHATEVER THE INPUT: true; the input reads as it did. -/
def fnFinalSpec : ChangeSpec := { name := "fnFinal", fn := fun _ => fun
  | [d] => { results := [.lit (.bool true)], args := [d] }
  | _ => none }
def fnFinalRow : OpenClaim := { program := "ytmpdbkkaknmdnaa", sum := "53ad32504b29701458a8352ae8fcd177b77113671020e06171e4c6460e71e30f", func := "loop.example/g01027/laws.FnFinal", spec := "fnFinal", apart := false }
def FnFinalSaid : Prop := fnFinalRow.holds Try.pinned (OpenSpec.ofChange fnFinalSpec)

/-- ITS FALSE NEIGHBOUR: 'it returns false'. Refute it at one input. -/
def fnFinalWrong : ChangeSpec := { name := "fnFinal", fn := fun _ => fun
  | [d] => { results := [.lit (.bool false)], args := [d] }
  | _ => none }
def FnFinalWrongFalsely : Prop := fnFinalRow.holds Try.pinned (OpenSpec.ofChange fnFinalWrong)

/- THE SECOND FORM. 'bulk': how many values and letters a reading holds, each counted each time it is reached (what is shared counts as often as it is met; a slice's spare places count too). A statement '..UptoSaid' is the law's where the arguments, and the package variables that the reading takes, are together of bulk at most 1048576: NARROWER than '..Said'. Prove '..Said' where nothing that the law and all that it calls make is longer than what came in: it says more and counts as full. Else prove '..UptoSaid'. A law counts once. -/
mutual
def uptoBulk {H : Type} : DataW H → Nat
  | .lit (.string bytes) => bytes.length + 1
  | .lit _ => 1
  | .nil => 1
  | .ptr d => uptoBulk d + 1
  | .slice elems spare => uptoBulkAll elems + uptoBulkAll spare + 1
  | .agg parts => uptoBulkAll parts + 1
  | .iface _ d => uptoBulk d + 1
  | .map entries => uptoBulkEntries entries + 1
  | .held _ => 1
def uptoBulkAll {H : Type} : List (DataW H) → Nat
  | [] => 0
  | d :: r => uptoBulk d + uptoBulkAll r
def uptoBulkEntries {H : Type} : List (Lit × DataW H) → Nat
  | [] => 0
  | x :: r => uptoBulkEntry x + uptoBulkEntries r
def uptoBulkEntry {H : Type} : Lit × DataW H → Nat
  | (.string bytes, d) => bytes.length + uptoBulk d + 1
  | (_, d) => uptoBulk d + 1
 end
def uptoSmall : (H : Type) → List (DataW H) → Bool := fun _ ds => decide (uptoBulkAll ds ≤ 1048576)
def OpenSpec.upto (s : _root_.Go.ChangeSpec) : _root_.Go.OpenSpec := { _root_.Go.OpenSpec.ofChange s with cond := some uptoSmall }

/-- 'laws.FnExactAreAppeals', WHERE WHAT IT READS IS OF BULK AT MOST 1048576: true; the input reads as it did. -/
def fnExactAreAppealsUptoRow : OpenClaim := { program := "ytmpdbkkaknmdnaa", sum := "53ad32504b29701458a8352ae8fcd177b77113671020e06171e4c6460e71e30f", func := "loop.example/g01027/laws.FnExactAreAppeals", spec := "fnExactAreAppeals", apart := false, narrowed := true }
def FnExactAreAppealsUptoSaid : Prop := fnExactAreAppealsUptoRow.holds Try.pinned (OpenSpec.upto fnExactAreAppealsSpec)

/-- 'laws.FnExactLongestAppeal', WHERE WHAT IT READS IS OF BULK AT MOST 1048576: true; the input reads as it did. -/
def fnExactLongestAppealUptoRow : OpenClaim := { program := "ytmpdbkkaknmdnaa", sum := "53ad32504b29701458a8352ae8fcd177b77113671020e06171e4c6460e71e30f", func := "loop.example/g01027/laws.FnExactLongestAppeal", spec := "fnExactLongestAppeal", apart := false, narrowed := true }
def FnExactLongestAppealUptoSaid : Prop := fnExactLongestAppealUptoRow.holds Try.pinned (OpenSpec.upto fnExactLongestAppealSpec)

/-- 'laws.FnExactStandsOn', WHERE WHAT IT READS IS OF BULK AT MOST 1048576: true; the input reads as it did. -/
def fnExactStandsOnUptoRow : OpenClaim := { program := "ytmpdbkkaknmdnaa", sum := "53ad32504b29701458a8352ae8fcd177b77113671020e06171e4c6460e71e30f", func := "loop.example/g01027/laws.FnExactStandsOn", spec := "fnExactStandsOn", apart := false, narrowed := true }
def FnExactStandsOnUptoSaid : Prop := fnExactStandsOnUptoRow.holds Try.pinned (OpenSpec.upto fnExactStandsOnSpec)

/-- 'laws.FnExactDeadlineFor', WHERE WHAT IT READS IS OF BULK AT MOST 1048576: true; the input reads as it did. -/
def fnExactDeadlineForUptoRow : OpenClaim := { program := "ytmpdbkkaknmdnaa", sum := "53ad32504b29701458a8352ae8fcd177b77113671020e06171e4c6460e71e30f", func := "loop.example/g01027/laws.FnExactDeadlineFor", spec := "fnExactDeadlineFor", apart := false, narrowed := true }
def FnExactDeadlineForUptoSaid : Prop := fnExactDeadlineForUptoRow.holds Try.pinned (OpenSpec.upto fnExactDeadlineForSpec)

/-- 'laws.FnExactIsFinalOn', WHERE WHAT IT READS IS OF BULK AT MOST 1048576: true; the input reads as it did. -/
def fnExactIsFinalOnUptoRow : OpenClaim := { program := "ytmpdbkkaknmdnaa", sum := "53ad32504b29701458a8352ae8fcd177b77113671020e06171e4c6460e71e30f", func := "loop.example/g01027/laws.FnExactIsFinalOn", spec := "fnExactIsFinalOn", apart := false, narrowed := true }
def FnExactIsFinalOnUptoSaid : Prop := fnExactIsFinalOnUptoRow.holds Try.pinned (OpenSpec.upto fnExactIsFinalOnSpec)

/-- 'laws.FnExactReplyAppeal', WHERE WHAT IT READS IS OF BULK AT MOST 1048576: true; the input reads as it did. -/
def fnExactReplyAppealUptoRow : OpenClaim := { program := "ytmpdbkkaknmdnaa", sum := "53ad32504b29701458a8352ae8fcd177b77113671020e06171e4c6460e71e30f", func := "loop.example/g01027/laws.FnExactReplyAppeal", spec := "fnExactReplyAppeal", apart := false, narrowed := true }
def FnExactReplyAppealUptoSaid : Prop := fnExactReplyAppealUptoRow.holds Try.pinned (OpenSpec.upto fnExactReplyAppealSpec)

/-- 'laws.FnExactDecideAppeal', WHERE WHAT IT READS IS OF BULK AT MOST 1048576: true; the input reads as it did. -/
def fnExactDecideAppealUptoRow : OpenClaim := { program := "ytmpdbkkaknmdnaa", sum := "53ad32504b29701458a8352ae8fcd177b77113671020e06171e4c6460e71e30f", func := "loop.example/g01027/laws.FnExactDecideAppeal", spec := "fnExactDecideAppeal", apart := false, narrowed := true }
def FnExactDecideAppealUptoSaid : Prop := fnExactDecideAppealUptoRow.holds Try.pinned (OpenSpec.upto fnExactDecideAppealSpec)

/-- 'laws.FnExactFileAppeal', WHERE WHAT IT READS IS OF BULK AT MOST 1048576: true; the input reads as it did. -/
def fnExactFileAppealUptoRow : OpenClaim := { program := "ytmpdbkkaknmdnaa", sum := "53ad32504b29701458a8352ae8fcd177b77113671020e06171e4c6460e71e30f", func := "loop.example/g01027/laws.FnExactFileAppeal", spec := "fnExactFileAppeal", apart := false, narrowed := true }
def FnExactFileAppealUptoSaid : Prop := fnExactFileAppealUptoRow.holds Try.pinned (OpenSpec.upto fnExactFileAppealSpec)

/-- 'laws.FnAppeals', WHERE WHAT IT READS IS OF BULK AT MOST 1048576: true; the input reads as it did. -/
def fnAppealsUptoRow : OpenClaim := { program := "ytmpdbkkaknmdnaa", sum := "53ad32504b29701458a8352ae8fcd177b77113671020e06171e4c6460e71e30f", func := "loop.example/g01027/laws.FnAppeals", spec := "fnAppeals", apart := false, narrowed := true }
def FnAppealsUptoSaid : Prop := fnAppealsUptoRow.holds Try.pinned (OpenSpec.upto fnAppealsSpec)

/-- 'laws.FnFinal', WHERE WHAT IT READS IS OF BULK AT MOST 1048576: true; the input reads as it did. -/
def fnFinalUptoRow : OpenClaim := { program := "ytmpdbkkaknmdnaa", sum := "53ad32504b29701458a8352ae8fcd177b77113671020e06171e4c6460e71e30f", func := "loop.example/g01027/laws.FnFinal", spec := "fnFinal", apart := false, narrowed := true }
def FnFinalUptoSaid : Prop := fnFinalUptoRow.holds Try.pinned (OpenSpec.upto fnFinalSpec)

end Rows
end Go.Proofs.Ytmpdbkkaknmdnaa
