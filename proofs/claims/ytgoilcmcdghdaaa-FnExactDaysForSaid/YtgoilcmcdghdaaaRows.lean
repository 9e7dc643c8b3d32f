/-
  No cell of these rows narrows 'for every input' (looked for: loops, veiled, ifaces, maps, wideKeys, modest, calm, conditions, laid).
  DERIVED. THE GIVEN ROWS OF THIS SEAT. 11 by the template 'for every input the law returns true; each argument reads behind the call as it read before'; 0 by the template 'total and deterministic' (their statements: YtgoilcmcdghdaaaTotals.lean).
  GIVEN WITH THE SEED: the statements are not yours to turn. If you find one false, say at which input.
  Laid BY PROGRAM, IN A SANDBOX (cutbox-rows.mjs): the forced cells as the released guide's own fill.sh prints them over the translation 4fb38c4e2c61451d… (all of the seat's roots in one cut). By AI agents, Wed Nov 11 2026. No macro, syntax, notation, axiom, sorry.
-/
import Derived.Test.YtgoilcmcdghdaaaChecked
import GoSem.Claim
import GoSem.ClaimJoined
import GoSem.ClaimMapViews
import Derived.JoinedTies
import Derived.KernelRfl
namespace Go.Proofs.Ytgoilcmcdghdaaa
/- THE CELL 'sum', in the pinned program and in every row, IS THE sha256 OF THE DUMP (.gsa) THAT YtgoilcmcdghdaaaProg.lean LOADS. Nothing in Lean hashes anything: it is a label: what it is worth is what the hold of that sum in a sandbox is worth. -/
noncomputable def Try.pinned : Pinned := { name := "ytgoilcmcdghdaaa", sum := "4fb38c4e2c61451dd531b9c00e5171eaae0d01760c5da74748a3819e26b5f469", checked := Try.checked }
namespace Rows
def none {H : Type} : Left H := { results := [], args := [] }

/-- 'laws.FnExactIsService': WHATEVER THE INPUT: true; the input reads as it did. -/
def fnExactIsServiceSpec : ChangeSpec := { name := "fnExactIsService", fn := fun _ => fun
  | [d] => { results := [.lit (.bool true)], args := [d] }
  | _ => none }
def fnExactIsServiceRow : OpenClaim := { program := "ytgoilcmcdghdaaa", sum := "4fb38c4e2c61451dd531b9c00e5171eaae0d01760c5da74748a3819e26b5f469", func := "loop.example/g01027/laws.FnExactIsService", spec := "fnExactIsService", apart := false }
def FnExactIsServiceSaid : Prop := fnExactIsServiceRow.holds Try.pinned (OpenSpec.ofChange fnExactIsServiceSpec)

/-- ITS FALSE NEIGHBOUR: 'it returns false'. Refute it at one input. -/
def fnExactIsServiceWrong : ChangeSpec := { name := "fnExactIsService", fn := fun _ => fun
  | [d] => { results := [.lit (.bool false)], args := [d] }
  | _ => none }
def FnExactIsServiceWrongFalsely : Prop := fnExactIsServiceRow.holds Try.pinned (OpenSpec.ofChange fnExactIsServiceWrong)

/-- 'laws.FnExactIsTariff': WHATEVER THE INPUT: true; the input reads as it did. -/
def fnExactIsTariffSpec : ChangeSpec := { name := "fnExactIsTariff", fn := fun _ => fun
  | [d] => { results := [.lit (.bool true)], args := [d] }
  | _ => none }
def fnExactIsTariffRow : OpenClaim := { program := "ytgoilcmcdghdaaa", sum := "4fb38c4e2c61451dd531b9c00e5171eaae0d01760c5da74748a3819e26b5f469", func := "loop.example/g01027/laws.FnExactIsTariff", spec := "fnExactIsTariff", apart := false }
def FnExactIsTariffSaid : Prop := fnExactIsTariffRow.holds Try.pinned (OpenSpec.ofChange fnExactIsTariffSpec)

/-- ITS FALSE NEIGHBOUR: 'it returns false'. Refute it at one input. -/
def fnExactIsTariffWrong : ChangeSpec := { name := "fnExactIsTariff", fn := fun _ => fun
  | [d] => { results := [.lit (.bool false)], args := [d] }
  | _ => none }
def FnExactIsTariffWrongFalsely : Prop := fnExactIsTariffRow.holds Try.pinned (OpenSpec.ofChange fnExactIsTariffWrong)

/-- 'laws.FnExactShareCosts': WHATEVER THE INPUT: true; the input reads as it did. -/
def fnExactShareCostsSpec : ChangeSpec := { name := "fnExactShareCosts", fn := fun _ => fun
  | [d1, d2] => { results := [.lit (.bool true)], args := [d1, d2] }
  | _ => none }
def fnExactShareCostsRow : OpenClaim := { program := "ytgoilcmcdghdaaa", sum := "4fb38c4e2c61451dd531b9c00e5171eaae0d01760c5da74748a3819e26b5f469", func := "loop.example/g01027/laws.FnExactShareCosts", spec := "fnExactShareCosts", apart := false }
def FnExactShareCostsSaid : Prop := fnExactShareCostsRow.holds Try.pinned (OpenSpec.ofChange fnExactShareCostsSpec)

/-- ITS FALSE NEIGHBOUR: 'it returns false'. Refute it at one input. -/
def fnExactShareCostsWrong : ChangeSpec := { name := "fnExactShareCosts", fn := fun _ => fun
  | [d1, d2] => { results := [.lit (.bool false)], args := [d1, d2] }
  | _ => none }
def FnExactShareCostsWrongFalsely : Prop := fnExactShareCostsRow.holds Try.pinned (OpenSpec.ofChange fnExactShareCostsWrong)

/-- 'laws.FnExactBoardFor': WHATEVER THE INPUT: true; the input reads as it did. -/
def fnExactBoardForSpec : ChangeSpec := { name := "fnExactBoardFor", fn := fun _ => fun
  | [d1, d2] => { results := [.lit (.bool true)], args := [d1, d2] }
  | _ => none }
def fnExactBoardForRow : OpenClaim := { program := "ytgoilcmcdghdaaa", sum := "4fb38c4e2c61451dd531b9c00e5171eaae0d01760c5da74748a3819e26b5f469", func := "loop.example/g01027/laws.FnExactBoardFor", spec := "fnExactBoardFor", apart := false }
def FnExactBoardForSaid : Prop := fnExactBoardForRow.holds Try.pinned (OpenSpec.ofChange fnExactBoardForSpec)

/-- ITS FALSE NEIGHBOUR: 'it returns false'. Refute it at one input. -/
def fnExactBoardForWrong : ChangeSpec := { name := "fnExactBoardFor", fn := fun _ => fun
  | [d1, d2] => { results := [.lit (.bool false)], args := [d1, d2] }
  | _ => none }
def FnExactBoardForWrongFalsely : Prop := fnExactBoardForRow.holds Try.pinned (OpenSpec.ofChange fnExactBoardForWrong)

/-- 'laws.FnExactTravelFor': WHATEVER THE INPUT: true; the input reads as it did. -/
def fnExactTravelForSpec : ChangeSpec := { name := "fnExactTravelFor", fn := fun _ => fun
  | [d1, d2] => { results := [.lit (.bool true)], args := [d1, d2] }
  | _ => none }
def fnExactTravelForRow : OpenClaim := { program := "ytgoilcmcdghdaaa", sum := "4fb38c4e2c61451dd531b9c00e5171eaae0d01760c5da74748a3819e26b5f469", func := "loop.example/g01027/laws.FnExactTravelFor", spec := "fnExactTravelFor", apart := false }
def FnExactTravelForSaid : Prop := fnExactTravelForRow.holds Try.pinned (OpenSpec.ofChange fnExactTravelForSpec)

/-- ITS FALSE NEIGHBOUR: 'it returns false'. Refute it at one input. -/
def fnExactTravelForWrong : ChangeSpec := { name := "fnExactTravelFor", fn := fun _ => fun
  | [d1, d2] => { results := [.lit (.bool false)], args := [d1, d2] }
  | _ => none }
def FnExactTravelForWrongFalsely : Prop := fnExactTravelForRow.holds Try.pinned (OpenSpec.ofChange fnExactTravelForWrong)

/-- 'laws.FnExactDaysFor': WHATEVER THE INPUT: true; the input reads as it did. -/
def fnExactDaysForSpec : ChangeSpec := { name := "fnExactDaysFor", fn := fun _ => fun
  | [d1, d2] => { results := [.lit (.bool true)], args := [d1, d2] }
  | _ => none }
def fnExactDaysForRow : OpenClaim := { program := "ytgoilcmcdghdaaa", sum := "4fb38c4e2c61451dd531b9c00e5171eaae0d01760c5da74748a3819e26b5f469", func := "loop.example/g01027/laws.FnExactDaysFor", spec := "fnExactDaysFor", apart := false }
def FnExactDaysForSaid : Prop := fnExactDaysForRow.holds Try.pinned (OpenSpec.ofChange fnExactDaysForSpec)

/-- ITS FALSE NEIGHBOUR: 'it returns false'. Refute it at one input. -/
def fnExactDaysForWrong : ChangeSpec := { name := "fnExactDaysFor", fn := fun _ => fun
  | [d1, d2] => { results := [.lit (.bool false)], args := [d1, d2] }
  | _ => none }
def FnExactDaysForWrongFalsely : Prop := fnExactDaysForRow.holds Try.pinned (OpenSpec.ofChange fnExactDaysForWrong)

/-- 'laws.FnExactFeesFor': WHATEVER THE INPUT: true; the input reads as it did. -/
def fnExactFeesForSpec : ChangeSpec := { name := "fnExactFeesFor", fn := fun _ => fun
  | [d1, d2] => { results := [.lit (.bool true)], args := [d1, d2] }
  | _ => none }
def fnExactFeesForRow : OpenClaim := { program := "ytgoilcmcdghdaaa", sum := "4fb38c4e2c61451dd531b9c00e5171eaae0d01760c5da74748a3819e26b5f469", func := "loop.example/g01027/laws.FnExactFeesFor", spec := "fnExactFeesFor", apart := false }
def FnExactFeesForSaid : Prop := fnExactFeesForRow.holds Try.pinned (OpenSpec.ofChange fnExactFeesForSpec)

/-- ITS FALSE NEIGHBOUR: 'it returns false'. Refute it at one input. -/
def fnExactFeesForWrong : ChangeSpec := { name := "fnExactFeesFor", fn := fun _ => fun
  | [d1, d2] => { results := [.lit (.bool false)], args := [d1, d2] }
  | _ => none }
def FnExactFeesForWrongFalsely : Prop := fnExactFeesForRow.holds Try.pinned (OpenSpec.ofChange fnExactFeesForWrong)

/-- 'laws.FnExactPayFor': WHATEVER THE INPUT: true; the input reads as it did. -/
def fnExactPayForSpec : ChangeSpec := { name := "fnExactPayFor", fn := fun _ => fun
  | [d1, d2] => { results := [.lit (.bool true)], args := [d1, d2] }
  | _ => none }
def fnExactPayForRow : OpenClaim := { program := "ytgoilcmcdghdaaa", sum := "4fb38c4e2c61451dd531b9c00e5171eaae0d01760c5da74748a3819e26b5f469", func := "loop.example/g01027/laws.FnExactPayFor", spec := "fnExactPayFor", apart := false }
def FnExactPayForSaid : Prop := fnExactPayForRow.holds Try.pinned (OpenSpec.ofChange fnExactPayForSpec)

/-- ITS FALSE NEIGHBOUR: 'it returns false'. Refute it at one input. -/
def fnExactPayForWrong : ChangeSpec := { name := "fnExactPayFor", fn := fun _ => fun
  | [d1, d2] => { results := [.lit (.bool false)], args := [d1, d2] }
  | _ => none }
def FnExactPayForWrongFalsely : Prop := fnExactPayForRow.holds Try.pinned (OpenSpec.ofChange fnExactPayForWrong)

/-- 'laws.FnExactRaiseTariff': WHATEVER THE INPUT: true; the input reads as it did. -/
def fnExactRaiseTariffSpec : ChangeSpec := { name := "fnExactRaiseTariff", fn := fun _ => fun
  | [d1, d2] => { results := [.lit (.bool true)], args := [d1, d2] }
  | _ => none }
def fnExactRaiseTariffRow : OpenClaim := { program := "ytgoilcmcdghdaaa", sum := "4fb38c4e2c61451dd531b9c00e5171eaae0d01760c5da74748a3819e26b5f469", func := "loop.example/g01027/laws.FnExactRaiseTariff", spec := "fnExactRaiseTariff", unfollowed := true, recurses := true, apart := false }
def FnExactRaiseTariffSaid : Prop := fnExactRaiseTariffRow.holds Try.pinned (OpenSpec.ofChange fnExactRaiseTariffSpec)

/-- ITS FALSE NEIGHBOUR: 'it returns false'. Refute it at one input. -/
def fnExactRaiseTariffWrong : ChangeSpec := { name := "fnExactRaiseTariff", fn := fun _ => fun
  | [d1, d2] => { results := [.lit (.bool false)], args := [d1, d2] }
  | _ => none }
def FnExactRaiseTariffWrongFalsely : Prop := fnExactRaiseTariffRow.holds Try.pinned (OpenSpec.ofChange fnExactRaiseTariffWrong)

/-- 'laws.FnShares': WHATEVER THE INPUT: true; the input reads as it did. -/
def fnSharesSpec : ChangeSpec := { name := "fnShares", fn := fun _ => fun
  | [d] => { results := [.lit (.bool true)], args := [d] }
  | _ => none }
def fnSharesRow : OpenClaim := { program := "ytgoilcmcdghdaaa", sum := "4fb38c4e2c61451dd531b9c00e5171eaae0d01760c5da74748a3819e26b5f469", func := "loop.example/g01027/laws.FnShares", spec := "fnShares", unfollowed := true, recurses := true, apart := false }
def FnSharesSaid : Prop := fnSharesRow.holds Try.pinned (OpenSpec.ofChange fnSharesSpec)

/-- ITS FALSE NEIGHBOUR: 'it returns false'. Refute it at one input. -/
def fnSharesWrong : ChangeSpec := { name := "fnShares", fn := fun _ => fun
  | [d] => { results := [.lit (.bool false)], args := [d] }
  | _ => none }
def FnSharesWrongFalsely : Prop := fnSharesRow.holds Try.pinned (OpenSpec.ofChange fnSharesWrong)

/-- 'laws.FnFees': WHATEVER THE INPUT: true; the input reads as it did. -/
def fnFeesSpec : ChangeSpec := { name := "fnFees", fn := fun _ => fun
  | [d] => { results := [.lit (.bool true)], args := [d] }
  | _ => none }
def fnFeesRow : OpenClaim := { program := "ytgoilcmcdghdaaa", sum := "4fb38c4e2c61451dd531b9c00e5171eaae0d01760c5da74748a3819e26b5f469", func := "loop.example/g01027/laws.FnFees", spec := "fnFees", apart := false }
def FnFeesSaid : Prop := fnFeesRow.holds Try.pinned (OpenSpec.ofChange fnFeesSpec)

/-- ITS FALSE NEIGHBOUR: 'it returns false'. Refute it at one input. -/
def fnFeesWrong : ChangeSpec := { name := "fnFees", fn := fun _ => fun
  | [d] => { results := [.lit (.bool false)], args := [d] }
  | _ => none }
def FnFeesWrongFalsely : Prop := fnFeesRow.holds Try.pinned (OpenSpec.ofChange fnFeesWrong)

/- THE SECOND FORM. 'bulk': how many values and letters a reading holds, each counted each time it is reached (what is shared counts as often as it is met; a slice's spare places count too). A statement '..UptoSaid' is the law's where the arguments, and the package variables that the reading takes, are together of bulk at most 1048576: NARROWER than '..Said'. Prove '..Said' where nothing that the law and all that it calls make is longer than what came in: it says more and counts as full. Else prove '..UptoSaid'. A law counts once. -/
mutual
def uptoBulk {H : Type} : DataW H → Nat
  | .lit (.string bytes) => bytes.length + 1
  | .lit _ => 1
  | .nil => 1
  | .ptr d => uptoBulk d + 1
  | .slice elems spare => uptoBulkAll elems + uptoBulkAll spare + 1
  | .agg parts => uptoBulkAll parts + 1
  | .iface _ d => uptoBulk d + 1
  | .map entries => uptoBulkEntries entries + 1
  | .held _ => 1
def uptoBulkAll {H : Type} : List (DataW H) → Nat
  | [] => 0
  | d :: r => uptoBulk d + uptoBulkAll r
def uptoBulkEntries {H : Type} : List (Lit × DataW H) → Nat
  | [] => 0
  | x :: r => uptoBulkEntry x + uptoBulkEntries r
def uptoBulkEntry {H : Type} : Lit × DataW H → Nat
  | (.string bytes, d) => bytes.length + uptoBulk d + 1
  | (_, d) => uptoBulk d + 1
 end
def uptoSmall : (H : Type) → List (DataW H) → Bool := fun _ ds => decide (uptoBulkAll ds ≤ 1048576)
def OpenSpec.upto (s : _root_.Go.ChangeSpec) : _root_.Go.OpenSpec := { _root_.Go.OpenSpec.ofChange s with cond := some uptoSmall }

/-- 'laws.FnExactIsService', WHERE WHAT IT READS IS OF BULK AT MOST 1048576: true; the input reads as it did. -/
def fnExactIsServiceUptoRow : OpenClaim := { program := "ytgoilcmcdghdaaa", sum := "4fb38c4e2c61451dd531b9c00e5171eaae0d01760c5da74748a3819e26b5f469", func := "loop.example/g01027/laws.FnExactIsService", spec := "fnExactIsService", apart := false, narrowed := true }
def FnExactIsServiceUptoSaid : Prop := fnExactIsServiceUptoRow.holds Try.pinned (OpenSpec.upto fnExactIsServiceSpec)

/-- 'laws.FnExactIsTariff', WHERE WHAT IT READS IS OF BULK AT MOST 1048576: true; the input reads as it did. -/
def fnExactIsTariffUptoRow : OpenClaim := { program := "ytgoilcmcdghdaaa", sum := "4fb38c4e2c61451dd531b9c00e5171eaae0d01760c5da74748a3819e26b5f469", func := "loop.example/g01027/laws.FnExactIsTariff", spec := "fnExactIsTariff", apart := false, narrowed := true }
def FnExactIsTariffUptoSaid : Prop := fnExactIsTariffUptoRow.holds Try.pinned (OpenSpec.upto fnExactIsTariffSpec)

/-- 'laws.FnExactShareCosts', WHERE WHAT IT READS IS OF BULK AT MOST 1048576: true; the input reads as it did. -/
def fnExactShareCostsUptoRow : OpenClaim := { program := "ytgoilcmcdghdaaa", sum := "4fb38c4e2c61451dd531b9c00e5171eaae0d01760c5da74748a3819e26b5f469", func := "loop.example/g01027/laws.FnExactShareCosts", spec := "fnExactShareCosts", apart := false, narrowed := true }
def FnExactShareCostsUptoSaid : Prop := fnExactShareCostsUptoRow.holds Try.pinned (OpenSpec.upto fnExactShareCostsSpec)

/-- 'laws.FnExactBoardFor', WHERE WHAT IT READS IS OF BULK AT MOST 1048576: true; the input reads as it did. -/
def fnExactBoardForUptoRow : OpenClaim := { program := "ytgoilcmcdghdaaa", sum := "4fb38c4e2c61451dd531b9c00e5171eaae0d01760c5da74748a3819e26b5f469", func := "loop.example/g01027/laws.FnExactBoardFor", spec := "fnExactBoardFor", apart := false, narrowed := true }
def FnExactBoardForUptoSaid : Prop := fnExactBoardForUptoRow.holds Try.pinned (OpenSpec.upto fnExactBoardForSpec)

/-- 'laws.FnExactTravelFor', WHERE WHAT IT READS IS OF BULK AT MOST 1048576: true; the input reads as it did. -/
def fnExactTravelForUptoRow : OpenClaim := { program := "ytgoilcmcdghdaaa", sum := "4fb38c4e2c61451dd531b9c00e5171eaae0d01760c5da74748a3819e26b5f469", func := "loop.example/g01027/laws.FnExactTravelFor", spec := "fnExactTravelFor", apart := false, narrowed := true }
def FnExactTravelForUptoSaid : Prop := fnExactTravelForUptoRow.holds Try.pinned (OpenSpec.upto fnExactTravelForSpec)

/-- 'laws.FnExactDaysFor', WHERE WHAT IT READS IS OF BULK AT MOST 1048576: true; the input reads as it did. -/
def fnExactDaysForUptoRow : OpenClaim := { program := "ytgoilcmcdghdaaa", sum := "4fb38c4e2c61451dd531b9c00e5171eaae0d01760c5da74748a3819e26b5f469", func := "loop.example/g01027/laws.FnExactDaysFor", spec := "fnExactDaysFor", apart := false, narrowed := true }
def FnExactDaysForUptoSaid : Prop := fnExactDaysForUptoRow.holds Try.pinned (OpenSpec.upto fnExactDaysForSpec)

/-- 'laws.FnExactFeesFor', WHERE WHAT IT READS IS OF BULK AT MOST 1048576: true; the input reads as it did. -/
def fnExactFeesForUptoRow : OpenClaim := { program := "ytgoilcmcdghdaaa", sum := "4fb38c4e2c61451dd531b9c00e5171eaae0d01760c5da74748a3819e26b5f469", func := "loop.example/g01027/laws.FnExactFeesFor", spec := "fnExactFeesFor", apart := false, narrowed := true }
def FnExactFeesForUptoSaid : Prop := fnExactFeesForUptoRow.holds Try.pinned (OpenSpec.upto fnExactFeesForSpec)

/-- 'laws.FnExactPayFor', WHERE WHAT IT READS IS OF BULK AT MOST 1048576: true; the input reads as it did. -/
def fnExactPayForUptoRow : OpenClaim := { program := "ytgoilcmcdghdaaa", sum := "4fb38c4e2c61451dd531b9c00e5171eaae0d01760c5da74748a3819e26b5f469", func := "loop.example/g01027/laws.FnExactPayFor", spec := "fnExactPayFor", apart := false, narrowed := true }
def FnExactPayForUptoSaid : Prop := fnExactPayForUptoRow.holds Try.pinned (OpenSpec.upto fnExactPayForSpec)

/-- 'laws.FnExactRaiseTariff', WHERE WHAT IT READS IS OF BULK AT MOST 1048576: true; the input reads as it did. -/
def fnExactRaiseTariffUptoRow : OpenClaim := { program := "ytgoilcmcdghdaaa", sum := "4fb38c4e2c61451dd531b9c00e5171eaae0d01760c5da74748a3819e26b5f469", func := "loop.example/g01027/laws.FnExactRaiseTariff", spec := "fnExactRaiseTariff", unfollowed := true, recurses := true, apart := false, narrowed := true }
def FnExactRaiseTariffUptoSaid : Prop := fnExactRaiseTariffUptoRow.holds Try.pinned (OpenSpec.upto fnExactRaiseTariffSpec)

/-- 'laws.FnShares', WHERE WHAT IT READS IS OF BULK AT MOST 1048576: true; the input reads as it did. -/
def fnSharesUptoRow : OpenClaim := { program := "ytgoilcmcdghdaaa", sum := "4fb38c4e2c61451dd531b9c00e5171eaae0d01760c5da74748a3819e26b5f469", func := "loop.example/g01027/laws.FnShares", spec := "fnShares", unfollowed := true, recurses := true, apart := false, narrowed := true }
def FnSharesUptoSaid : Prop := fnSharesUptoRow.holds Try.pinned (OpenSpec.upto fnSharesSpec)

/-- 'laws.FnFees', WHERE WHAT IT READS IS OF BULK AT MOST 1048576: true; the input reads as it did. -/
def fnFeesUptoRow : OpenClaim := { program := "ytgoilcmcdghdaaa", sum := "4fb38c4e2c61451dd531b9c00e5171eaae0d01760c5da74748a3819e26b5f469", func := "loop.example/g01027/laws.FnFees", spec := "fnFees", apart := false, narrowed := true }
def FnFeesUptoSaid : Prop := fnFeesUptoRow.holds Try.pinned (OpenSpec.upto fnFeesSpec)

end Rows
end Go.Proofs.Ytgoilcmcdghdaaa
