/-
  No cell of these rows narrows 'for every input' (looked for: loops, veiled, ifaces, maps, wideKeys, modest, calm, conditions, laid).
  DERIVED. THE GIVEN ROWS OF THIS SEAT. 10 by the template 'for every input the law returns true; each argument reads behind the call as it read before'; 0 by the template 'total and deterministic' (their statements: YtlcofipnnlflpaaTotals.lean).
  GIVEN WITH THE SEED: the statements are not yours to turn. If you find one false, say at which input.
  Laid BY PROGRAM, IN A SANDBOX (cutbox-rows.mjs): the forced cells as the released guide's own fill.sh prints them over the translation cfde567ae58a66df… (all of the seat's roots in one cut). By AI agents, Wed Nov 11 2026. No macro, syntax, notation, axiom, sorry.
-/
import Derived.Test.YtlcofipnnlflpaaChecked
import GoSem.Claim
import GoSem.ClaimJoined
import GoSem.ClaimMapViews
import Derived.JoinedTies
import Derived.KernelRfl
namespace Go.Proofs.Ytlcofipnnlflpaa
/- THE CELL 'sum', in the pinned program and in every row, IS THE sha256 OF THE DUMP (.gsa) THAT YtlcofipnnlflpaaProg.lean LOADS. Nothing in Lean hashes anything: it is a label: what it is worth is what the hold of that sum in a sandbox is worth. -/
noncomputable def Try.pinned : Pinned := { name := "ytlcofipnnlflpaa", sum := "cfde567ae58a66dffbb98a6e30ec8958ae60bda983010e7086f49967b1aabcc5", checked := Try.checked }
namespace Rows
def none {H : Type} : Left H := { results := [], args := [] }

/-- 'laws.FnExactAreMotions': WHATEVER THE INPUT: true; the input reads as it did. -/
def fnExactAreMotionsSpec : ChangeSpec := { name := "fnExactAreMotions", fn := fun _ => fun
  | [d] => { results := [.lit (.bool true)], args := [d] }
  | _ => none }
def fnExactAreMotionsRow : OpenClaim := { program := "ytlcofipnnlflpaa", sum := "cfde567ae58a66dffbb98a6e30ec8958ae60bda983010e7086f49967b1aabcc5", func := "loop.example/g01027/laws.FnExactAreMotions", spec := "fnExactAreMotions", apart := false }
def FnExactAreMotionsSaid : Prop := fnExactAreMotionsRow.holds Try.pinned (OpenSpec.ofChange fnExactAreMotionsSpec)

/-- ITS FALSE NEIGHBOUR: 'it returns false'. Refute it at one input. -/
def fnExactAreMotionsWrong : ChangeSpec := { name := "fnExactAreMotions", fn := fun _ => fun
  | [d] => { results := [.lit (.bool false)], args := [d] }
  | _ => none }
def FnExactAreMotionsWrongFalsely : Prop := fnExactAreMotionsRow.holds Try.pinned (OpenSpec.ofChange fnExactAreMotionsWrong)

/-- 'laws.FnExactCountStates': WHATEVER THE INPUT: true; the input reads as it did. -/
def fnExactCountStatesSpec : ChangeSpec := { name := "fnExactCountStates", fn := fun _ => fun
  | [d] => { results := [.lit (.bool true)], args := [d] }
  | _ => none }
def fnExactCountStatesRow : OpenClaim := { program := "ytlcofipnnlflpaa", sum := "cfde567ae58a66dffbb98a6e30ec8958ae60bda983010e7086f49967b1aabcc5", func := "loop.example/g01027/laws.FnExactCountStates", spec := "fnExactCountStates", apart := false }
def FnExactCountStatesSaid : Prop := fnExactCountStatesRow.holds Try.pinned (OpenSpec.ofChange fnExactCountStatesSpec)

/-- ITS FALSE NEIGHBOUR: 'it returns false'. Refute it at one input. -/
def fnExactCountStatesWrong : ChangeSpec := { name := "fnExactCountStates", fn := fun _ => fun
  | [d] => { results := [.lit (.bool false)], args := [d] }
  | _ => none }
def FnExactCountStatesWrongFalsely : Prop := fnExactCountStatesRow.holds Try.pinned (OpenSpec.ofChange fnExactCountStatesWrong)

/-- 'laws.FnExactOpenMotions': WHATEVER THE INPUT: true; the input reads as it did. -/
def fnExactOpenMotionsSpec : ChangeSpec := { name := "fnExactOpenMotions", fn := fun _ => fun
  | [d] => { results := [.lit (.bool true)], args := [d] }
  | _ => none }
def fnExactOpenMotionsRow : OpenClaim := { program := "ytlcofipnnlflpaa", sum := "cfde567ae58a66dffbb98a6e30ec8958ae60bda983010e7086f49967b1aabcc5", func := "loop.example/g01027/laws.FnExactOpenMotions", spec := "fnExactOpenMotions", unfollowed := true, recurses := true, apart := false }
def FnExactOpenMotionsSaid : Prop := fnExactOpenMotionsRow.holds Try.pinned (OpenSpec.ofChange fnExactOpenMotionsSpec)

/-- ITS FALSE NEIGHBOUR: 'it returns false'. Refute it at one input. -/
def fnExactOpenMotionsWrong : ChangeSpec := { name := "fnExactOpenMotions", fn := fun _ => fun
  | [d] => { results := [.lit (.bool false)], args := [d] }
  | _ => none }
def FnExactOpenMotionsWrongFalsely : Prop := fnExactOpenMotionsRow.holds Try.pinned (OpenSpec.ofChange fnExactOpenMotionsWrong)

/-- 'laws.FnExactDueOn': WHATEVER THE INPUT: true; the input reads as it did. -/
def fnExactDueOnSpec : ChangeSpec := { name := "fnExactDueOn", fn := fun _ => fun
  | [d1, d2] => { results := [.lit (.bool true)], args := [d1, d2] }
  | _ => none }
def fnExactDueOnRow : OpenClaim := { program := "ytlcofipnnlflpaa", sum := "cfde567ae58a66dffbb98a6e30ec8958ae60bda983010e7086f49967b1aabcc5", func := "loop.example/g01027/laws.FnExactDueOn", spec := "fnExactDueOn", unfollowed := true, recurses := true, apart := false }
def FnExactDueOnSaid : Prop := fnExactDueOnRow.holds Try.pinned (OpenSpec.ofChange fnExactDueOnSpec)

/-- ITS FALSE NEIGHBOUR: 'it returns false'. Refute it at one input. -/
def fnExactDueOnWrong : ChangeSpec := { name := "fnExactDueOn", fn := fun _ => fun
  | [d1, d2] => { results := [.lit (.bool false)], args := [d1, d2] }
  | _ => none }
def FnExactDueOnWrongFalsely : Prop := fnExactDueOnRow.holds Try.pinned (OpenSpec.ofChange fnExactDueOnWrong)

/-- 'laws.FnExactFileMotion': WHATEVER THE INPUT: true; the input reads as it did. -/
def fnExactFileMotionSpec : ChangeSpec := { name := "fnExactFileMotion", fn := fun _ => fun
  | [d1, d2, d3, d4] => { results := [.lit (.bool true)], args := [d1, d2, d3, d4] }
  | _ => none }
def fnExactFileMotionRow : OpenClaim := { program := "ytlcofipnnlflpaa", sum := "cfde567ae58a66dffbb98a6e30ec8958ae60bda983010e7086f49967b1aabcc5", func := "loop.example/g01027/laws.FnExactFileMotion", spec := "fnExactFileMotion", apart := false }
def FnExactFileMotionSaid : Prop := fnExactFileMotionRow.holds Try.pinned (OpenSpec.ofChange fnExactFileMotionSpec)

/-- ITS FALSE NEIGHBOUR: 'it returns false'. Refute it at one input. -/
def fnExactFileMotionWrong : ChangeSpec := { name := "fnExactFileMotion", fn := fun _ => fun
  | [d1, d2, d3, d4] => { results := [.lit (.bool false)], args := [d1, d2, d3, d4] }
  | _ => none }
def FnExactFileMotionWrongFalsely : Prop := fnExactFileMotionRow.holds Try.pinned (OpenSpec.ofChange fnExactFileMotionWrong)

/-- 'laws.FnExactWaitingFor': WHATEVER THE INPUT: true; the input reads as it did. -/
def fnExactWaitingForSpec : ChangeSpec := { name := "fnExactWaitingFor", fn := fun _ => fun
  | [d1, d2] => { results := [.lit (.bool true)], args := [d1, d2] }
  | _ => none }
def fnExactWaitingForRow : OpenClaim := { program := "ytlcofipnnlflpaa", sum := "cfde567ae58a66dffbb98a6e30ec8958ae60bda983010e7086f49967b1aabcc5", func := "loop.example/g01027/laws.FnExactWaitingFor", spec := "fnExactWaitingFor", apart := false }
def FnExactWaitingForSaid : Prop := fnExactWaitingForRow.holds Try.pinned (OpenSpec.ofChange fnExactWaitingForSpec)

/-- ITS FALSE NEIGHBOUR: 'it returns false'. Refute it at one input. -/
def fnExactWaitingForWrong : ChangeSpec := { name := "fnExactWaitingFor", fn := fun _ => fun
  | [d1, d2] => { results := [.lit (.bool false)], args := [d1, d2] }
  | _ => none }
def FnExactWaitingForWrongFalsely : Prop := fnExactWaitingForRow.holds Try.pinned (OpenSpec.ofChange fnExactWaitingForWrong)

/-- 'laws.FnExactNextStates': WHATEVER THE INPUT: true; the input reads as it did. -/
def fnExactNextStatesSpec : ChangeSpec := { name := "fnExactNextStates", fn := fun _ => fun
  | [d1, d2, d3] => { results := [.lit (.bool true)], args := [d1, d2, d3] }
  | _ => none }
def fnExactNextStatesRow : OpenClaim := { program := "ytlcofipnnlflpaa", sum := "cfde567ae58a66dffbb98a6e30ec8958ae60bda983010e7086f49967b1aabcc5", func := "loop.example/g01027/laws.FnExactNextStates", spec := "fnExactNextStates", apart := false }
def FnExactNextStatesSaid : Prop := fnExactNextStatesRow.holds Try.pinned (OpenSpec.ofChange fnExactNextStatesSpec)

/-- ITS FALSE NEIGHBOUR: 'it returns false'. Refute it at one input. -/
def fnExactNextStatesWrong : ChangeSpec := { name := "fnExactNextStates", fn := fun _ => fun
  | [d1, d2, d3] => { results := [.lit (.bool false)], args := [d1, d2, d3] }
  | _ => none }
def FnExactNextStatesWrongFalsely : Prop := fnExactNextStatesRow.holds Try.pinned (OpenSpec.ofChange fnExactNextStatesWrong)

/-- 'laws.FnExactChangeMotion': WHATEVER THE INPUT: true; the input reads as it did. -/
def fnExactChangeMotionSpec : ChangeSpec := { name := "fnExactChangeMotion", fn := fun _ => fun
  | [d1, d2, d3, d4] => { results := [.lit (.bool true)], args := [d1, d2, d3, d4] }
  | _ => none }
def fnExactChangeMotionRow : OpenClaim := { program := "ytlcofipnnlflpaa", sum := "cfde567ae58a66dffbb98a6e30ec8958ae60bda983010e7086f49967b1aabcc5", func := "loop.example/g01027/laws.FnExactChangeMotion", spec := "fnExactChangeMotion", apart := false }
def FnExactChangeMotionSaid : Prop := fnExactChangeMotionRow.holds Try.pinned (OpenSpec.ofChange fnExactChangeMotionSpec)

/-- ITS FALSE NEIGHBOUR: 'it returns false'. Refute it at one input. -/
def fnExactChangeMotionWrong : ChangeSpec := { name := "fnExactChangeMotion", fn := fun _ => fun
  | [d1, d2, d3, d4] => { results := [.lit (.bool false)], args := [d1, d2, d3, d4] }
  | _ => none }
def FnExactChangeMotionWrongFalsely : Prop := fnExactChangeMotionRow.holds Try.pinned (OpenSpec.ofChange fnExactChangeMotionWrong)

/-- 'laws.FnMotionLists': WHATEVER THE INPUT: true; the input reads as it did. -/
def fnMotionListsSpec : ChangeSpec := { name := "fnMotionLists", fn := fun _ => fun
  | [d] => { results := [.lit (.bool true)], args := [d] }
  | _ => none }
def fnMotionListsRow : OpenClaim := { program := "ytlcofipnnlflpaa", sum := "cfde567ae58a66dffbb98a6e30ec8958ae60bda983010e7086f49967b1aabcc5", func := "loop.example/g01027/laws.FnMotionLists", spec := "fnMotionLists", unfollowed := true, recurses := true, apart := false }
def FnMotionListsSaid : Prop := fnMotionListsRow.holds Try.pinned (OpenSpec.ofChange fnMotionListsSpec)

/-- ITS FALSE NEIGHBOUR: 'it returns false'. Refute it at one input. -/
def fnMotionListsWrong : ChangeSpec := { name := "fnMotionLists", fn := fun _ => fun
  | [d] => { results := [.lit (.bool false)], args := [d] }
  | _ => none }
def FnMotionListsWrongFalsely : Prop := fnMotionListsRow.holds Try.pinned (OpenSpec.ofChange fnMotionListsWrong)

/-- 'laws.FnMotions': WHATEVER THE INPUT: true; the input reads as it did. -/
def fnMotionsSpec : ChangeSpec := { name := "fnMotions", fn := fun _ => fun
  | [d] => { results := [.lit (.bool true)], args := [d] }
  | _ => none }
def fnMotionsRow : OpenClaim := { program := "ytlcofipnnlflpaa", sum := "cfde567ae58a66dffbb98a6e30ec8958ae60bda983010e7086f49967b1aabcc5", func := "loop.example/g01027/laws.FnMotions", spec := "fnMotions", unfollowed := true, recurses := true, apart := false }
def FnMotionsSaid : Prop := fnMotionsRow.holds Try.pinned (OpenSpec.ofChange fnMotionsSpec)

/-- ITS FALSE NEIGHBOUR: 'it returns false'. Refute it at one input. -/
def fnMotionsWrong : ChangeSpec := { name := "fnMotions", fn := fun _ => fun
  | [d] => { results := [.lit (.bool false)], args := [d] }
  | _ => none }
def FnMotionsWrongFalsely : Prop := fnMotionsRow.holds Try.pinned (OpenSpec.ofChange fnMotionsWrong)

/- THE SECOND FORM. 'bulk': how many values and letters a reading holds, each counted each time it is reached (what is shared counts as often as it is met; a slice's spare places count too). A statement '..UptoSaid' is the law's where the arguments, and the package variables that the reading takes, are together of bulk at most 1048576: NARROWER than '..Said'. Prove '..Said' where nothing that the law and all that it calls make is longer than what came in: it says more and counts as full. Else prove '..UptoSaid'. A law counts once. -/
mutual
def uptoBulk {H : Type} : DataW H → Nat
  | .lit (.string bytes) => bytes.length + 1
  | .lit _ => 1
  | .nil => 1
  | .ptr d => uptoBulk d + 1
  | .slice elems spare => uptoBulkAll elems + uptoBulkAll spare + 1
  | .agg parts => uptoBulkAll parts + 1
  | .iface _ d => uptoBulk d + 1
  | .map entries => uptoBulkEntries entries + 1
  | .held _ => 1
def uptoBulkAll {H : Type} : List (DataW H) → Nat
  | [] => 0
  | d :: r => uptoBulk d + uptoBulkAll r
def uptoBulkEntries {H : Type} : List (Lit × DataW H) → Nat
  | [] => 0
  | x :: r => uptoBulkEntry x + uptoBulkEntries r
def uptoBulkEntry {H : Type} : Lit × DataW H → Nat
  | (.string bytes, d) => bytes.length + uptoBulk d + 1
  | (_, d) => uptoBulk d + 1
 end
def uptoSmall : (H : Type) → List (DataW H) → Bool := fun _ ds => decide (uptoBulkAll ds ≤ 1048576)
def OpenSpec.upto (s : _root_.Go.ChangeSpec) : _root_.Go.OpenSpec := { _root_.Go.OpenSpec.ofChange s with cond := some uptoSmall }

/-- 'laws.FnExactAreMotions', WHERE WHAT IT READS IS OF BULK AT MOST 1048576: true; the input reads as it did. -/
def fnExactAreMotionsUptoRow : OpenClaim := { program := "ytlcofipnnlflpaa", sum := "cfde567ae58a66dffbb98a6e30ec8958ae60bda983010e7086f49967b1aabcc5", func := "loop.example/g01027/laws.FnExactAreMotions", spec := "fnExactAreMotions", apart := false, narrowed := true }
def FnExactAreMotionsUptoSaid : Prop := fnExactAreMotionsUptoRow.holds Try.pinned (OpenSpec.upto fnExactAreMotionsSpec)

/-- 'laws.FnExactCountStates', WHERE WHAT IT READS IS OF BULK AT MOST 1048576: true; the input reads as it did. -/
def fnExactCountStatesUptoRow : OpenClaim := { program := "ytlcofipnnlflpaa", sum := "cfde567ae58a66dffbb98a6e30ec8958ae60bda983010e7086f49967b1aabcc5", func := "loop.example/g01027/laws.FnExactCountStates", spec := "fnExactCountStates", apart := false, narrowed := true }
def FnExactCountStatesUptoSaid : Prop := fnExactCountStatesUptoRow.holds Try.pinned (OpenSpec.upto fnExactCountStatesSpec)

/-- 'laws.FnExactOpenMotions', WHERE WHAT IT READS IS OF BULK AT MOST 1048576: true; the input reads as it did. -/
def fnExactOpenMotionsUptoRow : OpenClaim := { program := "ytlcofipnnlflpaa", sum := "cfde567ae58a66dffbb98a6e30ec8958ae60bda983010e7086f49967b1aabcc5", func := "loop.example/g01027/laws.FnExactOpenMotions", spec := "fnExactOpenMotions", unfollowed := true, recurses := true, apart := false, narrowed := true }
def FnExactOpenMotionsUptoSaid : Prop := fnExactOpenMotionsUptoRow.holds Try.pinned (OpenSpec.upto fnExactOpenMotionsSpec)

/-- 'laws.FnExactDueOn', WHERE WHAT IT READS IS OF BULK AT MOST 1048576: true; the input reads as it did. -/
def fnExactDueOnUptoRow : OpenClaim := { program := "ytlcofipnnlflpaa", sum := "cfde567ae58a66dffbb98a6e30ec8958ae60bda983010e7086f49967b1aabcc5", func := "loop.example/g01027/laws.FnExactDueOn", spec := "fnExactDueOn", unfollowed := true, recurses := true, apart := false, narrowed := true }
def FnExactDueOnUptoSaid : Prop := fnExactDueOnUptoRow.holds Try.pinned (OpenSpec.upto fnExactDueOnSpec)

/-- 'laws.FnExactFileMotion', WHERE WHAT IT READS IS OF BULK AT MOST 1048576: true; the input reads as it did. -/
def fnExactFileMotionUptoRow : OpenClaim := { program := "ytlcofipnnlflpaa", sum := "cfde567ae58a66dffbb98a6e30ec8958ae60bda983010e7086f49967b1aabcc5", func := "loop.example/g01027/laws.FnExactFileMotion", spec := "fnExactFileMotion", apart := false, narrowed := true }
def FnExactFileMotionUptoSaid : Prop := fnExactFileMotionUptoRow.holds Try.pinned (OpenSpec.upto fnExactFileMotionSpec)

/-- 'laws.FnExactWaitingFor', WHERE WHAT IT READS IS OF BULK AT MOST 1048576: true; the input reads as it did. -/
def fnExactWaitingForUptoRow : OpenClaim := { program := "ytlcofipnnlflpaa", sum := "cfde567ae58a66dffbb98a6e30ec8958ae60bda983010e7086f49967b1aabcc5", func := "loop.example/g01027/laws.FnExactWaitingFor", spec := "fnExactWaitingFor", apart := false, narrowed := true }
def FnExactWaitingForUptoSaid : Prop := fnExactWaitingForUptoRow.holds Try.pinned (OpenSpec.upto fnExactWaitingForSpec)

/-- 'laws.FnExactNextStates', WHERE WHAT IT READS IS OF BULK AT MOST 1048576: true; the input reads as it did. -/
def fnExactNextStatesUptoRow : OpenClaim := { program := "ytlcofipnnlflpaa", sum := "cfde567ae58a66dffbb98a6e30ec8958ae60bda983010e7086f49967b1aabcc5", func := "loop.example/g01027/laws.FnExactNextStates", spec := "fnExactNextStates", apart := false, narrowed := true }
def FnExactNextStatesUptoSaid : Prop := fnExactNextStatesUptoRow.holds Try.pinned (OpenSpec.upto fnExactNextStatesSpec)

/-- 'laws.FnExactChangeMotion', WHERE WHAT IT READS IS OF BULK AT MOST 1048576: true; the input reads as it did. -/
def fnExactChangeMotionUptoRow : OpenClaim := { program := "ytlcofipnnlflpaa", sum := "cfde567ae58a66dffbb98a6e30ec8958ae60bda983010e7086f49967b1aabcc5", func := "loop.example/g01027/laws.FnExactChangeMotion", spec := "fnExactChangeMotion", apart := false, narrowed := true }
def FnExactChangeMotionUptoSaid : Prop := fnExactChangeMotionUptoRow.holds Try.pinned (OpenSpec.upto fnExactChangeMotionSpec)

/-- 'laws.FnMotionLists', WHERE WHAT IT READS IS OF BULK AT MOST 1048576: true; the input reads as it did. -/
def fnMotionListsUptoRow : OpenClaim := { program := "ytlcofipnnlflpaa", sum := "cfde567ae58a66dffbb98a6e30ec8958ae60bda983010e7086f49967b1aabcc5", func := "loop.example/g01027/laws.FnMotionLists", spec := "fnMotionLists", unfollowed := true, recurses := true, apart := false, narrowed := true }
def FnMotionListsUptoSaid : Prop := fnMotionListsUptoRow.holds Try.pinned (OpenSpec.upto fnMotionListsSpec)

/-- 'laws.FnMotions', WHERE WHAT IT READS IS OF BULK AT MOST 1048576: true; the input reads as it did. -/
def fnMotionsUptoRow : OpenClaim := { program := "ytlcofipnnlflpaa", sum := "cfde567ae58a66dffbb98a6e30ec8958ae60bda983010e7086f49967b1aabcc5", func := "loop.example/g01027/laws.FnMotions", spec := "fnMotions", unfollowed := true, recurses := true, apart := false, narrowed := true }
def FnMotionsUptoSaid : Prop := fnMotionsUptoRow.holds Try.pinned (OpenSpec.upto fnMotionsSpec)

end Rows
end Go.Proofs.Ytlcofipnnlflpaa
