/-
  No cell of these rows narrows 'for every input' (looked for: loops, veiled, ifaces, maps, wideKeys, modest, calm, conditions, laid).
  DERIVED. THE GIVEN ROWS OF THIS SEAT. 4 by the template 'for every input the law returns true; each argument reads behind the call as it read before'; 0 by the template 'total and deterministic' (their statements: YtdohegpbdlcnjaaTotals.lean).
  GIVEN WITH THE SEED: the statements are not yours to turn. If you find one false, say at which input.
  Laid BY PROGRAM, IN A SANDBOX (cutbox-rows.mjs): the forced cells as the released guide's own fill.sh prints them over the translation 049066e6e4c33008… (all of the seat's roots in one cut). By AI agents, Wed Nov 11 2026. No macro, syntax, notation, axiom, sorry.
-/
import Derived.Test.YtdohegpbdlcnjaaChecked
import GoSem.Claim
import GoSem.ClaimJoined
import GoSem.ClaimMapViews
import Derived.JoinedTies
import Derived.KernelRfl
namespace Go.Proofs.Ytdohegpbdlcnjaa
/- THE CELL 'sum', in the pinned program and in every row, IS THE sha256 OF THE DUMP (.gsa) THAT YtdohegpbdlcnjaaProg.lean LOADS. Nothing in Lean hashes anything: it is a label: what it is worth is what the hold of that sum in a sandbox is worth. -/
noncomputable def Try.pinned : Pinned := { name := "ytdohegpbdlcnjaa", sum := "049066e6e4c33008da5e2c4c677a97f16e0af2d789c79a868f6eda15d347006a", checked := Try.checked }
namespace Rows
def none {H : Type} : Left H := { results := [], args := [] }

/-- 'laws.FnMotionLists': WHATEVER THE INPUT: true; the input reads as it did. -/
def fnMotionListsSpec : ChangeSpec := { name := "fnMotionLists", fn := fun _ => fun
  | [d] => { results := [.lit (.bool true)], args := [d] }
  | _ => none }
def fnMotionListsRow : OpenClaim := { program := "ytdohegpbdlcnjaa", sum := "049066e6e4c33008da5e2c4c677a97f16e0af2d789c79a868f6eda15d347006a", func := "loop.example/g01027/laws.FnMotionLists", spec := "fnMotionLists", unfollowed := true, recurses := true, apart := false }
def FnMotionListsSaid : Prop := fnMotionListsRow.holds Try.pinned (OpenSpec.ofChange fnMotionListsSpec)

/-- ITS FALSE NEIGHBOUR: 'it returns false'. Refute it at one input. -/
def fnMotionListsWrong : ChangeSpec := { name := "fnMotionLists", fn := fun _ => fun
  | [d] => { results := [.lit (.bool false)], args := [d] }
  | _ => none }
def FnMotionListsWrongFalsely : Prop := fnMotionListsRow.holds Try.pinned (OpenSpec.ofChange fnMotionListsWrong)

/-- 'laws.FnMotions': WHATEVER THE INPUT: true; the input reads as it did. -/
def fnMotionsSpec : ChangeSpec := { name := "fnMotions", fn := fun _ => fun
  | [d] => { results := [.lit (.bool true)], args := [d] }
  | _ => none }
def fnMotionsRow : OpenClaim := { program := "ytdohegpbdlcnjaa", sum := "049066e6e4c33008da5e2c4c677a97f16e0af2d789c79a868f6eda15d347006a", func := "loop.example/g01027/laws.FnMotions", spec := "fnMotions", unfollowed := true, recurses := true, apart := false }
def FnMotionsSaid : Prop := fnMotionsRow.holds Try.pinned (OpenSpec.ofChange fnMotionsSpec)

/-- ITS FALSE NEIGHBOUR: 'it returns false'. Refute it at one input. -/
def fnMotionsWrong : ChangeSpec := { name := "fnMotions", fn := fun _ => fun
  | [d] => { results := [.lit (.bool false)], args := [d] }
  | _ => none }
def FnMotionsWrongFalsely : Prop := fnMotionsRow.holds Try.pinned (OpenSpec.ofChange fnMotionsWrong)

/-- 'laws.FnAppeals': WHATEVER THE INPUT: true; the input reads as it did. -/
def fnAppealsSpec : ChangeSpec := { name := "fnAppeals", fn := fun _ => fun
  | [d] => { results := [.lit (.bool true)], args := [d] }
  | _ => none }
def fnAppealsRow : OpenClaim := { program := "ytdohegpbdlcnjaa", sum := "049066e6e4c33008da5e2c4c677a97f16e0af2d789c79a868f6eda15d347006a", func := "loop.example/g01027/laws.FnAppeals", spec := "fnAppeals", apart := false }
def FnAppealsSaid : Prop := fnAppealsRow.holds Try.pinned (OpenSpec.ofChange fnAppealsSpec)

/-- ITS FALSE NEIGHBOUR: 'it returns false'. Refute it at one input. -/
def fnAppealsWrong : ChangeSpec := { name := "fnAppeals", fn := fun _ => fun
  | [d] => { results := [.lit (.bool false)], args := [d] }
  | _ => none }
def FnAppealsWrongFalsely : Prop := fnAppealsRow.holds Try.pinned (OpenSpec.ofChange fnAppealsWrong)

/-- 'laws.FnFinal': WHATEVER THE INPUT: true; the input reads as it did. -/
def fnFinalSpec : ChangeSpec := { name := "fnFinal", fn := fun _ => fun
  | [d] => { results := [.lit (.bool true)], args := [d] }
  | _ => none }
def fnFinalRow : OpenClaim := { program := "ytdohegpbdlcnjaa", sum := "049066e6e4c33008da5e2c4c677a97f16e0af2d789c79a868f6eda15d347006a", func := "loop.example/g01027/laws.FnFinal", spec := "fnFinal", apart := false }
def FnFinalSaid : Prop := fnFinalRow.holds Try.pinned (OpenSpec.ofChange fnFinalSpec)

/-- ITS FALSE NEIGHBOUR: 'it returns false'. Refute it at one input. -/
def fnFinalWrong : ChangeSpec := { name := "fnFinal", fn := fun _ => fun
  | [d] => { results := [.lit (.bool false)], args := [d] }
  | _ => none }
def FnFinalWrongFalsely : Prop := fnFinalRow.holds Try.pinned (OpenSpec.ofChange fnFinalWrong)

/- THE SECOND FORM. 'bulk': how many values and letters a reading holds, each counted each time it is reached (what is shared counts as often as it is met; a slice's spare places count too). A statement '..UptoSaid' is the law's where the arguments, and the package variables that the reading takes, are together of bulk at most 1048576: NARROWER than '..Said'. Prove '..Said' where nothing that the law and all that it calls make is longer than what came in: it says more and counts as full. Else prove '..UptoSaid'. A law counts once. -/
mutual
def uptoBulk {H : Type} : DataW H → Nat
  | .lit (.string bytes) => bytes.length + 1
  | .lit _ => 1
  | .nil => 1
  | .ptr d => uptoBulk d + 1
  | .slice elems spare => uptoBulkAll elems + uptoBulkAll spare + 1
  | .agg parts => uptoBulkAll parts + 1
  | .iface _ d => uptoBulk d + 1
  | .map entries => uptoBulkEntries entries + 1
  | .held _ => 1
def uptoBulkAll {H : Type} : List (DataW H) → Nat
  | [] => 0
  | d :: r => uptoBulk d + uptoBulkAll r
def uptoBulkEntries {H : Type} : List (Lit × DataW H) → Nat
  | [] => 0
  | x :: r => uptoBulkEntry x + uptoBulkEntries r
def uptoBulkEntry {H : Type} : Lit × DataW H → Nat
  | (.string bytes, d) => bytes.length + uptoBulk d + 1
  | (_, d) => uptoBulk d + 1
 end
def uptoSmall : (H : Type) → List (DataW H) → Bool := fun _ ds => decide (uptoBulkAll ds ≤ 1048576)
def OpenSpec.upto (s : _root_.Go.ChangeSpec) : _root_.Go.OpenSpec := { _root_.Go.OpenSpec.ofChange s with cond := some uptoSmall }

/-- 'laws.FnMotionLists', WHERE WHAT IT READS IS OF BULK AT MOST 1048576: true; the input reads as it did. -/
def fnMotionListsUptoRow : OpenClaim := { program := "ytdohegpbdlcnjaa", sum := "049066e6e4c33008da5e2c4c677a97f16e0af2d789c79a868f6eda15d347006a", func := "loop.example/g01027/laws.FnMotionLists", spec := "fnMotionLists", unfollowed := true, recurses := true, apart := false, narrowed := true }
def FnMotionListsUptoSaid : Prop := fnMotionListsUptoRow.holds Try.pinned (OpenSpec.upto fnMotionListsSpec)

/-- 'laws.FnMotions', WHERE WHAT IT READS IS OF BULK AT MOST 1048576: true; the input reads as it did. -/
def fnMotionsUptoRow : OpenClaim := { program := "ytdohegpbdlcnjaa", sum := "049066e6e4c33008da5e2c4c677a97f16e0af2d789c79a868f6eda15d347006a", func := "loop.example/g01027/laws.FnMotions", spec := "fnMotions", unfollowed := true, recurses := true, apart := false, narrowed := true }
def FnMotionsUptoSaid : Prop := fnMotionsUptoRow.holds Try.pinned (OpenSpec.upto fnMotionsSpec)

/-- 'laws.FnAppeals', WHERE WHAT IT READS IS OF BULK AT MOST 1048576: true; the input reads as it did. -/
def fnAppealsUptoRow : OpenClaim := { program := "ytdohegpbdlcnjaa", sum := "049066e6e4c33008da5e2c4c677a97f16e0af2d789c79a868f6eda15d347006a", func := "loop.example/g01027/laws.FnAppeals", spec := "fnAppeals", apart := false, narrowed := true }
def FnAppealsUptoSaid : Prop := fnAppealsUptoRow.holds Try.pinned (OpenSpec.upto fnAppealsSpec)

/-- 'laws.FnFinal', WHERE WHAT IT READS IS OF BULK AT MOST 1048576: true; the input reads as it did. -/
def fnFinalUptoRow : OpenClaim := { program := "ytdohegpbdlcnjaa", sum := "049066e6e4c33008da5e2c4c677a97f16e0af2d789c79a868f6eda15d347006a", func := "loop.example/g01027/laws.FnFinal", spec := "fnFinal", apart := false, narrowed := true }
def FnFinalUptoSaid : Prop := fnFinalUptoRow.holds Try.pinned (OpenSpec.upto fnFinalSpec)

end Rows
end Go.Proofs.Ytdohegpbdlcnjaa
