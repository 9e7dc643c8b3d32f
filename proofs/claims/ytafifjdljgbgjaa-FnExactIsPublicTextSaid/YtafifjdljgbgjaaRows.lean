/-
  No cell of these rows narrows 'for every input' (looked for: loops, veiled, ifaces, maps, wideKeys, modest, calm, conditions, laid).
  DERIVED. THE GIVEN ROWS OF THIS SEAT. 11 by the template 'for every input the law returns true; each argument reads behind the call as it read before'; 0 by the template 'total and deterministic' (their statements: YtafifjdljgbgjaaTotals.lean).
  GIVEN WITH THE SEED: the statements are not yours to turn. If you find one false, say at which input.
  Laid BY PROGRAM, IN A SANDBOX (cutbox-rows.mjs): the forced cells as the released guide's own fill.sh prints them over the translation 84987b6fd542fb7f… (all of the seat's roots in one cut). By AI agents, Wed Nov 11 2026. No macro, syntax, notation, axiom, sorry.
-/
import Derived.Test.YtafifjdljgbgjaaChecked
import GoSem.Claim
import GoSem.ClaimJoined
import GoSem.ClaimMapViews
import Derived.JoinedTies
import Derived.KernelRfl
namespace Go.Proofs.Ytafifjdljgbgjaa
/- THE CELL 'sum', in the pinned program and in every row, IS THE sha256 OF THE DUMP (.gsa) THAT YtafifjdljgbgjaaProg.lean LOADS. Nothing in Lean hashes anything: it is a label: what it is worth is what the hold of that sum in a sandbox is worth. -/
noncomputable def Try.pinned : Pinned := { name := "ytafifjdljgbgjaa", sum := "84987b6fd542fb7f8586de13793a9ca5a3719a36f7e593164349a21cd9d83395", checked := Try.checked }
namespace Rows
def none {H : Type} : Left H := { results := [], args := [] }

/-- 'laws.FnExactAreMarks': WHATEVER THE INPUT: true; the input reads as it did. -/
def fnExactAreMarksSpec : ChangeSpec := { name := "fnExactAreMarks", fn := fun _ => fun
  | [d1, d2] => { results := [.lit (.bool true)], args := [d1, d2] }
  | _ => none }
def fnExactAreMarksRow : OpenClaim := { program := "ytafifjdljgbgjaa", sum := "84987b6fd542fb7f8586de13793a9ca5a3719a36f7e593164349a21cd9d83395", func := "loop.example/g01027/laws.FnExactAreMarks", spec := "fnExactAreMarks", inPlace := ["internal/bytealg.IndexByteString", "internal/bytealg.IndexString"], named := ["internal/bytealg.MaxLen"], apart := false }
def FnExactAreMarksSaid : Prop := fnExactAreMarksRow.holds Try.pinned (OpenSpec.ofChange fnExactAreMarksSpec)

/-- ITS FALSE NEIGHBOUR: 'it returns false'. Refute it at one input. -/
def fnExactAreMarksWrong : ChangeSpec := { name := "fnExactAreMarks", fn := fun _ => fun
  | [d1, d2] => { results := [.lit (.bool false)], args := [d1, d2] }
  | _ => none }
def FnExactAreMarksWrongFalsely : Prop := fnExactAreMarksRow.holds Try.pinned (OpenSpec.ofChange fnExactAreMarksWrong)

/-- 'laws.FnExactLevelAt': WHATEVER THE INPUT: true; the input reads as it did. -/
def fnExactLevelAtSpec : ChangeSpec := { name := "fnExactLevelAt", fn := fun _ => fun
  | [d1, d2, d3] => { results := [.lit (.bool true)], args := [d1, d2, d3] }
  | _ => none }
def fnExactLevelAtRow : OpenClaim := { program := "ytafifjdljgbgjaa", sum := "84987b6fd542fb7f8586de13793a9ca5a3719a36f7e593164349a21cd9d83395", func := "loop.example/g01027/laws.FnExactLevelAt", spec := "fnExactLevelAt", inPlace := ["internal/bytealg.IndexByteString", "internal/bytealg.IndexString"], named := ["internal/bytealg.MaxLen"], apart := false }
def FnExactLevelAtSaid : Prop := fnExactLevelAtRow.holds Try.pinned (OpenSpec.ofChange fnExactLevelAtSpec)

/-- ITS FALSE NEIGHBOUR: 'it returns false'. Refute it at one input. -/
def fnExactLevelAtWrong : ChangeSpec := { name := "fnExactLevelAt", fn := fun _ => fun
  | [d1, d2, d3] => { results := [.lit (.bool false)], args := [d1, d2, d3] }
  | _ => none }
def FnExactLevelAtWrongFalsely : Prop := fnExactLevelAtRow.holds Try.pinned (OpenSpec.ofChange fnExactLevelAtWrong)

/-- 'laws.FnExactCountSecret': WHATEVER THE INPUT: true; the input reads as it did. -/
def fnExactCountSecretSpec : ChangeSpec := { name := "fnExactCountSecret", fn := fun _ => fun
  | [d1, d2, d3] => { results := [.lit (.bool true)], args := [d1, d2, d3] }
  | _ => none }
def fnExactCountSecretRow : OpenClaim := { program := "ytafifjdljgbgjaa", sum := "84987b6fd542fb7f8586de13793a9ca5a3719a36f7e593164349a21cd9d83395", func := "loop.example/g01027/laws.FnExactCountSecret", spec := "fnExactCountSecret", inPlace := ["internal/bytealg.IndexByteString", "internal/bytealg.IndexString"], named := ["internal/bytealg.MaxLen"], apart := false }
def FnExactCountSecretSaid : Prop := fnExactCountSecretRow.holds Try.pinned (OpenSpec.ofChange fnExactCountSecretSpec)

/-- ITS FALSE NEIGHBOUR: 'it returns false'. Refute it at one input. -/
def fnExactCountSecretWrong : ChangeSpec := { name := "fnExactCountSecret", fn := fun _ => fun
  | [d1, d2, d3] => { results := [.lit (.bool false)], args := [d1, d2, d3] }
  | _ => none }
def FnExactCountSecretWrongFalsely : Prop := fnExactCountSecretRow.holds Try.pinned (OpenSpec.ofChange fnExactCountSecretWrong)

/-- 'laws.FnExactIsPublicText': WHATEVER THE INPUT: true; the input reads as it did. -/
def fnExactIsPublicTextSpec : ChangeSpec := { name := "fnExactIsPublicText", fn := fun _ => fun
  | [d1, d2, d3, d4] => { results := [.lit (.bool true)], args := [d1, d2, d3, d4] }
  | _ => none }
def fnExactIsPublicTextRow : OpenClaim := { program := "ytafifjdljgbgjaa", sum := "84987b6fd542fb7f8586de13793a9ca5a3719a36f7e593164349a21cd9d83395", func := "loop.example/g01027/laws.FnExactIsPublicText", spec := "fnExactIsPublicText", inPlace := ["internal/bytealg.IndexByteString", "internal/bytealg.IndexString"], named := ["internal/bytealg.MaxLen"], apart := false }
def FnExactIsPublicTextSaid : Prop := fnExactIsPublicTextRow.holds Try.pinned (OpenSpec.ofChange fnExactIsPublicTextSpec)

/-- ITS FALSE NEIGHBOUR: 'it returns false'. Refute it at one input. -/
def fnExactIsPublicTextWrong : ChangeSpec := { name := "fnExactIsPublicText", fn := fun _ => fun
  | [d1, d2, d3, d4] => { results := [.lit (.bool false)], args := [d1, d2, d3, d4] }
  | _ => none }
def FnExactIsPublicTextWrongFalsely : Prop := fnExactIsPublicTextRow.holds Try.pinned (OpenSpec.ofChange fnExactIsPublicTextWrong)

/-- 'laws.FnExactPublicText': WHATEVER THE INPUT: true; the input reads as it did. -/
def fnExactPublicTextSpec : ChangeSpec := { name := "fnExactPublicText", fn := fun _ => fun
  | [d1, d2, d3] => { results := [.lit (.bool true)], args := [d1, d2, d3] }
  | _ => none }
def fnExactPublicTextRow : OpenClaim := { program := "ytafifjdljgbgjaa", sum := "84987b6fd542fb7f8586de13793a9ca5a3719a36f7e593164349a21cd9d83395", func := "loop.example/g01027/laws.FnExactPublicText", spec := "fnExactPublicText", inPlace := ["internal/bytealg.IndexByteString", "internal/bytealg.IndexString"], named := ["internal/bytealg.MaxLen"], apart := false }
def FnExactPublicTextSaid : Prop := fnExactPublicTextRow.holds Try.pinned (OpenSpec.ofChange fnExactPublicTextSpec)

/-- ITS FALSE NEIGHBOUR: 'it returns false'. Refute it at one input. -/
def fnExactPublicTextWrong : ChangeSpec := { name := "fnExactPublicText", fn := fun _ => fun
  | [d1, d2, d3] => { results := [.lit (.bool false)], args := [d1, d2, d3] }
  | _ => none }
def FnExactPublicTextWrongFalsely : Prop := fnExactPublicTextRow.holds Try.pinned (OpenSpec.ofChange fnExactPublicTextWrong)

/-- 'laws.FnExactJoinMarks': WHATEVER THE INPUT: true; the input reads as it did. -/
def fnExactJoinMarksSpec : ChangeSpec := { name := "fnExactJoinMarks", fn := fun _ => fun
  | [d1, d2] => { results := [.lit (.bool true)], args := [d1, d2] }
  | _ => none }
def fnExactJoinMarksRow : OpenClaim := { program := "ytafifjdljgbgjaa", sum := "84987b6fd542fb7f8586de13793a9ca5a3719a36f7e593164349a21cd9d83395", func := "loop.example/g01027/laws.FnExactJoinMarks", spec := "fnExactJoinMarks", inPlace := ["internal/bytealg.IndexByteString", "internal/bytealg.IndexString"], named := ["internal/bytealg.MaxLen"], apart := false }
def FnExactJoinMarksSaid : Prop := fnExactJoinMarksRow.holds Try.pinned (OpenSpec.ofChange fnExactJoinMarksSpec)

/-- ITS FALSE NEIGHBOUR: 'it returns false'. Refute it at one input. -/
def fnExactJoinMarksWrong : ChangeSpec := { name := "fnExactJoinMarks", fn := fun _ => fun
  | [d1, d2] => { results := [.lit (.bool false)], args := [d1, d2] }
  | _ => none }
def FnExactJoinMarksWrongFalsely : Prop := fnExactJoinMarksRow.holds Try.pinned (OpenSpec.ofChange fnExactJoinMarksWrong)

/-- 'laws.FnRedacted': WHATEVER THE INPUT: true; the input reads as it did. -/
def fnRedactedSpec : ChangeSpec := { name := "fnRedacted", fn := fun _ => fun
  | [d] => { results := [.lit (.bool true)], args := [d] }
  | _ => none }
def fnRedactedRow : OpenClaim := { program := "ytafifjdljgbgjaa", sum := "84987b6fd542fb7f8586de13793a9ca5a3719a36f7e593164349a21cd9d83395", func := "loop.example/g01027/laws.FnRedacted", spec := "fnRedacted", inPlace := ["internal/bytealg.IndexByteString", "internal/bytealg.IndexString"], named := ["internal/bytealg.MaxLen"], apart := false }
def FnRedactedSaid : Prop := fnRedactedRow.holds Try.pinned (OpenSpec.ofChange fnRedactedSpec)

/-- ITS FALSE NEIGHBOUR: 'it returns false'. Refute it at one input. -/
def fnRedactedWrong : ChangeSpec := { name := "fnRedacted", fn := fun _ => fun
  | [d] => { results := [.lit (.bool false)], args := [d] }
  | _ => none }
def FnRedactedWrongFalsely : Prop := fnRedactedRow.holds Try.pinned (OpenSpec.ofChange fnRedactedWrong)

/-- 'laws.FnExactAddMark': WHATEVER THE INPUT: true; the input reads as it did. -/
def fnExactAddMarkSpec : ChangeSpec := { name := "fnExactAddMark", fn := fun _ => fun
  | [d1, d2, d3] => { results := [.lit (.bool true)], args := [d1, d2, d3] }
  | _ => none }
def fnExactAddMarkRow : OpenClaim := { program := "ytafifjdljgbgjaa", sum := "84987b6fd542fb7f8586de13793a9ca5a3719a36f7e593164349a21cd9d83395", func := "loop.example/g01027/laws.FnExactAddMark", spec := "fnExactAddMark", inPlace := ["internal/bytealg.IndexByteString", "internal/bytealg.IndexString", "slices.overlaps[loop.example/g01027/impl.Mark]"], named := ["internal/bytealg.MaxLen"], apart := false }
def FnExactAddMarkSaid : Prop := fnExactAddMarkRow.holds Try.pinned (OpenSpec.ofChange fnExactAddMarkSpec)

/-- ITS FALSE NEIGHBOUR: 'it returns false'. Refute it at one input. -/
def fnExactAddMarkWrong : ChangeSpec := { name := "fnExactAddMark", fn := fun _ => fun
  | [d1, d2, d3] => { results := [.lit (.bool false)], args := [d1, d2, d3] }
  | _ => none }
def FnExactAddMarkWrongFalsely : Prop := fnExactAddMarkRow.holds Try.pinned (OpenSpec.ofChange fnExactAddMarkWrong)

/-- 'laws.FnExactMarkWord': WHATEVER THE INPUT: true; the input reads as it did. -/
def fnExactMarkWordSpec : ChangeSpec := { name := "fnExactMarkWord", fn := fun _ => fun
  | [d1, d2, d3, d4] => { results := [.lit (.bool true)], args := [d1, d2, d3, d4] }
  | _ => none }
def fnExactMarkWordRow : OpenClaim := { program := "ytafifjdljgbgjaa", sum := "84987b6fd542fb7f8586de13793a9ca5a3719a36f7e593164349a21cd9d83395", func := "loop.example/g01027/laws.FnExactMarkWord", spec := "fnExactMarkWord", inPlace := ["internal/bytealg.IndexByteString", "internal/bytealg.IndexString", "slices.overlaps[loop.example/g01027/impl.Mark]"], unfollowed := true, recurses := true, named := ["internal/bytealg.MaxLen"], apart := false }
def FnExactMarkWordSaid : Prop := fnExactMarkWordRow.holds Try.pinned (OpenSpec.ofChange fnExactMarkWordSpec)

/-- ITS FALSE NEIGHBOUR: 'it returns false'. Refute it at one input. -/
def fnExactMarkWordWrong : ChangeSpec := { name := "fnExactMarkWord", fn := fun _ => fun
  | [d1, d2, d3, d4] => { results := [.lit (.bool false)], args := [d1, d2, d3, d4] }
  | _ => none }
def FnExactMarkWordWrongFalsely : Prop := fnExactMarkWordRow.holds Try.pinned (OpenSpec.ofChange fnExactMarkWordWrong)

/-- 'laws.FnExactLevelsOf': WHATEVER THE INPUT: true; the input reads as it did. -/
def fnExactLevelsOfSpec : ChangeSpec := { name := "fnExactLevelsOf", fn := fun _ => fun
  | [d1, d2] => { results := [.lit (.bool true)], args := [d1, d2] }
  | _ => none }
def fnExactLevelsOfRow : OpenClaim := { program := "ytafifjdljgbgjaa", sum := "84987b6fd542fb7f8586de13793a9ca5a3719a36f7e593164349a21cd9d83395", func := "loop.example/g01027/laws.FnExactLevelsOf", spec := "fnExactLevelsOf", inPlace := ["internal/bytealg.IndexByteString", "internal/bytealg.IndexString"], recurses := true, named := ["internal/bytealg.MaxLen"], apart := false }
def FnExactLevelsOfSaid : Prop := fnExactLevelsOfRow.holds Try.pinned (OpenSpec.ofChange fnExactLevelsOfSpec)

/-- ITS FALSE NEIGHBOUR: 'it returns false'. Refute it at one input. -/
def fnExactLevelsOfWrong : ChangeSpec := { name := "fnExactLevelsOf", fn := fun _ => fun
  | [d1, d2] => { results := [.lit (.bool false)], args := [d1, d2] }
  | _ => none }
def FnExactLevelsOfWrongFalsely : Prop := fnExactLevelsOfRow.holds Try.pinned (OpenSpec.ofChange fnExactLevelsOfWrong)

/-- 'laws.FnMarks': WHATEVER THE INPUT: true; the input reads as it did. -/
def fnMarksSpec : ChangeSpec := { name := "fnMarks", fn := fun _ => fun
  | [d] => { results := [.lit (.bool true)], args := [d] }
  | _ => none }
def fnMarksRow : OpenClaim := { program := "ytafifjdljgbgjaa", sum := "84987b6fd542fb7f8586de13793a9ca5a3719a36f7e593164349a21cd9d83395", func := "loop.example/g01027/laws.FnMarks", spec := "fnMarks", inPlace := ["internal/bytealg.IndexByteString", "internal/bytealg.IndexString", "slices.overlaps[loop.example/g01027/impl.Mark]"], unfollowed := true, recurses := true, named := ["internal/bytealg.MaxLen"], apart := false }
def FnMarksSaid : Prop := fnMarksRow.holds Try.pinned (OpenSpec.ofChange fnMarksSpec)

/-- ITS FALSE NEIGHBOUR: 'it returns false'. Refute it at one input. -/
def fnMarksWrong : ChangeSpec := { name := "fnMarks", fn := fun _ => fun
  | [d] => { results := [.lit (.bool false)], args := [d] }
  | _ => none }
def FnMarksWrongFalsely : Prop := fnMarksRow.holds Try.pinned (OpenSpec.ofChange fnMarksWrong)

/- THE SECOND FORM. 'bulk': how many values and letters a reading holds, each counted each time it is reached (what is shared counts as often as it is met; a slice's spare places count too). A statement '..UptoSaid' is the law's where the arguments, and the package variables that the reading takes, are together of bulk at most 1048576: NARROWER than '..Said'. Prove '..Said' where nothing that the law and all that it calls make is longer than what came in: it says more and counts as full. Else prove '..UptoSaid'. A law counts once. -/
mutual
def uptoBulk {H : Type} : DataW H → Nat
  | .lit (.string bytes) => bytes.length + 1
  | .lit _ => 1
  | .nil => 1
  | .ptr d => uptoBulk d + 1
  | .slice elems spare => uptoBulkAll elems + uptoBulkAll spare + 1
  | .agg parts => uptoBulkAll parts + 1
  | .iface _ d => uptoBulk d + 1
  | .map entries => uptoBulkEntries entries + 1
  | .held _ => 1
def uptoBulkAll {H : Type} : List (DataW H) → Nat
  | [] => 0
  | d :: r => uptoBulk d + uptoBulkAll r
def uptoBulkEntries {H : Type} : List (Lit × DataW H) → Nat
  | [] => 0
  | x :: r => uptoBulkEntry x + uptoBulkEntries r
def uptoBulkEntry {H : Type} : Lit × DataW H → Nat
  | (.string bytes, d) => bytes.length + uptoBulk d + 1
  | (_, d) => uptoBulk d + 1
 end
def uptoSmall : (H : Type) → List (DataW H) → Bool := fun _ ds => decide (uptoBulkAll ds ≤ 1048576)
def OpenSpec.upto (s : _root_.Go.ChangeSpec) : _root_.Go.OpenSpec := { _root_.Go.OpenSpec.ofChange s with cond := some uptoSmall }

/-- 'laws.FnExactAreMarks', WHERE WHAT IT READS IS OF BULK AT MOST 1048576: true; the input reads as it did. -/
def fnExactAreMarksUptoRow : OpenClaim := { program := "ytafifjdljgbgjaa", sum := "84987b6fd542fb7f8586de13793a9ca5a3719a36f7e593164349a21cd9d83395", func := "loop.example/g01027/laws.FnExactAreMarks", spec := "fnExactAreMarks", inPlace := ["internal/bytealg.IndexByteString", "internal/bytealg.IndexString"], named := ["internal/bytealg.MaxLen"], apart := false, narrowed := true }
def FnExactAreMarksUptoSaid : Prop := fnExactAreMarksUptoRow.holds Try.pinned (OpenSpec.upto fnExactAreMarksSpec)

/-- 'laws.FnExactLevelAt', WHERE WHAT IT READS IS OF BULK AT MOST 1048576: true; the input reads as it did. -/
def fnExactLevelAtUptoRow : OpenClaim := { program := "ytafifjdljgbgjaa", sum := "84987b6fd542fb7f8586de13793a9ca5a3719a36f7e593164349a21cd9d83395", func := "loop.example/g01027/laws.FnExactLevelAt", spec := "fnExactLevelAt", inPlace := ["internal/bytealg.IndexByteString", "internal/bytealg.IndexString"], named := ["internal/bytealg.MaxLen"], apart := false, narrowed := true }
def FnExactLevelAtUptoSaid : Prop := fnExactLevelAtUptoRow.holds Try.pinned (OpenSpec.upto fnExactLevelAtSpec)

/-- 'laws.FnExactCountSecret', WHERE WHAT IT READS IS OF BULK AT MOST 1048576: true; the input reads as it did. -/
def fnExactCountSecretUptoRow : OpenClaim := { program := "ytafifjdljgbgjaa", sum := "84987b6fd542fb7f8586de13793a9ca5a3719a36f7e593164349a21cd9d83395", func := "loop.example/g01027/laws.FnExactCountSecret", spec := "fnExactCountSecret", inPlace := ["internal/bytealg.IndexByteString", "internal/bytealg.IndexString"], named := ["internal/bytealg.MaxLen"], apart := false, narrowed := true }
def FnExactCountSecretUptoSaid : Prop := fnExactCountSecretUptoRow.holds Try.pinned (OpenSpec.upto fnExactCountSecretSpec)

/-- 'laws.FnExactIsPublicText', WHERE WHAT IT READS IS OF BULK AT MOST 1048576: true; the input reads as it did. -/
def fnExactIsPublicTextUptoRow : OpenClaim := { program := "ytafifjdljgbgjaa", sum := "84987b6fd542fb7f8586de13793a9ca5a3719a36f7e593164349a21cd9d83395", func := "loop.example/g01027/laws.FnExactIsPublicText", spec := "fnExactIsPublicText", inPlace := ["internal/bytealg.IndexByteString", "internal/bytealg.IndexString"], named := ["internal/bytealg.MaxLen"], apart := false, narrowed := true }
def FnExactIsPublicTextUptoSaid : Prop := fnExactIsPublicTextUptoRow.holds Try.pinned (OpenSpec.upto fnExactIsPublicTextSpec)

/-- 'laws.FnExactPublicText', WHERE WHAT IT READS IS OF BULK AT MOST 1048576: true; the input reads as it did. -/
def fnExactPublicTextUptoRow : OpenClaim := { program := "ytafifjdljgbgjaa", sum := "84987b6fd542fb7f8586de13793a9ca5a3719a36f7e593164349a21cd9d83395", func := "loop.example/g01027/laws.FnExactPublicText", spec := "fnExactPublicText", inPlace := ["internal/bytealg.IndexByteString", "internal/bytealg.IndexString"], named := ["internal/bytealg.MaxLen"], apart := false, narrowed := true }
def FnExactPublicTextUptoSaid : Prop := fnExactPublicTextUptoRow.holds Try.pinned (OpenSpec.upto fnExactPublicTextSpec)

/-- 'laws.FnExactJoinMarks', WHERE WHAT IT READS IS OF BULK AT MOST 1048576: true; the input reads as it did. -/
def fnExactJoinMarksUptoRow : OpenClaim := { program := "ytafifjdljgbgjaa", sum := "84987b6fd542fb7f8586de13793a9ca5a3719a36f7e593164349a21cd9d83395", func := "loop.example/g01027/laws.FnExactJoinMarks", spec := "fnExactJoinMarks", inPlace := ["internal/bytealg.IndexByteString", "internal/bytealg.IndexString"], named := ["internal/bytealg.MaxLen"], apart := false, narrowed := true }
def FnExactJoinMarksUptoSaid : Prop := fnExactJoinMarksUptoRow.holds Try.pinned (OpenSpec.upto fnExactJoinMarksSpec)

/-- 'laws.FnRedacted', WHERE WHAT IT READS IS OF BULK AT MOST 1048576: true; the input reads as it did. -/
def fnRedactedUptoRow : OpenClaim := { program := "ytafifjdljgbgjaa", sum := "84987b6fd542fb7f8586de13793a9ca5a3719a36f7e593164349a21cd9d83395", func := "loop.example/g01027/laws.FnRedacted", spec := "fnRedacted", inPlace := ["internal/bytealg.IndexByteString", "internal/bytealg.IndexString"], named := ["internal/bytealg.MaxLen"], apart := false, narrowed := true }
def FnRedactedUptoSaid : Prop := fnRedactedUptoRow.holds Try.pinned (OpenSpec.upto fnRedactedSpec)

/-- 'laws.FnExactAddMark', WHERE WHAT IT READS IS OF BULK AT MOST 1048576: true; the input reads as it did. -/
def fnExactAddMarkUptoRow : OpenClaim := { program := "ytafifjdljgbgjaa", sum := "84987b6fd542fb7f8586de13793a9ca5a3719a36f7e593164349a21cd9d83395", func := "loop.example/g01027/laws.FnExactAddMark", spec := "fnExactAddMark", inPlace := ["internal/bytealg.IndexByteString", "internal/bytealg.IndexString", "slices.overlaps[loop.example/g01027/impl.Mark]"], named := ["internal/bytealg.MaxLen"], apart := false, narrowed := true }
def FnExactAddMarkUptoSaid : Prop := fnExactAddMarkUptoRow.holds Try.pinned (OpenSpec.upto fnExactAddMarkSpec)

/-- 'laws.FnExactMarkWord', WHERE WHAT IT READS IS OF BULK AT MOST 1048576: true; the input reads as it did. -/
def fnExactMarkWordUptoRow : OpenClaim := { program := "ytafifjdljgbgjaa", sum := "84987b6fd542fb7f8586de13793a9ca5a3719a36f7e593164349a21cd9d83395", func := "loop.example/g01027/laws.FnExactMarkWord", spec := "fnExactMarkWord", inPlace := ["internal/bytealg.IndexByteString", "internal/bytealg.IndexString", "slices.overlaps[loop.example/g01027/impl.Mark]"], unfollowed := true, recurses := true, named := ["internal/bytealg.MaxLen"], apart := false, narrowed := true }
def FnExactMarkWordUptoSaid : Prop := fnExactMarkWordUptoRow.holds Try.pinned (OpenSpec.upto fnExactMarkWordSpec)

/-- 'laws.FnExactLevelsOf', WHERE WHAT IT READS IS OF BULK AT MOST 1048576: true; the input reads as it did. -/
def fnExactLevelsOfUptoRow : OpenClaim := { program := "ytafifjdljgbgjaa", sum := "84987b6fd542fb7f8586de13793a9ca5a3719a36f7e593164349a21cd9d83395", func := "loop.example/g01027/laws.FnExactLevelsOf", spec := "fnExactLevelsOf", inPlace := ["internal/bytealg.IndexByteString", "internal/bytealg.IndexString"], recurses := true, named := ["internal/bytealg.MaxLen"], apart := false, narrowed := true }
def FnExactLevelsOfUptoSaid : Prop := fnExactLevelsOfUptoRow.holds Try.pinned (OpenSpec.upto fnExactLevelsOfSpec)

/-- 'laws.FnMarks', WHERE WHAT IT READS IS OF BULK AT MOST 1048576: true; the input reads as it did. -/
def fnMarksUptoRow : OpenClaim := { program := "ytafifjdljgbgjaa", sum := "84987b6fd542fb7f8586de13793a9ca5a3719a36f7e593164349a21cd9d83395", func := "loop.example/g01027/laws.FnMarks", spec := "fnMarks", inPlace := ["internal/bytealg.IndexByteString", "internal/bytealg.IndexString", "slices.overlaps[loop.example/g01027/impl.Mark]"], unfollowed := true, recurses := true, named := ["internal/bytealg.MaxLen"], apart := false, narrowed := true }
def FnMarksUptoSaid : Prop := fnMarksUptoRow.holds Try.pinned (OpenSpec.upto fnMarksSpec)

end Rows
end Go.Proofs.Ytafifjdljgbgjaa
