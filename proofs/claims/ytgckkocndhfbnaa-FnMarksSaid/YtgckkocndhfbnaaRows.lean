/-
  No cell of these rows narrows 'for every input' (looked for: loops, veiled, ifaces, maps, wideKeys, modest, calm, conditions, laid).
  DERIVED. THE GIVEN ROWS OF THIS SEAT. 5 by the template 'for every input the law returns true; each argument reads behind the call as it read before'; 0 by the template 'total and deterministic' (their statements: YtgckkocndhfbnaaTotals.lean).
  GIVEN WITH THE SEED: the statements are not yours to turn. If you find one false, say at which input.
  Laid BY PROGRAM, IN A SANDBOX (cutbox-rows.mjs): the forced cells as the released guide's own fill.sh prints them over the translation 63ac20183381c643… (all of the seat's roots in one cut). By AI agents, Wed Nov 11 2026. No macro, syntax, notation, axiom, sorry.
-/
import Derived.Test.YtgckkocndhfbnaaChecked
import GoSem.Claim
import GoSem.ClaimJoined
import GoSem.ClaimMapViews
import Derived.JoinedTies
import Derived.KernelRfl
namespace Go.Proofs.Ytgckkocndhfbnaa
/- THE CELL 'sum', in the pinned program and in every row, IS THE sha256 OF THE DUMP (.gsa) THAT YtgckkocndhfbnaaProg.lean LOADS. Nothing in Lean hashes anything: it is a label: what it is worth is what the hold of that sum in a sandbox is worth. -/
noncomputable def Try.pinned : Pinned := { name := "ytgckkocndhfbnaa", sum := "63ac20183381c6432840f28aa16745ae3f55730cd53fe7088af9acd81be2b51f", checked := Try.checked }
namespace Rows
def none {H : Type} : Left H := { results := [], args := [] }

/-- 'laws.FnRedacted': WHATEVER THE INPUT: true; the input reads as it did. -/
def fnRedactedSpec : ChangeSpec := { name := "fnRedacted", fn := fun _ => fun
  | [d] => { results := [.lit (.bool true)], args := [d] }
  | _ => none }
def fnRedactedRow : OpenClaim := { program := "ytgckkocndhfbnaa", sum := "63ac20183381c6432840f28aa16745ae3f55730cd53fe7088af9acd81be2b51f", func := "loop.example/g01027/laws.FnRedacted", spec := "fnRedacted", inPlace := ["internal/bytealg.IndexByteString", "internal/bytealg.IndexString"], named := ["internal/bytealg.MaxLen"], apart := false }
def FnRedactedSaid : Prop := fnRedactedRow.holds Try.pinned (OpenSpec.ofChange fnRedactedSpec)

/-- ITS FALSE NEIGHBOUR: 'it returns false'. Refute it at one input. -/
def fnRedactedWrong : ChangeSpec := { name := "fnRedacted", fn := fun _ => fun
  | [d] => { results := [.lit (.bool false)], args := [d] }
  | _ => none }
def FnRedactedWrongFalsely : Prop := fnRedactedRow.holds Try.pinned (OpenSpec.ofChange fnRedactedWrong)

/-- 'laws.FnExactAddMark': WHATEVER THE INPUT: true; the input reads as it did. -/
def fnExactAddMarkSpec : ChangeSpec := { name := "fnExactAddMark", fn := fun _ => fun
  | [d1, d2, d3] => { results := [.lit (.bool true)], args := [d1, d2, d3] }
  | _ => none }
def fnExactAddMarkRow : OpenClaim := { program := "ytgckkocndhfbnaa", sum := "63ac20183381c6432840f28aa16745ae3f55730cd53fe7088af9acd81be2b51f", func := "loop.example/g01027/laws.FnExactAddMark", spec := "fnExactAddMark", inPlace := ["internal/bytealg.IndexByteString", "internal/bytealg.IndexString", "slices.overlaps[loop.example/g01027/impl.Mark]"], named := ["internal/bytealg.MaxLen"], apart := false }
def FnExactAddMarkSaid : Prop := fnExactAddMarkRow.holds Try.pinned (OpenSpec.ofChange fnExactAddMarkSpec)

/-- ITS FALSE NEIGHBOUR: 'it returns false'. Refute it at one input. -/
def fnExactAddMarkWrong : ChangeSpec := { name := "fnExactAddMark", fn := fun _ => fun
  | [d1, d2, d3] => { results := [.lit (.bool false)], args := [d1, d2, d3] }
  | _ => none }
def FnExactAddMarkWrongFalsely : Prop := fnExactAddMarkRow.holds Try.pinned (OpenSpec.ofChange fnExactAddMarkWrong)

/-- 'laws.FnExactMarkWord': WHATEVER THE INPUT: true; the input reads as it did. -/
def fnExactMarkWordSpec : ChangeSpec := { name := "fnExactMarkWord", fn := fun _ => fun
  | [d1, d2, d3, d4] => { results := [.lit (.bool true)], args := [d1, d2, d3, d4] }
  | _ => none }
def fnExactMarkWordRow : OpenClaim := { program := "ytgckkocndhfbnaa", sum := "63ac20183381c6432840f28aa16745ae3f55730cd53fe7088af9acd81be2b51f", func := "loop.example/g01027/laws.FnExactMarkWord", spec := "fnExactMarkWord", inPlace := ["internal/bytealg.IndexByteString", "internal/bytealg.IndexString", "slices.overlaps[loop.example/g01027/impl.Mark]"], unfollowed := true, recurses := true, named := ["internal/bytealg.MaxLen"], apart := false }
def FnExactMarkWordSaid : Prop := fnExactMarkWordRow.holds Try.pinned (OpenSpec.ofChange fnExactMarkWordSpec)

/-- ITS FALSE NEIGHBOUR: 'it returns false'. Refute it at one input. -/
def fnExactMarkWordWrong : ChangeSpec := { name := "fnExactMarkWord", fn := fun _ => fun
  | [d1, d2, d3, d4] => { results := [.lit (.bool false)], args := [d1, d2, d3, d4] }
  | _ => none }
def FnExactMarkWordWrongFalsely : Prop := fnExactMarkWordRow.holds Try.pinned (OpenSpec.ofChange fnExactMarkWordWrong)

/-- 'laws.FnExactLevelsOf': WHATEVER THE INPUT: true; the input reads as it did. -/
def fnExactLevelsOfSpec : ChangeSpec := { name := "fnExactLevelsOf", fn := fun _ => fun
  | [d1, d2] => { results := [.lit (.bool true)], args := [d1, d2] }
  | _ => none }
def fnExactLevelsOfRow : OpenClaim := { program := "ytgckkocndhfbnaa", sum := "63ac20183381c6432840f28aa16745ae3f55730cd53fe7088af9acd81be2b51f", func := "loop.example/g01027/laws.FnExactLevelsOf", spec := "fnExactLevelsOf", inPlace := ["internal/bytealg.IndexByteString", "internal/bytealg.IndexString"], recurses := true, named := ["internal/bytealg.MaxLen"], apart := false }
def FnExactLevelsOfSaid : Prop := fnExactLevelsOfRow.holds Try.pinned (OpenSpec.ofChange fnExactLevelsOfSpec)

/-- ITS FALSE NEIGHBOUR: 'it returns false'. Refute it at one input. -/
def fnExactLevelsOfWrong : ChangeSpec := { name := "fnExactLevelsOf", fn := fun _ => fun
  | [d1, d2] => { results := [.lit (.bool false)], args := [d1, d2] }
  | _ => none }
def FnExactLevelsOfWrongFalsely : Prop := fnExactLevelsOfRow.holds Try.pinned (OpenSpec.ofChange fnExactLevelsOfWrong)

/-- 'laws.FnMarks': WHATEVER THE INPUT: true; the input reads as it did. -/
def fnMarksSpec : ChangeSpec := { name := "fnMarks", fn := fun _ => fun
  | [d] => { results := [.lit (.bool true)], args := [d] }
  | _ => none }
def fnMarksRow : OpenClaim := { program := "ytgckkocndhfbnaa", sum := "63ac20183381c6432840f28aa16745ae3f55730cd53fe7088af9acd81be2b51f", func := "loop.example/g01027/laws.FnMarks", spec := "fnMarks", inPlace := ["internal/bytealg.IndexByteString", "internal/bytealg.IndexString", "slices.overlaps[loop.example/g01027/impl.Mark]"], unfollowed := true, recurses := true, named := ["internal/bytealg.MaxLen"], apart := false }
def FnMarksSaid : Prop := fnMarksRow.holds Try.pinned (OpenSpec.ofChange fnMarksSpec)

/-- ITS FALSE NEIGHBOUR: 'it returns false'. Refute it at one input. -/
def fnMarksWrong : ChangeSpec := { name := "fnMarks", fn := fun _ => fun
  | [d] => { results := [.lit (.bool false)], args := [d] }
  | _ => none }
def FnMarksWrongFalsely : Prop := fnMarksRow.holds Try.pinned (OpenSpec.ofChange fnMarksWrong)

/- THE SECOND FORM. 'bulk': how many values and letters a reading holds, each counted each time it is reached (what is shared counts as often as it is met; a slice's spare places count too). A statement '..UptoSaid' is the law's where the arguments, and the package variables that the reading takes, are together of bulk at most 1048576: NARROWER than '..Said'. Prove '..Said' where nothing that the law and all that it calls make is longer than what came in: it says more and counts as full. Else prove '..UptoSaid'. A law counts once. -/
mutual
def uptoBulk {H : Type} : DataW H → Nat
  | .lit (.string bytes) => bytes.length + 1
  | .lit _ => 1
  | .nil => 1
  | .ptr d => uptoBulk d + 1
  | .slice elems spare => uptoBulkAll elems + uptoBulkAll spare + 1
  | .agg parts => uptoBulkAll parts + 1
  | .iface _ d => uptoBulk d + 1
  | .map entries => uptoBulkEntries entries + 1
  | .held _ => 1
def uptoBulkAll {H : Type} : List (DataW H) → Nat
  | [] => 0
  | d :: r => uptoBulk d + uptoBulkAll r
def uptoBulkEntries {H : Type} : List (Lit × DataW H) → Nat
  | [] => 0
  | x :: r => uptoBulkEntry x + uptoBulkEntries r
def uptoBulkEntry {H : Type} : Lit × DataW H → Nat
  | (.string bytes, d) => bytes.length + uptoBulk d + 1
  | (_, d) => uptoBulk d + 1
 end
def uptoSmall : (H : Type) → List (DataW H) → Bool := fun _ ds => decide (uptoBulkAll ds ≤ 1048576)
def OpenSpec.upto (s : _root_.Go.ChangeSpec) : _root_.Go.OpenSpec := { _root_.Go.OpenSpec.ofChange s with cond := some uptoSmall }

/-- 'laws.FnRedacted', WHERE WHAT IT READS IS OF BULK AT MOST 1048576: true; the input reads as it did. -/
def fnRedactedUptoRow : OpenClaim := { program := "ytgckkocndhfbnaa", sum := "63ac20183381c6432840f28aa16745ae3f55730cd53fe7088af9acd81be2b51f", func := "loop.example/g01027/laws.FnRedacted", spec := "fnRedacted", inPlace := ["internal/bytealg.IndexByteString", "internal/bytealg.IndexString"], named := ["internal/bytealg.MaxLen"], apart := false, narrowed := true }
def FnRedactedUptoSaid : Prop := fnRedactedUptoRow.holds Try.pinned (OpenSpec.upto fnRedactedSpec)

/-- 'laws.FnExactAddMark', WHERE WHAT IT READS IS OF BULK AT MOST 1048576: true; the input reads as it did. -/
def fnExactAddMarkUptoRow : OpenClaim := { program := "ytgckkocndhfbnaa", sum := "63ac20183381c6432840f28aa16745ae3f55730cd53fe7088af9acd81be2b51f", func := "loop.example/g01027/laws.FnExactAddMark", spec := "fnExactAddMark", inPlace := ["internal/bytealg.IndexByteString", "internal/bytealg.IndexString", "slices.overlaps[loop.example/g01027/impl.Mark]"], named := ["internal/bytealg.MaxLen"], apart := false, narrowed := true }
def FnExactAddMarkUptoSaid : Prop := fnExactAddMarkUptoRow.holds Try.pinned (OpenSpec.upto fnExactAddMarkSpec)

/-- 'laws.FnExactMarkWord', WHERE WHAT IT READS IS OF BULK AT MOST 1048576: true; the input reads as it did. -/
def fnExactMarkWordUptoRow : OpenClaim := { program := "ytgckkocndhfbnaa", sum := "63ac20183381c6432840f28aa16745ae3f55730cd53fe7088af9acd81be2b51f", func := "loop.example/g01027/laws.FnExactMarkWord", spec := "fnExactMarkWord", inPlace := ["internal/bytealg.IndexByteString", "internal/bytealg.IndexString", "slices.overlaps[loop.example/g01027/impl.Mark]"], unfollowed := true, recurses := true, named := ["internal/bytealg.MaxLen"], apart := false, narrowed := true }
def FnExactMarkWordUptoSaid : Prop := fnExactMarkWordUptoRow.holds Try.pinned (OpenSpec.upto fnExactMarkWordSpec)

/-- 'laws.FnExactLevelsOf', WHERE WHAT IT READS IS OF BULK AT MOST 1048576: true; the input reads as it did. -/
def fnExactLevelsOfUptoRow : OpenClaim := { program := "ytgckkocndhfbnaa", sum := "63ac20183381c6432840f28aa16745ae3f55730cd53fe7088af9acd81be2b51f", func := "loop.example/g01027/laws.FnExactLevelsOf", spec := "fnExactLevelsOf", inPlace := ["internal/bytealg.IndexByteString", "internal/bytealg.IndexString"], recurses := true, named := ["internal/bytealg.MaxLen"], apart := false, narrowed := true }
def FnExactLevelsOfUptoSaid : Prop := fnExactLevelsOfUptoRow.holds Try.pinned (OpenSpec.upto fnExactLevelsOfSpec)

/-- 'laws.FnMarks', WHERE WHAT IT READS IS OF BULK AT MOST 1048576: true; the input reads as it did. -/
def fnMarksUptoRow : OpenClaim := { program := "ytgckkocndhfbnaa", sum := "63ac20183381c6432840f28aa16745ae3f55730cd53fe7088af9acd81be2b51f", func := "loop.example/g01027/laws.FnMarks", spec := "fnMarks", inPlace := ["internal/bytealg.IndexByteString", "internal/bytealg.IndexString", "slices.overlaps[loop.example/g01027/impl.Mark]"], unfollowed := true, recurses := true, named := ["internal/bytealg.MaxLen"], apart := false, narrowed := true }
def FnMarksUptoSaid : Prop := fnMarksUptoRow.holds Try.pinned (OpenSpec.upto fnMarksSpec)

end Rows
end Go.Proofs.Ytgckkocndhfbnaa
