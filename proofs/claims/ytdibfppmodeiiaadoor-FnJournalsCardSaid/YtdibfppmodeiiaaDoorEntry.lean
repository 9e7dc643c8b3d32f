/- Contracts of the helpers of the laws for Entry: to, eq, sz, mark, held. Written by gen_mech.py. -/
import Derived.Test.YtdibfppmodeiiaaDoorNum
import Derived.Test.YtdibfppmodeiiaaDoorMarkText
namespace Go.Proofs.YtdibfppmodeiiaaDoor
open Go.RowKit
structure EntryD where
  kind : Int
  text : ByteArray
instance : Inhabited EntryD := ⟨⟨0, ByteArray.empty⟩⟩
def entryC (x : EntryD) : List Value := [.int .u8 x.kind, .string x.text]
def EntryW (x : EntryD) : Prop := (Lit.int .u8 x.kind).wf = true ∧ x.text.size ≤ maxLen
theorem entry_info : (Tryd.prog.info? 25).map (fun i => (i.zero, i.size, i.bytes)) = some (some (.agg #[.int .u8 0, .string ByteArray.empty]), 2, 24) := by kernel_rfl






end Go.Proofs.YtdibfppmodeiiaaDoor
