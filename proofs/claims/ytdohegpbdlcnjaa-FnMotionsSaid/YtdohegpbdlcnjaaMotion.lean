/- Contracts of the helpers of the laws for Motion: to, eq, sz, mark, held. Written by gen_mech.py. -/
import Derived.Test.YtdohegpbdlcnjaaNum
import Derived.Test.YtdohegpbdlcnjaaMarkText
namespace Go.Proofs.Ytdohegpbdlcnjaa
open Go.RowKit
structure MotionD where
  number : Int
  party : ByteArray
  filed : Int
  changed : Int
  state : Int
  after : Int
instance : Inhabited MotionD := ⟨⟨0, ByteArray.empty, 0, 0, 0, 0⟩⟩
def motionC (x : MotionD) : List Value := [.int .i64 x.number, .string x.party, .int .i64 x.filed, .int .i64 x.changed, .int .i64 x.state, .int .i64 x.after]
def MotionW (x : MotionD) : Prop := (Lit.int .i64 x.number).wf = true ∧ x.party.size ≤ maxLen ∧ (Lit.int .i64 x.filed).wf = true ∧ (Lit.int .i64 x.changed).wf = true ∧ (Lit.int .i64 x.state).wf = true ∧ (Lit.int .i64 x.after).wf = true
theorem motion_info : (Try.prog.info? 46).map (fun i => (i.zero, i.size, i.bytes)) = some (some (.agg #[.int .i64 0, .string ByteArray.empty, .int .i64 0, .int .i64 0, .int .i64 0, .int .i64 0]), 6, 56) := by kernel_rfl






end Go.Proofs.Ytdohegpbdlcnjaa
