/- Contracts of the helpers of the laws for Appeal: to, eq, sz, mark, held. Written by gen_mech.py. -/
import Derived.Test.YtdohegpbdlcnjaaNum
namespace Go.Proofs.Ytdohegpbdlcnjaa
open Go.RowKit
structure AppealD where
  level : Int
  filed : Int
  replied : Int
  decided : Int
  result : Int
instance : Inhabited AppealD := ⟨⟨0, 0, 0, 0, 0⟩⟩
def appealC (x : AppealD) : List Value := [.int .i64 x.level, .int .i64 x.filed, .int .i64 x.replied, .int .i64 x.decided, .int .i64 x.result]
def AppealW (x : AppealD) : Prop := (Lit.int .i64 x.level).wf = true ∧ (Lit.int .i64 x.filed).wf = true ∧ (Lit.int .i64 x.replied).wf = true ∧ (Lit.int .i64 x.decided).wf = true ∧ (Lit.int .i64 x.result).wf = true
theorem appeal_info : (Try.prog.info? 64).map (fun i => (i.zero, i.size, i.bytes)) = some (some (.agg #[.int .i64 0, .int .i64 0, .int .i64 0, .int .i64 0, .int .i64 0]), 5, 40) := by kernel_rfl






end Go.Proofs.Ytdohegpbdlcnjaa
