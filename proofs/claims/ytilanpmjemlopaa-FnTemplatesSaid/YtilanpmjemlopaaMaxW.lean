/- What the world's shape gives: the variable MaxLen holds some number. -/
import Derived.Test.YtilanpmjemlopaaNum
import Derived.Shelf.Vars
import Derived.HandedShaped
namespace Go.Proofs.Ytilanpmjemlopaa
open Go.RowKit
set_option linter.unusedVariables false
/-- The variable MaxLen holds some number. -/
def MaxW (w : World) : Prop := ∃ m, w.cell? ⟨0, 0, none⟩ = some (.int .i64 m)
theorem max_of_shape {w : World} (h : w.ShapedOpen Try.prog) : MaxW w :=
  cell_of_shapedOpen_int (zero := #[.int .i64 0]) (t := 3) h (of_decide_eq_true (by kernel_rfl)) (by kernel_rfl) rfl (by kernel_rfl) (by kernel_rfl) Try.underlying3
end Go.Proofs.Ytilanpmjemlopaa
