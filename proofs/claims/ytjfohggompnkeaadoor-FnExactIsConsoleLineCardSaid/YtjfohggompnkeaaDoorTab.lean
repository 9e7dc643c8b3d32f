/- What the listed variables give the walks. -/
import Derived.Test.YtjfohggompnkeaaDoorDec
import Derived.Lib.LaidTab
import Derived.Stop.LaidErr
namespace Go.Proofs.YtjfohggompnkeaaDoor
open Go.RowKit
set_option linter.unusedVariables false
theorem tTab : (Tryd.prog.globals[5]?).map (·.type) = some 85 := by kernel_rfl
theorem cTab : Tryd.prog.cellsOf 85 = 20 := by kernel_rfl
theorem cU64 : Tryd.prog.cellsOf 57 = 1 := by kernel_rfl
theorem tab_of_laid {a b : String × DataW Unit} {rest : List (String × DataW Unit)} {W : World} (h : laidMet Tryd.prog (a :: b :: ("internal/strconv.uint64pow10", Rows.laid_internal_strconv_uint64pow10) :: rest) W) : TabW W ∧ laidMet Tryd.prog rest W :=
  ⟨Lib.tabIs_of_head (k := .u64) (zs := Lib.pow10Tab) gTab tTab Tryd.underlying85 Tryd.underlying57 cU64 cTab (show laidMet Tryd.prog (("internal/strconv.uint64pow10", Lib.tabData .u64 Lib.pow10Tab) :: rest) W from h.tail.tail), h.tail.tail.tail⟩
end Go.Proofs.YtjfohggompnkeaaDoor
