/- Contracts of the tests on ranges: impl.within, spec.l01In. -/
import Derived.Test.YtjfohggompnkeaaDoorRows
import Derived.Test.YtjfohggompnkeaaDoorBase
namespace Go.Proofs.YtjfohggompnkeaaDoor
open Go.RowKit
theorem mixed : Tryd.prog.follows .mixedOrders = true := by kernel_rfl

end Go.Proofs.YtjfohggompnkeaaDoor
