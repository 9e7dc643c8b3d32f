/- Contracts of the tests on ranges: impl.within, spec.l01In. -/
import Derived.Test.YtilanpmjemlopaaRows
import Derived.Test.YtilanpmjemlopaaBase
namespace Go.Proofs.Ytilanpmjemlopaa
open Go.RowKit
theorem mixed : Try.prog.follows .mixedOrders = true := by kernel_rfl

theorem within_b (n lo hi : Int) (b : Bool) (w : World) (h : inB n lo hi = b) : Calls Try.prog 71 #[.int .i64 n, .int .i64 lo, .int .i64 hi] w fun e w' => e = .returned (.bool b) ∧ w = w' := by
  by_cases h1 : lo ≤ n <;> by_cases h2 : n ≤ hi
  · rw [inB_true h1 h2] at h; subst h
    go_enter Try.func71, Try.ntmps71
    go_wp2
    go_ret; exact ⟨rfl, rfl⟩
  all_goals
    rw [inB_false (by omega)] at h; subst h
    go_enter Try.func71, Try.ntmps71
    go_wp2
    go_ret; exact ⟨rfl, rfl⟩

theorem l01In_b (n lo hi : Int) (b : Bool) (w : World) (h : inB n lo hi = b) : Calls Try.prog 70 #[.int .i64 n, .int .i64 lo, .int .i64 hi] w fun e w' => e = .returned (.bool b) ∧ w = w' := by
  by_cases h1 : lo ≤ n <;> by_cases h2 : n ≤ hi
  · rw [inB_true h1 h2] at h; subst h
    go_enter Try.func70, Try.ntmps70
    go_wp2
    go_ret; exact ⟨rfl, rfl⟩
  all_goals
    rw [inB_false (by omega)] at h; subst h
    go_enter Try.func70, Try.ntmps70
    go_wp2
    go_ret; exact ⟨rfl, rfl⟩
end Go.Proofs.Ytilanpmjemlopaa
