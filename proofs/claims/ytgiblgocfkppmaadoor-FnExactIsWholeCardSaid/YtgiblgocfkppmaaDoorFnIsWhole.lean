/- The walk of the law FnExactIsWhole: it returns true, and nothing that was there is changed. -/
import Derived.Test.YtgiblgocfkppmaaDoorRd6
namespace Go.Proofs.YtgiblgocfkppmaaDoor
open Go.RowKit
set_option linter.unusedVariables false

set_option maxRecDepth 100000 in
set_option maxHeartbeats 8000000 in
theorem law_IsWhole (s : ByteArray) (w : World) (hs : s.size ≤ maxLen) (hE : JEnv w) :
    Calls Tryd.prog 5 #[.string s] w fun e w' => e = .returned (.bool true) ∧ Below w.heap.size w w' := by
  unfold maxLen at hs
  by_cases hbig : (1048576 : Int) < s.size
  · go_enter Tryd.func5, Tryd.ntmps5
    go_wp2
    go_ret
    exact ⟨rfl, Below.refl _ _⟩
  have HENV := Lib.hid hE
  clear hE
  go_enter Tryd.func5, Tryd.ntmps5
  go_wp2_with fail
  refine (spec_IsWhole s _ w (by omega) rfl).mono ?_
  rintro e w1 ⟨rfl, hb1⟩
  have hB2 := hb1
  have hzw1 := hb1.size
  go_wp2_with fail
  refine (impl_IsWhole s _ w1 (by omega) (HENV.out.below hB2) rfl).mono ?_
  rintro e w3 ⟨rfl, hb3⟩
  have hB4 := bt hB2 hb3
  have hzw3 := hb3.size
  go_wp2
  go_ret
  exact ⟨rfl, hB4⟩
end Go.Proofs.YtgiblgocfkppmaaDoor
