/- The walk of the law FnExactLastOfKind: it returns true, and nothing that was there is changed. -/
import Derived.Test.YtgiblgocfkppmaaDoorRd6
namespace Go.Proofs.YtgiblgocfkppmaaDoor
open Go.RowKit
set_option linter.unusedVariables false

set_option maxRecDepth 100000 in
set_option maxHeartbeats 8000000 in
theorem law_LastOfKind (s : ByteArray) (kd : Int) (w : World) (hs : s.size ≤ maxLen) (_ : (Lit.int .u8 kd).wf = true) (hE : JEnv w) :
    Calls Tryd.prog 6 #[.string s, .int .u8 kd] w fun e w' => e = .returned (.bool true) ∧ Below w.heap.size w w' := by
  unfold maxLen at hs
  by_cases hbig : (1048576 : Int) < s.size
  · go_enter Tryd.func6, Tryd.ntmps6
    go_wp2
    go_ret
    exact ⟨rfl, Below.refl _ _⟩
  have HENV := Lib.hid hE
  clear hE
  go_enter Tryd.func6, Tryd.ntmps6
  go_wp2_with fail
  refine (spec_LastOfKind s kd w  (by omega)).mono ?_
  rintro e w1 ⟨rfl, hb1⟩
  have hB2 := hb1
  have hzw1 := hb1.size
  go_wp2_with fail
  refine (impl_LastOfKind s kd w1  (by omega) (HENV.out.below hB2)).mono ?_
  rintro e w3 ⟨rfl, hb3⟩
  have hB4 := bt hB2 hb3
  have hzw3 := hb3.size
  go_wp2
  go_ret
  exact ⟨rfl, hB4⟩
end Go.Proofs.YtgiblgocfkppmaaDoor
