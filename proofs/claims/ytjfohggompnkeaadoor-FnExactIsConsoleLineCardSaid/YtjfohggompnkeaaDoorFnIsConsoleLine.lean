/- The walk of the law FnExactIsConsoleLine: it returns true, and nothing that was there is changed. -/
import Derived.Test.YtjfohggompnkeaaDoorConR
import Derived.Test.YtjfohggompnkeaaDoorTab3
namespace Go.Proofs.YtjfohggompnkeaaDoor
open Go.RowKit
set_option linter.unusedVariables false
set_option maxRecDepth 100000 in
set_option maxHeartbeats 2000000 in
theorem law_IsConsoleLine (s : ByteArray) (w : World) (hs : s.size ≤ maxLen) (hE : JEnv w ∧ MaxW w) :
    Calls Tryd.prog 3 #[.string s] w fun e w' => e = .returned (.bool true) ∧ Below w.heap.size w w' := by
  unfold maxLen at hs
  by_cases hbig : (1048576 : Int) < s.size
  · go_enter Tryd.func3, Tryd.ntmps3
    go_wp2
    go_ret
    exact ⟨rfl, Below.refl _ _⟩
  · have h2 : s.size ≤ 2000000 := by omega
    obtain ⟨hJ, m, hm⟩ := hE
    have HS := Lib.hid (spec_IsConsoleLine s w h2)
    have HI := Lib.hid (fun (W : World) (hb : Below w.heap.size w W) => impl_IsConsoleLine s W h2 (hJ.below hb) m ((hb.cell (block_lt_of_cell hm)).trans hm))
    generalize lineB s = b at *
    clear hm hJ
    go_enter Tryd.func3, Tryd.ntmps3
    go_wp2_with fail
    refine HS.out.mono ?_
    rintro e w1 ⟨rfl, hb1⟩
    go_wp2_with fail
    refine (HI.out w1 hb1).mono ?_
    rintro e w2 ⟨rfl, hb2⟩
    go_wp2
    go_ret
    exact ⟨rfl, bt hb1 hb2⟩
end Go.Proofs.YtjfohggompnkeaaDoor
