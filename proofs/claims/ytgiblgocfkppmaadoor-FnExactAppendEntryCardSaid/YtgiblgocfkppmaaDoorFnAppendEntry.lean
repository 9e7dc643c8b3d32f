/- The walk of the law FnExactAppendEntry: it returns true, and nothing that was there is changed. -/
import Derived.Test.YtgiblgocfkppmaaDoorRd6
namespace Go.Proofs.YtgiblgocfkppmaaDoor
open Go.RowKit
set_option linter.unusedVariables false

set_option maxRecDepth 100000 in
set_option maxHeartbeats 8000000 in
theorem law_AppendEntry (s : ByteArray) (a0 : Int) (a1 : ByteArray) (w : World) (hs : s.size ≤ maxLen) (hk0 : (Lit.int .u8 a0).wf = true) (ha1 : a1.size ≤ maxLen) (hE : JEnv w) :
    Calls Tryd.prog 9 #[.string s, .agg #[.int .u8 a0, .string a1]] w fun e w' => e = .returned (.bool true) ∧ Below w.heap.size w w' := by
  unfold maxLen at hs
  by_cases hbig : (1048576 : Int) < s.size
  · go_enter Tryd.func9, Tryd.ntmps9
    go_wp2
    go_ret
    exact ⟨rfl, by first | exact Below.refl _ _ | exact (Below.refl _ _).alloc (Nat.le_refl _) _⟩
  have HENV := Lib.hid hE
  clear hE
  have hku := u8_bds hk0
  have HA1 := Lib.hid ha1
  unfold maxLen at ha1
  go_enter Tryd.func9, Tryd.ntmps9
  go_wp2_with fail
  generalize hW1 : w.alloc _ = W1
  have hbW1 : Below w.heap.size w W1 := by subst hW1; exact (Below.refl _ _).alloc (Nat.le_refl _) _
  have hsW1 : W1.heap.size = w.heap.size + 1 := by subst hW1; simp
  have cxW1_0 : ∀ i, W1.cell? ⟨w.heap.size, i, none⟩ = (#[.int .u8 a0, .string a1] : Array Value)[i]? := by intro i; subst hW1; simp [go_sem]
  have HSW1 := Lib.hid hsW1; clear hW1 hsW1
  have hgW1 := HSW1.out; clear HSW1
  have hzW1 : w.heap.size + 1 ≤ W1.heap.size := by omega
  clear hgW1
  have hB2 := hbW1
  go_wp2_with fail
  refine (szEntry_c a0 a1 1048576 W1 (by omega) (by omega) (by omega)).mono ?_
  rintro e w3 ⟨r3, rfl, hr3a, hr3b, hr3c, hb3⟩
  have hB4 := bt hB2 hb3
  have hzw3 := hb3.size
  replace cxW1_0 := fun i => (hb3.cell (by (try simp only); omega)).trans (cxW1_0 i)
  by_cases hsr3 : r3 < 0
  · go_wp2
    go_ret
    exact ⟨rfl, hB4⟩
  have hr3d := hr3c (by omega)
  go_wp2_with fail
  refine (toEntry_c a0 a1 _).mono ?_
  rintro e w5 ⟨rfl, hb5⟩
  have hB6 := bt hB4 hb5
  have hzw5 := hb5.size
  replace cxW1_0 := fun i => (hb5.cell (by (try simp only); omega)).trans (cxW1_0 i)
  go_wp2_with fail
  refine (spec_AppendEntry s a0 a1 w5  (by omega) hku HA1.out).mono ?_
  rintro e w7 ⟨rfl, hb7⟩
  have hB8 := bt hB6 hb7
  have hzw7 := hb7.size
  replace cxW1_0 := fun i => (hb7.cell (by (try simp only); omega)).trans (cxW1_0 i)
  go_wp2_with fail
  refine (toEntry_c a0 a1 _).mono ?_
  rintro e w9 ⟨rfl, hb9⟩
  have hB10 := bt hB8 hb9
  have hzw9 := hb9.size
  replace cxW1_0 := fun i => (hb9.cell (by (try simp only); omega)).trans (cxW1_0 i)
  go_wp2_with fail
  refine (impl_AppendEntry s a0 a1 w9  (by omega) hku HA1.out (HENV.out.below hB10)).mono ?_
  rintro e w11 ⟨rfl, hb11⟩
  have hB12 := bt hB10 hb11
  have hzw11 := hb11.size
  replace cxW1_0 := fun i => (hb11.cell (by (try simp only); omega)).trans (cxW1_0 i)
  go_wp2
  go_ret
  exact ⟨rfl, hB12⟩
end Go.Proofs.YtgiblgocfkppmaaDoor
