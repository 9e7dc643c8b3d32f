/- The walk of the law FnExactIsService: it returns true, and nothing that was there is changed. -/
import Derived.Test.YtgoilcmcdghdaaaPay
namespace Go.Proofs.Ytgoilcmcdghdaaa
open Go.RowKit

set_option maxHeartbeats 8000000 in
theorem law_IsService (d ml ms : Int) (w : World) (_ : (Lit.int .i64 d).wf = true) (_ : (Lit.int .i64 ml).wf = true) (_ : (Lit.int .i64 ms).wf = true) :
    Calls Try.prog 3 #[.agg #[.int .i64 d, .int .i64 ml, .int .i64 ms]] w fun e w' => e = .returned (.bool true) ∧ Below w.heap.size w w' := by
  go_enter Try.func3, Try.ntmps3
  go_wp2_with fail
  generalize hW1 : w.alloc _ = W1
  have hbW1 : Below w.heap.size w W1 := by subst hW1; exact (Below.refl _ _).alloc (Nat.le_refl _) _
  have hsW1 : W1.heap.size = w.heap.size + 1 := by subst hW1; simp
  have cxW1_0 : ∀ i, W1.cell? ⟨w.heap.size, i, none⟩ = (#[.int .i64 d, .int .i64 ml, .int .i64 ms] : Array Value)[i]? := by intro i; subst hW1; simp [go_sem]
  have HSW1 := Lib.hid hsW1; clear hW1 hsW1
  have hgW1 := HSW1.out; clear HSW1
  have hzW1 : w.heap.size + 1 ≤ W1.heap.size := by omega
  clear hgW1
  have hB2 := hbW1
  go_wp2_with fail
  refine (toService_c d ml ms _).mono ?_
  rintro e w3 ⟨rfl, hb3⟩
  have hB4 := bt hB2 hb3
  have hzw3 := hb3.size
  replace cxW1_0 := fun i => (hb3.cell (by (try simp only); omega)).trans (cxW1_0 i)
  go_wp2_with fail
  refine (spec_IsService d ml ms _ w3  rfl).mono ?_
  rintro e w5 ⟨rfl, hb5⟩
  have hB6 := bt hB4 hb5
  have hzw5 := hb5.size
  replace cxW1_0 := fun i => (hb5.cell (by (try simp only); omega)).trans (cxW1_0 i)
  go_wp2_with fail
  refine (toService_c d ml ms _).mono ?_
  rintro e w7 ⟨rfl, hb7⟩
  have hB8 := bt hB6 hb7
  have hzw7 := hb7.size
  replace cxW1_0 := fun i => (hb7.cell (by (try simp only); omega)).trans (cxW1_0 i)
  go_wp2_with fail
  refine (impl_IsService d ml ms _ w7  rfl).mono ?_
  rintro e w9 ⟨rfl, hb9⟩
  have hB10 := bt hB8 hb9
  have hzw9 := hb9.size
  replace cxW1_0 := fun i => (hb9.cell (by (try simp only); omega)).trans (cxW1_0 i)
  go_wp2
  go_ret
  exact ⟨rfl, hB10⟩
end Go.Proofs.Ytgoilcmcdghdaaa
