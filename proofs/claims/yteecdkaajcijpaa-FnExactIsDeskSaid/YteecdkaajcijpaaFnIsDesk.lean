/- The walk of the law FnExactIsDesk: it returns true, and nothing that was there is changed. -/
import Derived.Test.YteecdkaajcijpaaDesk
namespace Go.Proofs.Yteecdkaajcijpaa
open Go.RowKit
set_option linter.unusedVariables false
set_option maxRecDepth 100000 in
set_option maxHeartbeats 4000000 in
theorem law_IsDesk (A1 : Option Addr) (c1 : Nat) (H : List Int) (A2 : Option Addr) (c2 : Nat) (K : List CallD) (A3 : Option Addr) (c3 : Nat) (M : List MotionD) (w : World)
    (hr1 : Rd w w.heap.size A1 H.length (H.map (Value.int .i64))) (hm1 : H.length ≤ maxLen) (_ : ∀ z ∈ H, (Lit.int .i64 z).wf = true)
    (hr2 : Rd w w.heap.size A2 (K.length * 4) (K.flatMap callC)) (hm2 : K.length ≤ maxLen) (_ : ∀ z ∈ K, CallW z)
    (hr3 : Rd w w.heap.size A3 (M.length * 6) (M.flatMap motionC)) (hm3 : M.length ≤ maxLen) (hW : ∀ z ∈ M, MotionW z) :
    Calls Try.prog 3 #[.agg #[.slice A1 H.length c1, .slice A2 K.length c2, .slice A3 M.length c3]] w fun e w' => e = .returned (.bool true) ∧ Below w.heap.size w w' := by
  unfold maxLen at hm1 hm2 hm3
  have HWM := Lib.hid hW; clear hW
  go_enter Try.func3, Try.ntmps3
  go_wp2_with fail
  generalize hW0 : w.alloc _ = W0
  have hbW0 : Below w.heap.size w W0 := by subst hW0; exact (Below.refl _ _).alloc (Nat.le_refl _) _
  have hsW0 : W0.heap.size = w.heap.size + 1 := by subst hW0; simp
  have cxW0_0 : ∀ i, W0.cell? ⟨w.heap.size, i, none⟩ = (#[.slice A1 H.length c1, .slice A2 K.length c2, .slice A3 M.length c3] : Array Value)[i]? := by intro i; subst hW0; simp [go_sem]
  have HSW0 := Lib.hid hsW0; clear hW0 hsW0
  have hz0 : w.heap.size + 1 ≤ W0.heap.size := by have := HSW0.out; omega
  clear HSW0
  refine (szDesk_c A1 A2 A3 c1 c2 c3 H K M 1048576 W0 (rdW hbW0 hr1) (rdW hbW0 hr2) (rdW hbW0 hr3) (by omega) (by omega) (by omega) HWM.out (by omega) (by omega)).mono ?_
  rintro e w1 ⟨r, rfl, hr, hs, hb1⟩
  have hB1 := bt hbW0 hb1
  by_cases hr0 : r < 0
  · go_wp2
    go_ret
    exact ⟨rfl, hB1⟩
  obtain ⟨hs1, hs2, hs3⟩ := hs (by omega)
  have hz1 := hb1.size
  replace cxW0_0 := fun i => (hb1.cell (by (try simp only); omega)).trans (cxW0_0 i)
  go_wp2_with fail
  refine (toDesk_c A1 A2 A3 c1 c2 c3 H K M w1 (rdW hB1 hr1) (rdW hB1 hr2) (rdW hB1 hr3) (by omega) (by omega) (by omega)).mono ?_
  rintro e w2 ⟨g1, g2, g3, rfl, k1, k2, k3, hb2⟩
  have hB2 := bt hB1 hb2
  have hz2 := hb2.size
  replace cxW0_0 := fun i => (hb2.cell (by (try simp only); omega)).trans (cxW0_0 i)
  go_wp2_with fail
  refine (spec_IsDesk (some ⟨g1, 0, none⟩) (some ⟨g2, 0, none⟩) (some ⟨g3, 0, none⟩) H.length K.length M.length H K M _ w2 k1 k2 k3 (by omega) (Nat.le_refl _) (by omega) (Nat.le_refl _) (by omega) (Nat.le_refl _) HWM.out rfl).mono ?_
  rintro e w3 ⟨rfl, hb3⟩
  clear k1 k2 k3
  have hB3 := bt hB2 hb3
  have hz3 := hb3.size
  replace cxW0_0 := fun i => (hb3.cell (by (try simp only); omega)).trans (cxW0_0 i)
  go_wp2_with fail
  refine (toDesk_c A1 A2 A3 c1 c2 c3 H K M w3 (rdW hB3 hr1) (rdW hB3 hr2) (rdW hB3 hr3) (by omega) (by omega) (by omega)).mono ?_
  rintro e w4 ⟨g4, g5, g6, rfl, k1, k2, k3, hb4⟩
  have hB4 := bt hB3 hb4
  have hz4 := hb4.size
  replace cxW0_0 := fun i => (hb4.cell (by (try simp only); omega)).trans (cxW0_0 i)
  go_wp2_with fail
  generalize hW5 : w4.alloc _ = W5
  have hbW5 : Below w4.heap.size w4 W5 := by subst hW5; exact (Below.refl _ _).alloc (Nat.le_refl _) _
  have hsW5 : W5.heap.size = w4.heap.size + 1 := by subst hW5; simp
  have cxW5_0 : ∀ i, W5.cell? ⟨w4.heap.size, i, none⟩ = (#[.slice (some ⟨g4, 0, none⟩) H.length H.length, .slice (some ⟨g5, 0, none⟩) K.length K.length, .slice (some ⟨g6, 0, none⟩) M.length M.length] : Array Value)[i]? := by intro i; subst hW5; simp [go_sem]
  have HSW5 := Lib.hid hsW5; clear hW5 hsW5
  have hz5 : w4.heap.size + 1 ≤ W5.heap.size := by have := HSW5.out; omega
  clear HSW5
  have hB5 := bt hB4 hbW5
  replace cxW0_0 := fun i => (hbW5.cell (by (try simp only); omega)).trans (cxW0_0 i)
  replace k1 := rdW hbW5 k1; replace k2 := rdW hbW5 k2; replace k3 := rdW hbW5 k3
  refine (impl_IsDesk (some ⟨g4, 0, none⟩) (some ⟨g5, 0, none⟩) (some ⟨g6, 0, none⟩) H.length K.length M.length H K M _ W5 k1 k2 k3 (by omega) (Nat.le_refl _) (by omega) (Nat.le_refl _) (by omega) (Nat.le_refl _) HWM.out rfl).mono ?_
  rintro e w6 ⟨rfl, hb6⟩
  have hB6 := bt hB5 hb6
  have hz6 := hb6.size
  replace cxW0_0 := fun i => (hb6.cell (by (try simp only); omega)).trans (cxW0_0 i)
  replace cxW5_0 := fun i => (hb6.cell (by (try simp only); omega)).trans (cxW5_0 i)
  have K1 := Lib.hid (rdW hb6 k1); have K2 := Lib.hid (rdW hb6 k2); have K3 := Lib.hid (rdW hb6 k3)
  clear k1 k2 k3
  go_wp2_with fail
  have HKd : Hid (∀ W1 : World, Below w6.heap.size w6 W1 → ((∀ i, W1.cell? ⟨w.heap.size, i, none⟩ = (#[.slice A1 H.length c1, .slice A2 K.length c2, .slice A3 M.length c3] : Array Value)[i]?) ∧ (∀ i, W1.cell? ⟨w4.heap.size, i, none⟩ = (#[.slice (some ⟨g4, 0, none⟩) H.length H.length, .slice (some ⟨g5, 0, none⟩) K.length K.length, .slice (some ⟨g6, 0, none⟩) M.length M.length] : Array Value)[i]?) ∧ Below w6.heap.size w6 W1)) := fun W1 h => ⟨fun i => (h.cell (p := ⟨w.heap.size, i, none⟩) (by (try simp only); omega)).trans (cxW0_0 i), fun i => (h.cell (p := ⟨w4.heap.size, i, none⟩) (by (try simp only); omega)).trans (cxW5_0 i), h⟩
  go_region_held3 (fun W1 => (∀ i, W1.cell? ⟨w.heap.size, i, none⟩ = (#[.slice A1 H.length c1, .slice A2 K.length c2, .slice A3 M.length c3] : Array Value)[i]?) ∧ (∀ i, W1.cell? ⟨w4.heap.size, i, none⟩ = (#[.slice (some ⟨g4, 0, none⟩) H.length H.length, .slice (some ⟨g5, 0, none⟩) K.length K.length, .slice (some ⟨g6, 0, none⟩) M.length M.length] : Array Value)[i]?) ∧ Below w6.heap.size w6 W1) (first | exact HKd.out _ ((Below.refl _ _).drew) | exact HKd.out _ (bt (by assumption) hb7) | exact HKd.out _ (bt (by assumption) hb8))
    ((first | (go_at_call 6; go_split_ands; refine (toDesk_c A1 A2 A3 c1 c2 c3 H K M _ (by exact rdW (bt hB6 (by assumption)) hr1) (by exact rdW (bt hB6 (by assumption)) hr2) (by exact rdW (bt hB6 (by assumption)) hr3) (by omega) (by omega) (by omega)).mono ?_; rintro e w7 ⟨g7, g8, g9, rfl, k1, k2, k3, hb7⟩) | (go_at_call 8; go_split_ands; refine (eqDesk_c (some ⟨g4, 0, none⟩) (some ⟨g5, 0, none⟩) (some ⟨g6, 0, none⟩) (some ⟨g7, 0, none⟩) (some ⟨g8, 0, none⟩) (some ⟨g9, 0, none⟩) H.length K.length M.length H.length K.length M.length H K M _ (by exact rdW (by assumption) K1.out) (by exact rdW (by assumption) K2.out) (by exact rdW (by assumption) K3.out) k1 k2 k3 (by omega) (by omega) (by omega)).mono ?_; rintro e w8 ⟨rfl, hb8⟩)))
  have hB8 := bt hB6 (bt (bt (by assumption) hb7) hb8)
  go_wp2
  go_ret
  exact ⟨rfl, hB8⟩
end Go.Proofs.Yteecdkaajcijpaa
