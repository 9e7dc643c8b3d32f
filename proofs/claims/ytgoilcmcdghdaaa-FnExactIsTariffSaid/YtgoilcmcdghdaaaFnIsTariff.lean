/- The law FnExactIsTariff returns true for every argument; nothing that was there is changed. -/
import Derived.Test.YtgoilcmcdghdaaaTariff
import Derived.Test.YtgoilcmcdghdaaaTarMech
namespace Go.Proofs.Ytgoilcmcdghdaaa
open Go.RowKit

set_option maxHeartbeats 4000000 in
theorem law_IsTariff (A : Option Addr) (c : Nat) (L : List TierD) (me mi mo : Int) (w : World) (hr : Rd w w.heap.size A (L.length * 2) (L.flatMap tierC)) (hl : L.length ≤ maxLen) (_ : ∀ x ∈ L, TierW x) (_ : (Lit.int .i64 me).wf = true) (_ : (Lit.int .i64 mi).wf = true) (_ : (Lit.int .i64 mo).wf = true) :
    Calls Try.prog 4 #[.agg #[.slice A L.length c, .int .i64 me, .int .i64 mi, .int .i64 mo]] w fun e w' => e = .returned (.bool true) ∧ Below w.heap.size w w' := by
  unfold maxLen at hl
  go_enter Try.func4, Try.ntmps4
  go_wp2_with fail
  generalize hW0 : w.alloc _ = W0
  have hbW0 : Below w.heap.size w W0 := by subst hW0; exact (Below.refl _ _).alloc (Nat.le_refl _) _
  have hsW0 : W0.heap.size = w.heap.size + 1 := by subst hW0; simp
  have cxW0_0 : ∀ i, W0.cell? ⟨w.heap.size, i, none⟩ = (#[.slice A L.length c, .int .i64 me, .int .i64 mi, .int .i64 mo] : Array Value)[i]? := by intro i; subst hW0; simp [go_sem]
  have HSW0 := Lib.hid hsW0; clear hW0 hsW0
  refine (szTariff_c A L.length c me mi mo _ W0 (by omega) (by omega) (by omega)).mono ?_
  rintro e w1 ⟨rfl, hb1⟩
  have hB1 := bt hbW0 hb1
  replace cxW0_0 := fun i => (hb1.cell (by (try simp only); have := HSW0.out; omega)).trans (cxW0_0 i)
  by_cases hs : (1048576 : Int) < L.length
  · rw [if_pos hs]
    go_wp2
    go_ret
    exact ⟨rfl, hB1⟩
  · rw [if_neg hs]
    have hs2 : ¬ (1048576 : Int) - L.length < 0 := by omega
    have hs0 := hb1.size
    go_wp2_with fail
    refine (toTariff_c A c L me mi mo w1 (rdW hB1 hr) (by omega)).mono ?_
    rintro e w2 ⟨g2, rfl, ho2, hb2⟩
    have hB2 := bt hB1 hb2
    go_wp2_with fail
    refine (spec_IsTariff _ _ L me mi mo _ w2 (Rd.of_own ho2) (by omega) rfl).mono ?_
    rintro e w3 ⟨rfl, hb3⟩
    have hB3 := bt hB2 hb3
    have hb13 := bt hb2 hb3
    replace cxW0_0 := fun i => (hb13.cell (by (try simp only); have := HSW0.out; omega)).trans (cxW0_0 i)
    go_wp2_with fail
    refine (toTariff_c A c L me mi mo w3 (rdW hB3 hr) (by omega)).mono ?_
    rintro e w4 ⟨g4, rfl, ho4, hb4⟩
    have hB4 := bt hB3 hb4
    go_wp2_with fail
    generalize hW4 : w4.alloc _ = W4
    have hbW4 : Below w4.heap.size w4 W4 := by subst hW4; exact (Below.refl _ _).alloc (Nat.le_refl _) _
    have hsW4 : W4.heap.size = w4.heap.size + 1 := by subst hW4; simp
    have cxW4_0 : ∀ i, W4.cell? ⟨w4.heap.size, i, none⟩ = (#[.slice (some ⟨g4, 0, none⟩) L.length L.length, .int .i64 me, .int .i64 mi, .int .i64 mo] : Array Value)[i]? := by intro i; subst hW4; simp [go_sem]
    have HSW4 := Lib.hid hsW4; clear hW4 hsW4
    have ho4' := own_below ho4 hbW4
    have hBW4 := bt hB4 hbW4
    refine (impl_IsTariff _ _ L me mi mo _ W4 (Rd.of_own ho4') (by omega) rfl).mono ?_
    rintro e w5 ⟨rfl, hb5⟩
    have hB5 := bt hBW4 hb5
    have hb35 := bt (bt hb4 hbW4) hb5
    have ho5 := own_below ho4' hb5
    have hs3 := hb13.size
    have hs4 := hb4.size
    replace cxW0_0 := fun i => (hb35.cell (by (try simp only); have := HSW0.out; omega)).trans (cxW0_0 i)
    replace cxW4_0 := fun i => (hb5.cell (by (try simp only); have := HSW4.out; omega)).trans (cxW4_0 i)
    go_wp2_with fail
    have hs5 := hb5.size
    have hs6 := HSW4.out
    have hs7 := HSW0.out
    have HKd : Hid (∀ W1 : World, Below w5.heap.size w5 W1 → ((∀ i, W1.cell? ⟨w.heap.size, i, none⟩ = (#[.slice A L.length c, .int .i64 me, .int .i64 mi, .int .i64 mo] : Array Value)[i]?) ∧ (∀ i, W1.cell? ⟨w4.heap.size, i, none⟩ = (#[.slice (some ⟨g4, 0, none⟩) L.length L.length, .int .i64 me, .int .i64 mi, .int .i64 mo] : Array Value)[i]?) ∧ Below w5.heap.size w5 W1)) := fun W1 h => ⟨fun i => (h.cell (p := ⟨w.heap.size, i, none⟩) (by (try simp only); omega)).trans (cxW0_0 i), fun i => (h.cell (p := ⟨w4.heap.size, i, none⟩) (by (try simp only); omega)).trans (cxW4_0 i), h⟩
    go_region_held3 (fun W1 => (∀ i, W1.cell? ⟨w.heap.size, i, none⟩ = (#[.slice A L.length c, .int .i64 me, .int .i64 mi, .int .i64 mo] : Array Value)[i]?) ∧ (∀ i, W1.cell? ⟨w4.heap.size, i, none⟩ = (#[.slice (some ⟨g4, 0, none⟩) L.length L.length, .int .i64 me, .int .i64 mi, .int .i64 mo] : Array Value)[i]?) ∧ Below w5.heap.size w5 W1) (first | exact HKd.out _ ((Below.refl _ _).drew) | exact HKd.out _ (bt (by assumption) hb6) | exact HKd.out _ (bt (by assumption) hb7))
      ((first | (go_at_call 19; go_split_ands; refine (toTariff_c A c L me mi mo _ (by exact rdW (bt hB5 (by assumption)) hr) (by omega)).mono ?_; rintro e w6 ⟨g6, rfl, ho6, hb6⟩) | (go_at_call 21; go_split_ands; refine (eqTariff_c _ _ _ _ L me mi mo _ (by exact Rd.of_own (own_below (own_below ho5 (by assumption)) hb6)) (by exact Rd.of_own ho6) (by omega)).mono ?_; rintro e w7 ⟨rfl, hb7⟩)))
    go_wp2
    go_ret
    exact ⟨rfl, bt (bt (bt hB5 (by assumption)) hb6) hb7⟩
end Go.Proofs.Ytgoilcmcdghdaaa
