/- The walk of the law FnExactDaysFor: it returns true, and nothing that was there is changed. -/
import Derived.Test.YtgoilcmcdghdaaaDays
import Derived.Test.YtgoilcmcdghdaaaTarMech
namespace Go.Proofs.Ytgoilcmcdghdaaa
open Go.RowKit

set_option maxHeartbeats 8000000 in
theorem law_DaysFor (A : Option Addr) (c : Nat) (L : List TierD) (me mi mo : Int) (n : Int) (w : World) (hr : Rd w w.heap.size A (L.length * 2) (L.flatMap tierC)) (hl : L.length ≤ maxLen) (_ : ∀ x ∈ L, TierW x) (_ : (Lit.int .i64 me).wf = true) (_ : (Lit.int .i64 mi).wf = true) (_ : (Lit.int .i64 mo).wf = true) (_ : (Lit.int .i64 n).wf = true) :
    Calls Try.prog 8 #[.agg #[.slice A L.length c, .int .i64 me, .int .i64 mi, .int .i64 mo], .int .i64 n] w fun e w' => e = .returned (.bool true) ∧ Below w.heap.size w w' := by
  unfold maxLen at hl
  go_enter Try.func8, Try.ntmps8
  go_wp2_with fail
  generalize hW1 : w.alloc _ = W1
  have hbW1 : Below w.heap.size w W1 := by subst hW1; exact (Below.refl _ _).alloc (Nat.le_refl _) _
  have hsW1 : W1.heap.size = w.heap.size + 1 := by subst hW1; simp
  have cxW1_0 : ∀ i, W1.cell? ⟨w.heap.size, i, none⟩ = (#[.slice A L.length c, .int .i64 me, .int .i64 mi, .int .i64 mo] : Array Value)[i]? := by intro i; subst hW1; simp [go_sem]
  have HSW1 := Lib.hid hsW1; clear hW1 hsW1
  have hgW1 := HSW1.out; clear HSW1
  have hzW1 : w.heap.size + 1 ≤ W1.heap.size := by omega
  clear hgW1
  have hB2 := hbW1
  go_wp2_with fail
  refine (szTariff_c A L.length c me mi mo 1048576 W1 (by omega) (by omega) (by omega)).mono ?_
  rintro e w3 ⟨r3, rfl, hr3a, hr3b, hr3c, hb3⟩
  have hB4 := bt hB2 hb3
  have hzw3 := hb3.size
  replace cxW1_0 := fun i => (hb3.cell (by (try simp only); omega)).trans (cxW1_0 i)
  by_cases hsr3 : r3 < 0
  · go_wp2
    go_ret
    exact ⟨rfl, hB4⟩
  have hr3d := hr3c (by omega)
  go_wp2_with fail
  refine (toTariff_c A c L me mi mo w3 (rdW hB4 hr) (by omega)).mono ?_
  rintro e w5 ⟨g5, rfl, ho5, hb5⟩
  have hB6 := bt hB4 hb5
  have hzw5 := hb5.size
  replace cxW1_0 := fun i => (hb5.cell (by (try simp only); omega)).trans (cxW1_0 i)
  have HLho5 := Lib.hid (World.ownsRow.lt ho5)
  go_wp2_with fail
  refine (spec_DaysFor (some ⟨g5, 0, none⟩) L.length L me mi mo n w5 (Rd.of_own ho5) (by omega)).mono ?_
  rintro e w7 ⟨rfl, hb7⟩
  have hB8 := bt hB6 hb7
  have hzw7 := hb7.size
  replace cxW1_0 := fun i => (hb7.cell (by (try simp only); omega)).trans (cxW1_0 i)
  replace ho5 := own_below ho5 hb7
  go_wp2_with fail
  refine (toTariff_c A c L me mi mo w7 (rdW hB8 hr) (by omega)).mono ?_
  rintro e w9 ⟨g9, rfl, ho9, hb9⟩
  have hB10 := bt hB8 hb9
  have hzw9 := hb9.size
  replace cxW1_0 := fun i => (hb9.cell (by (try simp only); omega)).trans (cxW1_0 i)
  replace ho5 := own_below ho5 hb9
  have HLho9 := Lib.hid (World.ownsRow.lt ho9)
  go_wp2_with fail
  generalize hW11 : w9.alloc _ = W11
  have hbW11 : Below w9.heap.size w9 W11 := by subst hW11; exact (Below.refl _ _).alloc (Nat.le_refl _) _
  have hsW11 : W11.heap.size = w9.heap.size + 1 := by subst hW11; simp
  have cxW11_0 : ∀ i, W11.cell? ⟨w9.heap.size, i, none⟩ = (#[.slice (some ⟨g9, 0, none⟩) L.length L.length, .int .i64 me, .int .i64 mi, .int .i64 mo] : Array Value)[i]? := by intro i; subst hW11; simp [go_sem]
  have HSW11 := Lib.hid hsW11; clear hW11 hsW11
  have hgW11 := HSW11.out; clear HSW11
  have hzW11 : w9.heap.size + 1 ≤ W11.heap.size := by omega
  clear hgW11
  have hB12 := bt hB10 hbW11
  replace cxW1_0 := fun i => (hbW11.cell (by (try simp only); omega)).trans (cxW1_0 i)
  replace ho5 := own_below ho5 hbW11
  replace ho9 := own_below ho9 hbW11
  go_wp2_with fail
  refine (impl_DaysFor (some ⟨g9, 0, none⟩) L.length L me mi mo n W11 (Rd.of_own ho9) (by omega)).mono ?_
  rintro e w13 ⟨rfl, hb13⟩
  have hB14 := bt hB12 hb13
  have hzw13 := hb13.size
  replace cxW1_0 := fun i => (hb13.cell (by (try simp only); omega)).trans (cxW1_0 i)
  replace cxW11_0 := fun i => (hb13.cell (by (try simp only); omega)).trans (cxW11_0 i)
  replace ho5 := own_below ho5 hb13
  replace ho9 := own_below ho9 hb13
  go_wp2_with fail
  have HKd : Hid (∀ W1 : World, Below w13.heap.size w13 W1 → ((∀ i, W1.cell? ⟨w.heap.size, i, none⟩ = (#[.slice A L.length c, .int .i64 me, .int .i64 mi, .int .i64 mo] : Array Value)[i]?) ∧ (∀ i, W1.cell? ⟨w9.heap.size, i, none⟩ = (#[.slice (some ⟨g9, 0, none⟩) L.length L.length, .int .i64 me, .int .i64 mi, .int .i64 mo] : Array Value)[i]?) ∧ Below w13.heap.size w13 W1)) := fun W1 h => ⟨fun i => (h.cell (p := ⟨w.heap.size, i, none⟩) (by (try simp only); omega)).trans (cxW1_0 i), fun i => (h.cell (p := ⟨w9.heap.size, i, none⟩) (by (try simp only); omega)).trans (cxW11_0 i), h⟩
  go_region_held3 (fun W1 => (∀ i, W1.cell? ⟨w.heap.size, i, none⟩ = (#[.slice A L.length c, .int .i64 me, .int .i64 mi, .int .i64 mo] : Array Value)[i]?) ∧ (∀ i, W1.cell? ⟨w9.heap.size, i, none⟩ = (#[.slice (some ⟨g9, 0, none⟩) L.length L.length, .int .i64 me, .int .i64 mi, .int .i64 mo] : Array Value)[i]?) ∧ Below w13.heap.size w13 W1) (first | exact HKd.out _ ((Below.refl _ _).drew) | exact HKd.out _ (bt (by assumption) hb15) | exact HKd.out _ (bt (by assumption) hb16))
    ((first | (go_at_call 19; go_split_ands; refine (toTariff_c A c L me mi mo _ (by exact rdW (bt hB14 (by assumption)) hr) (by omega)).mono ?_; rintro e w15 ⟨g15, rfl, ho15, hb15⟩) | (go_at_call 21; go_split_ands; refine (eqTariff_c (some ⟨g9, 0, none⟩) (some ⟨g15, 0, none⟩) L.length L.length L me mi mo _ (Rd.of_own (by exact own_below ho9 (by assumption))) (Rd.of_own ho15) (by omega)).mono ?_; rintro e w16 ⟨rfl, hb16⟩)))
  obtain ⟨cy17_0, cy17_1, hR17⟩ := HKd.out w16 (bt (bt (by assumption) hb15) hb16)
  replace cxW1_0 := cy17_0; clear cy17_0
  replace cxW11_0 := cy17_1; clear cy17_1
  clear HKd
  replace ho5 := own_below ho5 hR17
  replace ho9 := own_below ho9 hR17
  have hB18 := bt hB14 hR17
  have hz17 := hR17.size
  have hzw15 := hb15.size
  replace ho15 := own_below ho15 hb16
  have hzw16 := hb16.size
  have HLho15 := Lib.hid (World.ownsRow.lt ho15)
  go_wp2
  go_ret
  exact ⟨rfl, hB18⟩
end Go.Proofs.Ytgoilcmcdghdaaa
