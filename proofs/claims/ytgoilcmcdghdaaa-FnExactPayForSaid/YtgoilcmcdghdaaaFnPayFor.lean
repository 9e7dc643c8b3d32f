/- The walk of the law FnExactPayFor: it returns true, and nothing that was there is changed. -/
import Derived.Test.YtgoilcmcdghdaaaPays
import Derived.Test.YtgoilcmcdghdaaaTarMech
namespace Go.Proofs.Ytgoilcmcdghdaaa
open Go.RowKit

set_option maxHeartbeats 8000000 in
theorem law_PayFor (A : Option Addr) (c : Nat) (L : List TierD) (me mi mo : Int) (d ml ms : Int) (w : World) (hr : Rd w w.heap.size A (L.length * 2) (L.flatMap tierC)) (hl : L.length ≤ maxLen) (_ : ∀ x ∈ L, TierW x) (_ : (Lit.int .i64 me).wf = true) (_ : (Lit.int .i64 mi).wf = true) (_ : (Lit.int .i64 mo).wf = true) (_ : (Lit.int .i64 d).wf = true) (_ : (Lit.int .i64 ml).wf = true) (_ : (Lit.int .i64 ms).wf = true) :
    Calls Try.prog 10 #[.agg #[.slice A L.length c, .int .i64 me, .int .i64 mi, .int .i64 mo], .agg #[.int .i64 d, .int .i64 ml, .int .i64 ms]] w fun e w' => e = .returned (.bool true) ∧ Below w.heap.size w w' := by
  unfold maxLen at hl
  go_enter Try.func10, Try.ntmps10
  go_wp2_with fail
  generalize hW1 : (w.alloc _).alloc _ = W1
  have hbW1 : Below w.heap.size w W1 := by subst hW1; exact ((Below.refl _ _).alloc (Nat.le_refl _) _).alloc (by (try simp) <;> (try omega)) _
  have hsW1 : W1.heap.size = w.heap.size + 2 := by subst hW1; simp
  have cxW1_0 : ∀ i, W1.cell? ⟨w.heap.size, i, none⟩ = (#[.slice A L.length c, .int .i64 me, .int .i64 mi, .int .i64 mo] : Array Value)[i]? := by intro i; subst hW1; simp [go_sem]
  have cxW1_1 : ∀ i, W1.cell? ⟨w.heap.size + 1, i, none⟩ = (#[.int .i64 d, .int .i64 ml, .int .i64 ms] : Array Value)[i]? := by intro i; subst hW1; simp [go_sem]
  have HSW1 := Lib.hid hsW1; clear hW1 hsW1
  have hgW1 := HSW1.out; clear HSW1
  have hzW1 : w.heap.size + 2 ≤ W1.heap.size := by omega
  clear hgW1
  have hB2 := hbW1
  go_wp2_with fail
  refine (szTariff_c A L.length c me mi mo 1048576 W1 (by omega) (by omega) (by omega)).mono ?_
  rintro e w3 ⟨r3, rfl, hr3a, hr3b, hr3c, hb3⟩
  have hB4 := bt hB2 hb3
  have hzw3 := hb3.size
  replace cxW1_0 := fun i => (hb3.cell (by (try simp only); omega)).trans (cxW1_0 i)
  replace cxW1_1 := fun i => (hb3.cell (by (try simp only); omega)).trans (cxW1_1 i)
  by_cases hsr3 : r3 < 0
  · go_wp2
    go_ret
    exact ⟨rfl, hB4⟩
  have hr3d := hr3c (by omega)
  go_wp2_with fail
  have HKd : Hid (∀ W1 : World, Below w3.heap.size w3 W1 → ((∀ i, W1.cell? ⟨w.heap.size, i, none⟩ = (#[.slice A L.length c, .int .i64 me, .int .i64 mi, .int .i64 mo] : Array Value)[i]?) ∧ (∀ i, W1.cell? ⟨w.heap.size + 1, i, none⟩ = (#[.int .i64 d, .int .i64 ml, .int .i64 ms] : Array Value)[i]?) ∧ Below w3.heap.size w3 W1)) := fun W1 h => ⟨fun i => (h.cell (p := ⟨w.heap.size, i, none⟩) (by (try simp only); omega)).trans (cxW1_0 i), fun i => (h.cell (p := ⟨w.heap.size + 1, i, none⟩) (by (try simp only); omega)).trans (cxW1_1 i), h⟩
  go_region_held3 (fun W1 => (∀ i, W1.cell? ⟨w.heap.size, i, none⟩ = (#[.slice A L.length c, .int .i64 me, .int .i64 mi, .int .i64 mo] : Array Value)[i]?) ∧ (∀ i, W1.cell? ⟨w.heap.size + 1, i, none⟩ = (#[.int .i64 d, .int .i64 ml, .int .i64 ms] : Array Value)[i]?) ∧ Below w3.heap.size w3 W1) (first | exact HKd.out _ ((Below.refl _ _).drew) | exact HKd.out _ (bt (by assumption) hb5) | exact HKd.out _ (bt (by assumption) hb6) | exact HKd.out _ (bt (by assumption) hb7))
    ((first | (go_at_call 19; go_split_ands; refine (toTariff_c A c L me mi mo _ (by exact rdW (bt hB4 (by assumption)) hr) (by omega)).mono ?_; rintro e w5 ⟨g5, rfl, ho5, hb5⟩) | (go_at_call 15; go_split_ands; refine (toService_c d ml ms _).mono ?_; rintro e w6 ⟨rfl, hb6⟩) | (go_at_call 36; go_split_ands; refine (spec_PayFor (some ⟨g5, 0, none⟩) L.length L me mi mo d ml ms _ (Rd.of_own (own_below ho5 hb6)) (by omega)).mono ?_; rintro e w7 ⟨rfl, hb7⟩)))
  obtain ⟨cy8_0, cy8_1, hR8⟩ := HKd.out w7 (bt (bt (bt (by assumption) hb5) hb6) hb7)
  replace cxW1_0 := cy8_0; clear cy8_0
  replace cxW1_1 := cy8_1; clear cy8_1
  clear HKd
  have hB9 := bt hB4 hR8
  have hz8 := hR8.size
  have hzw5 := hb5.size
  replace ho5 := own_below ho5 hb6
  have hzw6 := hb6.size
  replace ho5 := own_below ho5 hb7
  have hzw7 := hb7.size
  have HLho5 := Lib.hid (World.ownsRow.lt ho5)
  go_wp2_with fail
  refine (toTariff_c A c L me mi mo w7 (rdW hB9 hr) (by omega)).mono ?_
  rintro e w10 ⟨g10, rfl, ho10, hb10⟩
  have hB11 := bt hB9 hb10
  have hzw10 := hb10.size
  replace cxW1_0 := fun i => (hb10.cell (by (try simp only); omega)).trans (cxW1_0 i)
  replace cxW1_1 := fun i => (hb10.cell (by (try simp only); omega)).trans (cxW1_1 i)
  replace ho5 := own_below ho5 hb10
  have HLho10 := Lib.hid (World.ownsRow.lt ho10)
  go_wp2_with fail
  generalize hW12 : w10.alloc _ = W12
  have hbW12 : Below w10.heap.size w10 W12 := by subst hW12; exact (Below.refl _ _).alloc (Nat.le_refl _) _
  have hsW12 : W12.heap.size = w10.heap.size + 1 := by subst hW12; simp
  have cxW12_0 : ∀ i, W12.cell? ⟨w10.heap.size, i, none⟩ = (#[.slice (some ⟨g10, 0, none⟩) L.length L.length, .int .i64 me, .int .i64 mi, .int .i64 mo] : Array Value)[i]? := by intro i; subst hW12; simp [go_sem]
  have HSW12 := Lib.hid hsW12; clear hW12 hsW12
  have hgW12 := HSW12.out; clear HSW12
  have hzW12 : w10.heap.size + 1 ≤ W12.heap.size := by omega
  clear hgW12
  have hB13 := bt hB11 hbW12
  replace cxW1_0 := fun i => (hbW12.cell (by (try simp only); omega)).trans (cxW1_0 i)
  replace cxW1_1 := fun i => (hbW12.cell (by (try simp only); omega)).trans (cxW1_1 i)
  replace ho5 := own_below ho5 hbW12
  replace ho10 := own_below ho10 hbW12
  go_wp2_with fail
  have HKd : Hid (∀ W1 : World, Below W12.heap.size W12 W1 → ((∀ i, W1.cell? ⟨w.heap.size, i, none⟩ = (#[.slice A L.length c, .int .i64 me, .int .i64 mi, .int .i64 mo] : Array Value)[i]?) ∧ (∀ i, W1.cell? ⟨w.heap.size + 1, i, none⟩ = (#[.int .i64 d, .int .i64 ml, .int .i64 ms] : Array Value)[i]?) ∧ (∀ i, W1.cell? ⟨w10.heap.size, i, none⟩ = (#[.slice (some ⟨g10, 0, none⟩) L.length L.length, .int .i64 me, .int .i64 mi, .int .i64 mo] : Array Value)[i]?) ∧ Below W12.heap.size W12 W1)) := fun W1 h => ⟨fun i => (h.cell (p := ⟨w.heap.size, i, none⟩) (by (try simp only); omega)).trans (cxW1_0 i), fun i => (h.cell (p := ⟨w.heap.size + 1, i, none⟩) (by (try simp only); omega)).trans (cxW1_1 i), fun i => (h.cell (p := ⟨w10.heap.size, i, none⟩) (by (try simp only); omega)).trans (cxW12_0 i), h⟩
  go_region_held3 (fun W1 => (∀ i, W1.cell? ⟨w.heap.size, i, none⟩ = (#[.slice A L.length c, .int .i64 me, .int .i64 mi, .int .i64 mo] : Array Value)[i]?) ∧ (∀ i, W1.cell? ⟨w.heap.size + 1, i, none⟩ = (#[.int .i64 d, .int .i64 ml, .int .i64 ms] : Array Value)[i]?) ∧ (∀ i, W1.cell? ⟨w10.heap.size, i, none⟩ = (#[.slice (some ⟨g10, 0, none⟩) L.length L.length, .int .i64 me, .int .i64 mi, .int .i64 mo] : Array Value)[i]?) ∧ Below W12.heap.size W12 W1) (first | exact HKd.out _ ((Below.refl _ _).drew) | exact HKd.out _ (bt (by assumption) hb14) | exact HKd.out _ (bt (by assumption) hb15))
    ((first | (go_at_call 15; go_split_ands; refine (toService_c d ml ms _).mono ?_; rintro e w14 ⟨rfl, hb14⟩) | (go_at_call 37; go_split_ands; refine (impl_PayFor (some ⟨g10, 0, none⟩) L.length L me mi mo d ml ms _ (Rd.of_own (by exact own_below ho10 (by assumption))) (by omega)).mono ?_; rintro e w15 ⟨rfl, hb15⟩)))
  obtain ⟨cy16_0, cy16_1, cy16_2, hR16⟩ := HKd.out w15 (bt (bt (by assumption) hb14) hb15)
  replace cxW1_0 := cy16_0; clear cy16_0
  replace cxW1_1 := cy16_1; clear cy16_1
  replace cxW12_0 := cy16_2; clear cy16_2
  clear HKd
  replace ho5 := own_below ho5 hR16
  replace ho10 := own_below ho10 hR16
  have hB17 := bt hB13 hR16
  have hz16 := hR16.size
  have hzw14 := hb14.size
  have hzw15 := hb15.size
  go_wp2_with fail
  have HKd : Hid (∀ W1 : World, Below w15.heap.size w15 W1 → ((∀ i, W1.cell? ⟨w.heap.size, i, none⟩ = (#[.slice A L.length c, .int .i64 me, .int .i64 mi, .int .i64 mo] : Array Value)[i]?) ∧ (∀ i, W1.cell? ⟨w.heap.size + 1, i, none⟩ = (#[.int .i64 d, .int .i64 ml, .int .i64 ms] : Array Value)[i]?) ∧ (∀ i, W1.cell? ⟨w10.heap.size, i, none⟩ = (#[.slice (some ⟨g10, 0, none⟩) L.length L.length, .int .i64 me, .int .i64 mi, .int .i64 mo] : Array Value)[i]?) ∧ Below w15.heap.size w15 W1)) := fun W1 h => ⟨fun i => (h.cell (p := ⟨w.heap.size, i, none⟩) (by (try simp only); omega)).trans (cxW1_0 i), fun i => (h.cell (p := ⟨w.heap.size + 1, i, none⟩) (by (try simp only); omega)).trans (cxW1_1 i), fun i => (h.cell (p := ⟨w10.heap.size, i, none⟩) (by (try simp only); omega)).trans (cxW12_0 i), h⟩
  go_region_held3 (fun W1 => (∀ i, W1.cell? ⟨w.heap.size, i, none⟩ = (#[.slice A L.length c, .int .i64 me, .int .i64 mi, .int .i64 mo] : Array Value)[i]?) ∧ (∀ i, W1.cell? ⟨w.heap.size + 1, i, none⟩ = (#[.int .i64 d, .int .i64 ml, .int .i64 ms] : Array Value)[i]?) ∧ (∀ i, W1.cell? ⟨w10.heap.size, i, none⟩ = (#[.slice (some ⟨g10, 0, none⟩) L.length L.length, .int .i64 me, .int .i64 mi, .int .i64 mo] : Array Value)[i]?) ∧ Below w15.heap.size w15 W1) (first | exact HKd.out _ ((Below.refl _ _).drew) | exact HKd.out _ (bt (by assumption) hb18) | exact HKd.out _ (bt (by assumption) hb19))
    ((first | (go_at_call 19; go_split_ands; refine (toTariff_c A c L me mi mo _ (by exact rdW (bt hB17 (by assumption)) hr) (by omega)).mono ?_; rintro e w18 ⟨g18, rfl, ho18, hb18⟩) | (go_at_call 21; go_split_ands; refine (eqTariff_c (some ⟨g10, 0, none⟩) (some ⟨g18, 0, none⟩) L.length L.length L me mi mo _ (Rd.of_own (by exact own_below ho10 (by assumption))) (Rd.of_own ho18) (by omega)).mono ?_; rintro e w19 ⟨rfl, hb19⟩)))
  obtain ⟨cy20_0, cy20_1, cy20_2, hR20⟩ := HKd.out w19 (bt (bt (by assumption) hb18) hb19)
  replace cxW1_0 := cy20_0; clear cy20_0
  replace cxW1_1 := cy20_1; clear cy20_1
  replace cxW12_0 := cy20_2; clear cy20_2
  clear HKd
  replace ho5 := own_below ho5 hR20
  replace ho10 := own_below ho10 hR20
  have hB21 := bt hB17 hR20
  have hz20 := hR20.size
  have hzw18 := hb18.size
  replace ho18 := own_below ho18 hb19
  have hzw19 := hb19.size
  have HLho18 := Lib.hid (World.ownsRow.lt ho18)
  go_wp2
  go_ret
  exact ⟨rfl, hB21⟩
end Go.Proofs.Ytgoilcmcdghdaaa
