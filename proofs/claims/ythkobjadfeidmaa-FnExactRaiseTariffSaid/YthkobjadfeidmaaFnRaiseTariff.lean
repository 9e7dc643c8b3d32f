/- The walk of the law FnExactRaiseTariff: it returns true, and nothing that was there is changed. -/
import Derived.Test.YthkobjadfeidmaaRaiseR
import Derived.Test.YthkobjadfeidmaaTarMech
namespace Go.Proofs.Ythkobjadfeidmaa
open Go.RowKit
set_option linter.unusedVariables false

set_option maxRecDepth 100000 in
set_option maxHeartbeats 8000000 in
theorem law_RaiseTariff (A : Option Addr) (c : Nat) (L : List TierD) (me mi mo : Int) (p : Int) (w : World) (hr : Rd w w.heap.size A (L.length * 2) (L.flatMap tierC)) (hl : L.length ≤ maxLen) (_ : ∀ x ∈ L, TierW x) (_ : (Lit.int .i64 me).wf = true) (_ : (Lit.int .i64 mi).wf = true) (_ : (Lit.int .i64 mo).wf = true) (_ : (Lit.int .i64 p).wf = true) :
    Calls Try.prog 4 #[.agg #[.slice A L.length c, .int .i64 me, .int .i64 mi, .int .i64 mo], .int .i64 p] w fun e w' => e = .returned (.bool true) ∧ Below w.heap.size w w' := by
  unfold maxLen at hl
  go_enter Try.func4, Try.ntmps4
  go_wp2_with fail
  generalize hW1 : w.alloc _ = W1
  have hbW1 : Below w.heap.size w W1 := by subst hW1; exact (Below.refl _ _).alloc (Nat.le_refl _) _
  have hsW1 : W1.heap.size = w.heap.size + 1 := by subst hW1; simp
  have cxW1_0 : ∀ i, W1.cell? ⟨w.heap.size, i, none⟩ = (#[.slice A L.length c, .int .i64 me, .int .i64 mi, .int .i64 mo] : Array Value)[i]? := by intro i; subst hW1; simp [go_sem]
  have HSW1 := Lib.hid hsW1; clear hW1 hsW1
  have hgW1 := HSW1.out; clear HSW1
  have hzW1 : w.heap.size + 1 ≤ W1.heap.size := by omega
  clear hgW1
  have hB2 := hbW1
  go_wp2_with fail
  refine (szTariff_c A L.length c me mi mo 1048576 W1 (by omega) (by omega) (by omega)).mono ?_
  rintro e w3 ⟨r3, rfl, hr3a, hr3b, hr3c, hb3⟩
  have hB4 := bt hB2 hb3
  have hzw3 := hb3.size
  replace cxW1_0 := fun i => (hb3.cell (by (try simp only); omega)).trans (cxW1_0 i)
  by_cases hsr3 : r3 < 0
  · go_wp2
    go_ret
    exact ⟨rfl, hB4⟩
  have hr3d := hr3c (by omega)
  go_wp2_with fail
  refine (toTariff_c A c L me mi mo w3 (rdW hB4 hr) (by omega)).mono ?_
  rintro e w5 ⟨g5, rfl, ho5, hb5⟩
  have hB6 := bt hB4 hb5
  have hzw5 := hb5.size
  replace cxW1_0 := fun i => (hb5.cell (by (try simp only); omega)).trans (cxW1_0 i)
  have HLho5 := Lib.hid (World.ownsRow.lt ho5)
  go_wp2_with fail
  refine (spec_RaiseR (some ⟨g5, 0, none⟩) L.length L me mi mo p w5 (Rd.of_own ho5) (by omega)).mono ?_
  rintro e w7 ⟨A7, c7, rfl, ho7, hb7, hq7, hqc7⟩
  have hnb7 := rL_len L me mi mo p
  have hB8 := bt hB6 hb7
  have hzw7 := hb7.size
  replace cxW1_0 := fun i => (hb7.cell (by (try simp only); omega)).trans (cxW1_0 i)
  replace ho5 := own_below ho5 hb7
  have HLho7 := Lib.hid (World.ownsRow.lt ho7)
  have cacxW1_0 := fun (o : Obj) (i : Nat) => (((Below.refl _ w7).alloc (Nat.le_refl _) o).cell (p := ⟨w.heap.size, i, none⟩) (by (try simp only); omega)).trans (cxW1_0 i)
  go_wp2_with fail
  generalize hW9 : w7.alloc _ = W9
  have hbW9 : Below w7.heap.size w7 W9 := by subst hW9; exact (Below.refl _ _).alloc (Nat.le_refl _) _
  have hsW9 : W9.heap.size = w7.heap.size + 1 := by subst hW9; simp
  have cxW9_0 : ∀ i, W9.cell? ⟨w7.heap.size, i, none⟩ = (#[.slice A7 (rL L me mi mo p).length c7, .int .i64 (rN (rOk L me mi mo p) (raiseC me p 10000)), .int .i64 (rN (rOk L me mi mo p) (raiseC mi p 10000)), .int .i64 (rN (rOk L me mi mo p) (raiseC mo p 100000))] : Array Value)[i]? := by intro i; subst hW9; simp [go_sem]
  have HSW9 := Lib.hid hsW9; clear hW9 hsW9
  clear cacxW1_0
  have hgW9 := HSW9.out; clear HSW9
  have hzW9 : w7.heap.size + 1 ≤ W9.heap.size := by omega
  clear hgW9
  have hB10 := bt hB8 hbW9
  replace cxW1_0 := fun i => (hbW9.cell (by (try simp only); omega)).trans (cxW1_0 i)
  replace ho5 := own_below ho5 hbW9
  replace ho7 := own_below ho7 hbW9
  go_wp2_with fail
  refine (toTariff_c A c L me mi mo W9 (rdW hB10 hr) (by omega)).mono ?_
  rintro e w11 ⟨g11, rfl, ho11, hb11⟩
  have hB12 := bt hB10 hb11
  have hzw11 := hb11.size
  replace cxW1_0 := fun i => (hb11.cell (by (try simp only); omega)).trans (cxW1_0 i)
  replace cxW9_0 := fun i => (hb11.cell (by (try simp only); omega)).trans (cxW9_0 i)
  replace ho5 := own_below ho5 hb11
  replace ho7 := own_below ho7 hb11
  have HLho11 := Lib.hid (World.ownsRow.lt ho11)
  have cacxW1_0 := fun (o : Obj) (i : Nat) => (((Below.refl _ w11).alloc (Nat.le_refl _) o).cell (p := ⟨w.heap.size, i, none⟩) (by (try simp only); omega)).trans (cxW1_0 i)
  have cacxW9_0 := fun (o : Obj) (i : Nat) => (((Below.refl _ w11).alloc (Nat.le_refl _) o).cell (p := ⟨w7.heap.size, i, none⟩) (by (try simp only); omega)).trans (cxW9_0 i)
  go_wp2_with fail
  generalize hW13 : w11.alloc _ = W13
  have hbW13 : Below w11.heap.size w11 W13 := by subst hW13; exact (Below.refl _ _).alloc (Nat.le_refl _) _
  have hsW13 : W13.heap.size = w11.heap.size + 1 := by subst hW13; simp
  have cxW13_0 : ∀ i, W13.cell? ⟨w11.heap.size, i, none⟩ = (#[.slice (some ⟨g11, 0, none⟩) L.length L.length, .int .i64 me, .int .i64 mi, .int .i64 mo] : Array Value)[i]? := by intro i; subst hW13; simp [go_sem]
  have HSW13 := Lib.hid hsW13; clear hW13 hsW13
  clear cacxW1_0 cacxW9_0
  have hgW13 := HSW13.out; clear HSW13
  have hzW13 : w11.heap.size + 1 ≤ W13.heap.size := by omega
  clear hgW13
  have hB14 := bt hB12 hbW13
  replace cxW1_0 := fun i => (hbW13.cell (by (try simp only); omega)).trans (cxW1_0 i)
  replace cxW9_0 := fun i => (hbW13.cell (by (try simp only); omega)).trans (cxW9_0 i)
  replace ho5 := own_below ho5 hbW13
  replace ho7 := own_below ho7 hbW13
  replace ho11 := own_below ho11 hbW13
  go_wp2_with fail
  refine (impl_RaiseR (some ⟨g11, 0, none⟩) L.length L me mi mo p W13 (Rd.of_own ho11) (by omega)).mono ?_
  rintro e w15 ⟨A15, c15, rfl, ho15, hb15, hq15, hqc15⟩
  have hnb15 := rL_len L me mi mo p
  have hB16 := bt hB14 hb15
  have hzw15 := hb15.size
  replace cxW1_0 := fun i => (hb15.cell (by (try simp only); omega)).trans (cxW1_0 i)
  replace cxW9_0 := fun i => (hb15.cell (by (try simp only); omega)).trans (cxW9_0 i)
  replace cxW13_0 := fun i => (hb15.cell (by (try simp only); omega)).trans (cxW13_0 i)
  replace ho5 := own_below ho5 hb15
  replace ho7 := own_below ho7 hb15
  replace ho11 := own_below ho11 hb15
  have HLho15 := Lib.hid (World.ownsRow.lt ho15)
  have cacxW1_0 := fun (o : Obj) (i : Nat) => (((Below.refl _ w15).alloc (Nat.le_refl _) o).cell (p := ⟨w.heap.size, i, none⟩) (by (try simp only); omega)).trans (cxW1_0 i)
  have cacxW9_0 := fun (o : Obj) (i : Nat) => (((Below.refl _ w15).alloc (Nat.le_refl _) o).cell (p := ⟨w7.heap.size, i, none⟩) (by (try simp only); omega)).trans (cxW9_0 i)
  have cacxW13_0 := fun (o : Obj) (i : Nat) => (((Below.refl _ w15).alloc (Nat.le_refl _) o).cell (p := ⟨w11.heap.size, i, none⟩) (by (try simp only); omega)).trans (cxW13_0 i)
  go_wp2_with fail
  generalize hW17 : w15.alloc _ = W17
  have hbW17 : Below w15.heap.size w15 W17 := by subst hW17; exact (Below.refl _ _).alloc (Nat.le_refl _) _
  have hsW17 : W17.heap.size = w15.heap.size + 1 := by subst hW17; simp
  have cxW17_0 : ∀ i, W17.cell? ⟨w15.heap.size, i, none⟩ = (#[.slice A15 (rL L me mi mo p).length c15, .int .i64 (rN (rOk L me mi mo p) (raiseC me p 10000)), .int .i64 (rN (rOk L me mi mo p) (raiseC mi p 10000)), .int .i64 (rN (rOk L me mi mo p) (raiseC mo p 100000))] : Array Value)[i]? := by intro i; subst hW17; simp [go_sem]
  have HSW17 := Lib.hid hsW17; clear hW17 hsW17
  clear cacxW1_0 cacxW9_0 cacxW13_0
  have hgW17 := HSW17.out; clear HSW17
  have hzW17 : w15.heap.size + 1 ≤ W17.heap.size := by omega
  clear hgW17
  have hB18 := bt hB16 hbW17
  replace cxW1_0 := fun i => (hbW17.cell (by (try simp only); omega)).trans (cxW1_0 i)
  replace cxW9_0 := fun i => (hbW17.cell (by (try simp only); omega)).trans (cxW9_0 i)
  replace cxW13_0 := fun i => (hbW17.cell (by (try simp only); omega)).trans (cxW13_0 i)
  replace ho5 := own_below ho5 hbW17
  replace ho7 := own_below ho7 hbW17
  replace ho11 := own_below ho11 hbW17
  replace ho15 := own_below ho15 hbW17
  go_wp2_with fail
  refine (eqTariff_c A15 A7 c15 c7 (rL L me mi mo p) (rN (rOk L me mi mo p) (raiseC me p 10000)) (rN (rOk L me mi mo p) (raiseC mi p 10000)) (rN (rOk L me mi mo p) (raiseC mo p 100000)) W17 (Rd.of_own ho15) (Rd.of_own ho7) (by omega)).mono ?_
  rintro e w19 ⟨rfl, hb19⟩
  have hB20 := bt hB18 hb19
  have hzw19 := hb19.size
  replace cxW1_0 := fun i => (hb19.cell (by (try simp only); omega)).trans (cxW1_0 i)
  replace cxW9_0 := fun i => (hb19.cell (by (try simp only); omega)).trans (cxW9_0 i)
  replace cxW13_0 := fun i => (hb19.cell (by (try simp only); omega)).trans (cxW13_0 i)
  replace cxW17_0 := fun i => (hb19.cell (by (try simp only); omega)).trans (cxW17_0 i)
  replace ho5 := own_below ho5 hb19
  replace ho7 := own_below ho7 hb19
  replace ho11 := own_below ho11 hb19
  replace ho15 := own_below ho15 hb19
  go_wp2_with fail
  have HKd : Hid (∀ W1 : World, Below w19.heap.size w19 W1 → ((∀ i, W1.cell? ⟨w.heap.size, i, none⟩ = (#[.slice A L.length c, .int .i64 me, .int .i64 mi, .int .i64 mo] : Array Value)[i]?) ∧ (∀ i, W1.cell? ⟨w7.heap.size, i, none⟩ = (#[.slice A7 (rL L me mi mo p).length c7, .int .i64 (rN (rOk L me mi mo p) (raiseC me p 10000)), .int .i64 (rN (rOk L me mi mo p) (raiseC mi p 10000)), .int .i64 (rN (rOk L me mi mo p) (raiseC mo p 100000))] : Array Value)[i]?) ∧ (∀ i, W1.cell? ⟨w11.heap.size, i, none⟩ = (#[.slice (some ⟨g11, 0, none⟩) L.length L.length, .int .i64 me, .int .i64 mi, .int .i64 mo] : Array Value)[i]?) ∧ (∀ i, W1.cell? ⟨w15.heap.size, i, none⟩ = (#[.slice A15 (rL L me mi mo p).length c15, .int .i64 (rN (rOk L me mi mo p) (raiseC me p 10000)), .int .i64 (rN (rOk L me mi mo p) (raiseC mi p 10000)), .int .i64 (rN (rOk L me mi mo p) (raiseC mo p 100000))] : Array Value)[i]?) ∧ Below w19.heap.size w19 W1)) := fun W1 h => ⟨fun i => (h.cell (p := ⟨w.heap.size, i, none⟩) (by (try simp only); omega)).trans (cxW1_0 i), fun i => (h.cell (p := ⟨w7.heap.size, i, none⟩) (by (try simp only); omega)).trans (cxW9_0 i), fun i => (h.cell (p := ⟨w11.heap.size, i, none⟩) (by (try simp only); omega)).trans (cxW13_0 i), fun i => (h.cell (p := ⟨w15.heap.size, i, none⟩) (by (try simp only); omega)).trans (cxW17_0 i), h⟩
  go_region_held3 (fun W1 => (∀ i, W1.cell? ⟨w.heap.size, i, none⟩ = (#[.slice A L.length c, .int .i64 me, .int .i64 mi, .int .i64 mo] : Array Value)[i]?) ∧ (∀ i, W1.cell? ⟨w7.heap.size, i, none⟩ = (#[.slice A7 (rL L me mi mo p).length c7, .int .i64 (rN (rOk L me mi mo p) (raiseC me p 10000)), .int .i64 (rN (rOk L me mi mo p) (raiseC mi p 10000)), .int .i64 (rN (rOk L me mi mo p) (raiseC mo p 100000))] : Array Value)[i]?) ∧ (∀ i, W1.cell? ⟨w11.heap.size, i, none⟩ = (#[.slice (some ⟨g11, 0, none⟩) L.length L.length, .int .i64 me, .int .i64 mi, .int .i64 mo] : Array Value)[i]?) ∧ (∀ i, W1.cell? ⟨w15.heap.size, i, none⟩ = (#[.slice A15 (rL L me mi mo p).length c15, .int .i64 (rN (rOk L me mi mo p) (raiseC me p 10000)), .int .i64 (rN (rOk L me mi mo p) (raiseC mi p 10000)), .int .i64 (rN (rOk L me mi mo p) (raiseC mo p 100000))] : Array Value)[i]?) ∧ Below w19.heap.size w19 W1) (first | exact HKd.out _ ((Below.refl _ _).drew) | exact HKd.out _ (bt (by assumption) hb21) | exact HKd.out _ (bt (by assumption) hb22))
    ((first | (go_at_call 15; go_split_ands; refine (toTariff_c A c L me mi mo _ (by exact rdW (bt hB20 (by assumption)) hr) (by omega)).mono ?_; rintro e w21 ⟨g21, rfl, ho21, hb21⟩) | (go_at_call 17; go_split_ands; refine (eqTariff_c (some ⟨g11, 0, none⟩) (some ⟨g21, 0, none⟩) L.length L.length L me mi mo _ (Rd.of_own (by exact own_below ho11 (by assumption))) (Rd.of_own ho21) (by omega)).mono ?_; rintro e w22 ⟨rfl, hb22⟩)))
  obtain ⟨cy23_0, cy23_1, cy23_2, cy23_3, hR23⟩ := HKd.out w22 (bt (bt (by assumption) hb21) hb22)
  replace cxW1_0 := cy23_0; clear cy23_0
  replace cxW9_0 := cy23_1; clear cy23_1
  replace cxW13_0 := cy23_2; clear cy23_2
  replace cxW17_0 := cy23_3; clear cy23_3
  clear HKd
  replace ho5 := own_below ho5 hR23
  replace ho7 := own_below ho7 hR23
  replace ho11 := own_below ho11 hR23
  replace ho15 := own_below ho15 hR23
  have hB24 := bt hB20 hR23
  have hz23 := hR23.size
  have hzw21 := hb21.size
  replace ho21 := own_below ho21 hb22
  have hzw22 := hb22.size
  go_wp2_with fail
  refine (markTariff_c (some ⟨g11, 0, none⟩) L.length L.length _ _ me mi mo 1 w22 ho11 (by omega) (by omega) (by omega)).mono ?_
  rintro e w25 ⟨rfl, ho11x, hg25⟩
  replace ho11 := ho11x; clear ho11x
  have hB26 := below_grown hB24 hg25 (Nat.le_refl _) (fun k hk => by have := HLho11.out k hk; omega)
  have hzw25 := hg25.size
  replace cxW1_0 := fun i => (World.cell?_of_block (a := ⟨w.heap.size, i, none⟩) (hg25.block _ (by (try simp only); omega) (fun e => by have := HLho11.out _ e.symm; (try simp only at this); omega))).trans (cxW1_0 i)
  replace cxW9_0 := fun i => (World.cell?_of_block (a := ⟨w7.heap.size, i, none⟩) (hg25.block _ (by (try simp only); omega) (fun e => by have := HLho11.out _ e.symm; (try simp only at this); omega))).trans (cxW9_0 i)
  replace cxW13_0 := fun i => (World.cell?_of_block (a := ⟨w11.heap.size, i, none⟩) (hg25.block _ (by (try simp only); omega) (fun e => by have := HLho11.out _ e.symm; (try simp only at this); omega))).trans (cxW13_0 i)
  replace cxW17_0 := fun i => (World.cell?_of_block (a := ⟨w15.heap.size, i, none⟩) (hg25.block _ (by (try simp only); omega) (fun e => by have := HLho11.out _ e.symm; (try simp only at this); omega))).trans (cxW17_0 i)
  replace ho5 := ho5.kept hg25 (own_ne HLho5.out HLho11.out (by omega))
  replace ho7 := ho7.kept hg25 (own_ne HLho7.out HLho11.out (by omega))
  replace ho15 := ho15.kept hg25 (own_ne HLho15.out HLho11.out (by omega))
  go_wp2_with fail
  refine (eqTariff_c A15 A7 c15 c7 (rL L me mi mo p) (rN (rOk L me mi mo p) (raiseC me p 10000)) (rN (rOk L me mi mo p) (raiseC mi p 10000)) (rN (rOk L me mi mo p) (raiseC mo p 100000)) w25 (Rd.of_own ho15) (Rd.of_own ho7) (by omega)).mono ?_
  rintro e w27 ⟨rfl, hb27⟩
  have hB28 := bt hB26 hb27
  have hzw27 := hb27.size
  replace cxW1_0 := fun i => (hb27.cell (by (try simp only); omega)).trans (cxW1_0 i)
  replace cxW9_0 := fun i => (hb27.cell (by (try simp only); omega)).trans (cxW9_0 i)
  replace cxW13_0 := fun i => (hb27.cell (by (try simp only); omega)).trans (cxW13_0 i)
  replace cxW17_0 := fun i => (hb27.cell (by (try simp only); omega)).trans (cxW17_0 i)
  replace ho5 := own_below ho5 hb27
  replace ho7 := own_below ho7 hb27
  replace ho11 := own_below ho11 hb27
  replace ho15 := own_below ho15 hb27
  go_wp2_with fail
  refine (markTariff_c A15 (rL L me mi mo p).length c15 _ _ (rN (rOk L me mi mo p) (raiseC me p 10000)) (rN (rOk L me mi mo p) (raiseC mi p 10000)) (rN (rOk L me mi mo p) (raiseC mo p 100000)) 1 w27 ho15 (by omega) (by omega) (by omega)).mono ?_
  rintro e w29 ⟨rfl, ho15x, hg29⟩
  replace ho15 := ho15x; clear ho15x
  have hB30 := below_grown hB28 hg29 (Nat.le_refl _) (fun k hk => by have := HLho15.out k hk; omega)
  have hzw29 := hg29.size
  replace cxW1_0 := fun i => (World.cell?_of_block (a := ⟨w.heap.size, i, none⟩) (hg29.block _ (by (try simp only); omega) (fun e => by have := HLho15.out _ e.symm; (try simp only at this); omega))).trans (cxW1_0 i)
  replace cxW9_0 := fun i => (World.cell?_of_block (a := ⟨w7.heap.size, i, none⟩) (hg29.block _ (by (try simp only); omega) (fun e => by have := HLho15.out _ e.symm; (try simp only at this); omega))).trans (cxW9_0 i)
  replace cxW13_0 := fun i => (World.cell?_of_block (a := ⟨w11.heap.size, i, none⟩) (hg29.block _ (by (try simp only); omega) (fun e => by have := HLho15.out _ e.symm; (try simp only at this); omega))).trans (cxW13_0 i)
  replace cxW17_0 := fun i => (World.cell?_of_block (a := ⟨w15.heap.size, i, none⟩) (hg29.block _ (by (try simp only); omega) (fun e => by have := HLho15.out _ e.symm; (try simp only at this); omega))).trans (cxW17_0 i)
  replace ho5 := ho5.kept hg29 (own_ne HLho5.out HLho15.out (by omega))
  replace ho7 := ho7.kept hg29 (own_ne HLho7.out HLho15.out (by omega))
  replace ho11 := ho11.kept hg29 (own_ne HLho11.out HLho15.out (by omega))
  go_wp2_with fail
  refine (heldTariff_c A15 (rL L me mi mo p).length c15 (rN (rOk L me mi mo p) (raiseC me p 10000)) (rN (rOk L me mi mo p) (raiseC mi p 10000)) (rN (rOk L me mi mo p) (raiseC mo p 100000)) 1 w29 (Rd.of_own ho15) (by omega) (by omega) (by omega)).mono ?_
  rintro e w31 ⟨rfl, hb31⟩
  have hB32 := bt hB30 hb31
  have hzw31 := hb31.size
  replace cxW1_0 := fun i => (hb31.cell (by (try simp only); omega)).trans (cxW1_0 i)
  replace cxW9_0 := fun i => (hb31.cell (by (try simp only); omega)).trans (cxW9_0 i)
  replace cxW13_0 := fun i => (hb31.cell (by (try simp only); omega)).trans (cxW13_0 i)
  replace cxW17_0 := fun i => (hb31.cell (by (try simp only); omega)).trans (cxW17_0 i)
  replace ho5 := own_below ho5 hb31
  replace ho7 := own_below ho7 hb31
  replace ho11 := own_below ho11 hb31
  replace ho15 := own_below ho15 hb31
  go_wp2_with fail
  refine (toTariff_c A c L me mi mo w31 (rdW hB32 hr) (by omega)).mono ?_
  rintro e w33 ⟨g33, rfl, ho33, hb33⟩
  have hB34 := bt hB32 hb33
  have hzw33 := hb33.size
  replace cxW1_0 := fun i => (hb33.cell (by (try simp only); omega)).trans (cxW1_0 i)
  replace cxW9_0 := fun i => (hb33.cell (by (try simp only); omega)).trans (cxW9_0 i)
  replace cxW13_0 := fun i => (hb33.cell (by (try simp only); omega)).trans (cxW13_0 i)
  replace cxW17_0 := fun i => (hb33.cell (by (try simp only); omega)).trans (cxW17_0 i)
  replace ho5 := own_below ho5 hb33
  replace ho7 := own_below ho7 hb33
  replace ho11 := own_below ho11 hb33
  replace ho15 := own_below ho15 hb33
  have HLho33 := Lib.hid (World.ownsRow.lt ho33)
  go_wp2_with fail
  refine (impl_RaiseR (some ⟨g33, 0, none⟩) L.length L me mi mo p w33 (Rd.of_own ho33) (by omega)).mono ?_
  rintro e w35 ⟨A35, c35, rfl, ho35, hb35, hq35, hqc35⟩
  have hnb35 := rL_len L me mi mo p
  have hB36 := bt hB34 hb35
  have hzw35 := hb35.size
  replace cxW1_0 := fun i => (hb35.cell (by (try simp only); omega)).trans (cxW1_0 i)
  replace cxW9_0 := fun i => (hb35.cell (by (try simp only); omega)).trans (cxW9_0 i)
  replace cxW13_0 := fun i => (hb35.cell (by (try simp only); omega)).trans (cxW13_0 i)
  replace cxW17_0 := fun i => (hb35.cell (by (try simp only); omega)).trans (cxW17_0 i)
  replace ho5 := own_below ho5 hb35
  replace ho7 := own_below ho7 hb35
  replace ho11 := own_below ho11 hb35
  replace ho15 := own_below ho15 hb35
  replace ho33 := own_below ho33 hb35
  have HLho35 := Lib.hid (World.ownsRow.lt ho35)
  have cacxW1_0 := fun (o : Obj) (i : Nat) => (((Below.refl _ w35).alloc (Nat.le_refl _) o).cell (p := ⟨w.heap.size, i, none⟩) (by (try simp only); omega)).trans (cxW1_0 i)
  have cacxW9_0 := fun (o : Obj) (i : Nat) => (((Below.refl _ w35).alloc (Nat.le_refl _) o).cell (p := ⟨w7.heap.size, i, none⟩) (by (try simp only); omega)).trans (cxW9_0 i)
  have cacxW13_0 := fun (o : Obj) (i : Nat) => (((Below.refl _ w35).alloc (Nat.le_refl _) o).cell (p := ⟨w11.heap.size, i, none⟩) (by (try simp only); omega)).trans (cxW13_0 i)
  have cacxW17_0 := fun (o : Obj) (i : Nat) => (((Below.refl _ w35).alloc (Nat.le_refl _) o).cell (p := ⟨w15.heap.size, i, none⟩) (by (try simp only); omega)).trans (cxW17_0 i)
  go_wp2_with fail
  generalize hW37 : w35.alloc _ = W37
  have hbW37 : Below w35.heap.size w35 W37 := by subst hW37; exact (Below.refl _ _).alloc (Nat.le_refl _) _
  have hsW37 : W37.heap.size = w35.heap.size + 1 := by subst hW37; simp
  have cxW37_0 : ∀ i, W37.cell? ⟨w35.heap.size, i, none⟩ = (#[.slice A35 (rL L me mi mo p).length c35, .int .i64 (rN (rOk L me mi mo p) (raiseC me p 10000)), .int .i64 (rN (rOk L me mi mo p) (raiseC mi p 10000)), .int .i64 (rN (rOk L me mi mo p) (raiseC mo p 100000))] : Array Value)[i]? := by intro i; subst hW37; simp [go_sem]
  have HSW37 := Lib.hid hsW37; clear hW37 hsW37
  clear cacxW1_0 cacxW9_0 cacxW13_0 cacxW17_0
  have hgW37 := HSW37.out; clear HSW37
  have hzW37 : w35.heap.size + 1 ≤ W37.heap.size := by omega
  clear hgW37
  have hB38 := bt hB36 hbW37
  replace cxW1_0 := fun i => (hbW37.cell (by (try simp only); omega)).trans (cxW1_0 i)
  replace cxW9_0 := fun i => (hbW37.cell (by (try simp only); omega)).trans (cxW9_0 i)
  replace cxW13_0 := fun i => (hbW37.cell (by (try simp only); omega)).trans (cxW13_0 i)
  replace cxW17_0 := fun i => (hbW37.cell (by (try simp only); omega)).trans (cxW17_0 i)
  replace ho5 := own_below ho5 hbW37
  replace ho7 := own_below ho7 hbW37
  replace ho11 := own_below ho11 hbW37
  replace ho15 := own_below ho15 hbW37
  replace ho33 := own_below ho33 hbW37
  replace ho35 := own_below ho35 hbW37
  go_wp2_with fail
  refine (eqTariff_c A35 A7 c35 c7 (rL L me mi mo p) (rN (rOk L me mi mo p) (raiseC me p 10000)) (rN (rOk L me mi mo p) (raiseC mi p 10000)) (rN (rOk L me mi mo p) (raiseC mo p 100000)) W37 (Rd.of_own ho35) (Rd.of_own ho7) (by omega)).mono ?_
  rintro e w39 ⟨rfl, hb39⟩
  have hB40 := bt hB38 hb39
  have hzw39 := hb39.size
  replace cxW1_0 := fun i => (hb39.cell (by (try simp only); omega)).trans (cxW1_0 i)
  replace cxW9_0 := fun i => (hb39.cell (by (try simp only); omega)).trans (cxW9_0 i)
  replace cxW13_0 := fun i => (hb39.cell (by (try simp only); omega)).trans (cxW13_0 i)
  replace cxW17_0 := fun i => (hb39.cell (by (try simp only); omega)).trans (cxW17_0 i)
  replace cxW37_0 := fun i => (hb39.cell (by (try simp only); omega)).trans (cxW37_0 i)
  replace ho5 := own_below ho5 hb39
  replace ho7 := own_below ho7 hb39
  replace ho11 := own_below ho11 hb39
  replace ho15 := own_below ho15 hb39
  replace ho33 := own_below ho33 hb39
  replace ho35 := own_below ho35 hb39
  go_wp2_with fail
  refine (heldTariff_c A15 (rL L me mi mo p).length c15 (rN (rOk L me mi mo p) (raiseC me p 10000)) (rN (rOk L me mi mo p) (raiseC mi p 10000)) (rN (rOk L me mi mo p) (raiseC mo p 100000)) 1 w39 (Rd.of_own ho15) (by omega) (by omega) (by omega)).mono ?_
  rintro e w41 ⟨rfl, hb41⟩
  have hB42 := bt hB40 hb41
  have hzw41 := hb41.size
  replace cxW1_0 := fun i => (hb41.cell (by (try simp only); omega)).trans (cxW1_0 i)
  replace cxW9_0 := fun i => (hb41.cell (by (try simp only); omega)).trans (cxW9_0 i)
  replace cxW13_0 := fun i => (hb41.cell (by (try simp only); omega)).trans (cxW13_0 i)
  replace cxW17_0 := fun i => (hb41.cell (by (try simp only); omega)).trans (cxW17_0 i)
  replace cxW37_0 := fun i => (hb41.cell (by (try simp only); omega)).trans (cxW37_0 i)
  replace ho5 := own_below ho5 hb41
  replace ho7 := own_below ho7 hb41
  replace ho11 := own_below ho11 hb41
  replace ho15 := own_below ho15 hb41
  replace ho33 := own_below ho33 hb41
  replace ho35 := own_below ho35 hb41
  go_wp2
  go_ret
  exact ⟨rfl, hB42⟩
end Go.Proofs.Ythkobjadfeidmaa
