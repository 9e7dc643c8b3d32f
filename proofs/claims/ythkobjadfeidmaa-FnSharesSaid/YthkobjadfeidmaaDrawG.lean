/- Contracts of the draws of the fees' laws. -/
import Derived.Test.YthkobjadfeidmaaFrom
import Derived.Test.YthkobjadfeidmaaDrawF
import Derived.Test.YthkobjadfeidmaaDrawT
import Derived.Deep.RegionLaw
import Derived.Deep.DrawnRows
namespace Go.Proofs.Ythkobjadfeidmaa
open Go.RowKit
set_option linter.unusedVariables false
attribute [local go_sem ↓] Go.wp_at_zero Go.wp_at_succ
theorem grown_below {w W w' : World} {g : Nat} (hb : Below w.heap.size w W) (hg : W.grownBy w' (some g)) (h : w.heap.size ≤ g) : Below w.heap.size w w' :=
  below_grown hb hg (Nat.le_refl _) (fun k hk => by injection hk with hk; omega)
/-- A tariff and a service that were drawn. -/
def DrawTS (w : World) (e : Ending) (w' : World) : Prop := ∃ (A : Option Addr) (c : Nat) (L : List TierD) (me mi mo d ml ms : Int), e = .returned (.tuple #[.agg #[.slice A L.length c, .int .i64 me, .int .i64 mi, .int .i64 mo], .agg #[.int .i64 d, .int .i64 ml, .int .i64 ms]]) ∧
  w'.ownsRow w.heap.size 63 2 (.slice A L.length c) L.length (L.flatMap tierC) ∧ L.length ≤ 10 ∧ Below w.heap.size w w'
def DrawTI (w : World) (e : Ending) (w' : World) : Prop := ∃ (A : Option Addr) (c : Nat) (L : List TierD) (me mi mo x : Int), e = .returned (.tuple #[.agg #[.slice A L.length c, .int .i64 me, .int .i64 mi, .int .i64 mo], .int .i64 x]) ∧
  w'.ownsRow w.heap.size 63 2 (.slice A L.length c) L.length (L.flatMap tierC) ∧ L.length ≤ 10 ∧ Below w.heap.size w w'

set_option maxRecDepth 100000 in
set_option maxHeartbeats 4000000 in
theorem DrawBoardFor_c (A : Option Addr) (c : Nat) (L : List Int) (w : World) (hr : Rd w w.heap.size A L.length (L.map (Value.int .u8))) (hx : ∀ x ∈ L, 0 ≤ x ∧ x ≤ 255) (hL : L.length ≤ 4096) (hc : L.length ≤ c) : Calls Try.prog 59 #[.slice A L.length c] w (DrawTS w) := by
  have HR := Lib.hid hr; have HX := Lib.hid hx
  clear hr hx
  go_enter Try.func59, Try.ntmps59
  go_wp2_with fail
  generalize hW0 : (w.alloc _).alloc _ = W0
  have hbW0 : Below w.heap.size w W0 := by subst hW0; exact ((Below.refl _ _).alloc (Nat.le_refl _) _).alloc (by (try simp) <;> (try omega)) _
  have hsW0 : W0.heap.size = w.heap.size + 2 := by subst hW0; simp
  have cxW0_0 : ∀ i, W0.cell? ⟨w.heap.size, i, none⟩ = (#[.slice none 0 0, .int .i64 0, .int .i64 0, .int .i64 0] : Array Value)[i]? := by intro i; subst hW0; simp [go_sem]
  have fzW0_0 : ∀ i, W0.frozen? ⟨w.heap.size, i, none⟩ = false := by intro i; subst hW0; simp [go_sem]
  have cxW0_1 : ∀ i, W0.cell? ⟨w.heap.size + 1, i, none⟩ = (#[.int .i64 0, .int .i64 0, .int .i64 0] : Array Value)[i]? := by intro i; subst hW0; simp [go_sem]
  have fzW0_1 : ∀ i, W0.frozen? ⟨w.heap.size + 1, i, none⟩ = false := by intro i; subst hW0; simp [go_sem]
  have HSW0 := Lib.hid hsW0; clear hW0 hsW0
  have hz0 : w.heap.size + 2 ≤ W0.heap.size := by have := HSW0.out; omega
  refine (l01From_c A c L W0 (rdW hbW0 HR.out) HX.out hL hc).mono ?_
  rintro e w1 ⟨rfl, hS, hb1⟩
  have HQ1 := Lib.hid hS; have hz1 := hb1.size; have hl1 := hS.lt; clear hS
  replace cxW0_0 := fun i => (hb1.cell (by (try simp only); have := HSW0.out; omega)).trans (cxW0_0 i)
  replace cxW0_1 := fun i => (hb1.cell (by (try simp only); have := HSW0.out; omega)).trans (cxW0_1 i)
  replace fzW0_0 := fun i => (hb1.frozen (by (try simp only); have := HSW0.out; omega)).trans (fzW0_0 i)
  replace fzW0_1 := fun i => (hb1.frozen (by (try simp only); have := HSW0.out; omega)).trans (fzW0_1 i)
  go_wp2_with fail
  refine (l29Tariff_c W0.heap.size W0.heap.size w1 HQ1.out).mono ?_
  rintro e w2 ⟨A2, c2, L2, me, mi, mo, rfl, ho2, hl2, hS2, hg2⟩
  have HQ2 := Lib.hid hS2; have hz2 := hg2.size; have HO2 := Lib.hid ho2; have HB2 := Lib.hid (grown_below (bt hbW0 hb1) hg2 (by omega))
  replace cxW0_0 := fun i => (hg2.cell_far ⟨w.heap.size, i, none⟩ (show w.heap.size < w1.heap.size by omega) (fun h => by have h2 : w.heap.size = W0.heap.size := Option.some.inj h; omega)).trans (cxW0_0 i)
  replace fzW0_0 := fun i => (hg2.frozen_far ⟨w.heap.size, i, none⟩ (show w.heap.size < w1.heap.size by omega) (fun h => by have h2 : w.heap.size = W0.heap.size := Option.some.inj h; omega)).trans (fzW0_0 i)
  replace cxW0_1 := fun i => (hg2.cell_far ⟨w.heap.size + 1, i, none⟩ (show w.heap.size + 1 < w1.heap.size by omega) (fun h => by have h2 : w.heap.size + 1 = W0.heap.size := Option.some.inj h; omega)).trans (cxW0_1 i)
  replace fzW0_1 := fun i => (hg2.frozen_far ⟨w.heap.size + 1, i, none⟩ (show w.heap.size + 1 < w1.heap.size by omega) (fun h => by have h2 : w.heap.size + 1 = W0.heap.size := Option.some.inj h; omega)).trans (fzW0_1 i)
  clear hS2 ho2
  go_wp2_with fail
  generalize hW3 : w2.alloc _ = W3
  have hbW3 : Below w2.heap.size w2 W3 := by subst hW3; exact (Below.refl _ _).alloc (Nat.le_refl _) _
  have hsW3 : W3.heap.size = w2.heap.size + 1 := by subst hW3; simp
  have cxW3_0 : ∀ i, W3.cell? ⟨w2.heap.size, i, none⟩ = (#[.slice A2 L2.length c2, .int .i64 me, .int .i64 mi, .int .i64 mo] : Array Value)[i]? := by intro i; subst hW3; simp [go_sem]
  have fzW3_0 : ∀ i, W3.frozen? ⟨w2.heap.size, i, none⟩ = false := by intro i; subst hW3; simp [go_sem]
  have HSW3 := Lib.hid hsW3; clear hW3 hsW3
  have hz3 : w2.heap.size + 1 ≤ W3.heap.size := by have := HSW3.out; omega
  have HQ3 := Lib.hid (HQ2.out.below hbW3); have HO3 := Lib.hid (own_below HO2.out hbW3); have HB3 := Lib.hid (bt HB2.out hbW3)
  replace cxW0_0 := fun i => (hbW3.cell (by (try simp only); have := HSW0.out; omega)).trans (cxW0_0 i)
  replace cxW0_1 := fun i => (hbW3.cell (by (try simp only); have := HSW0.out; omega)).trans (cxW0_1 i)
  replace fzW0_0 := fun i => (hbW3.frozen (by (try simp only); have := HSW0.out; omega)).trans (fzW0_0 i)
  replace fzW0_1 := fun i => (hbW3.frozen (by (try simp only); have := HSW0.out; omega)).trans (fzW0_1 i)
  have ck : ∀ w5 : World, W3.drew.grownBy w5 (some W0.heap.size) → (∀ i, w5.cell? ⟨w2.heap.size, i, none⟩ = (#[.slice A2 L2.length c2, .int .i64 me, .int .i64 mi, .int .i64 mo] : Array Value)[i]?) ∧ (∀ i, w5.cell? ⟨w.heap.size, i, none⟩ = (#[.slice none 0 0, .int .i64 0, .int .i64 0, .int .i64 0] : Array Value)[i]?) ∧ (∀ i, w5.frozen? ⟨w.heap.size, i, none⟩ = false) ∧ (∀ i, w5.cell? ⟨w.heap.size + 1, i, none⟩ = (#[.int .i64 0, .int .i64 0, .int .i64 0] : Array Value)[i]?) ∧ (∀ i, w5.frozen? ⟨w.heap.size + 1, i, none⟩ = false) := fun w5 h => ⟨fun i => (h.cell_far ⟨w2.heap.size, i, none⟩ (show w2.heap.size < W3.heap.size by omega) (fun h => by have h2 : w2.heap.size = W0.heap.size := Option.some.inj h; omega)).trans (cxW3_0 i), fun i => (h.cell_far ⟨w.heap.size, i, none⟩ (show w.heap.size < W3.heap.size by omega) (fun h => by have h2 : w.heap.size = W0.heap.size := Option.some.inj h; omega)).trans (cxW0_0 i), fun i => (h.frozen_far ⟨w.heap.size, i, none⟩ (show w.heap.size < W3.heap.size by omega) (fun h => by have h2 : w.heap.size = W0.heap.size := Option.some.inj h; omega)).trans (fzW0_0 i), fun i => (h.cell_far ⟨w.heap.size + 1, i, none⟩ (show w.heap.size + 1 < W3.heap.size by omega) (fun h => by have h2 : w.heap.size + 1 = W0.heap.size := Option.some.inj h; omega)).trans (cxW0_1 i), fun i => (h.frozen_far ⟨w.heap.size + 1, i, none⟩ (show w.heap.size + 1 < W3.heap.size by omega) (fun h => by have h2 : w.heap.size + 1 = W0.heap.size := Option.some.inj h; omega)).trans (fzW0_1 i)⟩
  have CK := Lib.hid ck; clear ck
  go_region_law (first
    | (go_simp; go_at_call 71; refine (l29Service_c W0.heap.size W0.heap.size W3.drew (src_drewN HQ3.out 1)).mono ?_; rintro e w5 ⟨d, ml, ms, rfl, hq5, hg5⟩; have HGz := Lib.hid hg5; obtain ⟨cyz, cxz, fxz, cxz1, fxz1⟩ := CK.out w5 hg5; clear hq5 hg5))
  all_goals
    have HB5 := Lib.hid (grown_below HB3.out (grown_ofdrew HGz.out) (by omega))
    have HO5 := Lib.hid (HO3.out.drew.kept HGz.out (.inr (by have := HO3.out.lt; intro e; have := this _ e; omega)))
    go_wp2
    exact bodyPost_ret (v := .tuple #[.agg #[.slice A2 L2.length c2, .int .i64 me, .int .i64 mi, .int .i64 mo], .agg #[.int .i64 d, .int .i64 ml, .int .i64 ms]]) (by simp [results, Try.results59, go_sem, cxz, cxz1]) rfl ⟨A2, c2, L2, me, mi, mo, d, ml, ms, rfl, by (repeat (refine own_setOther ?_ (fun e => by have := HO5.out.lt _ e; omega) _ _)); exact own_mono HO5.out (by omega), hl2, by (repeat (refine Below.setCell ?_ (by (try simp only); omega) _)); exact HB5.out⟩
set_option maxRecDepth 100000 in
set_option maxHeartbeats 4000000 in
theorem DrawFeesFor_c (A : Option Addr) (c : Nat) (L : List Int) (w : World) (hr : Rd w w.heap.size A L.length (L.map (Value.int .u8))) (hx : ∀ x ∈ L, 0 ≤ x ∧ x ≤ 255) (hL : L.length ≤ 4096) (hc : L.length ≤ c) : Calls Try.prog 37 #[.slice A L.length c] w (DrawTI w) := by
  have HR := Lib.hid hr; have HX := Lib.hid hx
  clear hr hx
  go_enter Try.func37, Try.ntmps37
  go_wp2_with fail
  generalize hW0 : w.alloc _ = W0
  have hbW0 : Below w.heap.size w W0 := by subst hW0; exact (Below.refl _ _).alloc (Nat.le_refl _) _
  have hsW0 : W0.heap.size = w.heap.size + 1 := by subst hW0; simp
  have cxW0_0 : ∀ i, W0.cell? ⟨w.heap.size, i, none⟩ = (#[.slice none 0 0, .int .i64 0, .int .i64 0, .int .i64 0] : Array Value)[i]? := by intro i; subst hW0; simp [go_sem]
  have fzW0_0 : ∀ i, W0.frozen? ⟨w.heap.size, i, none⟩ = false := by intro i; subst hW0; simp [go_sem]
  have HSW0 := Lib.hid hsW0; clear hW0 hsW0
  have hz0 : w.heap.size + 1 ≤ W0.heap.size := by have := HSW0.out; omega
  refine (l01From_c A c L W0 (rdW hbW0 HR.out) HX.out hL hc).mono ?_
  rintro e w1 ⟨rfl, hS, hb1⟩
  have HQ1 := Lib.hid hS; have hz1 := hb1.size; have hl1 := hS.lt; clear hS
  replace cxW0_0 := fun i => (hb1.cell (by (try simp only); have := HSW0.out; omega)).trans (cxW0_0 i)
  replace fzW0_0 := fun i => (hb1.frozen (by (try simp only); have := HSW0.out; omega)).trans (fzW0_0 i)
  go_wp2_with fail
  refine (l29Tariff_c W0.heap.size W0.heap.size w1 HQ1.out).mono ?_
  rintro e w2 ⟨A2, c2, L2, me, mi, mo, rfl, ho2, hl2, hS2, hg2⟩
  have HQ2 := Lib.hid hS2; have hz2 := hg2.size; have HO2 := Lib.hid ho2; have HB2 := Lib.hid (grown_below (bt hbW0 hb1) hg2 (by omega))
  replace cxW0_0 := fun i => (hg2.cell_far ⟨w.heap.size, i, none⟩ (show w.heap.size < w1.heap.size by omega) (fun h => by have h2 : w.heap.size = W0.heap.size := Option.some.inj h; omega)).trans (cxW0_0 i)
  replace fzW0_0 := fun i => (hg2.frozen_far ⟨w.heap.size, i, none⟩ (show w.heap.size < w1.heap.size by omega) (fun h => by have h2 : w.heap.size = W0.heap.size := Option.some.inj h; omega)).trans (fzW0_0 i)
  clear hS2 ho2
  go_wp2_with fail
  generalize hW3 : w2.alloc _ = W3
  have hbW3 : Below w2.heap.size w2 W3 := by subst hW3; exact (Below.refl _ _).alloc (Nat.le_refl _) _
  have hsW3 : W3.heap.size = w2.heap.size + 1 := by subst hW3; simp
  have cxW3_0 : ∀ i, W3.cell? ⟨w2.heap.size, i, none⟩ = (#[.slice A2 L2.length c2, .int .i64 me, .int .i64 mi, .int .i64 mo] : Array Value)[i]? := by intro i; subst hW3; simp [go_sem]
  have fzW3_0 : ∀ i, W3.frozen? ⟨w2.heap.size, i, none⟩ = false := by intro i; subst hW3; simp [go_sem]
  have HSW3 := Lib.hid hsW3; clear hW3 hsW3
  have hz3 : w2.heap.size + 1 ≤ W3.heap.size := by have := HSW3.out; omega
  have HQ3 := Lib.hid (HQ2.out.below hbW3); have HO3 := Lib.hid (own_below HO2.out hbW3); have HB3 := Lib.hid (bt HB2.out hbW3)
  replace cxW0_0 := fun i => (hbW3.cell (by (try simp only); have := HSW0.out; omega)).trans (cxW0_0 i)
  replace fzW0_0 := fun i => (hbW3.frozen (by (try simp only); have := HSW0.out; omega)).trans (fzW0_0 i)
  have ck : ∀ w5 : World, W3.drew.grownBy w5 (some W0.heap.size) → (∀ i, w5.cell? ⟨w2.heap.size, i, none⟩ = (#[.slice A2 L2.length c2, .int .i64 me, .int .i64 mi, .int .i64 mo] : Array Value)[i]?) ∧ (∀ i, w5.cell? ⟨w.heap.size, i, none⟩ = (#[.slice none 0 0, .int .i64 0, .int .i64 0, .int .i64 0] : Array Value)[i]?) ∧ (∀ i, w5.frozen? ⟨w.heap.size, i, none⟩ = false) := fun w5 h => ⟨fun i => (h.cell_far ⟨w2.heap.size, i, none⟩ (show w2.heap.size < W3.heap.size by omega) (fun h => by have h2 : w2.heap.size = W0.heap.size := Option.some.inj h; omega)).trans (cxW3_0 i), fun i => (h.cell_far ⟨w.heap.size, i, none⟩ (show w.heap.size < W3.heap.size by omega) (fun h => by have h2 : w.heap.size = W0.heap.size := Option.some.inj h; omega)).trans (cxW0_0 i), fun i => (h.frozen_far ⟨w.heap.size, i, none⟩ (show w.heap.size < W3.heap.size by omega) (fun h => by have h2 : w.heap.size = W0.heap.size := Option.some.inj h; omega)).trans (fzW0_0 i)⟩
  have CK := Lib.hid ck; clear ck
  go_region_law (first
    | (go_simp; go_at_call 56; refine (l01Pick_c W0.heap.size W0.heap.size v1.heap.size 0 6 [a, b, 1000, 1001, -1, 0] (v1.alloc _) (HQv1.out.below ((Below.refl _ _).alloc (Nat.le_refl _) _)) (by omega) (pick_box (L := [a, b, 1000, 1001, -1, 0]) (fun i => by simp [go_sem])) (by simp) (by simp) (by simp)).mono ?_; rintro e vz ⟨x, rfl, hxm, hqz, hgz⟩; have HGz := Lib.hid (grown_trans' HGv1.out (grown_alloc hgz)); obtain ⟨cyz, cxz, fxz⟩ := CK.out vz HGz.out; clear hqz hgz hxm)
    | (go_simp; go_at_call 55; refine (l01Next_c W0.heap.size W0.heap.size 40 v0 HQv0.out (by omega)).mono ?_; rintro e v1 ⟨b, rfl, ⟨hb0, hb1⟩, hqv1, hgv1⟩; have HQv1 := Lib.hid hqv1; have HGv1 := Lib.hid (grown_trans' HGv0.out hgv1); obtain ⟨cy1, cx1, fx1⟩ := CK.out v1 HGv1.out; have hsv1 : W3.heap.size ≤ v1.heap.size := (by have := HGv1.out.size; simpa using this); clear hqv1 hgv1; have ca := fun (o : Obj) (i : Nat) => (((Below.refl _ v1).alloc (Nat.le_refl _) o).cell (p := ⟨w2.heap.size, i, none⟩) (show w2.heap.size < v1.heap.size by omega)).trans (cy1 i))
    | (go_simp; go_at_call 55; refine (l01Next_c W0.heap.size W0.heap.size 40 W3.drew (src_drewN HQ3.out 1) (by omega)).mono ?_; rintro e v0 ⟨a, rfl, ⟨ha0, ha1⟩, hqv0, hgv0⟩; have HQv0 := Lib.hid hqv0; have HGv0 := Lib.hid (hgv0); obtain ⟨cy0, cx0, fx0⟩ := CK.out v0 HGv0.out; have hsv0 : W3.heap.size ≤ v0.heap.size := (by have := HGv0.out.size; simpa using this); clear hqv0 hgv0))
  all_goals
    have HB5 := Lib.hid (grown_below HB3.out (grown_ofdrew HGz.out) (by omega))
    have HO5 := Lib.hid (HO3.out.drew.kept HGz.out (.inr (by have := HO3.out.lt; intro e; have := this _ e; omega)))
    go_wp2
    exact bodyPost_ret (v := .tuple #[.agg #[.slice A2 L2.length c2, .int .i64 me, .int .i64 mi, .int .i64 mo], .int .i64 x]) (by simp [results, Try.results37, go_sem, cxz]) rfl ⟨A2, c2, L2, me, mi, mo, x, rfl, by (repeat (refine own_setOther ?_ (fun e => by have := HO5.out.lt _ e; omega) _ _)); exact own_mono HO5.out (by omega), hl2, by (repeat (refine Below.setCell ?_ (by (try simp only); omega) _)); exact HB5.out⟩
set_option maxRecDepth 100000 in
set_option maxHeartbeats 4000000 in
theorem DrawDaysFor_c (A : Option Addr) (c : Nat) (L : List Int) (w : World) (hr : Rd w w.heap.size A L.length (L.map (Value.int .u8))) (hx : ∀ x ∈ L, 0 ≤ x ∧ x ≤ 255) (hL : L.length ≤ 4096) (hc : L.length ≤ c) : Calls Try.prog 34 #[.slice A L.length c] w (DrawTI w) := by
  have HR := Lib.hid hr; have HX := Lib.hid hx
  clear hr hx
  go_enter Try.func34, Try.ntmps34
  go_wp2_with fail
  generalize hW0 : w.alloc _ = W0
  have hbW0 : Below w.heap.size w W0 := by subst hW0; exact (Below.refl _ _).alloc (Nat.le_refl _) _
  have hsW0 : W0.heap.size = w.heap.size + 1 := by subst hW0; simp
  have cxW0_0 : ∀ i, W0.cell? ⟨w.heap.size, i, none⟩ = (#[.slice none 0 0, .int .i64 0, .int .i64 0, .int .i64 0] : Array Value)[i]? := by intro i; subst hW0; simp [go_sem]
  have fzW0_0 : ∀ i, W0.frozen? ⟨w.heap.size, i, none⟩ = false := by intro i; subst hW0; simp [go_sem]
  have HSW0 := Lib.hid hsW0; clear hW0 hsW0
  have hz0 : w.heap.size + 1 ≤ W0.heap.size := by have := HSW0.out; omega
  refine (l01From_c A c L W0 (rdW hbW0 HR.out) HX.out hL hc).mono ?_
  rintro e w1 ⟨rfl, hS, hb1⟩
  have HQ1 := Lib.hid hS; have hz1 := hb1.size; have hl1 := hS.lt; clear hS
  replace cxW0_0 := fun i => (hb1.cell (by (try simp only); have := HSW0.out; omega)).trans (cxW0_0 i)
  replace fzW0_0 := fun i => (hb1.frozen (by (try simp only); have := HSW0.out; omega)).trans (fzW0_0 i)
  go_wp2_with fail
  refine (l29Tariff_c W0.heap.size W0.heap.size w1 HQ1.out).mono ?_
  rintro e w2 ⟨A2, c2, L2, me, mi, mo, rfl, ho2, hl2, hS2, hg2⟩
  have HQ2 := Lib.hid hS2; have hz2 := hg2.size; have HO2 := Lib.hid ho2; have HB2 := Lib.hid (grown_below (bt hbW0 hb1) hg2 (by omega))
  replace cxW0_0 := fun i => (hg2.cell_far ⟨w.heap.size, i, none⟩ (show w.heap.size < w1.heap.size by omega) (fun h => by have h2 : w.heap.size = W0.heap.size := Option.some.inj h; omega)).trans (cxW0_0 i)
  replace fzW0_0 := fun i => (hg2.frozen_far ⟨w.heap.size, i, none⟩ (show w.heap.size < w1.heap.size by omega) (fun h => by have h2 : w.heap.size = W0.heap.size := Option.some.inj h; omega)).trans (fzW0_0 i)
  clear hS2 ho2
  go_wp2_with fail
  generalize hW3 : w2.alloc _ = W3
  have hbW3 : Below w2.heap.size w2 W3 := by subst hW3; exact (Below.refl _ _).alloc (Nat.le_refl _) _
  have hsW3 : W3.heap.size = w2.heap.size + 1 := by subst hW3; simp
  have cxW3_0 : ∀ i, W3.cell? ⟨w2.heap.size, i, none⟩ = (#[.slice A2 L2.length c2, .int .i64 me, .int .i64 mi, .int .i64 mo] : Array Value)[i]? := by intro i; subst hW3; simp [go_sem]
  have fzW3_0 : ∀ i, W3.frozen? ⟨w2.heap.size, i, none⟩ = false := by intro i; subst hW3; simp [go_sem]
  have HSW3 := Lib.hid hsW3; clear hW3 hsW3
  have hz3 : w2.heap.size + 1 ≤ W3.heap.size := by have := HSW3.out; omega
  have HQ3 := Lib.hid (HQ2.out.below hbW3); have HO3 := Lib.hid (own_below HO2.out hbW3); have HB3 := Lib.hid (bt HB2.out hbW3)
  replace cxW0_0 := fun i => (hbW3.cell (by (try simp only); have := HSW0.out; omega)).trans (cxW0_0 i)
  replace fzW0_0 := fun i => (hbW3.frozen (by (try simp only); have := HSW0.out; omega)).trans (fzW0_0 i)
  have ck : ∀ w5 : World, W3.drew.grownBy w5 (some W0.heap.size) → (∀ i, w5.cell? ⟨w2.heap.size, i, none⟩ = (#[.slice A2 L2.length c2, .int .i64 me, .int .i64 mi, .int .i64 mo] : Array Value)[i]?) ∧ (∀ i, w5.cell? ⟨w.heap.size, i, none⟩ = (#[.slice none 0 0, .int .i64 0, .int .i64 0, .int .i64 0] : Array Value)[i]?) ∧ (∀ i, w5.frozen? ⟨w.heap.size, i, none⟩ = false) := fun w5 h => ⟨fun i => (h.cell_far ⟨w2.heap.size, i, none⟩ (show w2.heap.size < W3.heap.size by omega) (fun h => by have h2 : w2.heap.size = W0.heap.size := Option.some.inj h; omega)).trans (cxW3_0 i), fun i => (h.cell_far ⟨w.heap.size, i, none⟩ (show w.heap.size < W3.heap.size by omega) (fun h => by have h2 : w.heap.size = W0.heap.size := Option.some.inj h; omega)).trans (cxW0_0 i), fun i => (h.frozen_far ⟨w.heap.size, i, none⟩ (show w.heap.size < W3.heap.size by omega) (fun h => by have h2 : w.heap.size = W0.heap.size := Option.some.inj h; omega)).trans (fzW0_0 i)⟩
  have CK := Lib.hid ck; clear ck
  go_region_law (first
    | (go_simp; go_at_call 56; refine (l01Pick_c W0.heap.size W0.heap.size v1.heap.size 0 6 [a, b, 0, 1000000000000, 1000000000001, -1] (v1.alloc _) (HQv1.out.below ((Below.refl _ _).alloc (Nat.le_refl _) _)) (by omega) (pick_box (L := [a, b, 0, 1000000000000, 1000000000001, -1]) (fun i => by simp [go_sem])) (by simp) (by simp) (by simp)).mono ?_; rintro e vz ⟨x, rfl, hxm, hqz, hgz⟩; have HGz := Lib.hid (grown_trans' HGv1.out (grown_alloc hgz)); obtain ⟨cyz, cxz, fxz⟩ := CK.out vz HGz.out; clear hqz hgz hxm)
    | (go_simp; go_at_call 55; refine (l01Next_c W0.heap.size W0.heap.size 100000 v0 HQv0.out (by omega)).mono ?_; rintro e v1 ⟨b, rfl, ⟨hb0, hb1⟩, hqv1, hgv1⟩; have HQv1 := Lib.hid hqv1; have HGv1 := Lib.hid (grown_trans' HGv0.out hgv1); obtain ⟨cy1, cx1, fx1⟩ := CK.out v1 HGv1.out; have hsv1 : W3.heap.size ≤ v1.heap.size := (by have := HGv1.out.size; simpa using this); clear hqv1 hgv1; have ca := fun (o : Obj) (i : Nat) => (((Below.refl _ v1).alloc (Nat.le_refl _) o).cell (p := ⟨w2.heap.size, i, none⟩) (show w2.heap.size < v1.heap.size by omega)).trans (cy1 i))
    | (go_simp; go_at_call 55; refine (l01Next_c W0.heap.size W0.heap.size 100000 W3.drew (src_drewN HQ3.out 1) (by omega)).mono ?_; rintro e v0 ⟨a, rfl, ⟨ha0, ha1⟩, hqv0, hgv0⟩; have HQv0 := Lib.hid hqv0; have HGv0 := Lib.hid (hgv0); obtain ⟨cy0, cx0, fx0⟩ := CK.out v0 HGv0.out; have hsv0 : W3.heap.size ≤ v0.heap.size := (by have := HGv0.out.size; simpa using this); clear hqv0 hgv0))
  all_goals
    have HB5 := Lib.hid (grown_below HB3.out (grown_ofdrew HGz.out) (by omega))
    have HO5 := Lib.hid (HO3.out.drew.kept HGz.out (.inr (by have := HO3.out.lt; intro e; have := this _ e; omega)))
    go_wp2
    exact bodyPost_ret (v := .tuple #[.agg #[.slice A2 L2.length c2, .int .i64 me, .int .i64 mi, .int .i64 mo], .int .i64 x]) (by simp [results, Try.results34, go_sem, cxz]) rfl ⟨A2, c2, L2, me, mi, mo, x, rfl, by (repeat (refine own_setOther ?_ (fun e => by have := HO5.out.lt _ e; omega) _ _)); exact own_mono HO5.out (by omega), hl2, by (repeat (refine Below.setCell ?_ (by (try simp only); omega) _)); exact HB5.out⟩
set_option maxRecDepth 100000 in
set_option maxHeartbeats 4000000 in
theorem DrawRaiseTariff_c (A : Option Addr) (c : Nat) (L : List Int) (w : World) (hr : Rd w w.heap.size A L.length (L.map (Value.int .u8))) (hx : ∀ x ∈ L, 0 ≤ x ∧ x ≤ 255) (hL : L.length ≤ 4096) (hc : L.length ≤ c) : Calls Try.prog 22 #[.slice A L.length c] w (DrawTI w) := by
  have HR := Lib.hid hr; have HX := Lib.hid hx
  clear hr hx
  go_enter Try.func22, Try.ntmps22
  go_wp2_with fail
  generalize hW0 : w.alloc _ = W0
  have hbW0 : Below w.heap.size w W0 := by subst hW0; exact (Below.refl _ _).alloc (Nat.le_refl _) _
  have hsW0 : W0.heap.size = w.heap.size + 1 := by subst hW0; simp
  have cxW0_0 : ∀ i, W0.cell? ⟨w.heap.size, i, none⟩ = (#[.slice none 0 0, .int .i64 0, .int .i64 0, .int .i64 0] : Array Value)[i]? := by intro i; subst hW0; simp [go_sem]
  have fzW0_0 : ∀ i, W0.frozen? ⟨w.heap.size, i, none⟩ = false := by intro i; subst hW0; simp [go_sem]
  have HSW0 := Lib.hid hsW0; clear hW0 hsW0
  have hz0 : w.heap.size + 1 ≤ W0.heap.size := by have := HSW0.out; omega
  refine (l01From_c A c L W0 (rdW hbW0 HR.out) HX.out hL hc).mono ?_
  rintro e w1 ⟨rfl, hS, hb1⟩
  have HQ1 := Lib.hid hS; have hz1 := hb1.size; have hl1 := hS.lt; clear hS
  replace cxW0_0 := fun i => (hb1.cell (by (try simp only); have := HSW0.out; omega)).trans (cxW0_0 i)
  replace fzW0_0 := fun i => (hb1.frozen (by (try simp only); have := HSW0.out; omega)).trans (fzW0_0 i)
  go_wp2_with fail
  refine (l29Tariff_c W0.heap.size W0.heap.size w1 HQ1.out).mono ?_
  rintro e w2 ⟨A2, c2, L2, me, mi, mo, rfl, ho2, hl2, hS2, hg2⟩
  have HQ2 := Lib.hid hS2; have hz2 := hg2.size; have HO2 := Lib.hid ho2; have HB2 := Lib.hid (grown_below (bt hbW0 hb1) hg2 (by omega))
  replace cxW0_0 := fun i => (hg2.cell_far ⟨w.heap.size, i, none⟩ (show w.heap.size < w1.heap.size by omega) (fun h => by have h2 : w.heap.size = W0.heap.size := Option.some.inj h; omega)).trans (cxW0_0 i)
  replace fzW0_0 := fun i => (hg2.frozen_far ⟨w.heap.size, i, none⟩ (show w.heap.size < w1.heap.size by omega) (fun h => by have h2 : w.heap.size = W0.heap.size := Option.some.inj h; omega)).trans (fzW0_0 i)
  clear hS2 ho2
  go_wp2_with fail
  generalize hW3 : w2.alloc _ = W3
  have hbW3 : Below w2.heap.size w2 W3 := by subst hW3; exact (Below.refl _ _).alloc (Nat.le_refl _) _
  have hsW3 : W3.heap.size = w2.heap.size + 1 := by subst hW3; simp
  have cxW3_0 : ∀ i, W3.cell? ⟨w2.heap.size, i, none⟩ = (#[.slice A2 L2.length c2, .int .i64 me, .int .i64 mi, .int .i64 mo] : Array Value)[i]? := by intro i; subst hW3; simp [go_sem]
  have fzW3_0 : ∀ i, W3.frozen? ⟨w2.heap.size, i, none⟩ = false := by intro i; subst hW3; simp [go_sem]
  have HSW3 := Lib.hid hsW3; clear hW3 hsW3
  have hz3 : w2.heap.size + 1 ≤ W3.heap.size := by have := HSW3.out; omega
  have HQ3 := Lib.hid (HQ2.out.below hbW3); have HO3 := Lib.hid (own_below HO2.out hbW3); have HB3 := Lib.hid (bt HB2.out hbW3)
  replace cxW0_0 := fun i => (hbW3.cell (by (try simp only); have := HSW0.out; omega)).trans (cxW0_0 i)
  replace fzW0_0 := fun i => (hbW3.frozen (by (try simp only); have := HSW0.out; omega)).trans (fzW0_0 i)
  have ck : ∀ w5 : World, W3.drew.grownBy w5 (some W0.heap.size) → (∀ i, w5.cell? ⟨w2.heap.size, i, none⟩ = (#[.slice A2 L2.length c2, .int .i64 me, .int .i64 mi, .int .i64 mo] : Array Value)[i]?) ∧ (∀ i, w5.cell? ⟨w.heap.size, i, none⟩ = (#[.slice none 0 0, .int .i64 0, .int .i64 0, .int .i64 0] : Array Value)[i]?) ∧ (∀ i, w5.frozen? ⟨w.heap.size, i, none⟩ = false) := fun w5 h => ⟨fun i => (h.cell_far ⟨w2.heap.size, i, none⟩ (show w2.heap.size < W3.heap.size by omega) (fun h => by have h2 : w2.heap.size = W0.heap.size := Option.some.inj h; omega)).trans (cxW3_0 i), fun i => (h.cell_far ⟨w.heap.size, i, none⟩ (show w.heap.size < W3.heap.size by omega) (fun h => by have h2 : w.heap.size = W0.heap.size := Option.some.inj h; omega)).trans (cxW0_0 i), fun i => (h.frozen_far ⟨w.heap.size, i, none⟩ (show w.heap.size < W3.heap.size by omega) (fun h => by have h2 : w.heap.size = W0.heap.size := Option.some.inj h; omega)).trans (fzW0_0 i)⟩
  have CK := Lib.hid ck; clear ck
  go_region_law (first
    | (go_simp; go_at_call 56; refine (l01Pick_c W0.heap.size W0.heap.size v0.heap.size 0 6 [0, a, 100, 101, -1, 7] (v0.alloc _) (HQv0.out.below ((Below.refl _ _).alloc (Nat.le_refl _) _)) (by omega) (pick_box (L := [0, a, 100, 101, -1, 7]) (fun i => by simp [go_sem])) (by simp) (by simp) (by simp)).mono ?_; rintro e vz ⟨x, rfl, hxm, hqz, hgz⟩; have HGz := Lib.hid (grown_trans' HGv0.out (grown_alloc hgz)); obtain ⟨cyz, cxz, fxz⟩ := CK.out vz HGz.out; clear hqz hgz hxm)
    | (go_simp; go_at_call 55; refine (l01Next_c W0.heap.size W0.heap.size 101 W3.drew (src_drewN HQ3.out 1) (by omega)).mono ?_; rintro e v0 ⟨a, rfl, ⟨ha0, ha1⟩, hqv0, hgv0⟩; have HQv0 := Lib.hid hqv0; have HGv0 := Lib.hid (hgv0); obtain ⟨cy0, cx0, fx0⟩ := CK.out v0 HGv0.out; have hsv0 : W3.heap.size ≤ v0.heap.size := (by have := HGv0.out.size; simpa using this); clear hqv0 hgv0; have ca := fun (o : Obj) (i : Nat) => (((Below.refl _ v0).alloc (Nat.le_refl _) o).cell (p := ⟨w2.heap.size, i, none⟩) (show w2.heap.size < v0.heap.size by omega)).trans (cy0 i)))
  all_goals
    have HB5 := Lib.hid (grown_below HB3.out (grown_ofdrew HGz.out) (by omega))
    have HO5 := Lib.hid (HO3.out.drew.kept HGz.out (.inr (by have := HO3.out.lt; intro e; have := this _ e; omega)))
    go_wp2
    exact bodyPost_ret (v := .tuple #[.agg #[.slice A2 L2.length c2, .int .i64 me, .int .i64 mi, .int .i64 mo], .int .i64 x]) (by simp [results, Try.results22, go_sem, cxz]) rfl ⟨A2, c2, L2, me, mi, mo, x, rfl, by (repeat (refine own_setOther ?_ (fun e => by have := HO5.out.lt _ e; omega) _ _)); exact own_mono HO5.out (by omega), hl2, by (repeat (refine Below.setCell ?_ (by (try simp only); omega) _)); exact HB5.out⟩
theorem DrawPayFor_c (A : Option Addr) (c : Nat) (L : List Int) (w : World) (hr : Rd w w.heap.size A L.length (L.map (Value.int .u8))) (hx : ∀ x ∈ L, 0 ≤ x ∧ x ≤ 255) (hL : L.length ≤ 4096) (hc : L.length ≤ c) : Calls Try.prog 27 #[.slice A L.length c] w (DrawTS w) := by
  have HR := Lib.hid hr; have HX := Lib.hid hx
  clear hr hx
  go_enter Try.func27, Try.ntmps27
  go_wp2_with fail
  generalize hW0 : (w.alloc _).alloc _ = W0
  have hbW0 : Below w.heap.size w W0 := by subst hW0; exact ((Below.refl _ _).alloc (Nat.le_refl _) _).alloc (by (try simp) <;> (try omega)) _
  have hsW0 : W0.heap.size = w.heap.size + 2 := by subst hW0; simp
  have cxW0_0 : ∀ i, W0.cell? ⟨w.heap.size, i, none⟩ = (#[.slice none 0 0, .int .i64 0, .int .i64 0, .int .i64 0] : Array Value)[i]? := by intro i; subst hW0; simp [go_sem]
  have fzW0_0 : ∀ i, W0.frozen? ⟨w.heap.size, i, none⟩ = false := by intro i; subst hW0; simp [go_sem]
  have cxW0_1 : ∀ i, W0.cell? ⟨w.heap.size + 1, i, none⟩ = (#[.int .i64 0, .int .i64 0, .int .i64 0] : Array Value)[i]? := by intro i; subst hW0; simp [go_sem]
  have fzW0_1 : ∀ i, W0.frozen? ⟨w.heap.size + 1, i, none⟩ = false := by intro i; subst hW0; simp [go_sem]
  have HSW0 := Lib.hid hsW0; clear hW0 hsW0
  have hz0 : w.heap.size + 2 ≤ W0.heap.size := by have := HSW0.out; omega
  refine (DrawBoardFor_c A c L W0 (rdW hbW0 HR.out) HX.out hL hc).mono ?_
  rintro e w1 ⟨A2, c2, L2, me, mi, mo, d, ml, ms, rfl, ho, hl, hb1⟩
  have HO := Lib.hid ho; clear ho
  replace cxW0_0 := fun i => (hb1.cell (by (try simp only); have := HSW0.out; omega)).trans (cxW0_0 i)
  replace cxW0_1 := fun i => (hb1.cell (by (try simp only); have := HSW0.out; omega)).trans (cxW0_1 i)
  replace fzW0_0 := fun i => (hb1.frozen (by (try simp only); have := HSW0.out; omega)).trans (fzW0_0 i)
  replace fzW0_1 := fun i => (hb1.frozen (by (try simp only); have := HSW0.out; omega)).trans (fzW0_1 i)
  go_wp2
  exact bodyPost_ret (v := .tuple #[.agg #[.slice A2 L2.length c2, .int .i64 me, .int .i64 mi, .int .i64 mo], .agg #[.int .i64 d, .int .i64 ml, .int .i64 ms]]) (by simp [results, Try.results27, go_sem, cxW0_0, cxW0_1]) rfl ⟨A2, c2, L2, me, mi, mo, d, ml, ms, rfl, by (repeat (refine own_setOther ?_ (fun e => by have := HO.out.lt _ e; omega) _ _)); exact own_mono HO.out (by omega), hl, by (repeat (refine Below.setCell ?_ (by (try simp only); omega) _)); exact bt hbW0 hb1⟩
end Go.Proofs.Ythkobjadfeidmaa
