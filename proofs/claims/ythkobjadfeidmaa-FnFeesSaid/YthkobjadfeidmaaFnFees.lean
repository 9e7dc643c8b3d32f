/- The walk of the law FnFees: it returns true, and nothing that was there is changed. -/
import Derived.Test.YthkobjadfeidmaaDays
import Derived.Test.YthkobjadfeidmaaDrawG
namespace Go.Proofs.Ythkobjadfeidmaa
open Go.RowKit
set_option linter.unusedVariables false
theorem big_c (A : Option Addr) (n c : Nat) (b : Bool) (w : World) (hn : n ≤ 9223372036854775807) (h : decide (4096 < n) = b) : Calls Try.prog 20 #[.slice A n c] w fun e w' => e = .returned (.bool b) ∧ w = w' := by
  subst h
  by_cases h : 4096 < n
  · have h2 : (4096 : Int) < (n : Int) := by omega
    go_enter Try.func20, Try.ntmps20
    go_wp2
    go_ret
    exact ⟨by simp [h], rfl⟩
  · have h2 : ¬ (4096 : Int) < (n : Int) := by omega
    go_enter Try.func20, Try.ntmps20
    go_wp2
    go_ret
    exact ⟨by simp, rfl⟩
attribute [local irreducible] feesN
theorem feesN_mono {L : List TierD} (h : ∀ t ∈ L, 0 ≤ t.cents ∧ t.cents ≤ 100000) (k : Nat) : feesN L k ≤ feesN L (k + 1) := by
  rw [feesN_succ]; have := feeTo_bd h ((k : Int) + 1); omega
theorem days_exist {L : List TierD} {x : Int} (m : Nat) (hm : m ≤ 1000) : (∀ j, j < m → feesN L (j + 1) ≤ x) ∨ ∃ n, n < m ∧ (∀ j, j < n → feesN L (j + 1) ≤ x) ∧ x < feesN L (n + 1) := by
  induction m with
  | zero => left; intro j hj; omega
  | succ m ih =>
    rcases ih (by omega) with h | ⟨n, h1, h2, h3⟩
    · by_cases hle : feesN L (m + 1) ≤ x
      · left; intro j hj
        by_cases e : j = m
        · subst e; exact hle
        · exact h j (by omega)
      · right; exact ⟨m, by omega, h, by omega⟩
    · right; exact ⟨n, by omega, h2, h3⟩
theorem days_are {L : List TierD} {x : Int} : DaysAre L x (daysN L x) := by
  have : ∃ n, DaysAre L x n := by
    rcases days_exist (L := L) (x := x) 1000 (Nat.le_refl _) with h | ⟨n, h1, h2, h3⟩
    · exact ⟨1000, by omega, h, fun h => absurd h (by omega)⟩
    · exact ⟨n, by omega, h2, fun _ => h3⟩
  obtain ⟨n, h⟩ := this
  rw [daysN_eq h]; exact h
theorem daysFor_ok {L : List TierD} {me mi mo x dd : Int} (h : daysFor L me mi mo x = (dd, 0)) :
    ∃ n : Nat, dd = n ∧ n ≤ 1000 ∧ tarOk L me mi mo = true ∧ feesN L n ≤ x ∧ (n < 1000 → x < feesN L (n + 1)) := by
  unfold daysFor at h
  split at h
  · split at h
    · rename_i h1 h2
      have hx := inB_iff.1 h2
      have hd := days_are (L := L) (x := x)
      have e : (daysN L x : Int) = dd := by injection h
      refine ⟨daysN L x, e.symm, hd.1, h1, ?_, hd.2.2⟩
      rcases Nat.eq_zero_or_pos (daysN L x) with h0 | h0
      · rw [h0, feesN_zero]; omega
      · have := hd.2.1 (daysN L x - 1) (by omega)
        rwa [show daysN L x - 1 + 1 = daysN L x from by omega] at this
    · injection h with _ h; omega
  · injection h with _ h; omega
theorem feesFor_in {L : List TierD} {me mi mo : Int} (hT : tarOk L me mi mo = true) {n : Nat} (h : n ≤ 1000) : feesFor L me mi mo (n : Int) = (feesN L n, 0) := by
  rw [feesFor, if_pos hT, if_pos (inB_true (by omega) (by omega))]; simp
theorem feesFor_out {L : List TierD} {me mi mo : Int} (hT : tarOk L me mi mo = true) {n : Int} (h : 1000 < n) : feesFor L me mi mo n = (0, 2) := by
  rw [feesFor, if_pos hT, if_neg (by rw [inB_false (by omega)]; simp)]
theorem feesFor_ok {L : List TierD} {me mi mo n f : Int} (h : feesFor L me mi mo n = (f, 0)) : tarOk L me mi mo = true ∧ ∃ k : Nat, n = k ∧ k ≤ 1000 ∧ f = feesN L k := by
  unfold feesFor at h
  split at h
  · split at h
    · rename_i h1 h2
      have hx := inB_iff.1 h2
      exact ⟨h1, n.toNat, by omega, by omega, by injection h with h _; exact h.symm⟩
    · injection h with _ h; omega
  · injection h with _ h; omega
theorem payFor_ok {L : List TierD} {me mi mo d ml ms p : Int} (h : payFor L me mi mo d ml ms = (p, 0)) : tarOk L me mi mo = true ∧ (0 ≤ ml * me ∧ ml * me ≤ 30000000) ∧ (0 ≤ travelV mi mo d ms ∧ travelV mi mo d ms ≤ 100000000) ∧ (∃ k : Nat, d = k ∧ k ≤ 1000 ∧ (0 ≤ feesN L k ∧ feesN L k ≤ 100000000) ∧ p = feesN L k + ml * me + travelV mi mo d ms) ∧ boardFor L me mi mo d ml ms = (ml * me, 0) ∧ travelFor L me mi mo d ml ms = (travelV mi mo d ms, 0) := by
  unfold payFor at h
  split at h
  · rename_i hb
    have hb2 := hb
    simp only [bothOk, Bool.and_eq_true] at hb2
    obtain ⟨hT, hS⟩ := hb2
    obtain ⟨k1, k2, k3⟩ := tar_bds hT
    obtain ⟨k4, k5, k6⟩ := srv_bds hS
    have k7 := mul_bd k5 k1
    have k9 := travel_bd k2 k3 k4 k6
    refine ⟨hT, k7, k9.2, ⟨d.toNat, by omega, by omega, ?_, by injection h with h _; exact h.symm⟩, by rw [boardFor, if_pos hb], by rw [travelFor, if_pos hb]⟩
    have := feesN_bd (tar_cents hT) d.toNat
    omega
  · injection h with _ h; omega

set_option maxRecDepth 100000 in
set_option maxHeartbeats 8000000 in
theorem law_FnFees (A : Option Addr) (c : Nat) (L : List Int) (w : World) (hr : Rd w w.heap.size A L.length (L.map (Value.int .u8))) (hl : L.length ≤ maxLen) (hx : ∀ x ∈ L, 0 ≤ x ∧ x ≤ 255) (hc : L.length ≤ c) :
    Calls Try.prog 6 #[.slice A L.length c] w fun e w' => e = .returned (.bool true) ∧ Below w.heap.size w w' := by
  unfold maxLen at hl
  have HRB := Lib.hid hr; have HXB := Lib.hid hx; clear hr hx
  by_cases hbig : 4096 < L.length
  · go_enter Try.func6, Try.ntmps6
    go_wp2_with fail
    refine (big_c A L.length c true w (by omega) (by simp [hbig])).mono ?_
    rintro e w' ⟨rfl, rfl⟩
    go_wp2
    go_ret
    exact ⟨rfl, Below.refl _ _⟩
  go_enter Try.func6, Try.ntmps6
  go_wp2_with fail
  refine (big_c A L.length c false w (by omega) (by simp; omega)).mono ?_
  rintro e w0 ⟨rfl, rfl⟩
  go_wp2_with fail
  refine (DrawPayFor_c A c L w HRB.out HXB.out (by omega) hc).mono ?_
  rintro e y1 ⟨A1, c1, L1, me, mi, mo, d, ml, ms, rfl, ho1, hl1, hb1⟩
  have HR1 := Lib.hid (Rd.of_own ho1); have hz1 := hb1.size; have HB := Lib.hid hb1; clear ho1 hb1
  go_wp2_with fail
  generalize hW2 : (y1.alloc _).alloc _ = W2
  have hbW2 : Below y1.heap.size y1 W2 := by subst hW2; exact ((Below.refl _ _).alloc (Nat.le_refl _) _).alloc (by (try simp) <;> (try omega)) _
  have hsW2 : W2.heap.size = y1.heap.size + 2 := by subst hW2; simp
  have cxW2_0 : ∀ i, W2.cell? ⟨y1.heap.size, i, none⟩ = (#[.slice A1 L1.length c1, .int .i64 me, .int .i64 mi, .int .i64 mo] : Array Value)[i]? := by intro i; subst hW2; simp [go_sem]
  have cxW2_1 : ∀ i, W2.cell? ⟨y1.heap.size + 1, i, none⟩ = (#[.int .i64 d, .int .i64 ml, .int .i64 ms] : Array Value)[i]? := by intro i; subst hW2; simp [go_sem]
  have HSW2 := Lib.hid hsW2; clear hW2 hsW2
  have hzW2 : y1.heap.size + 2 ≤ W2.heap.size := by have := HSW2.out; omega
  clear HSW2
  replace HR1 := Lib.hid (rdW hbW2 HR1.out)
  replace HB := Lib.hid (bt HB.out hbW2)
  obtain ⟨p, pc, Hpay0⟩ : ∃ p pc, payFor L1 me mi mo d ml ms = (p, pc) := ⟨_, _, rfl⟩
  have Hpay := Lib.hid Hpay0; clear Hpay0
  obtain ⟨bo, bc, Hboard0⟩ : ∃ bo bc, boardFor L1 me mi mo d ml ms = (bo, bc) := ⟨_, _, rfl⟩
  have Hboard := Lib.hid Hboard0; clear Hboard0
  obtain ⟨tr, tc, Htrav0⟩ : ∃ tr tc, travelFor L1 me mi mo d ml ms = (tr, tc) := ⟨_, _, rfl⟩
  have Htrav := Lib.hid Htrav0; clear Htrav0
  refine (impl_PayFor A1 c1 L1 me mi mo d ml ms W2 HR1.out (by omega)).mono ?_
  rintro e w3 ⟨he, hbw3⟩
  rw [Hpay.out] at he; subst he
  have hzw3 := hbw3.size
  replace HR1 := Lib.hid (rdW hbw3 HR1.out)
  replace HB := Lib.hid (bt HB.out hbw3)
  replace cxW2_0 := fun i => (hbw3.cell (by (try simp only); omega)).trans (cxW2_0 i)
  replace cxW2_1 := fun i => (hbw3.cell (by (try simp only); omega)).trans (cxW2_1 i)
  go_wp2_with fail
  refine (spec_PayFor A1 c1 L1 me mi mo d ml ms w3 HR1.out (by omega)).mono ?_
  rintro e w4 ⟨he, hbw4⟩
  rw [Hpay.out] at he; subst he
  have hzw4 := hbw4.size
  replace HR1 := Lib.hid (rdW hbw4 HR1.out)
  replace HB := Lib.hid (bt HB.out hbw4)
  replace cxW2_0 := fun i => (hbw4.cell (by (try simp only); omega)).trans (cxW2_0 i)
  replace cxW2_1 := fun i => (hbw4.cell (by (try simp only); omega)).trans (cxW2_1 i)
  go_wp2_with fail
  refine (impl_BoardFor A1 c1 L1 me mi mo d ml ms w4 HR1.out (by omega)).mono ?_
  rintro e w5 ⟨he, hbw5⟩
  rw [Hboard.out] at he; subst he
  have hzw5 := hbw5.size
  replace HR1 := Lib.hid (rdW hbw5 HR1.out)
  replace HB := Lib.hid (bt HB.out hbw5)
  replace cxW2_0 := fun i => (hbw5.cell (by (try simp only); omega)).trans (cxW2_0 i)
  replace cxW2_1 := fun i => (hbw5.cell (by (try simp only); omega)).trans (cxW2_1 i)
  go_wp2_with fail
  refine (spec_BoardFor A1 c1 L1 me mi mo d ml ms w5 HR1.out (by omega)).mono ?_
  rintro e w6 ⟨he, hbw6⟩
  rw [Hboard.out] at he; subst he
  have hzw6 := hbw6.size
  replace HR1 := Lib.hid (rdW hbw6 HR1.out)
  replace HB := Lib.hid (bt HB.out hbw6)
  replace cxW2_0 := fun i => (hbw6.cell (by (try simp only); omega)).trans (cxW2_0 i)
  replace cxW2_1 := fun i => (hbw6.cell (by (try simp only); omega)).trans (cxW2_1 i)
  go_wp2_with fail
  refine (impl_TravelFor A1 c1 L1 me mi mo d ml ms w6 HR1.out (by omega)).mono ?_
  rintro e w7 ⟨he, hbw7⟩
  rw [Htrav.out] at he; subst he
  have hzw7 := hbw7.size
  replace HR1 := Lib.hid (rdW hbw7 HR1.out)
  replace HB := Lib.hid (bt HB.out hbw7)
  replace cxW2_0 := fun i => (hbw7.cell (by (try simp only); omega)).trans (cxW2_0 i)
  replace cxW2_1 := fun i => (hbw7.cell (by (try simp only); omega)).trans (cxW2_1 i)
  go_wp2_with fail
  refine (spec_TravelFor A1 c1 L1 me mi mo d ml ms w7 HR1.out (by omega)).mono ?_
  rintro e w8 ⟨he, hbw8⟩
  rw [Htrav.out] at he; subst he
  have hzw8 := hbw8.size
  replace HR1 := Lib.hid (rdW hbw8 HR1.out)
  replace HB := Lib.hid (bt HB.out hbw8)
  replace cxW2_0 := fun i => (hbw8.cell (by (try simp only); omega)).trans (cxW2_0 i)
  replace cxW2_1 := fun i => (hbw8.cell (by (try simp only); omega)).trans (cxW2_1 i)
  go_wp2_with fail
  refine (DrawDaysFor_c A c L w8 (rdW HB.out HRB.out) HXB.out (by omega) hc).mono ?_
  rintro e w9 ⟨A3, c3, L3, me3, mi3, mo3, x3, rfl, ho3, hl3, hbw9⟩
  have hzw9 := hbw9.size
  replace HR1 := Lib.hid (rdW hbw9 HR1.out)
  replace HB := Lib.hid (bt HB.out hbw9)
  replace cxW2_0 := fun i => (hbw9.cell (by (try simp only); omega)).trans (cxW2_0 i)
  replace cxW2_1 := fun i => (hbw9.cell (by (try simp only); omega)).trans (cxW2_1 i)
  have HR3 := Lib.hid (Rd.of_own ho3); clear ho3
  go_wp2_with fail
  generalize hW20 : w9.alloc _ = W20
  have hbW20 : Below w9.heap.size w9 W20 := by subst hW20; exact (Below.refl _ _).alloc (Nat.le_refl _) _
  have hsW20 : W20.heap.size = w9.heap.size + 1 := by subst hW20; simp
  have cxW20_0 : ∀ i, W20.cell? ⟨w9.heap.size, i, none⟩ = (#[.slice A3 L3.length c3, .int .i64 me3, .int .i64 mi3, .int .i64 mo3] : Array Value)[i]? := by intro i; subst hW20; simp [go_sem]
  have HSW20 := Lib.hid hsW20; clear hW20 hsW20
  have hzW20 : w9.heap.size + 1 ≤ W20.heap.size := by have := HSW20.out; omega
  clear HSW20
  replace HR1 := Lib.hid (rdW hbW20 HR1.out)
  replace HR3 := Lib.hid (rdW hbW20 HR3.out)
  replace HB := Lib.hid (bt HB.out hbW20)
  replace cxW2_0 := fun i => (hbW20.cell (by (try simp only); omega)).trans (cxW2_0 i)
  replace cxW2_1 := fun i => (hbW20.cell (by (try simp only); omega)).trans (cxW2_1 i)
  obtain ⟨dd, dc, Hdays0⟩ : ∃ dd dc, daysFor L3 me3 mi3 mo3 x3 = (dd, dc) := ⟨_, _, rfl⟩
  have Hdays := Lib.hid Hdays0; clear Hdays0
  refine (impl_DaysFor A3 c3 L3 me3 mi3 mo3 x3 W20 HR3.out (by omega)).mono ?_
  rintro e w10 ⟨he, hbw10⟩
  rw [Hdays.out] at he; subst he
  have hzw10 := hbw10.size
  replace HR1 := Lib.hid (rdW hbw10 HR1.out)
  replace HR3 := Lib.hid (rdW hbw10 HR3.out)
  replace HB := Lib.hid (bt HB.out hbw10)
  replace cxW2_0 := fun i => (hbw10.cell (by (try simp only); omega)).trans (cxW2_0 i)
  replace cxW2_1 := fun i => (hbw10.cell (by (try simp only); omega)).trans (cxW2_1 i)
  replace cxW20_0 := fun i => (hbw10.cell (by (try simp only); omega)).trans (cxW20_0 i)
  go_wp2_with fail
  refine (spec_DaysFor A3 c3 L3 me3 mi3 mo3 x3 w10 HR3.out (by omega)).mono ?_
  rintro e w11 ⟨he, hbw11⟩
  rw [Hdays.out] at he; subst he
  have hzw11 := hbw11.size
  replace HR1 := Lib.hid (rdW hbw11 HR1.out)
  replace HR3 := Lib.hid (rdW hbw11 HR3.out)
  replace HB := Lib.hid (bt HB.out hbw11)
  replace cxW2_0 := fun i => (hbw11.cell (by (try simp only); omega)).trans (cxW2_0 i)
  replace cxW2_1 := fun i => (hbw11.cell (by (try simp only); omega)).trans (cxW2_1 i)
  replace cxW20_0 := fun i => (hbw11.cell (by (try simp only); omega)).trans (cxW20_0 i)
  go_wp2_with fail
  refine (DrawFeesFor_c A c L w11 (rdW HB.out HRB.out) HXB.out (by omega) hc).mono ?_
  rintro e w12 ⟨A4, c4, L4, me4, mi4, mo4, x4, rfl, ho4, hl4, hbw12⟩
  have hzw12 := hbw12.size
  replace HR1 := Lib.hid (rdW hbw12 HR1.out)
  replace HR3 := Lib.hid (rdW hbw12 HR3.out)
  replace HB := Lib.hid (bt HB.out hbw12)
  replace cxW2_0 := fun i => (hbw12.cell (by (try simp only); omega)).trans (cxW2_0 i)
  replace cxW2_1 := fun i => (hbw12.cell (by (try simp only); omega)).trans (cxW2_1 i)
  replace cxW20_0 := fun i => (hbw12.cell (by (try simp only); omega)).trans (cxW20_0 i)
  have HR4 := Lib.hid (Rd.of_own ho4); clear ho4
  go_wp2_with fail
  generalize hW30 : w12.alloc _ = W30
  have hbW30 : Below w12.heap.size w12 W30 := by subst hW30; exact (Below.refl _ _).alloc (Nat.le_refl _) _
  have hsW30 : W30.heap.size = w12.heap.size + 1 := by subst hW30; simp
  have cxW30_0 : ∀ i, W30.cell? ⟨w12.heap.size, i, none⟩ = (#[.slice A4 L4.length c4, .int .i64 me4, .int .i64 mi4, .int .i64 mo4] : Array Value)[i]? := by intro i; subst hW30; simp [go_sem]
  have HSW30 := Lib.hid hsW30; clear hW30 hsW30
  have hzW30 : w12.heap.size + 1 ≤ W30.heap.size := by have := HSW30.out; omega
  clear HSW30
  replace HR1 := Lib.hid (rdW hbW30 HR1.out)
  replace HR3 := Lib.hid (rdW hbW30 HR3.out)
  replace HR4 := Lib.hid (rdW hbW30 HR4.out)
  replace HB := Lib.hid (bt HB.out hbW30)
  replace cxW2_0 := fun i => (hbW30.cell (by (try simp only); omega)).trans (cxW2_0 i)
  replace cxW2_1 := fun i => (hbW30.cell (by (try simp only); omega)).trans (cxW2_1 i)
  replace cxW20_0 := fun i => (hbW30.cell (by (try simp only); omega)).trans (cxW20_0 i)
  obtain ⟨fe, fc, Hfees0⟩ : ∃ fe fc, feesFor L4 me4 mi4 mo4 x4 = (fe, fc) := ⟨_, _, rfl⟩
  have Hfees := Lib.hid Hfees0; clear Hfees0
  refine (impl_FeesFor A4 c4 L4 me4 mi4 mo4 x4 W30 HR4.out (by omega)).mono ?_
  rintro e w13 ⟨he, hbw13⟩
  rw [Hfees.out] at he; subst he
  have hzw13 := hbw13.size
  replace HR1 := Lib.hid (rdW hbw13 HR1.out)
  replace HR3 := Lib.hid (rdW hbw13 HR3.out)
  replace HR4 := Lib.hid (rdW hbw13 HR4.out)
  replace HB := Lib.hid (bt HB.out hbw13)
  replace cxW2_0 := fun i => (hbw13.cell (by (try simp only); omega)).trans (cxW2_0 i)
  replace cxW2_1 := fun i => (hbw13.cell (by (try simp only); omega)).trans (cxW2_1 i)
  replace cxW20_0 := fun i => (hbw13.cell (by (try simp only); omega)).trans (cxW20_0 i)
  replace cxW30_0 := fun i => (hbw13.cell (by (try simp only); omega)).trans (cxW30_0 i)
  go_wp2_with fail
  refine (spec_FeesFor A4 c4 L4 me4 mi4 mo4 x4 w13 HR4.out (by omega)).mono ?_
  rintro e w14 ⟨he, hbw14⟩
  rw [Hfees.out] at he; subst he
  have hzw14 := hbw14.size
  replace HR1 := Lib.hid (rdW hbw14 HR1.out)
  replace HR3 := Lib.hid (rdW hbw14 HR3.out)
  replace HR4 := Lib.hid (rdW hbw14 HR4.out)
  replace HB := Lib.hid (bt HB.out hbw14)
  replace cxW2_0 := fun i => (hbw14.cell (by (try simp only); omega)).trans (cxW2_0 i)
  replace cxW2_1 := fun i => (hbw14.cell (by (try simp only); omega)).trans (cxW2_1 i)
  replace cxW20_0 := fun i => (hbw14.cell (by (try simp only); omega)).trans (cxW20_0 i)
  replace cxW30_0 := fun i => (hbw14.cell (by (try simp only); omega)).trans (cxW30_0 i)
  go_wp2_with fail
  have kb3 := block_regrown cxW20_0 (by omega); have kb1 := block_regrown cxW2_1 (by omega)
  refine wp_region_bel mixed (by kernel_rfl) ?_
  repeat (any_goals (first | go_big_quiet_step ((first | exact rg_below (impl_IsTariff A3 c3 L3 me3 mi3 mo3 _ _ (by exact (rdW (below_regrown _ _ _) HR3.out)) (by omega) rfl) | exact rg_below (spec_IsTariff A3 c3 L3 me3 mi3 mo3 _ _ (by exact (rdW (below_regrown _ _ _) HR3.out)) (by omega) rfl) | exact rg_below (impl_IsService d ml ms _ _ rfl) | exact rg_below (spec_IsService d ml ms _ _ rfl))) | quiet_step ((first | exact rg_below (impl_IsTariff A3 c3 L3 me3 mi3 mo3 _ _ (by exact (rdW (below_regrown _ _ _) HR3.out)) (by omega) rfl) | exact rg_below (spec_IsTariff A3 c3 L3 me3 mi3 mo3 _ _ (by exact (rdW (below_regrown _ _ _) HR3.out)) (by omega) rfl) | exact rg_below (impl_IsService d ml ms _ _ rfl) | exact rg_below (spec_IsService d ml ms _ _ rfl))) | (refine wpQuiet_step (fun K hK => ?_); go_simp; (split <;> first | (refine hK _ ?_; clear hK K) | (apply Exists.intro; refine ⟨fun _ => ?_, hK _ ?_⟩; ((first | exact rg_below (impl_IsTariff A3 c3 L3 me3 mi3 mo3 _ _ (by exact (rdW (below_regrown _ _ _) HR3.out)) (by omega) rfl) | exact rg_below (spec_IsTariff A3 c3 L3 me3 mi3 mo3 _ _ (by exact (rdW (below_regrown _ _ _) HR3.out)) (by omega) rfl) | exact rg_below (impl_IsService d ml ms _ _ rfl) | exact rg_below (spec_IsService d ml ms _ _ rfl))); clear hK K)))))
  all_goals (refine wpQuiet_nil ?_; intro w1 hw1)
  have hzr := hw1.size; clear kb3 kb1
  replace HR1 := Lib.hid (rdW hw1 HR1.out)
  replace HR3 := Lib.hid (rdW hw1 HR3.out)
  replace HR4 := Lib.hid (rdW hw1 HR4.out)
  replace HB := Lib.hid (bt HB.out hw1)
  replace cxW2_0 := fun i => (hw1.cell (by (try simp only); omega)).trans (cxW2_0 i)
  replace cxW2_1 := fun i => (hw1.cell (by (try simp only); omega)).trans (cxW2_1 i)
  replace cxW20_0 := fun i => (hw1.cell (by (try simp only); omega)).trans (cxW20_0 i)
  replace cxW30_0 := fun i => (hw1.cell (by (try simp only); omega)).trans (cxW30_0 i)
  by_cases h5 : dc = 0
  · subst h5
    obtain ⟨n, rfl, hn, hT3, hle, hgt⟩ := daysFor_ok Hdays.out
    have HF1 := Lib.hid (feesFor_in hT3 hn)
    by_cases hn2 : n < 1000
    · have hgt2 := hgt hn2
      have hff : feesFor L3 me3 mi3 mo3 ((n : Int) + 1) = (feesN L3 (n + 1), 0) := by have := feesFor_in hT3 (n := n + 1) (by omega); simpa using this
      have HF2 := Lib.hid hff; clear hff hgt
      generalize feesN L3 n = f0 at *; generalize feesN L3 (n + 1) = f1 at *
      go_wp2_with fail
      refine (impl_FeesFor A3 c3 L3 me3 mi3 mo3 (n : Int) w1 HR3.out (by omega)).mono ?_
      rintro e v1 ⟨he, hbv⟩
      rw [HF1.out] at he; subst he
      have hzv := hbv.size
      replace HR1 := Lib.hid (rdW hbv HR1.out)
      replace HR3 := Lib.hid (rdW hbv HR3.out)
      replace HR4 := Lib.hid (rdW hbv HR4.out)
      replace HB := Lib.hid (bt HB.out hbv)
      replace cxW2_0 := fun i => (hbv.cell (by (try simp only); omega)).trans (cxW2_0 i)
      replace cxW2_1 := fun i => (hbv.cell (by (try simp only); omega)).trans (cxW2_1 i)
      replace cxW20_0 := fun i => (hbv.cell (by (try simp only); omega)).trans (cxW20_0 i)
      replace cxW30_0 := fun i => (hbv.cell (by (try simp only); omega)).trans (cxW30_0 i)
      go_wp2_with fail
      refine (impl_FeesFor A3 c3 L3 me3 mi3 mo3 ((n : Int) + 1) v1 HR3.out (by omega)).mono ?_
      rintro e v1 ⟨he, hbv⟩
      rw [HF2.out] at he; subst he
      have hzv := hbv.size
      replace HR1 := Lib.hid (rdW hbv HR1.out)
      replace HR3 := Lib.hid (rdW hbv HR3.out)
      replace HR4 := Lib.hid (rdW hbv HR4.out)
      replace HB := Lib.hid (bt HB.out hbv)
      replace cxW2_0 := fun i => (hbv.cell (by (try simp only); omega)).trans (cxW2_0 i)
      replace cxW2_1 := fun i => (hbv.cell (by (try simp only); omega)).trans (cxW2_1 i)
      replace cxW20_0 := fun i => (hbv.cell (by (try simp only); omega)).trans (cxW20_0 i)
      replace cxW30_0 := fun i => (hbv.cell (by (try simp only); omega)).trans (cxW30_0 i)
      by_cases h7 : fc = 0
      · by_cases hx4 : 0 < x4
        · subst h7
          obtain ⟨hT4, k, rfl, hk, rfl⟩ := feesFor_ok Hfees.out
          obtain ⟨j, rfl⟩ : ∃ j : Nat, k = j + 1 := ⟨k - 1, by omega⟩
          have HF3 := Lib.hid (feesFor_in (me := me4) (mi := mi4) (mo := mo4) hT4 (n := j) (by omega))
          have hmono := feesN_mono (tar_cents hT4) j
          generalize feesN L4 j = g0 at *; generalize feesN L4 (j + 1) = g1 at *
          have hw7 : IntKind.i64.wrap (((j + 1 : Nat) : Int) - 1) = (j : Int) := by rw [IntWalk.i64_in _ (by omega)]; omega
          go_wp2_with fail
          refine (impl_FeesFor A4 c4 L4 me4 mi4 mo4 (j : Int) v1 HR4.out (by omega)).mono ?_
          rintro e v1 ⟨he, hbv⟩
          rw [HF3.out] at he; subst he
          have hzv := hbv.size
          replace HR1 := Lib.hid (rdW hbv HR1.out)
          replace HR3 := Lib.hid (rdW hbv HR3.out)
          replace HR4 := Lib.hid (rdW hbv HR4.out)
          replace HB := Lib.hid (bt HB.out hbv)
          replace cxW2_0 := fun i => (hbv.cell (by (try simp only); omega)).trans (cxW2_0 i)
          replace cxW2_1 := fun i => (hbv.cell (by (try simp only); omega)).trans (cxW2_1 i)
          replace cxW20_0 := fun i => (hbv.cell (by (try simp only); omega)).trans (cxW20_0 i)
          replace cxW30_0 := fun i => (hbv.cell (by (try simp only); omega)).trans (cxW30_0 i)
          by_cases hpc : pc = 0
          · subst hpc
            obtain ⟨hT1, hb1, hb2, ⟨k1, rfl, hk1, hb3, rfl⟩, hbo, htr⟩ := payFor_ok Hpay.out
            have hbo2 := hbo.symm.trans Hboard.out; have htr2 := htr.symm.trans Htrav.out
            injection hbo2 with e1 e2; injection htr2 with e3 e4
            subst e1 e2 e3 e4
            have HF4 := Lib.hid (feesFor_in (me := me) (mi := mi) (mo := mo) hT1 hk1)
            clear Hpay Hboard Htrav hbo htr
            generalize feesN L1 k1 = q0 at *; generalize ml * me = q1 at *; generalize travelV mi mo _ ms = q2 at *
            go_wp2_with fail
            refine (impl_FeesFor A1 c1 L1 me mi mo (k1 : Int) v1 HR1.out (by omega)).mono ?_
            rintro e v1 ⟨he, hbv⟩
            rw [HF4.out] at he; subst he
            have hzv := hbv.size
            replace HR1 := Lib.hid (rdW hbv HR1.out)
            replace HR3 := Lib.hid (rdW hbv HR3.out)
            replace HR4 := Lib.hid (rdW hbv HR4.out)
            replace HB := Lib.hid (bt HB.out hbv)
            replace cxW2_0 := fun i => (hbv.cell (by (try simp only); omega)).trans (cxW2_0 i)
            replace cxW2_1 := fun i => (hbv.cell (by (try simp only); omega)).trans (cxW2_1 i)
            replace cxW20_0 := fun i => (hbv.cell (by (try simp only); omega)).trans (cxW20_0 i)
            replace cxW30_0 := fun i => (hbv.cell (by (try simp only); omega)).trans (cxW30_0 i)
            go_wp2
            go_ret
            exact ⟨by simp, HB.out⟩
          · go_wp2
            go_ret
            exact ⟨rfl, HB.out⟩
        · by_cases hpc : pc = 0
          · subst hpc
            obtain ⟨hT1, hb1, hb2, ⟨k1, rfl, hk1, hb3, rfl⟩, hbo, htr⟩ := payFor_ok Hpay.out
            have hbo2 := hbo.symm.trans Hboard.out; have htr2 := htr.symm.trans Htrav.out
            injection hbo2 with e1 e2; injection htr2 with e3 e4
            subst e1 e2 e3 e4
            have HF4 := Lib.hid (feesFor_in (me := me) (mi := mi) (mo := mo) hT1 hk1)
            clear Hpay Hboard Htrav hbo htr
            generalize feesN L1 k1 = q0 at *; generalize ml * me = q1 at *; generalize travelV mi mo _ ms = q2 at *
            go_wp2_with fail
            refine (impl_FeesFor A1 c1 L1 me mi mo (k1 : Int) v1 HR1.out (by omega)).mono ?_
            rintro e v1 ⟨he, hbv⟩
            rw [HF4.out] at he; subst he
            have hzv := hbv.size
            replace HR1 := Lib.hid (rdW hbv HR1.out)
            replace HR3 := Lib.hid (rdW hbv HR3.out)
            replace HR4 := Lib.hid (rdW hbv HR4.out)
            replace HB := Lib.hid (bt HB.out hbv)
            replace cxW2_0 := fun i => (hbv.cell (by (try simp only); omega)).trans (cxW2_0 i)
            replace cxW2_1 := fun i => (hbv.cell (by (try simp only); omega)).trans (cxW2_1 i)
            replace cxW20_0 := fun i => (hbv.cell (by (try simp only); omega)).trans (cxW20_0 i)
            replace cxW30_0 := fun i => (hbv.cell (by (try simp only); omega)).trans (cxW30_0 i)
            go_wp2
            go_ret
            exact ⟨by simp, HB.out⟩
          · go_wp2
            go_ret
            exact ⟨rfl, HB.out⟩
      · by_cases hpc : pc = 0
        · subst hpc
          obtain ⟨hT1, hb1, hb2, ⟨k1, rfl, hk1, hb3, rfl⟩, hbo, htr⟩ := payFor_ok Hpay.out
          have hbo2 := hbo.symm.trans Hboard.out; have htr2 := htr.symm.trans Htrav.out
          injection hbo2 with e1 e2; injection htr2 with e3 e4
          subst e1 e2 e3 e4
          have HF4 := Lib.hid (feesFor_in (me := me) (mi := mi) (mo := mo) hT1 hk1)
          clear Hpay Hboard Htrav hbo htr
          generalize feesN L1 k1 = q0 at *; generalize ml * me = q1 at *; generalize travelV mi mo _ ms = q2 at *
          go_wp2_with fail
          refine (impl_FeesFor A1 c1 L1 me mi mo (k1 : Int) v1 HR1.out (by omega)).mono ?_
          rintro e v1 ⟨he, hbv⟩
          rw [HF4.out] at he; subst he
          have hzv := hbv.size
          replace HR1 := Lib.hid (rdW hbv HR1.out)
          replace HR3 := Lib.hid (rdW hbv HR3.out)
          replace HR4 := Lib.hid (rdW hbv HR4.out)
          replace HB := Lib.hid (bt HB.out hbv)
          replace cxW2_0 := fun i => (hbv.cell (by (try simp only); omega)).trans (cxW2_0 i)
          replace cxW2_1 := fun i => (hbv.cell (by (try simp only); omega)).trans (cxW2_1 i)
          replace cxW20_0 := fun i => (hbv.cell (by (try simp only); omega)).trans (cxW20_0 i)
          replace cxW30_0 := fun i => (hbv.cell (by (try simp only); omega)).trans (cxW30_0 i)
          go_wp2
          go_ret
          exact ⟨by simp, HB.out⟩
        · go_wp2
          go_ret
          exact ⟨rfl, HB.out⟩
    · obtain rfl : n = 1000 := by omega
      replace HF1 : Hid (feesFor L3 me3 mi3 mo3 1000 = (feesN L3 1000, 0)) := HF1
      have hff : feesFor L3 me3 mi3 mo3 1001 = (0, 2) := feesFor_out hT3 (by omega)
      have HF2 := Lib.hid hff; clear hff hgt
      generalize feesN L3 1000 = f0 at *
      go_wp2_with fail
      refine (impl_FeesFor A3 c3 L3 me3 mi3 mo3 1000 w1 HR3.out (by omega)).mono ?_
      rintro e v1 ⟨he, hbv⟩
      rw [HF1.out] at he; subst he
      have hzv := hbv.size
      replace HR1 := Lib.hid (rdW hbv HR1.out)
      replace HR3 := Lib.hid (rdW hbv HR3.out)
      replace HR4 := Lib.hid (rdW hbv HR4.out)
      replace HB := Lib.hid (bt HB.out hbv)
      replace cxW2_0 := fun i => (hbv.cell (by (try simp only); omega)).trans (cxW2_0 i)
      replace cxW2_1 := fun i => (hbv.cell (by (try simp only); omega)).trans (cxW2_1 i)
      replace cxW20_0 := fun i => (hbv.cell (by (try simp only); omega)).trans (cxW20_0 i)
      replace cxW30_0 := fun i => (hbv.cell (by (try simp only); omega)).trans (cxW30_0 i)
      go_wp2_with fail
      refine (impl_FeesFor A3 c3 L3 me3 mi3 mo3 1001 v1 HR3.out (by omega)).mono ?_
      rintro e v1 ⟨he, hbv⟩
      rw [HF2.out] at he; subst he
      have hzv := hbv.size
      replace HR1 := Lib.hid (rdW hbv HR1.out)
      replace HR3 := Lib.hid (rdW hbv HR3.out)
      replace HR4 := Lib.hid (rdW hbv HR4.out)
      replace HB := Lib.hid (bt HB.out hbv)
      replace cxW2_0 := fun i => (hbv.cell (by (try simp only); omega)).trans (cxW2_0 i)
      replace cxW2_1 := fun i => (hbv.cell (by (try simp only); omega)).trans (cxW2_1 i)
      replace cxW20_0 := fun i => (hbv.cell (by (try simp only); omega)).trans (cxW20_0 i)
      replace cxW30_0 := fun i => (hbv.cell (by (try simp only); omega)).trans (cxW30_0 i)
      by_cases h7 : fc = 0
      · by_cases hx4 : 0 < x4
        · subst h7
          obtain ⟨hT4, k, rfl, hk, rfl⟩ := feesFor_ok Hfees.out
          obtain ⟨j, rfl⟩ : ∃ j : Nat, k = j + 1 := ⟨k - 1, by omega⟩
          have HF3 := Lib.hid (feesFor_in (me := me4) (mi := mi4) (mo := mo4) hT4 (n := j) (by omega))
          have hmono := feesN_mono (tar_cents hT4) j
          generalize feesN L4 j = g0 at *; generalize feesN L4 (j + 1) = g1 at *
          have hw7 : IntKind.i64.wrap (((j + 1 : Nat) : Int) - 1) = (j : Int) := by rw [IntWalk.i64_in _ (by omega)]; omega
          go_wp2_with fail
          refine (impl_FeesFor A4 c4 L4 me4 mi4 mo4 (j : Int) v1 HR4.out (by omega)).mono ?_
          rintro e v1 ⟨he, hbv⟩
          rw [HF3.out] at he; subst he
          have hzv := hbv.size
          replace HR1 := Lib.hid (rdW hbv HR1.out)
          replace HR3 := Lib.hid (rdW hbv HR3.out)
          replace HR4 := Lib.hid (rdW hbv HR4.out)
          replace HB := Lib.hid (bt HB.out hbv)
          replace cxW2_0 := fun i => (hbv.cell (by (try simp only); omega)).trans (cxW2_0 i)
          replace cxW2_1 := fun i => (hbv.cell (by (try simp only); omega)).trans (cxW2_1 i)
          replace cxW20_0 := fun i => (hbv.cell (by (try simp only); omega)).trans (cxW20_0 i)
          replace cxW30_0 := fun i => (hbv.cell (by (try simp only); omega)).trans (cxW30_0 i)
          by_cases hpc : pc = 0
          · subst hpc
            obtain ⟨hT1, hb1, hb2, ⟨k1, rfl, hk1, hb3, rfl⟩, hbo, htr⟩ := payFor_ok Hpay.out
            have hbo2 := hbo.symm.trans Hboard.out; have htr2 := htr.symm.trans Htrav.out
            injection hbo2 with e1 e2; injection htr2 with e3 e4
            subst e1 e2 e3 e4
            have HF4 := Lib.hid (feesFor_in (me := me) (mi := mi) (mo := mo) hT1 hk1)
            clear Hpay Hboard Htrav hbo htr
            generalize feesN L1 k1 = q0 at *; generalize ml * me = q1 at *; generalize travelV mi mo _ ms = q2 at *
            go_wp2_with fail
            refine (impl_FeesFor A1 c1 L1 me mi mo (k1 : Int) v1 HR1.out (by omega)).mono ?_
            rintro e v1 ⟨he, hbv⟩
            rw [HF4.out] at he; subst he
            have hzv := hbv.size
            replace HR1 := Lib.hid (rdW hbv HR1.out)
            replace HR3 := Lib.hid (rdW hbv HR3.out)
            replace HR4 := Lib.hid (rdW hbv HR4.out)
            replace HB := Lib.hid (bt HB.out hbv)
            replace cxW2_0 := fun i => (hbv.cell (by (try simp only); omega)).trans (cxW2_0 i)
            replace cxW2_1 := fun i => (hbv.cell (by (try simp only); omega)).trans (cxW2_1 i)
            replace cxW20_0 := fun i => (hbv.cell (by (try simp only); omega)).trans (cxW20_0 i)
            replace cxW30_0 := fun i => (hbv.cell (by (try simp only); omega)).trans (cxW30_0 i)
            go_wp2
            go_ret
            exact ⟨by simp, HB.out⟩
          · go_wp2
            go_ret
            exact ⟨rfl, HB.out⟩
        · by_cases hpc : pc = 0
          · subst hpc
            obtain ⟨hT1, hb1, hb2, ⟨k1, rfl, hk1, hb3, rfl⟩, hbo, htr⟩ := payFor_ok Hpay.out
            have hbo2 := hbo.symm.trans Hboard.out; have htr2 := htr.symm.trans Htrav.out
            injection hbo2 with e1 e2; injection htr2 with e3 e4
            subst e1 e2 e3 e4
            have HF4 := Lib.hid (feesFor_in (me := me) (mi := mi) (mo := mo) hT1 hk1)
            clear Hpay Hboard Htrav hbo htr
            generalize feesN L1 k1 = q0 at *; generalize ml * me = q1 at *; generalize travelV mi mo _ ms = q2 at *
            go_wp2_with fail
            refine (impl_FeesFor A1 c1 L1 me mi mo (k1 : Int) v1 HR1.out (by omega)).mono ?_
            rintro e v1 ⟨he, hbv⟩
            rw [HF4.out] at he; subst he
            have hzv := hbv.size
            replace HR1 := Lib.hid (rdW hbv HR1.out)
            replace HR3 := Lib.hid (rdW hbv HR3.out)
            replace HR4 := Lib.hid (rdW hbv HR4.out)
            replace HB := Lib.hid (bt HB.out hbv)
            replace cxW2_0 := fun i => (hbv.cell (by (try simp only); omega)).trans (cxW2_0 i)
            replace cxW2_1 := fun i => (hbv.cell (by (try simp only); omega)).trans (cxW2_1 i)
            replace cxW20_0 := fun i => (hbv.cell (by (try simp only); omega)).trans (cxW20_0 i)
            replace cxW30_0 := fun i => (hbv.cell (by (try simp only); omega)).trans (cxW30_0 i)
            go_wp2
            go_ret
            exact ⟨by simp, HB.out⟩
          · go_wp2
            go_ret
            exact ⟨rfl, HB.out⟩
      · by_cases hpc : pc = 0
        · subst hpc
          obtain ⟨hT1, hb1, hb2, ⟨k1, rfl, hk1, hb3, rfl⟩, hbo, htr⟩ := payFor_ok Hpay.out
          have hbo2 := hbo.symm.trans Hboard.out; have htr2 := htr.symm.trans Htrav.out
          injection hbo2 with e1 e2; injection htr2 with e3 e4
          subst e1 e2 e3 e4
          have HF4 := Lib.hid (feesFor_in (me := me) (mi := mi) (mo := mo) hT1 hk1)
          clear Hpay Hboard Htrav hbo htr
          generalize feesN L1 k1 = q0 at *; generalize ml * me = q1 at *; generalize travelV mi mo _ ms = q2 at *
          go_wp2_with fail
          refine (impl_FeesFor A1 c1 L1 me mi mo (k1 : Int) v1 HR1.out (by omega)).mono ?_
          rintro e v1 ⟨he, hbv⟩
          rw [HF4.out] at he; subst he
          have hzv := hbv.size
          replace HR1 := Lib.hid (rdW hbv HR1.out)
          replace HR3 := Lib.hid (rdW hbv HR3.out)
          replace HR4 := Lib.hid (rdW hbv HR4.out)
          replace HB := Lib.hid (bt HB.out hbv)
          replace cxW2_0 := fun i => (hbv.cell (by (try simp only); omega)).trans (cxW2_0 i)
          replace cxW2_1 := fun i => (hbv.cell (by (try simp only); omega)).trans (cxW2_1 i)
          replace cxW20_0 := fun i => (hbv.cell (by (try simp only); omega)).trans (cxW20_0 i)
          replace cxW30_0 := fun i => (hbv.cell (by (try simp only); omega)).trans (cxW30_0 i)
          go_wp2
          go_ret
          exact ⟨by simp, HB.out⟩
        · go_wp2
          go_ret
          exact ⟨rfl, HB.out⟩
  · by_cases h7 : fc = 0
    · by_cases hx4 : 0 < x4
      · subst h7
        obtain ⟨hT4, k, rfl, hk, rfl⟩ := feesFor_ok Hfees.out
        obtain ⟨j, rfl⟩ : ∃ j : Nat, k = j + 1 := ⟨k - 1, by omega⟩
        have HF3 := Lib.hid (feesFor_in (me := me4) (mi := mi4) (mo := mo4) hT4 (n := j) (by omega))
        have hmono := feesN_mono (tar_cents hT4) j
        generalize feesN L4 j = g0 at *; generalize feesN L4 (j + 1) = g1 at *
        have hw7 : IntKind.i64.wrap (((j + 1 : Nat) : Int) - 1) = (j : Int) := by rw [IntWalk.i64_in _ (by omega)]; omega
        go_wp2_with fail
        refine (impl_FeesFor A4 c4 L4 me4 mi4 mo4 (j : Int) w1 HR4.out (by omega)).mono ?_
        rintro e v1 ⟨he, hbv⟩
        rw [HF3.out] at he; subst he
        have hzv := hbv.size
        replace HR1 := Lib.hid (rdW hbv HR1.out)
        replace HR3 := Lib.hid (rdW hbv HR3.out)
        replace HR4 := Lib.hid (rdW hbv HR4.out)
        replace HB := Lib.hid (bt HB.out hbv)
        replace cxW2_0 := fun i => (hbv.cell (by (try simp only); omega)).trans (cxW2_0 i)
        replace cxW2_1 := fun i => (hbv.cell (by (try simp only); omega)).trans (cxW2_1 i)
        replace cxW20_0 := fun i => (hbv.cell (by (try simp only); omega)).trans (cxW20_0 i)
        replace cxW30_0 := fun i => (hbv.cell (by (try simp only); omega)).trans (cxW30_0 i)
        by_cases hpc : pc = 0
        · subst hpc
          obtain ⟨hT1, hb1, hb2, ⟨k1, rfl, hk1, hb3, rfl⟩, hbo, htr⟩ := payFor_ok Hpay.out
          have hbo2 := hbo.symm.trans Hboard.out; have htr2 := htr.symm.trans Htrav.out
          injection hbo2 with e1 e2; injection htr2 with e3 e4
          subst e1 e2 e3 e4
          have HF4 := Lib.hid (feesFor_in (me := me) (mi := mi) (mo := mo) hT1 hk1)
          clear Hpay Hboard Htrav hbo htr
          generalize feesN L1 k1 = q0 at *; generalize ml * me = q1 at *; generalize travelV mi mo _ ms = q2 at *
          go_wp2_with fail
          refine (impl_FeesFor A1 c1 L1 me mi mo (k1 : Int) v1 HR1.out (by omega)).mono ?_
          rintro e v1 ⟨he, hbv⟩
          rw [HF4.out] at he; subst he
          have hzv := hbv.size
          replace HR1 := Lib.hid (rdW hbv HR1.out)
          replace HR3 := Lib.hid (rdW hbv HR3.out)
          replace HR4 := Lib.hid (rdW hbv HR4.out)
          replace HB := Lib.hid (bt HB.out hbv)
          replace cxW2_0 := fun i => (hbv.cell (by (try simp only); omega)).trans (cxW2_0 i)
          replace cxW2_1 := fun i => (hbv.cell (by (try simp only); omega)).trans (cxW2_1 i)
          replace cxW20_0 := fun i => (hbv.cell (by (try simp only); omega)).trans (cxW20_0 i)
          replace cxW30_0 := fun i => (hbv.cell (by (try simp only); omega)).trans (cxW30_0 i)
          go_wp2
          go_ret
          exact ⟨by simp, HB.out⟩
        · go_wp2
          go_ret
          exact ⟨rfl, HB.out⟩
      · by_cases hpc : pc = 0
        · subst hpc
          obtain ⟨hT1, hb1, hb2, ⟨k1, rfl, hk1, hb3, rfl⟩, hbo, htr⟩ := payFor_ok Hpay.out
          have hbo2 := hbo.symm.trans Hboard.out; have htr2 := htr.symm.trans Htrav.out
          injection hbo2 with e1 e2; injection htr2 with e3 e4
          subst e1 e2 e3 e4
          have HF4 := Lib.hid (feesFor_in (me := me) (mi := mi) (mo := mo) hT1 hk1)
          clear Hpay Hboard Htrav hbo htr
          generalize feesN L1 k1 = q0 at *; generalize ml * me = q1 at *; generalize travelV mi mo _ ms = q2 at *
          go_wp2_with fail
          refine (impl_FeesFor A1 c1 L1 me mi mo (k1 : Int) w1 HR1.out (by omega)).mono ?_
          rintro e v1 ⟨he, hbv⟩
          rw [HF4.out] at he; subst he
          have hzv := hbv.size
          replace HR1 := Lib.hid (rdW hbv HR1.out)
          replace HR3 := Lib.hid (rdW hbv HR3.out)
          replace HR4 := Lib.hid (rdW hbv HR4.out)
          replace HB := Lib.hid (bt HB.out hbv)
          replace cxW2_0 := fun i => (hbv.cell (by (try simp only); omega)).trans (cxW2_0 i)
          replace cxW2_1 := fun i => (hbv.cell (by (try simp only); omega)).trans (cxW2_1 i)
          replace cxW20_0 := fun i => (hbv.cell (by (try simp only); omega)).trans (cxW20_0 i)
          replace cxW30_0 := fun i => (hbv.cell (by (try simp only); omega)).trans (cxW30_0 i)
          go_wp2
          go_ret
          exact ⟨by simp, HB.out⟩
        · go_wp2
          go_ret
          exact ⟨rfl, HB.out⟩
    · by_cases hpc : pc = 0
      · subst hpc
        obtain ⟨hT1, hb1, hb2, ⟨k1, rfl, hk1, hb3, rfl⟩, hbo, htr⟩ := payFor_ok Hpay.out
        have hbo2 := hbo.symm.trans Hboard.out; have htr2 := htr.symm.trans Htrav.out
        injection hbo2 with e1 e2; injection htr2 with e3 e4
        subst e1 e2 e3 e4
        have HF4 := Lib.hid (feesFor_in (me := me) (mi := mi) (mo := mo) hT1 hk1)
        clear Hpay Hboard Htrav hbo htr
        generalize feesN L1 k1 = q0 at *; generalize ml * me = q1 at *; generalize travelV mi mo _ ms = q2 at *
        go_wp2_with fail
        refine (impl_FeesFor A1 c1 L1 me mi mo (k1 : Int) w1 HR1.out (by omega)).mono ?_
        rintro e v1 ⟨he, hbv⟩
        rw [HF4.out] at he; subst he
        have hzv := hbv.size
        replace HR1 := Lib.hid (rdW hbv HR1.out)
        replace HR3 := Lib.hid (rdW hbv HR3.out)
        replace HR4 := Lib.hid (rdW hbv HR4.out)
        replace HB := Lib.hid (bt HB.out hbv)
        replace cxW2_0 := fun i => (hbv.cell (by (try simp only); omega)).trans (cxW2_0 i)
        replace cxW2_1 := fun i => (hbv.cell (by (try simp only); omega)).trans (cxW2_1 i)
        replace cxW20_0 := fun i => (hbv.cell (by (try simp only); omega)).trans (cxW20_0 i)
        replace cxW30_0 := fun i => (hbv.cell (by (try simp only); omega)).trans (cxW30_0 i)
        go_wp2
        go_ret
        exact ⟨by simp, HB.out⟩
      · go_wp2
        go_ret
        exact ⟨rfl, HB.out⟩
end Go.Proofs.Ythkobjadfeidmaa
