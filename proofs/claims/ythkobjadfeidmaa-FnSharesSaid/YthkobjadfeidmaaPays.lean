/- Contracts: FeesFor, BoardFor, TravelFor, PayFor, DaysFor of both texts. -/
import Derived.Test.YthkobjadfeidmaaPay
namespace Go.Proofs.Ythkobjadfeidmaa
open Go.RowKit

def bothOk (L : List TierD) (me mi mo d ml ms : Int) : Bool := tarOk L me mi mo && srvOk d ml ms
def travelV (mi mo d ms : Int) : Int := d * min (ms * mi) mo
def boardFor (L : List TierD) (me mi mo d ml ms : Int) : Int × Int := if bothOk L me mi mo d ml ms then (ml * me, 0) else (0, 1)
def travelFor (L : List TierD) (me mi mo d ml ms : Int) : Int × Int := if bothOk L me mi mo d ml ms then (travelV mi mo d ms, 0) else (0, 1)
def payFor (L : List TierD) (me mi mo d ml ms : Int) : Int × Int := if bothOk L me mi mo d ml ms then (feesN L d.toNat + ml * me + travelV mi mo d ms, 0) else (0, 1)
def feesFor (L : List TierD) (me mi mo n : Int) : Int × Int := if tarOk L me mi mo then (if inB n 0 1000 then (feesN L n.toNat, 0) else (0, 2)) else (0, 1)

theorem tar_bds {L : List TierD} {me mi mo : Int} (h : tarOk L me mi mo = true) : (0 ≤ me ∧ me ≤ 10000) ∧ (0 ≤ mi ∧ mi ≤ 10000) ∧ (0 ≤ mo ∧ mo ≤ 100000) := by
  simp only [tarOk, Bool.and_eq_true] at h
  exact ⟨inB_iff.1 h.1.1.2, inB_iff.1 h.1.2, inB_iff.1 h.2⟩
theorem srv_bds {d ml ms : Int} (h : srvOk d ml ms = true) : (0 ≤ d ∧ d ≤ 1000) ∧ (0 ≤ ml ∧ ml ≤ 3000) ∧ (0 ≤ ms ∧ ms ≤ 10000) := by
  simp only [srvOk, Bool.and_eq_true] at h
  exact ⟨inB_iff.1 h.1.1, inB_iff.1 h.1.2, inB_iff.1 h.2⟩
theorem mul_bd {a b A B : Int} (h : 0 ≤ a ∧ a ≤ A) (k : 0 ≤ b ∧ b ≤ B) : 0 ≤ a * b ∧ a * b ≤ A * B :=
  ⟨Int.mul_nonneg h.1 k.1, Int.mul_le_mul h.2 k.2 k.1 (by omega)⟩
theorem travel_bd {mi mo d ms : Int} (h1 : 0 ≤ mi ∧ mi ≤ 10000) (h2 : 0 ≤ mo ∧ mo ≤ 100000) (h3 : 0 ≤ d ∧ d ≤ 1000) (h4 : 0 ≤ ms ∧ ms ≤ 10000) :
    (0 ≤ ms * mi ∧ ms * mi ≤ 100000000) ∧ 0 ≤ travelV mi mo d ms ∧ travelV mi mo d ms ≤ 100000000 := by
  have e := mul_bd h4 h1
  have e2 : 0 ≤ min (ms * mi) mo ∧ min (ms * mi) mo ≤ 100000 := by omega
  have e3 := mul_bd h3 e2
  unfold travelV
  omega

theorem l29Code_c (A : Option Addr) (c : Nat) (L : List TierD) (me mi mo : Int) (d ml ms : Int) (b : Bool) (w : World) (hr : Rd w w.heap.size A (L.length * 2) (L.flatMap tierC)) (hl : L.length ≤ 140737488355328) (h : bothOk L me mi mo d ml ms = b) :
    Calls Try.prog 63 #[.agg #[.slice A L.length c, .int .i64 me, .int .i64 mi, .int .i64 mo], .agg #[.int .i64 d, .int .i64 ml, .int .i64 ms]] w fun e w' => e = .returned (.int .i64 (if b then 0 else 1)) ∧ Below w.heap.size w w' := by
  unfold bothOk at h
  cases hT : tarOk L me mi mo
  · rw [hT, Bool.false_and] at h
    subst h
    go_enter Try.func63, Try.ntmps63
    go_wp2_with fail
    generalize hW0 : (w.alloc _).alloc _ = W0
    have hbW0 : Below w.heap.size w W0 := by subst hW0; exact ((Below.refl _ _).alloc (Nat.le_refl _) _).alloc (by (try simp) <;> (try omega)) _
    have hsW0 : W0.heap.size = w.heap.size + 2 := by subst hW0; simp
    have cxW0_0 : ∀ i, W0.cell? ⟨w.heap.size, i, none⟩ = (#[.slice A L.length c, .int .i64 me, .int .i64 mi, .int .i64 mo] : Array Value)[i]? := by intro i; subst hW0; simp [go_sem]
    have cxW0_1 : ∀ i, W0.cell? ⟨w.heap.size + 1, i, none⟩ = (#[.int .i64 d, .int .i64 ml, .int .i64 ms] : Array Value)[i]? := by intro i; subst hW0; simp [go_sem]
    have HSW0 := Lib.hid hsW0; clear hW0 hsW0
    refine (spec_IsTariff A c L me mi mo _ W0 (rdW hbW0 hr) hl hT).mono ?_
    rintro e w1 ⟨rfl, hb1⟩
    go_wp2
    go_ret
    exact ⟨rfl, bt hbW0 hb1⟩
  · rw [hT, Bool.true_and] at h
    cases b
    all_goals
      go_enter Try.func63, Try.ntmps63
      go_wp2_with fail
      generalize hW0 : (w.alloc _).alloc _ = W0
      have hbW0 : Below w.heap.size w W0 := by subst hW0; exact ((Below.refl _ _).alloc (Nat.le_refl _) _).alloc (by (try simp) <;> (try omega)) _
      have hsW0 : W0.heap.size = w.heap.size + 2 := by subst hW0; simp
      have cxW0_0 : ∀ i, W0.cell? ⟨w.heap.size, i, none⟩ = (#[.slice A L.length c, .int .i64 me, .int .i64 mi, .int .i64 mo] : Array Value)[i]? := by intro i; subst hW0; simp [go_sem]
      have cxW0_1 : ∀ i, W0.cell? ⟨w.heap.size + 1, i, none⟩ = (#[.int .i64 d, .int .i64 ml, .int .i64 ms] : Array Value)[i]? := by intro i; subst hW0; simp [go_sem]
      have HSW0 := Lib.hid hsW0; clear hW0 hsW0
      refine (spec_IsTariff A c L me mi mo _ W0 (rdW hbW0 hr) hl hT).mono ?_
      rintro e w1 ⟨rfl, hb1⟩
      replace cxW0_1 := fun i => (hb1.cell (by (try simp only); have := HSW0.out; omega)).trans (cxW0_1 i)
      go_wp2_with fail
      refine (spec_IsService d ml ms _ w1 h).mono ?_
      rintro e w2 ⟨rfl, hb2⟩
      go_wp2
      go_ret
      exact ⟨rfl, bt (bt hbW0 hb1) hb2⟩

theorem l29Travel_c (A : Option Addr) (c : Nat) (L : List TierD) (me mi mo : Int) (d ml ms : Int) (w : World) (h1 : 0 ≤ mi ∧ mi ≤ 10000) (h2 : 0 ≤ mo ∧ mo ≤ 100000) (h3 : 0 ≤ d ∧ d ≤ 1000) (h4 : 0 ≤ ms ∧ ms ≤ 10000) :
    Calls Try.prog 65 #[.agg #[.slice A L.length c, .int .i64 me, .int .i64 mi, .int .i64 mo], .agg #[.int .i64 d, .int .i64 ml, .int .i64 ms]] w fun e w' => e = .returned (.int .i64 (travelV mi mo d ms)) ∧ Below w.heap.size w w' := by
  obtain ⟨e1, e2⟩ := travel_bd h1 h2 h3 h4
  unfold travelV at e2 ⊢
  by_cases h : ms * mi ≤ mo
  · rw [Int.min_eq_left h] at e2 ⊢
    go_enter Try.func65, Try.ntmps65
    go_wp2
    go_ret
    exact ⟨rfl, ((Below.refl _ _).alloc (Nat.le_refl _) _).alloc (by simp) _⟩
  · rw [Int.min_eq_right (by omega)] at e2 ⊢
    have _x : (0 : Int) ≤ 1 := by omega
    go_enter Try.func65, Try.ntmps65
    go_wp2
    go_ret
    exact ⟨rfl, ((Below.refl _ _).alloc (Nat.le_refl _) _).alloc (by simp) _⟩

theorem travel_c (A : Option Addr) (c : Nat) (L : List TierD) (me mi mo : Int) (d ml ms : Int) (w : World) (h1 : 0 ≤ mi ∧ mi ≤ 10000) (h2 : 0 ≤ mo ∧ mo ≤ 100000) (h3 : 0 ≤ d ∧ d ≤ 1000) (h4 : 0 ≤ ms ∧ ms ≤ 10000) :
    Calls Try.prog 62 #[.agg #[.slice A L.length c, .int .i64 me, .int .i64 mi, .int .i64 mo], .agg #[.int .i64 d, .int .i64 ml, .int .i64 ms]] w fun e w' => e = .returned (.int .i64 (travelV mi mo d ms)) ∧ Below w.heap.size w w' := by
  obtain ⟨e1, e2⟩ := travel_bd h1 h2 h3 h4
  unfold travelV at e2 ⊢
  by_cases h : ms * mi ≤ mo
  · rw [Int.min_eq_left h] at e2 ⊢
    go_enter Try.func62, Try.ntmps62
    go_wp2
    go_ret
    exact ⟨rfl, ((Below.refl _ _).alloc (Nat.le_refl _) _).alloc (by simp) _⟩
  · rw [Int.min_eq_right (by omega)] at e2 ⊢
    have _x : (0 : Int) ≤ 1 := by omega
    go_enter Try.func62, Try.ntmps62
    go_wp2
    go_ret
    exact ⟨rfl, ((Below.refl _ _).alloc (Nat.le_refl _) _).alloc (by simp) _⟩

theorem spec_BoardFor (A : Option Addr) (c : Nat) (L : List TierD) (me mi mo : Int) (d ml ms : Int) (w : World) (hr : Rd w w.heap.size A (L.length * 2) (L.flatMap tierC)) (hl : L.length ≤ 140737488355328) :
    Calls Try.prog 31 #[.agg #[.slice A L.length c, .int .i64 me, .int .i64 mi, .int .i64 mo], .agg #[.int .i64 d, .int .i64 ml, .int .i64 ms]] w fun e w' => e = .returned (.tuple #[.int .i64 (boardFor L me mi mo d ml ms).1, .int .i64 (boardFor L me mi mo d ml ms).2]) ∧ Below w.heap.size w w' := by
  go_enter Try.func31, Try.ntmps31
  go_wp2_with fail
  generalize hW0 : (w.alloc _).alloc _ = W0
  have hbW0 : Below w.heap.size w W0 := by subst hW0; exact ((Below.refl _ _).alloc (Nat.le_refl _) _).alloc (by (try simp) <;> (try omega)) _
  have hsW0 : W0.heap.size = w.heap.size + 2 := by subst hW0; simp
  have cxW0_0 : ∀ i, W0.cell? ⟨w.heap.size, i, none⟩ = (#[.slice A L.length c, .int .i64 me, .int .i64 mi, .int .i64 mo] : Array Value)[i]? := by intro i; subst hW0; simp [go_sem]
  have cxW0_1 : ∀ i, W0.cell? ⟨w.heap.size + 1, i, none⟩ = (#[.int .i64 d, .int .i64 ml, .int .i64 ms] : Array Value)[i]? := by intro i; subst hW0; simp [go_sem]
  have HSW0 := Lib.hid hsW0; clear hW0 hsW0
  cases hb : bothOk L me mi mo d ml ms
  · refine (l29Code_c A c L me mi mo d ml ms _ W0 (rdW hbW0 hr) hl hb).mono ?_
    rintro e w1 ⟨rfl, hb1⟩
    go_wp2
    go_ret2
    exact ⟨by simp [boardFor, hb], bt hbW0 hb1⟩
  · refine (l29Code_c A c L me mi mo d ml ms _ W0 (rdW hbW0 hr) hl hb).mono ?_
    rintro e w1 ⟨rfl, hb1⟩
    replace cxW0_0 := fun i => (hb1.cell (by (try simp only); have := HSW0.out; omega)).trans (cxW0_0 i)
    replace cxW0_1 := fun i => (hb1.cell (by (try simp only); have := HSW0.out; omega)).trans (cxW0_1 i)
    have hh := hb
    simp only [bothOk, Bool.and_eq_true] at hh
    have e1 := mul_bd (srv_bds hh.2).2.1 (tar_bds hh.1).1
    clear hh
    go_wp2
    go_ret2
    exact ⟨by simp [boardFor, hb], bt hbW0 hb1⟩

theorem board_c (A : Option Addr) (c : Nat) (L : List TierD) (me mi mo : Int) (d ml ms : Int) (w : World) (e1 : 0 ≤ ml * me ∧ ml * me ≤ 30000000) :
    Calls Try.prog 61 #[.agg #[.slice A L.length c, .int .i64 me, .int .i64 mi, .int .i64 mo], .agg #[.int .i64 d, .int .i64 ml, .int .i64 ms]] w fun e w' => e = .returned (.int .i64 (ml * me)) ∧ Below w.heap.size w w' := by
  go_enter Try.func61, Try.ntmps61
  go_wp2
  go_ret
  exact ⟨rfl, ((Below.refl _ _).alloc (Nat.le_refl _) _).alloc (by simp) _⟩

theorem spec_TravelFor (A : Option Addr) (c : Nat) (L : List TierD) (me mi mo : Int) (d ml ms : Int) (w : World) (hr : Rd w w.heap.size A (L.length * 2) (L.flatMap tierC)) (hl : L.length ≤ 140737488355328) :
    Calls Try.prog 33 #[.agg #[.slice A L.length c, .int .i64 me, .int .i64 mi, .int .i64 mo], .agg #[.int .i64 d, .int .i64 ml, .int .i64 ms]] w fun e w' => e = .returned (.tuple #[.int .i64 (travelFor L me mi mo d ml ms).1, .int .i64 (travelFor L me mi mo d ml ms).2]) ∧ Below w.heap.size w w' := by
  go_enter Try.func33, Try.ntmps33
  go_wp2_with fail
  generalize hW0 : (w.alloc _).alloc _ = W0
  have hbW0 : Below w.heap.size w W0 := by subst hW0; exact ((Below.refl _ _).alloc (Nat.le_refl _) _).alloc (by (try simp) <;> (try omega)) _
  have hsW0 : W0.heap.size = w.heap.size + 2 := by subst hW0; simp
  have cxW0_0 : ∀ i, W0.cell? ⟨w.heap.size, i, none⟩ = (#[.slice A L.length c, .int .i64 me, .int .i64 mi, .int .i64 mo] : Array Value)[i]? := by intro i; subst hW0; simp [go_sem]
  have cxW0_1 : ∀ i, W0.cell? ⟨w.heap.size + 1, i, none⟩ = (#[.int .i64 d, .int .i64 ml, .int .i64 ms] : Array Value)[i]? := by intro i; subst hW0; simp [go_sem]
  have HSW0 := Lib.hid hsW0; clear hW0 hsW0
  cases hb : bothOk L me mi mo d ml ms
  · refine (l29Code_c A c L me mi mo d ml ms _ W0 (rdW hbW0 hr) hl hb).mono ?_
    rintro e w1 ⟨rfl, hb1⟩
    go_wp2
    go_ret2
    exact ⟨by simp [travelFor, hb], bt hbW0 hb1⟩
  · refine (l29Code_c A c L me mi mo d ml ms _ W0 (rdW hbW0 hr) hl hb).mono ?_
    rintro e w1 ⟨rfl, hb1⟩
    replace cxW0_0 := fun i => (hb1.cell (by (try simp only); have := HSW0.out; omega)).trans (cxW0_0 i)
    replace cxW0_1 := fun i => (hb1.cell (by (try simp only); have := HSW0.out; omega)).trans (cxW0_1 i)
    have hh := hb
    simp only [bothOk, Bool.and_eq_true] at hh
    obtain ⟨k1, k2, k3⟩ := tar_bds hh.1
    obtain ⟨k4, k5, k6⟩ := srv_bds hh.2
    clear hh
    go_wp2_with fail
    refine (l29Travel_c A c L me mi mo d ml ms w1 k2 k3 k4 k6).mono ?_
    rintro e w2 ⟨rfl, hb2⟩
    go_wp2
    go_ret2
    exact ⟨by simp [travelFor, hb], bt (bt hbW0 hb1) hb2⟩

theorem spec_PayFor (A : Option Addr) (c : Nat) (L : List TierD) (me mi mo : Int) (d ml ms : Int) (w : World) (hr : Rd w w.heap.size A (L.length * 2) (L.flatMap tierC)) (hl : L.length ≤ 140737488355328) :
    Calls Try.prog 29 #[.agg #[.slice A L.length c, .int .i64 me, .int .i64 mi, .int .i64 mo], .agg #[.int .i64 d, .int .i64 ml, .int .i64 ms]] w fun e w' => e = .returned (.tuple #[.int .i64 (payFor L me mi mo d ml ms).1, .int .i64 (payFor L me mi mo d ml ms).2]) ∧ Below w.heap.size w w' := by
  go_enter Try.func29, Try.ntmps29
  go_wp2_with fail
  generalize hW0 : (w.alloc _).alloc _ = W0
  have hbW0 : Below w.heap.size w W0 := by subst hW0; exact ((Below.refl _ _).alloc (Nat.le_refl _) _).alloc (by (try simp) <;> (try omega)) _
  have hsW0 : W0.heap.size = w.heap.size + 2 := by subst hW0; simp
  have cxW0_0 : ∀ i, W0.cell? ⟨w.heap.size, i, none⟩ = (#[.slice A L.length c, .int .i64 me, .int .i64 mi, .int .i64 mo] : Array Value)[i]? := by intro i; subst hW0; simp [go_sem]
  have cxW0_1 : ∀ i, W0.cell? ⟨w.heap.size + 1, i, none⟩ = (#[.int .i64 d, .int .i64 ml, .int .i64 ms] : Array Value)[i]? := by intro i; subst hW0; simp [go_sem]
  have HSW0 := Lib.hid hsW0; clear hW0 hsW0
  cases hb : bothOk L me mi mo d ml ms
  · refine (l29Code_c A c L me mi mo d ml ms _ W0 (rdW hbW0 hr) hl hb).mono ?_
    rintro e w1 ⟨rfl, hb1⟩
    go_wp2
    go_ret2
    exact ⟨by simp [payFor, hb], bt hbW0 hb1⟩
  · refine (l29Code_c A c L me mi mo d ml ms _ W0 (rdW hbW0 hr) hl hb).mono ?_
    rintro e w1 ⟨rfl, hb1⟩
    replace cxW0_0 := fun i => (hb1.cell (by (try simp only); have := HSW0.out; omega)).trans (cxW0_0 i)
    replace cxW0_1 := fun i => (hb1.cell (by (try simp only); have := HSW0.out; omega)).trans (cxW0_1 i)
    have hs1 := hb1.size
    have hh := hb
    simp only [bothOk, Bool.and_eq_true] at hh
    obtain ⟨k1, k2, k3⟩ := tar_bds hh.1
    obtain ⟨k4, k5, k6⟩ := srv_bds hh.2
    have k7 := mul_bd k5 k1
    obtain ⟨n, rfl⟩ := Int.eq_ofNat_of_zero_le k4.1
    have HC := Lib.hid (tar_cents hh.1)
    have k8 := feesN_bd HC.out n
    have k9 := (travel_bd k2 k3 k4 k6).2
    clear hh
    have kb0 := block_regrown cxW0_0 (by have := HSW0.out; omega)
    have kb1 := block_regrown cxW0_1 (by have := HSW0.out; omega)
    go_wp2_with fail
    refine wp_region_bel mixed (by kernel_rfl) ?_
    repeat (any_goals (first | go_big_quiet_step ((first | exact rg_below (spec_fees A c L me mi mo n _ (by exact (rdW (bt (bt hbW0 hb1) (below_regrown _ _ _)) hr)) hl (by omega) HC.out) | exact rg_below (l29Travel_c A c L me mi mo _ ml ms _ k2 k3 k4 k6))) | quiet_step ((first | exact rg_below (spec_fees A c L me mi mo n _ (by exact (rdW (bt (bt hbW0 hb1) (below_regrown _ _ _)) hr)) hl (by omega) HC.out) | exact rg_below (l29Travel_c A c L me mi mo _ ml ms _ k2 k3 k4 k6))) | (refine wpQuiet_step (fun K hK => ?_); go_simp; (split <;> first | (refine hK _ ?_; clear hK K) | (apply Exists.intro; refine ⟨fun _ => ?_, hK _ ?_⟩; ((first | exact rg_below (spec_fees A c L me mi mo n _ (by exact (rdW (bt (bt hbW0 hb1) (below_regrown _ _ _)) hr)) hl (by omega) HC.out) | exact rg_below (l29Travel_c A c L me mi mo _ ml ms _ k2 k3 k4 k6))); clear hK K)))))
    all_goals (refine wpQuiet_nil ?_; intro w1 hw1)
    go_wp2
    go_ret2
    exact ⟨by simp [payFor, hb], bt (bt hbW0 hb1) hw1⟩

theorem impl_BoardFor (A : Option Addr) (c : Nat) (L : List TierD) (me mi mo : Int) (d ml ms : Int) (w : World) (hr : Rd w w.heap.size A (L.length * 2) (L.flatMap tierC)) (hl : L.length ≤ 140737488355328) :
    Calls Try.prog 30 #[.agg #[.slice A L.length c, .int .i64 me, .int .i64 mi, .int .i64 mo], .agg #[.int .i64 d, .int .i64 ml, .int .i64 ms]] w fun e w' => e = .returned (.tuple #[.int .i64 (boardFor L me mi mo d ml ms).1, .int .i64 (boardFor L me mi mo d ml ms).2]) ∧ Below w.heap.size w w' := by
  cases hT : tarOk L me mi mo
  · go_enter Try.func30, Try.ntmps30
    go_wp2_with fail
    generalize hW0 : (w.alloc _).alloc _ = W0
    have hbW0 : Below w.heap.size w W0 := by subst hW0; exact ((Below.refl _ _).alloc (Nat.le_refl _) _).alloc (by (try simp) <;> (try omega)) _
    have hsW0 : W0.heap.size = w.heap.size + 2 := by subst hW0; simp
    have cxW0_0 : ∀ i, W0.cell? ⟨w.heap.size, i, none⟩ = (#[.slice A L.length c, .int .i64 me, .int .i64 mi, .int .i64 mo] : Array Value)[i]? := by intro i; subst hW0; simp [go_sem]
    have cxW0_1 : ∀ i, W0.cell? ⟨w.heap.size + 1, i, none⟩ = (#[.int .i64 d, .int .i64 ml, .int .i64 ms] : Array Value)[i]? := by intro i; subst hW0; simp [go_sem]
    have HSW0 := Lib.hid hsW0; clear hW0 hsW0
    refine (impl_IsTariff A c L me mi mo _ W0 (rdW hbW0 hr) hl hT).mono ?_
    rintro e w1 ⟨rfl, hb1⟩
    go_wp2
    go_ret2
    exact ⟨by simp [boardFor, bothOk, hT], bt hbW0 hb1⟩
  · cases hS : srvOk d ml ms
    · go_enter Try.func30, Try.ntmps30
      go_wp2_with fail
      generalize hW0 : (w.alloc _).alloc _ = W0
      have hbW0 : Below w.heap.size w W0 := by subst hW0; exact ((Below.refl _ _).alloc (Nat.le_refl _) _).alloc (by (try simp) <;> (try omega)) _
      have hsW0 : W0.heap.size = w.heap.size + 2 := by subst hW0; simp
      have cxW0_0 : ∀ i, W0.cell? ⟨w.heap.size, i, none⟩ = (#[.slice A L.length c, .int .i64 me, .int .i64 mi, .int .i64 mo] : Array Value)[i]? := by intro i; subst hW0; simp [go_sem]
      have cxW0_1 : ∀ i, W0.cell? ⟨w.heap.size + 1, i, none⟩ = (#[.int .i64 d, .int .i64 ml, .int .i64 ms] : Array Value)[i]? := by intro i; subst hW0; simp [go_sem]
      have HSW0 := Lib.hid hsW0; clear hW0 hsW0
      refine (impl_IsTariff A c L me mi mo _ W0 (rdW hbW0 hr) hl hT).mono ?_
      rintro e w1 ⟨rfl, hb1⟩
      replace cxW0_1 := fun i => (hb1.cell (by (try simp only); have := HSW0.out; omega)).trans (cxW0_1 i)
      go_wp2_with fail
      refine (impl_IsService d ml ms _ w1 hS).mono ?_
      rintro e w2 ⟨rfl, hb2⟩
      go_wp2
      go_ret2
      exact ⟨by simp [boardFor, bothOk, hT, hS], bt (bt hbW0 hb1) hb2⟩
    · obtain ⟨k1, k2, k3⟩ := tar_bds hT
      obtain ⟨k4, k5, k6⟩ := srv_bds hS
      have k7 := mul_bd k5 k1
      go_enter Try.func30, Try.ntmps30
      go_wp2_with fail
      generalize hW0 : (w.alloc _).alloc _ = W0
      have hbW0 : Below w.heap.size w W0 := by subst hW0; exact ((Below.refl _ _).alloc (Nat.le_refl _) _).alloc (by (try simp) <;> (try omega)) _
      have hsW0 : W0.heap.size = w.heap.size + 2 := by subst hW0; simp
      have cxW0_0 : ∀ i, W0.cell? ⟨w.heap.size, i, none⟩ = (#[.slice A L.length c, .int .i64 me, .int .i64 mi, .int .i64 mo] : Array Value)[i]? := by intro i; subst hW0; simp [go_sem]
      have cxW0_1 : ∀ i, W0.cell? ⟨w.heap.size + 1, i, none⟩ = (#[.int .i64 d, .int .i64 ml, .int .i64 ms] : Array Value)[i]? := by intro i; subst hW0; simp [go_sem]
      have HSW0 := Lib.hid hsW0; clear hW0 hsW0
      refine (impl_IsTariff A c L me mi mo _ W0 (rdW hbW0 hr) hl hT).mono ?_
      rintro e w1 ⟨rfl, hb1⟩
      replace cxW0_0 := fun i => (hb1.cell (by (try simp only); have := HSW0.out; omega)).trans (cxW0_0 i)
      replace cxW0_1 := fun i => (hb1.cell (by (try simp only); have := HSW0.out; omega)).trans (cxW0_1 i)
      have hs1 := hb1.size
      go_wp2_with fail
      refine (impl_IsService d ml ms _ w1 hS).mono ?_
      rintro e w2 ⟨rfl, hb2⟩
      replace cxW0_0 := fun i => (hb2.cell (by (try simp only); have := HSW0.out; omega)).trans (cxW0_0 i)
      replace cxW0_1 := fun i => (hb2.cell (by (try simp only); have := HSW0.out; omega)).trans (cxW0_1 i)
      have hs2 := hb2.size
      go_wp2_with fail
      refine (board_c A c L me mi mo d ml ms w2 k7).mono ?_
      rintro e w3 ⟨rfl, hb3⟩
      go_wp2
      go_ret2
      exact ⟨by simp [boardFor, bothOk, hT, hS], bt (bt (bt hbW0 hb1) hb2) hb3⟩

theorem impl_TravelFor (A : Option Addr) (c : Nat) (L : List TierD) (me mi mo : Int) (d ml ms : Int) (w : World) (hr : Rd w w.heap.size A (L.length * 2) (L.flatMap tierC)) (hl : L.length ≤ 140737488355328) :
    Calls Try.prog 32 #[.agg #[.slice A L.length c, .int .i64 me, .int .i64 mi, .int .i64 mo], .agg #[.int .i64 d, .int .i64 ml, .int .i64 ms]] w fun e w' => e = .returned (.tuple #[.int .i64 (travelFor L me mi mo d ml ms).1, .int .i64 (travelFor L me mi mo d ml ms).2]) ∧ Below w.heap.size w w' := by
  cases hT : tarOk L me mi mo
  · go_enter Try.func32, Try.ntmps32
    go_wp2_with fail
    generalize hW0 : (w.alloc _).alloc _ = W0
    have hbW0 : Below w.heap.size w W0 := by subst hW0; exact ((Below.refl _ _).alloc (Nat.le_refl _) _).alloc (by (try simp) <;> (try omega)) _
    have hsW0 : W0.heap.size = w.heap.size + 2 := by subst hW0; simp
    have cxW0_0 : ∀ i, W0.cell? ⟨w.heap.size, i, none⟩ = (#[.slice A L.length c, .int .i64 me, .int .i64 mi, .int .i64 mo] : Array Value)[i]? := by intro i; subst hW0; simp [go_sem]
    have cxW0_1 : ∀ i, W0.cell? ⟨w.heap.size + 1, i, none⟩ = (#[.int .i64 d, .int .i64 ml, .int .i64 ms] : Array Value)[i]? := by intro i; subst hW0; simp [go_sem]
    have HSW0 := Lib.hid hsW0; clear hW0 hsW0
    refine (impl_IsTariff A c L me mi mo _ W0 (rdW hbW0 hr) hl hT).mono ?_
    rintro e w1 ⟨rfl, hb1⟩
    go_wp2
    go_ret2
    exact ⟨by simp [travelFor, bothOk, hT], bt hbW0 hb1⟩
  · cases hS : srvOk d ml ms
    · go_enter Try.func32, Try.ntmps32
      go_wp2_with fail
      generalize hW0 : (w.alloc _).alloc _ = W0
      have hbW0 : Below w.heap.size w W0 := by subst hW0; exact ((Below.refl _ _).alloc (Nat.le_refl _) _).alloc (by (try simp) <;> (try omega)) _
      have hsW0 : W0.heap.size = w.heap.size + 2 := by subst hW0; simp
      have cxW0_0 : ∀ i, W0.cell? ⟨w.heap.size, i, none⟩ = (#[.slice A L.length c, .int .i64 me, .int .i64 mi, .int .i64 mo] : Array Value)[i]? := by intro i; subst hW0; simp [go_sem]
      have cxW0_1 : ∀ i, W0.cell? ⟨w.heap.size + 1, i, none⟩ = (#[.int .i64 d, .int .i64 ml, .int .i64 ms] : Array Value)[i]? := by intro i; subst hW0; simp [go_sem]
      have HSW0 := Lib.hid hsW0; clear hW0 hsW0
      refine (impl_IsTariff A c L me mi mo _ W0 (rdW hbW0 hr) hl hT).mono ?_
      rintro e w1 ⟨rfl, hb1⟩
      replace cxW0_1 := fun i => (hb1.cell (by (try simp only); have := HSW0.out; omega)).trans (cxW0_1 i)
      go_wp2_with fail
      refine (impl_IsService d ml ms _ w1 hS).mono ?_
      rintro e w2 ⟨rfl, hb2⟩
      go_wp2
      go_ret2
      exact ⟨by simp [travelFor, bothOk, hT, hS], bt (bt hbW0 hb1) hb2⟩
    · obtain ⟨k1, k2, k3⟩ := tar_bds hT
      obtain ⟨k4, k5, k6⟩ := srv_bds hS
      have k7 := mul_bd k5 k1
      go_enter Try.func32, Try.ntmps32
      go_wp2_with fail
      generalize hW0 : (w.alloc _).alloc _ = W0
      have hbW0 : Below w.heap.size w W0 := by subst hW0; exact ((Below.refl _ _).alloc (Nat.le_refl _) _).alloc (by (try simp) <;> (try omega)) _
      have hsW0 : W0.heap.size = w.heap.size + 2 := by subst hW0; simp
      have cxW0_0 : ∀ i, W0.cell? ⟨w.heap.size, i, none⟩ = (#[.slice A L.length c, .int .i64 me, .int .i64 mi, .int .i64 mo] : Array Value)[i]? := by intro i; subst hW0; simp [go_sem]
      have cxW0_1 : ∀ i, W0.cell? ⟨w.heap.size + 1, i, none⟩ = (#[.int .i64 d, .int .i64 ml, .int .i64 ms] : Array Value)[i]? := by intro i; subst hW0; simp [go_sem]
      have HSW0 := Lib.hid hsW0; clear hW0 hsW0
      refine (impl_IsTariff A c L me mi mo _ W0 (rdW hbW0 hr) hl hT).mono ?_
      rintro e w1 ⟨rfl, hb1⟩
      replace cxW0_0 := fun i => (hb1.cell (by (try simp only); have := HSW0.out; omega)).trans (cxW0_0 i)
      replace cxW0_1 := fun i => (hb1.cell (by (try simp only); have := HSW0.out; omega)).trans (cxW0_1 i)
      have hs1 := hb1.size
      go_wp2_with fail
      refine (impl_IsService d ml ms _ w1 hS).mono ?_
      rintro e w2 ⟨rfl, hb2⟩
      replace cxW0_0 := fun i => (hb2.cell (by (try simp only); have := HSW0.out; omega)).trans (cxW0_0 i)
      replace cxW0_1 := fun i => (hb2.cell (by (try simp only); have := HSW0.out; omega)).trans (cxW0_1 i)
      have hs2 := hb2.size
      go_wp2_with fail
      refine (travel_c A c L me mi mo d ml ms w2 k2 k3 k4 k6).mono ?_
      rintro e w3 ⟨rfl, hb3⟩
      go_wp2
      go_ret2
      exact ⟨by simp [travelFor, bothOk, hT, hS], bt (bt (bt hbW0 hb1) hb2) hb3⟩

theorem impl_PayFor (A : Option Addr) (c : Nat) (L : List TierD) (me mi mo : Int) (d ml ms : Int) (w : World) (hr : Rd w w.heap.size A (L.length * 2) (L.flatMap tierC)) (hl : L.length ≤ 140737488355328) :
    Calls Try.prog 28 #[.agg #[.slice A L.length c, .int .i64 me, .int .i64 mi, .int .i64 mo], .agg #[.int .i64 d, .int .i64 ml, .int .i64 ms]] w fun e w' => e = .returned (.tuple #[.int .i64 (payFor L me mi mo d ml ms).1, .int .i64 (payFor L me mi mo d ml ms).2]) ∧ Below w.heap.size w w' := by
  cases hT : tarOk L me mi mo
  · go_enter Try.func28, Try.ntmps28
    go_wp2_with fail
    generalize hW0 : (w.alloc _).alloc _ = W0
    have hbW0 : Below w.heap.size w W0 := by subst hW0; exact ((Below.refl _ _).alloc (Nat.le_refl _) _).alloc (by (try simp) <;> (try omega)) _
    have hsW0 : W0.heap.size = w.heap.size + 2 := by subst hW0; simp
    have cxW0_0 : ∀ i, W0.cell? ⟨w.heap.size, i, none⟩ = (#[.slice A L.length c, .int .i64 me, .int .i64 mi, .int .i64 mo] : Array Value)[i]? := by intro i; subst hW0; simp [go_sem]
    have cxW0_1 : ∀ i, W0.cell? ⟨w.heap.size + 1, i, none⟩ = (#[.int .i64 d, .int .i64 ml, .int .i64 ms] : Array Value)[i]? := by intro i; subst hW0; simp [go_sem]
    have HSW0 := Lib.hid hsW0; clear hW0 hsW0
    refine (impl_IsTariff A c L me mi mo _ W0 (rdW hbW0 hr) hl hT).mono ?_
    rintro e w1 ⟨rfl, hb1⟩
    go_wp2
    go_ret2
    exact ⟨by simp [payFor, bothOk, hT], bt hbW0 hb1⟩
  · cases hS : srvOk d ml ms
    · go_enter Try.func28, Try.ntmps28
      go_wp2_with fail
      generalize hW0 : (w.alloc _).alloc _ = W0
      have hbW0 : Below w.heap.size w W0 := by subst hW0; exact ((Below.refl _ _).alloc (Nat.le_refl _) _).alloc (by (try simp) <;> (try omega)) _
      have hsW0 : W0.heap.size = w.heap.size + 2 := by subst hW0; simp
      have cxW0_0 : ∀ i, W0.cell? ⟨w.heap.size, i, none⟩ = (#[.slice A L.length c, .int .i64 me, .int .i64 mi, .int .i64 mo] : Array Value)[i]? := by intro i; subst hW0; simp [go_sem]
      have cxW0_1 : ∀ i, W0.cell? ⟨w.heap.size + 1, i, none⟩ = (#[.int .i64 d, .int .i64 ml, .int .i64 ms] : Array Value)[i]? := by intro i; subst hW0; simp [go_sem]
      have HSW0 := Lib.hid hsW0; clear hW0 hsW0
      refine (impl_IsTariff A c L me mi mo _ W0 (rdW hbW0 hr) hl hT).mono ?_
      rintro e w1 ⟨rfl, hb1⟩
      replace cxW0_1 := fun i => (hb1.cell (by (try simp only); have := HSW0.out; omega)).trans (cxW0_1 i)
      go_wp2_with fail
      refine (impl_IsService d ml ms _ w1 hS).mono ?_
      rintro e w2 ⟨rfl, hb2⟩
      go_wp2
      go_ret2
      exact ⟨by simp [payFor, bothOk, hT, hS], bt (bt hbW0 hb1) hb2⟩
    · obtain ⟨k1, k2, k3⟩ := tar_bds hT
      obtain ⟨k4, k5, k6⟩ := srv_bds hS
      have k7 := mul_bd k5 k1
      go_enter Try.func28, Try.ntmps28
      go_wp2_with fail
      generalize hW0 : (w.alloc _).alloc _ = W0
      have hbW0 : Below w.heap.size w W0 := by subst hW0; exact ((Below.refl _ _).alloc (Nat.le_refl _) _).alloc (by (try simp) <;> (try omega)) _
      have hsW0 : W0.heap.size = w.heap.size + 2 := by subst hW0; simp
      have cxW0_0 : ∀ i, W0.cell? ⟨w.heap.size, i, none⟩ = (#[.slice A L.length c, .int .i64 me, .int .i64 mi, .int .i64 mo] : Array Value)[i]? := by intro i; subst hW0; simp [go_sem]
      have cxW0_1 : ∀ i, W0.cell? ⟨w.heap.size + 1, i, none⟩ = (#[.int .i64 d, .int .i64 ml, .int .i64 ms] : Array Value)[i]? := by intro i; subst hW0; simp [go_sem]
      have HSW0 := Lib.hid hsW0; clear hW0 hsW0
      refine (impl_IsTariff A c L me mi mo _ W0 (rdW hbW0 hr) hl hT).mono ?_
      rintro e w1 ⟨rfl, hb1⟩
      replace cxW0_0 := fun i => (hb1.cell (by (try simp only); have := HSW0.out; omega)).trans (cxW0_0 i)
      replace cxW0_1 := fun i => (hb1.cell (by (try simp only); have := HSW0.out; omega)).trans (cxW0_1 i)
      have hs1 := hb1.size
      go_wp2_with fail
      refine (impl_IsService d ml ms _ w1 hS).mono ?_
      rintro e w2 ⟨rfl, hb2⟩
      replace cxW0_0 := fun i => (hb2.cell (by (try simp only); have := HSW0.out; omega)).trans (cxW0_0 i)
      replace cxW0_1 := fun i => (hb2.cell (by (try simp only); have := HSW0.out; omega)).trans (cxW0_1 i)
      have hs2 := hb2.size
      obtain ⟨n, rfl⟩ := Int.eq_ofNat_of_zero_le k4.1
      have HC := Lib.hid (tar_cents hT)
      have k8 := feesN_bd HC.out n
      have k9 := (travel_bd k2 k3 k4 k6).2
      have HR := Lib.hid (rdW (bt (bt hbW0 hb1) hb2) hr)
      have kb0 := block_regrown cxW0_0 (by have := HSW0.out; omega)
      have kb1 := block_regrown cxW0_1 (by have := HSW0.out; omega)
      go_wp2_with fail
      refine wp_region_bel mixed (by kernel_rfl) ?_
      repeat (any_goals (first | go_big_quiet_step ((first | exact rg_below (impl_fees A c L me mi mo n _ (by exact (rdW (below_regrown _ _ _) HR.out)) hl (by omega) HC.out) | exact rg_below (travel_c A c L me mi mo _ ml ms _ k2 k3 k4 k6) | exact rg_below (board_c A c L me mi mo _ ml ms _ k7))) | quiet_step ((first | exact rg_below (impl_fees A c L me mi mo n _ (by exact (rdW (below_regrown _ _ _) HR.out)) hl (by omega) HC.out) | exact rg_below (travel_c A c L me mi mo _ ml ms _ k2 k3 k4 k6) | exact rg_below (board_c A c L me mi mo _ ml ms _ k7))) | (refine wpQuiet_step (fun K hK => ?_); go_simp; (split <;> first | (refine hK _ ?_; clear hK K) | (apply Exists.intro; refine ⟨fun _ => ?_, hK _ ?_⟩; ((first | exact rg_below (impl_fees A c L me mi mo n _ (by exact (rdW (below_regrown _ _ _) HR.out)) hl (by omega) HC.out) | exact rg_below (travel_c A c L me mi mo _ ml ms _ k2 k3 k4 k6) | exact rg_below (board_c A c L me mi mo _ ml ms _ k7))); clear hK K)))))
      all_goals (refine wpQuiet_nil ?_; intro w1 hw1)
      go_wp2
      go_ret2
      exact ⟨by simp [payFor, bothOk, hT, hS], bt (bt (bt hbW0 hb1) hb2) hw1⟩

theorem spec_FeesFor (A : Option Addr) (c : Nat) (L : List TierD) (me mi mo : Int) (n : Int) (w : World) (hr : Rd w w.heap.size A (L.length * 2) (L.flatMap tierC)) (hl : L.length ≤ 140737488355328) :
    Calls Try.prog 39 #[.agg #[.slice A L.length c, .int .i64 me, .int .i64 mi, .int .i64 mo], .int .i64 n] w fun e w' => e = .returned (.tuple #[.int .i64 (feesFor L me mi mo n).1, .int .i64 (feesFor L me mi mo n).2]) ∧ Below w.heap.size w w' := by
  cases hT : tarOk L me mi mo
  · go_enter Try.func39, Try.ntmps39
    go_wp2_with fail
    generalize hW0 : w.alloc _ = W0
    have hbW0 : Below w.heap.size w W0 := by subst hW0; exact (Below.refl _ _).alloc (Nat.le_refl _) _
    have hsW0 : W0.heap.size = w.heap.size + 1 := by subst hW0; simp
    have cxW0_0 : ∀ i, W0.cell? ⟨w.heap.size, i, none⟩ = (#[.slice A L.length c, .int .i64 me, .int .i64 mi, .int .i64 mo] : Array Value)[i]? := by intro i; subst hW0; simp [go_sem]
    have HSW0 := Lib.hid hsW0; clear hW0 hsW0
    refine (spec_IsTariff A c L me mi mo _ W0 (rdW hbW0 hr) hl hT).mono ?_
    rintro e w1 ⟨rfl, hb1⟩
    go_wp2
    go_ret2
    exact ⟨by simp [feesFor, hT], bt hbW0 hb1⟩
  · cases hS : inB n 0 1000
    · go_enter Try.func39, Try.ntmps39
      go_wp2_with fail
      generalize hW0 : w.alloc _ = W0
      have hbW0 : Below w.heap.size w W0 := by subst hW0; exact (Below.refl _ _).alloc (Nat.le_refl _) _
      have hsW0 : W0.heap.size = w.heap.size + 1 := by subst hW0; simp
      have cxW0_0 : ∀ i, W0.cell? ⟨w.heap.size, i, none⟩ = (#[.slice A L.length c, .int .i64 me, .int .i64 mi, .int .i64 mo] : Array Value)[i]? := by intro i; subst hW0; simp [go_sem]
      have HSW0 := Lib.hid hsW0; clear hW0 hsW0
      refine (spec_IsTariff A c L me mi mo _ W0 (rdW hbW0 hr) hl hT).mono ?_
      rintro e w1 ⟨rfl, hb1⟩
      go_wp2_with fail
      refine (l01In_b _ _ _ _ w1 hS).mono ?_
      rintro e w2 ⟨rfl, rfl⟩
      go_wp2
      go_ret2
      exact ⟨by simp [feesFor, hT, hS], bt hbW0 hb1⟩
    · have hn := inB_iff.1 hS
      obtain ⟨n, rfl⟩ := Int.eq_ofNat_of_zero_le hn.1
      go_enter Try.func39, Try.ntmps39
      go_wp2_with fail
      generalize hW0 : w.alloc _ = W0
      have hbW0 : Below w.heap.size w W0 := by subst hW0; exact (Below.refl _ _).alloc (Nat.le_refl _) _
      have hsW0 : W0.heap.size = w.heap.size + 1 := by subst hW0; simp
      have cxW0_0 : ∀ i, W0.cell? ⟨w.heap.size, i, none⟩ = (#[.slice A L.length c, .int .i64 me, .int .i64 mi, .int .i64 mo] : Array Value)[i]? := by intro i; subst hW0; simp [go_sem]
      have HSW0 := Lib.hid hsW0; clear hW0 hsW0
      refine (spec_IsTariff A c L me mi mo _ W0 (rdW hbW0 hr) hl hT).mono ?_
      rintro e w1 ⟨rfl, hb1⟩
      replace cxW0_0 := fun i => (hb1.cell (by (try simp only); have := HSW0.out; omega)).trans (cxW0_0 i)
      go_wp2_with fail
      refine (l01In_b _ _ _ _ w1 hS).mono ?_
      rintro e w2 ⟨rfl, rfl⟩
      have HR := Lib.hid (rdW (bt hbW0 hb1) hr)
      go_wp2_with fail
      refine (spec_fees A c L me mi mo n w1 HR.out hl (by omega) (tar_cents hT)).mono ?_
      rintro e w3 ⟨rfl, hb3⟩
      go_wp2
      go_ret2
      exact ⟨by simp [feesFor, hT, hS], bt (bt hbW0 hb1) hb3⟩

theorem impl_FeesFor (A : Option Addr) (c : Nat) (L : List TierD) (me mi mo : Int) (n : Int) (w : World) (hr : Rd w w.heap.size A (L.length * 2) (L.flatMap tierC)) (hl : L.length ≤ 140737488355328) :
    Calls Try.prog 38 #[.agg #[.slice A L.length c, .int .i64 me, .int .i64 mi, .int .i64 mo], .int .i64 n] w fun e w' => e = .returned (.tuple #[.int .i64 (feesFor L me mi mo n).1, .int .i64 (feesFor L me mi mo n).2]) ∧ Below w.heap.size w w' := by
  cases hT : tarOk L me mi mo
  · go_enter Try.func38, Try.ntmps38
    go_wp2_with fail
    generalize hW0 : w.alloc _ = W0
    have hbW0 : Below w.heap.size w W0 := by subst hW0; exact (Below.refl _ _).alloc (Nat.le_refl _) _
    have hsW0 : W0.heap.size = w.heap.size + 1 := by subst hW0; simp
    have cxW0_0 : ∀ i, W0.cell? ⟨w.heap.size, i, none⟩ = (#[.slice A L.length c, .int .i64 me, .int .i64 mi, .int .i64 mo] : Array Value)[i]? := by intro i; subst hW0; simp [go_sem]
    have HSW0 := Lib.hid hsW0; clear hW0 hsW0
    refine (impl_IsTariff A c L me mi mo _ W0 (rdW hbW0 hr) hl hT).mono ?_
    rintro e w1 ⟨rfl, hb1⟩
    go_wp2
    go_ret2
    exact ⟨by simp [feesFor, hT], bt hbW0 hb1⟩
  · cases hS : inB n 0 1000
    · go_enter Try.func38, Try.ntmps38
      go_wp2_with fail
      generalize hW0 : w.alloc _ = W0
      have hbW0 : Below w.heap.size w W0 := by subst hW0; exact (Below.refl _ _).alloc (Nat.le_refl _) _
      have hsW0 : W0.heap.size = w.heap.size + 1 := by subst hW0; simp
      have cxW0_0 : ∀ i, W0.cell? ⟨w.heap.size, i, none⟩ = (#[.slice A L.length c, .int .i64 me, .int .i64 mi, .int .i64 mo] : Array Value)[i]? := by intro i; subst hW0; simp [go_sem]
      have HSW0 := Lib.hid hsW0; clear hW0 hsW0
      refine (impl_IsTariff A c L me mi mo _ W0 (rdW hbW0 hr) hl hT).mono ?_
      rintro e w1 ⟨rfl, hb1⟩
      go_wp2_with fail
      refine (isServiceDays_b _ _ w1 hS).mono ?_
      rintro e w2 ⟨rfl, rfl⟩
      go_wp2
      go_ret2
      exact ⟨by simp [feesFor, hT, hS], bt hbW0 hb1⟩
    · have hn := inB_iff.1 hS
      obtain ⟨n, rfl⟩ := Int.eq_ofNat_of_zero_le hn.1
      go_enter Try.func38, Try.ntmps38
      go_wp2_with fail
      generalize hW0 : w.alloc _ = W0
      have hbW0 : Below w.heap.size w W0 := by subst hW0; exact (Below.refl _ _).alloc (Nat.le_refl _) _
      have hsW0 : W0.heap.size = w.heap.size + 1 := by subst hW0; simp
      have cxW0_0 : ∀ i, W0.cell? ⟨w.heap.size, i, none⟩ = (#[.slice A L.length c, .int .i64 me, .int .i64 mi, .int .i64 mo] : Array Value)[i]? := by intro i; subst hW0; simp [go_sem]
      have HSW0 := Lib.hid hsW0; clear hW0 hsW0
      refine (impl_IsTariff A c L me mi mo _ W0 (rdW hbW0 hr) hl hT).mono ?_
      rintro e w1 ⟨rfl, hb1⟩
      replace cxW0_0 := fun i => (hb1.cell (by (try simp only); have := HSW0.out; omega)).trans (cxW0_0 i)
      go_wp2_with fail
      refine (isServiceDays_b _ _ w1 hS).mono ?_
      rintro e w2 ⟨rfl, rfl⟩
      have HR := Lib.hid (rdW (bt hbW0 hb1) hr)
      go_wp2_with fail
      refine (impl_fees A c L me mi mo n w1 HR.out hl (by omega) (tar_cents hT)).mono ?_
      rintro e w3 ⟨rfl, hb3⟩
      go_wp2
      go_ret2
      exact ⟨by simp [feesFor, hT, hS], bt (bt hbW0 hb1) hb3⟩
end Go.Proofs.Ythkobjadfeidmaa
