/- Contracts: isAppeal, goesOn of both texts. -/
import Derived.Test.YtdohegpbdlcnjaaAppeal
import Derived.Test.YtdohegpbdlcnjaaHol2
namespace Go.Proofs.Ytdohegpbdlcnjaa
open Go.RowKit
set_option linter.unusedVariables false
def appOk (H : List Int) (last : Int) (x : AppealD) : Bool :=
  inB x.filed last (deadF H last 30) && inB x.result 0 3 && (x.replied == 0 || inB x.replied x.filed (deadF H x.filed 20)) && (if x.result = 0 then x.decided == 0 else inB x.decided (max x.filed x.replied) 20000)
def goesB (x : AppealD) : Bool := x.result == 1 || x.result == 2
theorem deadF_bd {H : List Int} {d n : Int} (h : 0 ≤ d ∧ d ≤ 20000) (h1 : 0 ≤ n) : d ≤ deadF H d n ∧ deadF H d n ≤ 20000 := by
  unfold deadF
  have := nx_ge H (d + n)
  split <;> omega
theorem app_filed {H : List Int} {last f : Int} (h : 0 ≤ last ∧ last ≤ 20000) (hf : inB f last (deadF H last 30) = true) : 0 ≤ f ∧ f ≤ 20000 := by
  have := inB_iff.1 hf
  have := deadF_bd (H := H) (n := 30) h (by omega)
  omega
theorem app_dec {H : List Int} {last : Int} {x : AppealD} (h : 0 ≤ last ∧ last ≤ 20000) (hx : appOk H last x = true) : (0 ≤ x.decided ∧ x.decided ≤ 20000) ∧ (0 ≤ x.result ∧ x.result ≤ 3) := by
  simp only [appOk, Bool.and_eq_true] at hx
  have hf := app_filed h hx.1.1.1
  have hr := inB_iff.1 hx.1.1.2
  have h2 := hx.2
  split at h2
  · have : x.decided = 0 := by simpa using h2
    omega
  · have := inB_iff.1 h2
    omega

theorem goesOn_b (a0 a1 a2 a3 a4 : Int) (b : Bool) (w : World) (h : goesB ⟨a0, a1, a2, a3, a4⟩ = b) : Calls Try.prog 93 #[.agg #[.int .i64 a0, .int .i64 a1, .int .i64 a2, .int .i64 a3, .int .i64 a4]] w fun e w' => e = .returned (.bool b) ∧ Below w.heap.size w w' := by
  have HB := Lib.hid h; clear h
  go_enter Try.func93, Try.ntmps93
  go_wp2
  all_goals (go_ret; exact ⟨ret_bool (by rw [← HB.out]; simp_all [goesB]), (Below.refl _ _).alloc (Nat.le_refl _) _⟩)
theorem l31Closed_b (a0 a1 a2 a3 a4 : Int) (b : Bool) (w : World) (h : (a4 == 0 || a4 == 3) = b) : Calls Try.prog 87 #[.agg #[.int .i64 a0, .int .i64 a1, .int .i64 a2, .int .i64 a3, .int .i64 a4]] w fun e w' => e = .returned (.bool b) ∧ Below w.heap.size w w' := by
  have HB := Lib.hid h; clear h
  go_enter Try.func87, Try.ntmps87
  go_wp2
  all_goals (go_ret; exact ⟨ret_bool (by rw [← HB.out] <;> simp_all), (Below.refl _ _).alloc (Nat.le_refl _) _⟩)

set_option maxRecDepth 100000 in
set_option maxHeartbeats 1000000 in
theorem isAppeal_b (A : Option Addr) (c : Nat) (H : List Int) (last a0 a1 a2 a3 a4 : Int) (b : Bool) (w : World) (hr : Rd w w.heap.size A H.length (H.map (Value.int .i64))) (hl : H.length ≤ 140737488355328) (hcap : H.length ≤ c) (hd : 0 ≤ last ∧ last ≤ 20000) (h : appOk H last ⟨a0, a1, a2, a3, a4⟩ = b) :
    Calls Try.prog 92 #[.slice A H.length c, .int .i64 last, .agg #[.int .i64 a0, .int .i64 a1, .int .i64 a2, .int .i64 a3, .int .i64 a4]] w fun e w' => e = .returned (.bool b) ∧ Below w.heap.size w w' := by
  have HB := Lib.hid h; clear h
  have hd20 : (0 : Int) ≤ 20 ∧ (20 : Int) ≤ 30 := by omega
  have hd30 : (0 : Int) ≤ 30 ∧ (30 : Int) ≤ 30 := by omega
  cases hf : inB a1 last (deadF H last 30)
  · skip
    go_enter Try.func92, Try.ntmps92
    go_wp2_with fail
    generalize hW0 : w.alloc _ = W0
    have hbW0 : Below w.heap.size w W0 := by subst hW0; exact (Below.refl _ _).alloc (Nat.le_refl _) _
    have hsW0 : W0.heap.size = w.heap.size + 1 := by subst hW0; simp
    have cxW0_0 : ∀ i, W0.cell? ⟨w.heap.size, i, none⟩ = (#[.int .i64 a0, .int .i64 a1, .int .i64 a2, .int .i64 a3, .int .i64 a4] : Array Value)[i]? := by intro i; subst hW0; simp [go_sem]
    have HSW0 := Lib.hid hsW0; clear hW0 hsW0
    have hsz0 := HSW0.out
    have k0 := block_regrown cxW0_0 (by omega)
    have HR := Lib.hid (rdW hbW0 hr)
    clear hsz0
    refine wp_region_bel mixed (by kernel_rfl) ?_
    repeat (any_goals (first | go_big_quiet_step ((first | exact rg_same (deadline_c A c H last 30 _ (by exact rdW (below_regrown _ _ _) HR.out) hl hcap hd hd30) | exact rg_same (within_b _ _ _ _ _ hf) | exact rg_same (within_b _ _ _ _ _ rfl))) | quiet_step ((first | exact rg_same (deadline_c A c H last 30 _ (by exact rdW (below_regrown _ _ _) HR.out) hl hcap hd hd30) | exact rg_same (within_b _ _ _ _ _ hf) | exact rg_same (within_b _ _ _ _ _ rfl))) | (refine wpQuiet_step (fun K hK => ?_); go_simp; (split <;> first | (refine hK _ ?_; clear hK K) | (apply Exists.intro; refine ⟨fun _ => ?_, hK _ ?_⟩; ((first | exact rg_same (deadline_c A c H last 30 _ (by exact rdW (below_regrown _ _ _) HR.out) hl hcap hd hd30) | exact rg_same (within_b _ _ _ _ _ hf) | exact rg_same (within_b _ _ _ _ _ rfl))); clear hK K)))))
    all_goals (refine wpQuiet_nil ?_; intro w1 hw1)
    all_goals go_wp2
    all_goals (go_ret; exact ⟨ret_bool (by rw [← HB.out]; first | (simp_all [appOk]; done) | (simp_all [appOk]; congr 1; omega) | (simp_all [appOk]; (have hq := inB_iff.1 hrp); congr 1; omega)), bt hbW0 hw1⟩)
  have hf1 := app_filed hd hf
  cases hres : inB a4 0 3
  · skip
    go_enter Try.func92, Try.ntmps92
    go_wp2_with fail
    generalize hW0 : w.alloc _ = W0
    have hbW0 : Below w.heap.size w W0 := by subst hW0; exact (Below.refl _ _).alloc (Nat.le_refl _) _
    have hsW0 : W0.heap.size = w.heap.size + 1 := by subst hW0; simp
    have cxW0_0 : ∀ i, W0.cell? ⟨w.heap.size, i, none⟩ = (#[.int .i64 a0, .int .i64 a1, .int .i64 a2, .int .i64 a3, .int .i64 a4] : Array Value)[i]? := by intro i; subst hW0; simp [go_sem]
    have HSW0 := Lib.hid hsW0; clear hW0 hsW0
    have hsz0 := HSW0.out
    have k0 := block_regrown cxW0_0 (by omega)
    have HR := Lib.hid (rdW hbW0 hr)
    clear hsz0
    refine wp_region_bel mixed (by kernel_rfl) ?_
    repeat (any_goals (first | go_big_quiet_step ((first | exact rg_same (deadline_c A c H last 30 _ (by exact rdW (below_regrown _ _ _) HR.out) hl hcap hd hd30) | exact rg_same (within_b _ _ _ _ _ hf) | exact rg_same (within_b _ _ _ _ _ hres) | exact rg_same (within_b _ _ _ _ _ rfl))) | quiet_step ((first | exact rg_same (deadline_c A c H last 30 _ (by exact rdW (below_regrown _ _ _) HR.out) hl hcap hd hd30) | exact rg_same (within_b _ _ _ _ _ hf) | exact rg_same (within_b _ _ _ _ _ hres) | exact rg_same (within_b _ _ _ _ _ rfl))) | (refine wpQuiet_step (fun K hK => ?_); go_simp; (split <;> first | (refine hK _ ?_; clear hK K) | (apply Exists.intro; refine ⟨fun _ => ?_, hK _ ?_⟩; ((first | exact rg_same (deadline_c A c H last 30 _ (by exact rdW (below_regrown _ _ _) HR.out) hl hcap hd hd30) | exact rg_same (within_b _ _ _ _ _ hf) | exact rg_same (within_b _ _ _ _ _ hres) | exact rg_same (within_b _ _ _ _ _ rfl))); clear hK K)))))
    all_goals (refine wpQuiet_nil ?_; intro w1 hw1)
    all_goals go_wp2
    all_goals (go_ret; exact ⟨ret_bool (by rw [← HB.out]; first | (simp_all [appOk]; done) | (simp_all [appOk]; congr 1; omega) | (simp_all [appOk]; (have hq := inB_iff.1 hrp); congr 1; omega)), bt hbW0 hw1⟩)
  by_cases h2 : a2 = 0
  · subst h2
    go_enter Try.func92, Try.ntmps92
    go_wp2_with fail
    generalize hW0 : w.alloc _ = W0
    have hbW0 : Below w.heap.size w W0 := by subst hW0; exact (Below.refl _ _).alloc (Nat.le_refl _) _
    have hsW0 : W0.heap.size = w.heap.size + 1 := by subst hW0; simp
    have cxW0_0 : ∀ i, W0.cell? ⟨w.heap.size, i, none⟩ = (#[.int .i64 a0, .int .i64 a1, .int .i64 0, .int .i64 a3, .int .i64 a4] : Array Value)[i]? := by intro i; subst hW0; simp [go_sem]
    have HSW0 := Lib.hid hsW0; clear hW0 hsW0
    have hsz0 := HSW0.out
    have k0 := block_regrown cxW0_0 (by omega)
    have HR := Lib.hid (rdW hbW0 hr)
    clear hsz0
    refine wp_region_bel mixed (by kernel_rfl) ?_
    repeat (any_goals (first | go_big_quiet_step ((first | exact rg_same (deadline_c A c H last 30 _ (by exact rdW (below_regrown _ _ _) HR.out) hl hcap hd hd30) | exact rg_same (within_b _ _ _ _ _ hf) | exact rg_same (within_b _ _ _ _ _ hres) | exact rg_same (within_b _ _ _ _ _ rfl))) | quiet_step ((first | exact rg_same (deadline_c A c H last 30 _ (by exact rdW (below_regrown _ _ _) HR.out) hl hcap hd hd30) | exact rg_same (within_b _ _ _ _ _ hf) | exact rg_same (within_b _ _ _ _ _ hres) | exact rg_same (within_b _ _ _ _ _ rfl))) | (refine wpQuiet_step (fun K hK => ?_); go_simp; (split <;> first | (refine hK _ ?_; clear hK K) | (apply Exists.intro; refine ⟨fun _ => ?_, hK _ ?_⟩; ((first | exact rg_same (deadline_c A c H last 30 _ (by exact rdW (below_regrown _ _ _) HR.out) hl hcap hd hd30) | exact rg_same (within_b _ _ _ _ _ hf) | exact rg_same (within_b _ _ _ _ _ hres) | exact rg_same (within_b _ _ _ _ _ rfl))); clear hK K)))))
    all_goals (refine wpQuiet_nil ?_; intro w1 hw1)
    clear k0
    replace cxW0_0 := fun i => (hw1.cell (by (try simp only); have := HSW0.out; omega)).trans (cxW0_0 i)
    have hsz1 := hw1.size
    have hsz0 := HSW0.out
    have hB1 := bt hbW0 hw1
    have HR1 := Lib.hid (rdW hB1 hr)
    go_wp2_with fail
    have k0 := block_regrown cxW0_0 (by omega)
    refine wp_region_bel mixed (by kernel_rfl) ?_
    repeat (any_goals (first | go_big_quiet_step ((first | exact rg_same (deadline_c A c H a1 20 _ (by exact rdW (below_regrown _ _ _) HR1.out) hl hcap hf1 hd20) | exact rg_same (within_b _ _ _ _ _ rfl))) | quiet_step ((first | exact rg_same (deadline_c A c H a1 20 _ (by exact rdW (below_regrown _ _ _) HR1.out) hl hcap hf1 hd20) | exact rg_same (within_b _ _ _ _ _ rfl))) | (refine wpQuiet_step (fun K hK => ?_); go_simp; (split <;> first | (refine hK _ ?_; clear hK K) | (apply Exists.intro; refine ⟨fun _ => ?_, hK _ ?_⟩; ((first | exact rg_same (deadline_c A c H a1 20 _ (by exact rdW (below_regrown _ _ _) HR1.out) hl hcap hf1 hd20) | exact rg_same (within_b _ _ _ _ _ rfl))); clear hK K)))))
    all_goals (refine wpQuiet_nil ?_; intro w1 hw1)
    clear k0
    all_goals (replace cxW0_0 := fun i => (hw1.cell (by (try simp only); omega)).trans (cxW0_0 i))
    all_goals go_wp2_with (first | (go_at_call 72; refine (within_b _ _ _ _ _ rfl).mono ?_; rintro e w' ⟨rfl, rfl⟩))
    all_goals (go_ret; exact ⟨ret_bool (by rw [← HB.out]; first | (simp_all [appOk]; done) | (simp_all [appOk]; congr 1; omega) | (simp_all [appOk]; (have hq := inB_iff.1 hrp); congr 1; omega)), bt hB1 hw1⟩)
  cases hrp : inB a2 a1 (deadF H a1 20)
  · skip
    go_enter Try.func92, Try.ntmps92
    go_wp2_with fail
    generalize hW0 : w.alloc _ = W0
    have hbW0 : Below w.heap.size w W0 := by subst hW0; exact (Below.refl _ _).alloc (Nat.le_refl _) _
    have hsW0 : W0.heap.size = w.heap.size + 1 := by subst hW0; simp
    have cxW0_0 : ∀ i, W0.cell? ⟨w.heap.size, i, none⟩ = (#[.int .i64 a0, .int .i64 a1, .int .i64 a2, .int .i64 a3, .int .i64 a4] : Array Value)[i]? := by intro i; subst hW0; simp [go_sem]
    have HSW0 := Lib.hid hsW0; clear hW0 hsW0
    have hsz0 := HSW0.out
    have k0 := block_regrown cxW0_0 (by omega)
    have HR := Lib.hid (rdW hbW0 hr)
    clear hsz0
    refine wp_region_bel mixed (by kernel_rfl) ?_
    repeat (any_goals (first | go_big_quiet_step ((first | exact rg_same (deadline_c A c H last 30 _ (by exact rdW (below_regrown _ _ _) HR.out) hl hcap hd hd30) | exact rg_same (within_b _ _ _ _ _ hf) | exact rg_same (within_b _ _ _ _ _ hres) | exact rg_same (within_b _ _ _ _ _ rfl))) | quiet_step ((first | exact rg_same (deadline_c A c H last 30 _ (by exact rdW (below_regrown _ _ _) HR.out) hl hcap hd hd30) | exact rg_same (within_b _ _ _ _ _ hf) | exact rg_same (within_b _ _ _ _ _ hres) | exact rg_same (within_b _ _ _ _ _ rfl))) | (refine wpQuiet_step (fun K hK => ?_); go_simp; (split <;> first | (refine hK _ ?_; clear hK K) | (apply Exists.intro; refine ⟨fun _ => ?_, hK _ ?_⟩; ((first | exact rg_same (deadline_c A c H last 30 _ (by exact rdW (below_regrown _ _ _) HR.out) hl hcap hd hd30) | exact rg_same (within_b _ _ _ _ _ hf) | exact rg_same (within_b _ _ _ _ _ hres) | exact rg_same (within_b _ _ _ _ _ rfl))); clear hK K)))))
    all_goals (refine wpQuiet_nil ?_; intro w1 hw1)
    clear k0
    replace cxW0_0 := fun i => (hw1.cell (by (try simp only); have := HSW0.out; omega)).trans (cxW0_0 i)
    have hsz1 := hw1.size
    have hsz0 := HSW0.out
    have hB1 := bt hbW0 hw1
    have HR1 := Lib.hid (rdW hB1 hr)
    go_wp2_with fail
    have k0 := block_regrown cxW0_0 (by omega)
    refine wp_region_bel mixed (by kernel_rfl) ?_
    repeat (any_goals (first | go_big_quiet_step ((first | exact rg_same (deadline_c A c H a1 20 _ (by exact rdW (below_regrown _ _ _) HR1.out) hl hcap hf1 hd20) | exact rg_same (within_b _ _ _ _ _ hrp) | exact rg_same (within_b _ _ _ _ _ rfl))) | quiet_step ((first | exact rg_same (deadline_c A c H a1 20 _ (by exact rdW (below_regrown _ _ _) HR1.out) hl hcap hf1 hd20) | exact rg_same (within_b _ _ _ _ _ hrp) | exact rg_same (within_b _ _ _ _ _ rfl))) | (refine wpQuiet_step (fun K hK => ?_); go_simp; (split <;> first | (refine hK _ ?_; clear hK K) | (apply Exists.intro; refine ⟨fun _ => ?_, hK _ ?_⟩; ((first | exact rg_same (deadline_c A c H a1 20 _ (by exact rdW (below_regrown _ _ _) HR1.out) hl hcap hf1 hd20) | exact rg_same (within_b _ _ _ _ _ hrp) | exact rg_same (within_b _ _ _ _ _ rfl))); clear hK K)))))
    all_goals (refine wpQuiet_nil ?_; intro w1 hw1)
    clear k0
    all_goals (replace cxW0_0 := fun i => (hw1.cell (by (try simp only); omega)).trans (cxW0_0 i))
    all_goals go_wp2_with (first | (go_at_call 72; refine (within_b _ _ _ _ _ rfl).mono ?_; rintro e w' ⟨rfl, rfl⟩))
    all_goals (go_ret; exact ⟨ret_bool (by rw [← HB.out]; first | (simp_all [appOk]; done) | (simp_all [appOk]; congr 1; omega) | (simp_all [appOk]; (have hq := inB_iff.1 hrp); congr 1; omega)), bt hB1 hw1⟩)
  · skip
    go_enter Try.func92, Try.ntmps92
    go_wp2_with fail
    generalize hW0 : w.alloc _ = W0
    have hbW0 : Below w.heap.size w W0 := by subst hW0; exact (Below.refl _ _).alloc (Nat.le_refl _) _
    have hsW0 : W0.heap.size = w.heap.size + 1 := by subst hW0; simp
    have cxW0_0 : ∀ i, W0.cell? ⟨w.heap.size, i, none⟩ = (#[.int .i64 a0, .int .i64 a1, .int .i64 a2, .int .i64 a3, .int .i64 a4] : Array Value)[i]? := by intro i; subst hW0; simp [go_sem]
    have HSW0 := Lib.hid hsW0; clear hW0 hsW0
    have hsz0 := HSW0.out
    have k0 := block_regrown cxW0_0 (by omega)
    have HR := Lib.hid (rdW hbW0 hr)
    clear hsz0
    refine wp_region_bel mixed (by kernel_rfl) ?_
    repeat (any_goals (first | go_big_quiet_step ((first | exact rg_same (deadline_c A c H last 30 _ (by exact rdW (below_regrown _ _ _) HR.out) hl hcap hd hd30) | exact rg_same (within_b _ _ _ _ _ hf) | exact rg_same (within_b _ _ _ _ _ hres) | exact rg_same (within_b _ _ _ _ _ rfl))) | quiet_step ((first | exact rg_same (deadline_c A c H last 30 _ (by exact rdW (below_regrown _ _ _) HR.out) hl hcap hd hd30) | exact rg_same (within_b _ _ _ _ _ hf) | exact rg_same (within_b _ _ _ _ _ hres) | exact rg_same (within_b _ _ _ _ _ rfl))) | (refine wpQuiet_step (fun K hK => ?_); go_simp; (split <;> first | (refine hK _ ?_; clear hK K) | (apply Exists.intro; refine ⟨fun _ => ?_, hK _ ?_⟩; ((first | exact rg_same (deadline_c A c H last 30 _ (by exact rdW (below_regrown _ _ _) HR.out) hl hcap hd hd30) | exact rg_same (within_b _ _ _ _ _ hf) | exact rg_same (within_b _ _ _ _ _ hres) | exact rg_same (within_b _ _ _ _ _ rfl))); clear hK K)))))
    all_goals (refine wpQuiet_nil ?_; intro w1 hw1)
    clear k0
    replace cxW0_0 := fun i => (hw1.cell (by (try simp only); have := HSW0.out; omega)).trans (cxW0_0 i)
    have hsz1 := hw1.size
    have hsz0 := HSW0.out
    have hB1 := bt hbW0 hw1
    have HR1 := Lib.hid (rdW hB1 hr)
    go_wp2_with fail
    have k0 := block_regrown cxW0_0 (by omega)
    refine wp_region_bel mixed (by kernel_rfl) ?_
    repeat (any_goals (first | go_big_quiet_step ((first | exact rg_same (deadline_c A c H a1 20 _ (by exact rdW (below_regrown _ _ _) HR1.out) hl hcap hf1 hd20) | exact rg_same (within_b _ _ _ _ _ hrp) | exact rg_same (within_b _ _ _ _ _ rfl))) | quiet_step ((first | exact rg_same (deadline_c A c H a1 20 _ (by exact rdW (below_regrown _ _ _) HR1.out) hl hcap hf1 hd20) | exact rg_same (within_b _ _ _ _ _ hrp) | exact rg_same (within_b _ _ _ _ _ rfl))) | (refine wpQuiet_step (fun K hK => ?_); go_simp; (split <;> first | (refine hK _ ?_; clear hK K) | (apply Exists.intro; refine ⟨fun _ => ?_, hK _ ?_⟩; ((first | exact rg_same (deadline_c A c H a1 20 _ (by exact rdW (below_regrown _ _ _) HR1.out) hl hcap hf1 hd20) | exact rg_same (within_b _ _ _ _ _ hrp) | exact rg_same (within_b _ _ _ _ _ rfl))); clear hK K)))))
    all_goals (refine wpQuiet_nil ?_; intro w1 hw1)
    clear k0
    all_goals (replace cxW0_0 := fun i => (hw1.cell (by (try simp only); omega)).trans (cxW0_0 i))
    all_goals go_wp2_with (first | (go_at_call 72; refine (within_b _ _ _ _ _ rfl).mono ?_; rintro e w' ⟨rfl, rfl⟩))
    all_goals (go_ret; exact ⟨ret_bool (by rw [← HB.out]; first | (simp_all [appOk]; done) | (simp_all [appOk]; congr 1; omega) | (simp_all [appOk]; (have hq := inB_iff.1 hrp); congr 1; omega)), bt hB1 hw1⟩)

set_option maxRecDepth 100000 in
set_option maxHeartbeats 1000000 in
theorem l31Is_b (A : Option Addr) (c : Nat) (H : List Int) (a0 a1 a2 a3 a4 lv last : Int) (b : Bool) (w : World) (hr : Rd w w.heap.size A H.length (H.map (Value.int .i64))) (hl : H.length ≤ 140737488355328) (hcap : H.length ≤ c) (hd : 0 ≤ last ∧ last ≤ 20000) (hok : holOk H = true) (h : (a0 == lv && appOk H last ⟨a0, a1, a2, a3, a4⟩) = b) :
    Calls Try.prog 95 #[.slice A H.length c, .agg #[.int .i64 a0, .int .i64 a1, .int .i64 a2, .int .i64 a3, .int .i64 a4], .int .i64 lv, .int .i64 last] w fun e w' => e = .returned (.bool b) ∧ Below w.heap.size w w' := by
  have HB := Lib.hid h; clear h
  have HOK := Lib.hid hok; clear hok
  have hd20 : (0 : Int) ≤ 20 ∧ (20 : Int) ≤ 30 := by omega
  have hd30 : (0 : Int) ≤ 30 ∧ (30 : Int) ≤ 30 := by omega
  cases hlv : (a0 == lv)
  · have hne : a0 ≠ lv := by simpa using hlv
    go_enter Try.func95, Try.ntmps95
    go_wp2_with fail
    generalize hW0 : w.alloc _ = W0
    have hbW0 : Below w.heap.size w W0 := by subst hW0; exact (Below.refl _ _).alloc (Nat.le_refl _) _
    have hsW0 : W0.heap.size = w.heap.size + 1 := by subst hW0; simp
    have cxW0_0 : ∀ i, W0.cell? ⟨w.heap.size, i, none⟩ = (#[.int .i64 a0, .int .i64 a1, .int .i64 a2, .int .i64 a3, .int .i64 a4] : Array Value)[i]? := by intro i; subst hW0; simp [go_sem]
    have HSW0 := Lib.hid hsW0; clear hW0 hsW0
    have hsz0 := HSW0.out
    have k0 := block_regrown cxW0_0 (by omega)
    have HR := Lib.hid (rdW hbW0 hr)
    clear hsz0
    refine wp_region_bel mixed (by kernel_rfl) ?_
    repeat (any_goals (first | go_big_quiet_step ((first | exact rg_same (l31Deadline_c A c H last 30 _ (by exact rdW (below_regrown _ _ _) HR.out) hl hcap hd hd30 HOK.out) | exact rg_same (l01In_b _ _ _ _ _ rfl))) | quiet_step ((first | exact rg_same (l31Deadline_c A c H last 30 _ (by exact rdW (below_regrown _ _ _) HR.out) hl hcap hd hd30 HOK.out) | exact rg_same (l01In_b _ _ _ _ _ rfl))) | (refine wpQuiet_step (fun K hK => ?_); go_simp; (split <;> first | (refine hK _ ?_; clear hK K) | (apply Exists.intro; refine ⟨fun _ => ?_, hK _ ?_⟩; ((first | exact rg_same (l31Deadline_c A c H last 30 _ (by exact rdW (below_regrown _ _ _) HR.out) hl hcap hd hd30 HOK.out) | exact rg_same (l01In_b _ _ _ _ _ rfl))); clear hK K)))))
    all_goals (refine wpQuiet_nil ?_; intro w1 hw1)
    all_goals go_wp2
    all_goals (go_ret; exact ⟨ret_bool (by rw [← HB.out]; first | (simp_all [appOk]; done) | (simp_all [appOk]; congr 1; omega) | (simp_all [appOk]; (have hq := inB_iff.1 hrp); congr 1; omega)), bt hbW0 hw1⟩)
  have hlv2 : a0 = lv := by simpa using hlv
  subst hlv2; clear hlv
  cases hf : inB a1 last (deadF H last 30)
  · skip
    go_enter Try.func95, Try.ntmps95
    go_wp2_with fail
    generalize hW0 : w.alloc _ = W0
    have hbW0 : Below w.heap.size w W0 := by subst hW0; exact (Below.refl _ _).alloc (Nat.le_refl _) _
    have hsW0 : W0.heap.size = w.heap.size + 1 := by subst hW0; simp
    have cxW0_0 : ∀ i, W0.cell? ⟨w.heap.size, i, none⟩ = (#[.int .i64 a0, .int .i64 a1, .int .i64 a2, .int .i64 a3, .int .i64 a4] : Array Value)[i]? := by intro i; subst hW0; simp [go_sem]
    have HSW0 := Lib.hid hsW0; clear hW0 hsW0
    have hsz0 := HSW0.out
    have k0 := block_regrown cxW0_0 (by omega)
    have HR := Lib.hid (rdW hbW0 hr)
    clear hsz0
    refine wp_region_bel mixed (by kernel_rfl) ?_
    repeat (any_goals (first | go_big_quiet_step ((first | exact rg_same (l31Deadline_c A c H last 30 _ (by exact rdW (below_regrown _ _ _) HR.out) hl hcap hd hd30 HOK.out) | exact rg_same (l01In_b _ _ _ _ _ hf) | exact rg_same (l01In_b _ _ _ _ _ rfl))) | quiet_step ((first | exact rg_same (l31Deadline_c A c H last 30 _ (by exact rdW (below_regrown _ _ _) HR.out) hl hcap hd hd30 HOK.out) | exact rg_same (l01In_b _ _ _ _ _ hf) | exact rg_same (l01In_b _ _ _ _ _ rfl))) | (refine wpQuiet_step (fun K hK => ?_); go_simp; (split <;> first | (refine hK _ ?_; clear hK K) | (apply Exists.intro; refine ⟨fun _ => ?_, hK _ ?_⟩; ((first | exact rg_same (l31Deadline_c A c H last 30 _ (by exact rdW (below_regrown _ _ _) HR.out) hl hcap hd hd30 HOK.out) | exact rg_same (l01In_b _ _ _ _ _ hf) | exact rg_same (l01In_b _ _ _ _ _ rfl))); clear hK K)))))
    all_goals (refine wpQuiet_nil ?_; intro w1 hw1)
    all_goals go_wp2
    all_goals (go_ret; exact ⟨ret_bool (by rw [← HB.out]; first | (simp_all [appOk]; done) | (simp_all [appOk]; congr 1; omega) | (simp_all [appOk]; (have hq := inB_iff.1 hrp); congr 1; omega)), bt hbW0 hw1⟩)
  have hf1 := app_filed hd hf
  cases hres : inB a4 0 3
  · skip
    go_enter Try.func95, Try.ntmps95
    go_wp2_with fail
    generalize hW0 : w.alloc _ = W0
    have hbW0 : Below w.heap.size w W0 := by subst hW0; exact (Below.refl _ _).alloc (Nat.le_refl _) _
    have hsW0 : W0.heap.size = w.heap.size + 1 := by subst hW0; simp
    have cxW0_0 : ∀ i, W0.cell? ⟨w.heap.size, i, none⟩ = (#[.int .i64 a0, .int .i64 a1, .int .i64 a2, .int .i64 a3, .int .i64 a4] : Array Value)[i]? := by intro i; subst hW0; simp [go_sem]
    have HSW0 := Lib.hid hsW0; clear hW0 hsW0
    have hsz0 := HSW0.out
    have k0 := block_regrown cxW0_0 (by omega)
    have HR := Lib.hid (rdW hbW0 hr)
    clear hsz0
    refine wp_region_bel mixed (by kernel_rfl) ?_
    repeat (any_goals (first | go_big_quiet_step ((first | exact rg_same (l31Deadline_c A c H last 30 _ (by exact rdW (below_regrown _ _ _) HR.out) hl hcap hd hd30 HOK.out) | exact rg_same (l01In_b _ _ _ _ _ hf) | exact rg_same (l01In_b _ _ _ _ _ hres) | exact rg_same (l01In_b _ _ _ _ _ rfl))) | quiet_step ((first | exact rg_same (l31Deadline_c A c H last 30 _ (by exact rdW (below_regrown _ _ _) HR.out) hl hcap hd hd30 HOK.out) | exact rg_same (l01In_b _ _ _ _ _ hf) | exact rg_same (l01In_b _ _ _ _ _ hres) | exact rg_same (l01In_b _ _ _ _ _ rfl))) | (refine wpQuiet_step (fun K hK => ?_); go_simp; (split <;> first | (refine hK _ ?_; clear hK K) | (apply Exists.intro; refine ⟨fun _ => ?_, hK _ ?_⟩; ((first | exact rg_same (l31Deadline_c A c H last 30 _ (by exact rdW (below_regrown _ _ _) HR.out) hl hcap hd hd30 HOK.out) | exact rg_same (l01In_b _ _ _ _ _ hf) | exact rg_same (l01In_b _ _ _ _ _ hres) | exact rg_same (l01In_b _ _ _ _ _ rfl))); clear hK K)))))
    all_goals (refine wpQuiet_nil ?_; intro w1 hw1)
    all_goals go_wp2
    all_goals (go_ret; exact ⟨ret_bool (by rw [← HB.out]; first | (simp_all [appOk]; done) | (simp_all [appOk]; congr 1; omega) | (simp_all [appOk]; (have hq := inB_iff.1 hrp); congr 1; omega)), bt hbW0 hw1⟩)
  by_cases h2 : a2 = 0
  · subst h2
    go_enter Try.func95, Try.ntmps95
    go_wp2_with fail
    generalize hW0 : w.alloc _ = W0
    have hbW0 : Below w.heap.size w W0 := by subst hW0; exact (Below.refl _ _).alloc (Nat.le_refl _) _
    have hsW0 : W0.heap.size = w.heap.size + 1 := by subst hW0; simp
    have cxW0_0 : ∀ i, W0.cell? ⟨w.heap.size, i, none⟩ = (#[.int .i64 a0, .int .i64 a1, .int .i64 0, .int .i64 a3, .int .i64 a4] : Array Value)[i]? := by intro i; subst hW0; simp [go_sem]
    have HSW0 := Lib.hid hsW0; clear hW0 hsW0
    have hsz0 := HSW0.out
    have k0 := block_regrown cxW0_0 (by omega)
    have HR := Lib.hid (rdW hbW0 hr)
    clear hsz0
    refine wp_region_bel mixed (by kernel_rfl) ?_
    repeat (any_goals (first | go_big_quiet_step ((first | exact rg_same (l31Deadline_c A c H last 30 _ (by exact rdW (below_regrown _ _ _) HR.out) hl hcap hd hd30 HOK.out) | exact rg_same (l01In_b _ _ _ _ _ hf) | exact rg_same (l01In_b _ _ _ _ _ hres) | exact rg_same (l01In_b _ _ _ _ _ rfl))) | quiet_step ((first | exact rg_same (l31Deadline_c A c H last 30 _ (by exact rdW (below_regrown _ _ _) HR.out) hl hcap hd hd30 HOK.out) | exact rg_same (l01In_b _ _ _ _ _ hf) | exact rg_same (l01In_b _ _ _ _ _ hres) | exact rg_same (l01In_b _ _ _ _ _ rfl))) | (refine wpQuiet_step (fun K hK => ?_); go_simp; (split <;> first | (refine hK _ ?_; clear hK K) | (apply Exists.intro; refine ⟨fun _ => ?_, hK _ ?_⟩; ((first | exact rg_same (l31Deadline_c A c H last 30 _ (by exact rdW (below_regrown _ _ _) HR.out) hl hcap hd hd30 HOK.out) | exact rg_same (l01In_b _ _ _ _ _ hf) | exact rg_same (l01In_b _ _ _ _ _ hres) | exact rg_same (l01In_b _ _ _ _ _ rfl))); clear hK K)))))
    all_goals (refine wpQuiet_nil ?_; intro w1 hw1)
    clear k0
    replace cxW0_0 := fun i => (hw1.cell (by (try simp only); have := HSW0.out; omega)).trans (cxW0_0 i)
    have hsz1 := hw1.size
    have hsz0 := HSW0.out
    have hB1 := bt hbW0 hw1
    have HR1 := Lib.hid (rdW hB1 hr)
    go_wp2_with fail
    have k0 := block_regrown cxW0_0 (by omega)
    refine wp_region_bel mixed (by kernel_rfl) ?_
    repeat (any_goals (first | go_big_quiet_step ((first | exact rg_same (l31Deadline_c A c H a1 20 _ (by exact rdW (below_regrown _ _ _) HR1.out) hl hcap hf1 hd20 HOK.out) | exact rg_same (l01In_b _ _ _ _ _ rfl))) | quiet_step ((first | exact rg_same (l31Deadline_c A c H a1 20 _ (by exact rdW (below_regrown _ _ _) HR1.out) hl hcap hf1 hd20 HOK.out) | exact rg_same (l01In_b _ _ _ _ _ rfl))) | (refine wpQuiet_step (fun K hK => ?_); go_simp; (split <;> first | (refine hK _ ?_; clear hK K) | (apply Exists.intro; refine ⟨fun _ => ?_, hK _ ?_⟩; ((first | exact rg_same (l31Deadline_c A c H a1 20 _ (by exact rdW (below_regrown _ _ _) HR1.out) hl hcap hf1 hd20 HOK.out) | exact rg_same (l01In_b _ _ _ _ _ rfl))); clear hK K)))))
    all_goals (refine wpQuiet_nil ?_; intro w1 hw1)
    clear k0
    all_goals (replace cxW0_0 := fun i => (hw1.cell (by (try simp only); omega)).trans (cxW0_0 i))
    all_goals go_wp2_with (first | (go_at_call 74; refine (l01In_b _ _ _ _ _ rfl).mono ?_; rintro e w' ⟨rfl, rfl⟩))
    all_goals (go_ret; exact ⟨ret_bool (by rw [← HB.out]; first | (simp_all [appOk]; done) | (simp_all [appOk]; congr 1; omega) | (simp_all [appOk]; (have hq := inB_iff.1 hrp); congr 1; omega)), bt hB1 hw1⟩)
  cases hrp : inB a2 a1 (deadF H a1 20)
  · skip
    go_enter Try.func95, Try.ntmps95
    go_wp2_with fail
    generalize hW0 : w.alloc _ = W0
    have hbW0 : Below w.heap.size w W0 := by subst hW0; exact (Below.refl _ _).alloc (Nat.le_refl _) _
    have hsW0 : W0.heap.size = w.heap.size + 1 := by subst hW0; simp
    have cxW0_0 : ∀ i, W0.cell? ⟨w.heap.size, i, none⟩ = (#[.int .i64 a0, .int .i64 a1, .int .i64 a2, .int .i64 a3, .int .i64 a4] : Array Value)[i]? := by intro i; subst hW0; simp [go_sem]
    have HSW0 := Lib.hid hsW0; clear hW0 hsW0
    have hsz0 := HSW0.out
    have k0 := block_regrown cxW0_0 (by omega)
    have HR := Lib.hid (rdW hbW0 hr)
    clear hsz0
    refine wp_region_bel mixed (by kernel_rfl) ?_
    repeat (any_goals (first | go_big_quiet_step ((first | exact rg_same (l31Deadline_c A c H last 30 _ (by exact rdW (below_regrown _ _ _) HR.out) hl hcap hd hd30 HOK.out) | exact rg_same (l01In_b _ _ _ _ _ hf) | exact rg_same (l01In_b _ _ _ _ _ hres) | exact rg_same (l01In_b _ _ _ _ _ rfl))) | quiet_step ((first | exact rg_same (l31Deadline_c A c H last 30 _ (by exact rdW (below_regrown _ _ _) HR.out) hl hcap hd hd30 HOK.out) | exact rg_same (l01In_b _ _ _ _ _ hf) | exact rg_same (l01In_b _ _ _ _ _ hres) | exact rg_same (l01In_b _ _ _ _ _ rfl))) | (refine wpQuiet_step (fun K hK => ?_); go_simp; (split <;> first | (refine hK _ ?_; clear hK K) | (apply Exists.intro; refine ⟨fun _ => ?_, hK _ ?_⟩; ((first | exact rg_same (l31Deadline_c A c H last 30 _ (by exact rdW (below_regrown _ _ _) HR.out) hl hcap hd hd30 HOK.out) | exact rg_same (l01In_b _ _ _ _ _ hf) | exact rg_same (l01In_b _ _ _ _ _ hres) | exact rg_same (l01In_b _ _ _ _ _ rfl))); clear hK K)))))
    all_goals (refine wpQuiet_nil ?_; intro w1 hw1)
    clear k0
    replace cxW0_0 := fun i => (hw1.cell (by (try simp only); have := HSW0.out; omega)).trans (cxW0_0 i)
    have hsz1 := hw1.size
    have hsz0 := HSW0.out
    have hB1 := bt hbW0 hw1
    have HR1 := Lib.hid (rdW hB1 hr)
    go_wp2_with fail
    have k0 := block_regrown cxW0_0 (by omega)
    refine wp_region_bel mixed (by kernel_rfl) ?_
    repeat (any_goals (first | go_big_quiet_step ((first | exact rg_same (l31Deadline_c A c H a1 20 _ (by exact rdW (below_regrown _ _ _) HR1.out) hl hcap hf1 hd20 HOK.out) | exact rg_same (l01In_b _ _ _ _ _ hrp) | exact rg_same (l01In_b _ _ _ _ _ rfl))) | quiet_step ((first | exact rg_same (l31Deadline_c A c H a1 20 _ (by exact rdW (below_regrown _ _ _) HR1.out) hl hcap hf1 hd20 HOK.out) | exact rg_same (l01In_b _ _ _ _ _ hrp) | exact rg_same (l01In_b _ _ _ _ _ rfl))) | (refine wpQuiet_step (fun K hK => ?_); go_simp; (split <;> first | (refine hK _ ?_; clear hK K) | (apply Exists.intro; refine ⟨fun _ => ?_, hK _ ?_⟩; ((first | exact rg_same (l31Deadline_c A c H a1 20 _ (by exact rdW (below_regrown _ _ _) HR1.out) hl hcap hf1 hd20 HOK.out) | exact rg_same (l01In_b _ _ _ _ _ hrp) | exact rg_same (l01In_b _ _ _ _ _ rfl))); clear hK K)))))
    all_goals (refine wpQuiet_nil ?_; intro w1 hw1)
    clear k0
    all_goals (replace cxW0_0 := fun i => (hw1.cell (by (try simp only); omega)).trans (cxW0_0 i))
    all_goals go_wp2_with (first | (go_at_call 74; refine (l01In_b _ _ _ _ _ rfl).mono ?_; rintro e w' ⟨rfl, rfl⟩))
    all_goals (go_ret; exact ⟨ret_bool (by rw [← HB.out]; first | (simp_all [appOk]; done) | (simp_all [appOk]; congr 1; omega) | (simp_all [appOk]; (have hq := inB_iff.1 hrp); congr 1; omega)), bt hB1 hw1⟩)
  · skip
    go_enter Try.func95, Try.ntmps95
    go_wp2_with fail
    generalize hW0 : w.alloc _ = W0
    have hbW0 : Below w.heap.size w W0 := by subst hW0; exact (Below.refl _ _).alloc (Nat.le_refl _) _
    have hsW0 : W0.heap.size = w.heap.size + 1 := by subst hW0; simp
    have cxW0_0 : ∀ i, W0.cell? ⟨w.heap.size, i, none⟩ = (#[.int .i64 a0, .int .i64 a1, .int .i64 a2, .int .i64 a3, .int .i64 a4] : Array Value)[i]? := by intro i; subst hW0; simp [go_sem]
    have HSW0 := Lib.hid hsW0; clear hW0 hsW0
    have hsz0 := HSW0.out
    have k0 := block_regrown cxW0_0 (by omega)
    have HR := Lib.hid (rdW hbW0 hr)
    clear hsz0
    refine wp_region_bel mixed (by kernel_rfl) ?_
    repeat (any_goals (first | go_big_quiet_step ((first | exact rg_same (l31Deadline_c A c H last 30 _ (by exact rdW (below_regrown _ _ _) HR.out) hl hcap hd hd30 HOK.out) | exact rg_same (l01In_b _ _ _ _ _ hf) | exact rg_same (l01In_b _ _ _ _ _ hres) | exact rg_same (l01In_b _ _ _ _ _ rfl))) | quiet_step ((first | exact rg_same (l31Deadline_c A c H last 30 _ (by exact rdW (below_regrown _ _ _) HR.out) hl hcap hd hd30 HOK.out) | exact rg_same (l01In_b _ _ _ _ _ hf) | exact rg_same (l01In_b _ _ _ _ _ hres) | exact rg_same (l01In_b _ _ _ _ _ rfl))) | (refine wpQuiet_step (fun K hK => ?_); go_simp; (split <;> first | (refine hK _ ?_; clear hK K) | (apply Exists.intro; refine ⟨fun _ => ?_, hK _ ?_⟩; ((first | exact rg_same (l31Deadline_c A c H last 30 _ (by exact rdW (below_regrown _ _ _) HR.out) hl hcap hd hd30 HOK.out) | exact rg_same (l01In_b _ _ _ _ _ hf) | exact rg_same (l01In_b _ _ _ _ _ hres) | exact rg_same (l01In_b _ _ _ _ _ rfl))); clear hK K)))))
    all_goals (refine wpQuiet_nil ?_; intro w1 hw1)
    clear k0
    replace cxW0_0 := fun i => (hw1.cell (by (try simp only); have := HSW0.out; omega)).trans (cxW0_0 i)
    have hsz1 := hw1.size
    have hsz0 := HSW0.out
    have hB1 := bt hbW0 hw1
    have HR1 := Lib.hid (rdW hB1 hr)
    go_wp2_with fail
    have k0 := block_regrown cxW0_0 (by omega)
    refine wp_region_bel mixed (by kernel_rfl) ?_
    repeat (any_goals (first | go_big_quiet_step ((first | exact rg_same (l31Deadline_c A c H a1 20 _ (by exact rdW (below_regrown _ _ _) HR1.out) hl hcap hf1 hd20 HOK.out) | exact rg_same (l01In_b _ _ _ _ _ hrp) | exact rg_same (l01In_b _ _ _ _ _ rfl))) | quiet_step ((first | exact rg_same (l31Deadline_c A c H a1 20 _ (by exact rdW (below_regrown _ _ _) HR1.out) hl hcap hf1 hd20 HOK.out) | exact rg_same (l01In_b _ _ _ _ _ hrp) | exact rg_same (l01In_b _ _ _ _ _ rfl))) | (refine wpQuiet_step (fun K hK => ?_); go_simp; (split <;> first | (refine hK _ ?_; clear hK K) | (apply Exists.intro; refine ⟨fun _ => ?_, hK _ ?_⟩; ((first | exact rg_same (l31Deadline_c A c H a1 20 _ (by exact rdW (below_regrown _ _ _) HR1.out) hl hcap hf1 hd20 HOK.out) | exact rg_same (l01In_b _ _ _ _ _ hrp) | exact rg_same (l01In_b _ _ _ _ _ rfl))); clear hK K)))))
    all_goals (refine wpQuiet_nil ?_; intro w1 hw1)
    clear k0
    all_goals (replace cxW0_0 := fun i => (hw1.cell (by (try simp only); omega)).trans (cxW0_0 i))
    all_goals go_wp2_with (first | (go_at_call 74; refine (l01In_b _ _ _ _ _ rfl).mono ?_; rintro e w' ⟨rfl, rfl⟩))
    all_goals (go_ret; exact ⟨ret_bool (by rw [← HB.out]; first | (simp_all [appOk]; done) | (simp_all [appOk]; congr 1; omega) | (simp_all [appOk]; (have hq := inB_iff.1 hrp); congr 1; omega)), bt hB1 hw1⟩)
end Go.Proofs.Ytdohegpbdlcnjaa
