/- Contracts of the laws' comparisons and sums. -/
import Derived.Test.YthkobjadfeidmaaInts
import Derived.Test.YthkobjadfeidmaaTier
import Derived.Test.YthkobjadfeidmaaShareI
namespace Go.Proofs.Ythkobjadfeidmaa
open Go.RowKit
set_option linter.unusedVariables false
set_option maxHeartbeats 1000000 in
theorem likeInts_c (A A' : Option Addr) (n c c' : Nat) (L : List Int) (w : World) (hn : L.length = n) (hr : Rd w w.heap.size A n (L.map (Value.int .i64))) (hr' : Rd w w.heap.size A' n (L.map (Value.int .i64))) (hl : n ≤ 140737488355328) (hc : n ≤ c) (hc' : n ≤ c') :
    Calls Try.prog 23 #[.slice A n c, .slice A' n c'] w fun e w' => e = .returned (.bool true) ∧ Below w.heap.size w w' := by
  subst hn
  go_enter Try.func23, Try.ntmps23
  go_wp2
  go_loopw [5] (fun i wr => ∃ k : Nat, k ≤ L.length ∧ i = .int .i64 k ∧ Below w.heap.size w wr) (fun i _ => L.length - (intOf i).toNat)
  case atStart => exact ⟨0, by omega, rfl, Below.refl _ _⟩
  case round =>
    obtain ⟨k, hk, rfl, hB⟩ := hrel
    by_cases hlt : k < L.length
    · obtain ⟨b, off, rfl, hb, hc⟩ := Rd.ints (hr.below hB) hlt
      obtain ⟨b', off', rfl, hb', hc'⟩ := Rd.ints (hr'.below hB) hlt
      have hf0 : wr.cell? ⟨b, off + k, none⟩ = some (.int .i64 L[k]) := hc k hlt
      have hg0 : wr.cell? ⟨b', off' + k, none⟩ = some (.int .i64 L[k]) := hc' k hlt
      clear hc hc'
      generalize L[k] = a0 at *
      have hk0 : (0 : Int) ≤ (k : Int) := by omega
      have hk1 : (k : Int) < (L.length : Int) := by omega
      have kf0 := cell_regrown hf0; have kg0 := cell_regrown hg0
      go_wp2_with fail
      refine wp_region_bel mixed (by kernel_rfl) ?_
      repeat (go_big_quiet_step (fail))
      refine wpQuiet_nil ?_
      intro w1 hw1
      clear hf0 hg0 kf0 kg0
      go_wp2
      go_roundw
      case rel => exact ⟨k + 1, by omega, by go_num, bt hB hw1⟩
      case measure => simp [intOf]; omega
    · obtain rfl : k = L.length := by omega
      go_wp2
      go_ret
      exact ⟨rfl, hB⟩
set_option maxHeartbeats 1000000 in
theorem likeTiers_c (A A' : Option Addr) (c c' : Nat) (L : List TierD) (w : World) (hr : Rd w w.heap.size A (L.length * 2) (L.flatMap tierC)) (hr' : Rd w w.heap.size A' (L.length * 2) (L.flatMap tierC)) (hl : L.length ≤ 140737488355328) :
    Calls Try.prog 58 #[.slice A L.length c, .slice A' L.length c'] w fun e w' => e = .returned (.bool true) ∧ Below w.heap.size w w' := by
  go_enter Try.func58, Try.ntmps58
  go_wp2
  go_loopw [5] (fun i wr => ∃ k : Nat, k ≤ L.length ∧ i = .int .i64 k ∧ Below w.heap.size w wr) (fun i _ => L.length - (intOf i).toNat)
  case atStart => exact ⟨0, by omega, rfl, Below.refl _ _⟩
  case round =>
    obtain ⟨k, hk, rfl, hB⟩ := hrel
    by_cases hlt : k < L.length
    · obtain ⟨b, off, rfl, hb, hc⟩ := Rd.elem tierC 2 (fun _ => rfl) hr (by omega) hlt
      obtain ⟨b', off', rfl, hb', hc'⟩ := Rd.elem tierC 2 (fun _ => rfl) hr' (by omega) hlt
      have hf0 : wr.cell? ⟨b, off + k * 2, none⟩ = some (.int .i64 L[k].days) := by rw [hB.cell (by exact hb)]; exact hc k hlt 0 _ rfl
      have hg0 : wr.cell? ⟨b', off' + k * 2, none⟩ = some (.int .i64 L[k].days) := by rw [hB.cell (by exact hb')]; exact hc' k hlt 0 _ rfl
      have hf1 : wr.cell? ⟨b, off + k * 2 + 1, none⟩ = some (.int .i64 L[k].cents) := by rw [hB.cell (by exact hb)]; exact hc k hlt 1 _ rfl
      have hg1 : wr.cell? ⟨b', off' + k * 2 + 1, none⟩ = some (.int .i64 L[k].cents) := by rw [hB.cell (by exact hb')]; exact hc' k hlt 1 _ rfl
      clear hc hc'
      generalize L[k].days = a0 at *
      generalize L[k].cents = a1 at *
      have hk0 : (0 : Int) ≤ (k : Int) := by omega
      have hk1 : (k : Int) < (L.length : Int) := by omega
      have kf0 := cell_regrown hf0; have kg0 := cell_regrown hg0
      have kf1 := cell_regrown hf1; have kg1 := cell_regrown hg1
      go_wp2_with fail
      refine wp_region_bel mixed (by kernel_rfl) ?_
      repeat (go_big_quiet_step (fail))
      refine wpQuiet_nil ?_
      intro w1 hw1
      clear hf0 hg0 kf0 kg0 hf1 hg1 kf1 kg1
      go_wp2
      go_roundw
      case rel => exact ⟨k + 1, by omega, by go_num, bt hB hw1⟩
      case measure => simp [intOf]; omega
    · obtain rfl : k = L.length := by omega
      go_wp2
      go_ret
      exact ⟨rfl, hB⟩
theorem likeTariff_c (A A' : Option Addr) (c c' : Nat) (L : List TierD) (me mi mo : Int) (w : World) (hr : Rd w w.heap.size A (L.length * 2) (L.flatMap tierC)) (hr' : Rd w w.heap.size A' (L.length * 2) (L.flatMap tierC)) (hl : L.length ≤ 140737488355328) :
    Calls Try.prog 24 #[.agg #[.slice A L.length c, .int .i64 me, .int .i64 mi, .int .i64 mo], .agg #[.slice A' L.length c', .int .i64 me, .int .i64 mi, .int .i64 mo]] w fun e w' => e = .returned (.bool true) ∧ Below w.heap.size w w' := by
  go_enter Try.func24, Try.ntmps24
  go_wp2_with fail
  generalize hW0 : (w.alloc _).alloc _ = W0
  have hbW0 : Below w.heap.size w W0 := by subst hW0; exact ((Below.refl _ _).alloc (Nat.le_refl _) _).alloc (by (try simp) <;> (try omega)) _
  have hsW0 : W0.heap.size = w.heap.size + 2 := by subst hW0; simp
  have cxW0_0 : ∀ i, W0.cell? ⟨w.heap.size, i, none⟩ = (#[.slice A L.length c, .int .i64 me, .int .i64 mi, .int .i64 mo] : Array Value)[i]? := by intro i; subst hW0; simp [go_sem]
  have cxW0_1 : ∀ i, W0.cell? ⟨w.heap.size + 1, i, none⟩ = (#[.slice A' L.length c', .int .i64 me, .int .i64 mi, .int .i64 mo] : Array Value)[i]? := by intro i; subst hW0; simp [go_sem]
  have HSW0 := Lib.hid hsW0; clear hW0 hsW0
  refine (likeTiers_c A A' c c' L W0 (Rd.more (hr.below hbW0) hbW0.size) (Rd.more (hr'.below hbW0) hbW0.size) hl).mono ?_
  rintro e w2 ⟨rfl, hb2⟩
  replace cxW0_0 := fun i => (hb2.cell (by (try simp only); have := HSW0.out; omega)).trans (cxW0_0 i)
  replace cxW0_1 := fun i => (hb2.cell (by (try simp only); have := HSW0.out; omega)).trans (cxW0_1 i)
  go_wp2
  go_ret
  exact ⟨rfl, bt hbW0 hb2⟩
theorem lawsum_c (A : Option Addr) (n c : Nat) (D : List Int) (w : World) (hn : D.length = n) (hr : Rd w w.heap.size A n (D.map (Value.int .i64))) (hl : n ≤ 60) (hc : n ≤ c) (hb : ∀ x ∈ D, 0 ≤ x ∧ x ≤ 2000000000000) :
    Calls Try.prog 26 #[.slice A n c] w fun e w' => e = .returned (.int .i64 (sumI D)) ∧ w = w' := by
  subst hn
  have HB := Lib.hid hb; clear hb
  go_enter Try.func26, Try.ntmps26
  go_wp2
  go_loop [3, 4] (fun v i => ∃ k : Nat, k ≤ D.length ∧ i = .int .i64 k ∧ v = .int .i64 (sumI (D.take k))) (fun _ i => D.length - (intOf i).toNat)
  case atStart => exact ⟨0, by omega, rfl, rfl⟩
  case round =>
    obtain ⟨k, hk, rfl, rfl⟩ := hrel
    by_cases hlt : k < D.length
    · obtain ⟨b, off, rfl, hb, hcell⟩ := Rd.ints hr hlt
      have f0 := hcell k hlt
      have HS := Lib.hid (sumI_snoc hlt)
      have hbd := sumI_take_bd (B := 2000000000000) (by omega) HB.out k
      have hx := HB.out _ (List.getElem_mem hlt)
      clear hcell
      generalize D[k] = x at *
      go_wp2
      go_round
      case rel => exact ⟨k + 1, by omega, by go_num, by rw [HS.out]⟩
      case measure => simp [intOf]; omega
    · obtain rfl : k = D.length := by omega
      go_wp2
      go_ret
      exact ⟨ret_int (by first | rfl | simp), rfl⟩
end Go.Proofs.Ythkobjadfeidmaa
