/- Contract: likeAppeals. -/
import Derived.Test.YtdohegpbdlcnjaaAppeal
namespace Go.Proofs.Ytdohegpbdlcnjaa
open Go.RowKit
set_option linter.unusedVariables false
set_option maxHeartbeats 4000000 in
theorem likeAppeals_c (A A' : Option Addr) (n c c' : Nat) (L : List AppealD) (w : World) (hn : L.length = n) (hr : Rd w w.heap.size A (n * 5) (L.flatMap appealC)) (hr' : Rd w w.heap.size A' (n * 5) (L.flatMap appealC)) (hl : n ≤ 140737488355328) :
    Calls Try.prog 44 #[.slice A n c, .slice A' n c'] w fun e w' => e = .returned (.bool true) ∧ Below w.heap.size w w' := by
  subst hn
  go_enter Try.func44, Try.ntmps44
  go_wp2
  go_loopw [5] (fun i wr => ∃ k : Nat, k ≤ L.length ∧ i = .int .i64 k ∧ Below w.heap.size w wr) (fun i _ => L.length - (intOf i).toNat)
  case atStart => exact ⟨0, by omega, rfl, Below.refl _ _⟩
  case round =>
    obtain ⟨k, hk, rfl, hB⟩ := hrel
    by_cases hlt : k < L.length
    · obtain ⟨b, off, rfl, hb, hc⟩ := Rd.elem appealC 5 (fun _ => rfl) hr (by omega) hlt
      obtain ⟨b', off', rfl, hb', hc'⟩ := Rd.elem appealC 5 (fun _ => rfl) hr' (by omega) hlt
      have hf0 : wr.cell? ⟨b, off + k * 5, none⟩ = some (.int .i64 L[k].level) := by rw [hB.cell (by exact hb)]; exact hc k hlt 0 _ rfl
      have hg0 : wr.cell? ⟨b', off' + k * 5, none⟩ = some (.int .i64 L[k].level) := by rw [hB.cell (by exact hb')]; exact hc' k hlt 0 _ rfl
      have hf1 : wr.cell? ⟨b, off + k * 5 + 1, none⟩ = some (.int .i64 L[k].filed) := by rw [hB.cell (by exact hb)]; exact hc k hlt 1 _ rfl
      have hg1 : wr.cell? ⟨b', off' + k * 5 + 1, none⟩ = some (.int .i64 L[k].filed) := by rw [hB.cell (by exact hb')]; exact hc' k hlt 1 _ rfl
      have hf2 : wr.cell? ⟨b, off + k * 5 + 2, none⟩ = some (.int .i64 L[k].replied) := by rw [hB.cell (by exact hb)]; exact hc k hlt 2 _ rfl
      have hg2 : wr.cell? ⟨b', off' + k * 5 + 2, none⟩ = some (.int .i64 L[k].replied) := by rw [hB.cell (by exact hb')]; exact hc' k hlt 2 _ rfl
      have hf3 : wr.cell? ⟨b, off + k * 5 + 3, none⟩ = some (.int .i64 L[k].decided) := by rw [hB.cell (by exact hb)]; exact hc k hlt 3 _ rfl
      have hg3 : wr.cell? ⟨b', off' + k * 5 + 3, none⟩ = some (.int .i64 L[k].decided) := by rw [hB.cell (by exact hb')]; exact hc' k hlt 3 _ rfl
      have hf4 : wr.cell? ⟨b, off + k * 5 + 4, none⟩ = some (.int .i64 L[k].result) := by rw [hB.cell (by exact hb)]; exact hc k hlt 4 _ rfl
      have hg4 : wr.cell? ⟨b', off' + k * 5 + 4, none⟩ = some (.int .i64 L[k].result) := by rw [hB.cell (by exact hb')]; exact hc' k hlt 4 _ rfl
      clear hc hc'
      generalize L[k].level = a0 at *
      generalize L[k].filed = a1 at *
      generalize L[k].replied = a2 at *
      generalize L[k].decided = a3 at *
      generalize L[k].result = a4 at *
      have hk0 : (0 : Int) ≤ (k : Int) := by omega
      have hk1 : (k : Int) < (L.length : Int) := by omega
      have kf0 := cell_regrown hf0; have kg0 := cell_regrown hg0
      have kf1 := cell_regrown hf1; have kg1 := cell_regrown hg1
      have kf2 := cell_regrown hf2; have kg2 := cell_regrown hg2
      have kf3 := cell_regrown hf3; have kg3 := cell_regrown hg3
      have kf4 := cell_regrown hf4; have kg4 := cell_regrown hg4
      go_wp2_with fail
      refine wp_region_bel mixed (by kernel_rfl) ?_
      repeat (go_big_quiet_step (fail))
      refine wpQuiet_nil ?_
      intro w1 hw1
      clear hf0 hg0 hf1 hg1 hf2 hg2 hf3 hg3 hf4 hg4 kf0 kg0 kf1 kg1 kf2 kg2 kf3 kg3 kf4 kg4
      go_wp2
      go_roundw
      case rel => exact ⟨k + 1, by omega, by go_num, bt hB hw1⟩
      case measure => simp [intOf]; omega
    · obtain rfl : k = L.length := by omega
      go_wp2
      go_ret
      exact ⟨rfl, hB⟩
end Go.Proofs.Ytdohegpbdlcnjaa
