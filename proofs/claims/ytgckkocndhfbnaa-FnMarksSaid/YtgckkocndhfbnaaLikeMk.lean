/- Contract: likeMarks. -/
import Derived.Test.YtgckkocndhfbnaaMark
namespace Go.Proofs.Ytgckkocndhfbnaa
open Go.RowKit
set_option linter.unusedVariables false
set_option maxHeartbeats 4000000 in
theorem likeMarks_c (A A' : Option Addr) (n c c' : Nat) (L : List MarkD) (w : World) (hn : L.length = n) (hr : Rd w w.heap.size A (n * 3) (L.flatMap markC)) (hr' : Rd w w.heap.size A' (n * 3) (L.flatMap markC)) (hl : n ≤ 140737488355328) :
    Calls Try.prog 40 #[.slice A n c, .slice A' n c'] w fun e w' => e = .returned (.bool true) ∧ Below w.heap.size w w' := by
  subst hn
  go_enter Try.func40, Try.ntmps40
  go_wp2
  go_loopw [5] (fun i wr => ∃ k : Nat, k ≤ L.length ∧ i = .int .i64 k ∧ Below w.heap.size w wr) (fun i _ => L.length - (intOf i).toNat)
  case atStart => exact ⟨0, by omega, rfl, Below.refl _ _⟩
  case round =>
    obtain ⟨k, hk, rfl, hB⟩ := hrel
    by_cases hlt : k < L.length
    · obtain ⟨b, off, rfl, hb, hc⟩ := Rd.elem markC 3 (fun _ => rfl) hr (by omega) hlt
      obtain ⟨b', off', rfl, hb', hc'⟩ := Rd.elem markC 3 (fun _ => rfl) hr' (by omega) hlt
      have hf0 : wr.cell? ⟨b, off + k * 3, none⟩ = some (.int .i64 L[k].from_) := by rw [hB.cell (by exact hb)]; exact hc k hlt 0 _ rfl
      have hg0 : wr.cell? ⟨b', off' + k * 3, none⟩ = some (.int .i64 L[k].from_) := by rw [hB.cell (by exact hb')]; exact hc' k hlt 0 _ rfl
      have hf1 : wr.cell? ⟨b, off + k * 3 + 1, none⟩ = some (.int .i64 L[k].to) := by rw [hB.cell (by exact hb)]; exact hc k hlt 1 _ rfl
      have hg1 : wr.cell? ⟨b', off' + k * 3 + 1, none⟩ = some (.int .i64 L[k].to) := by rw [hB.cell (by exact hb')]; exact hc' k hlt 1 _ rfl
      have hf2 : wr.cell? ⟨b, off + k * 3 + 2, none⟩ = some (.int .i64 L[k].level) := by rw [hB.cell (by exact hb)]; exact hc k hlt 2 _ rfl
      have hg2 : wr.cell? ⟨b', off' + k * 3 + 2, none⟩ = some (.int .i64 L[k].level) := by rw [hB.cell (by exact hb')]; exact hc' k hlt 2 _ rfl
      clear hc hc'
      generalize L[k].from_ = a0 at *
      generalize L[k].to = a1 at *
      generalize L[k].level = a2 at *
      have hk0 : (0 : Int) ≤ (k : Int) := by omega
      have hk1 : (k : Int) < (L.length : Int) := by omega
      have kf0 := cell_regrown hf0; have kg0 := cell_regrown hg0
      have kf1 := cell_regrown hf1; have kg1 := cell_regrown hg1
      have kf2 := cell_regrown hf2; have kg2 := cell_regrown hg2
      go_wp2_with fail
      refine wp_region_bel mixed (by kernel_rfl) ?_
      repeat (go_big_quiet_step (fail))
      refine wpQuiet_nil ?_
      intro w1 hw1
      clear hf0 hg0 hf1 hg1 hf2 hg2 kf0 kg0 kf1 kg1 kf2 kg2
      go_wp2
      go_roundw
      case rel => exact ⟨k + 1, by omega, by go_num, bt hB hw1⟩
      case measure => simp [intOf]; omega
    · obtain rfl : k = L.length := by omega
      go_wp2
      go_ret
      exact ⟨rfl, hB⟩
end Go.Proofs.Ytgckkocndhfbnaa
