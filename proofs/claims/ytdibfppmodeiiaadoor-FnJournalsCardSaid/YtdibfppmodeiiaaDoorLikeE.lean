/- Contract: likeEntrys. -/
import Derived.Test.YtdibfppmodeiiaaDoorEntry
namespace Go.Proofs.YtdibfppmodeiiaaDoor
open Go.RowKit
set_option linter.unusedVariables false
set_option maxHeartbeats 4000000 in
theorem likeEntrys_c (A A' : Option Addr) (n c c' : Nat) (L : List EntryD) (w : World) (hn : L.length = n) (hr : Rd w w.heap.size A (n * 2) (L.flatMap entryC)) (hr' : Rd w w.heap.size A' (n * 2) (L.flatMap entryC)) (hl : n ≤ 140737488355328) :
    Calls Tryd.prog 14 #[.slice A n c, .slice A' n c'] w fun e w' => e = .returned (.bool true) ∧ Below w.heap.size w w' := by
  subst hn
  go_enter Tryd.func14, Tryd.ntmps14
  go_wp2
  go_loopw [5] (fun i wr => ∃ k : Nat, k ≤ L.length ∧ i = .int .i64 k ∧ Below w.heap.size w wr) (fun i _ => L.length - (intOf i).toNat)
  case atStart => exact ⟨0, by omega, rfl, Below.refl _ _⟩
  case round =>
    obtain ⟨k, hk, rfl, hB⟩ := hrel
    by_cases hlt : k < L.length
    · obtain ⟨b, off, rfl, hb, hc⟩ := Rd.elem entryC 2 (fun _ => rfl) hr (by omega) hlt
      obtain ⟨b', off', rfl, hb', hc'⟩ := Rd.elem entryC 2 (fun _ => rfl) hr' (by omega) hlt
      have hf0 : wr.cell? ⟨b, off + k * 2, none⟩ = some (.int .u8 L[k].kind) := by rw [hB.cell (by exact hb)]; exact hc k hlt 0 _ rfl
      have hg0 : wr.cell? ⟨b', off' + k * 2, none⟩ = some (.int .u8 L[k].kind) := by rw [hB.cell (by exact hb')]; exact hc' k hlt 0 _ rfl
      have hf1 : wr.cell? ⟨b, off + k * 2 + 1, none⟩ = some (.string L[k].text) := by rw [hB.cell (by exact hb)]; exact hc k hlt 1 _ rfl
      have hg1 : wr.cell? ⟨b', off' + k * 2 + 1, none⟩ = some (.string L[k].text) := by rw [hB.cell (by exact hb')]; exact hc' k hlt 1 _ rfl
      clear hc hc'
      generalize L[k].kind = a0 at *
      generalize L[k].text = a1 at *
      have hk0 : (0 : Int) ≤ (k : Int) := by omega
      have hk1 : (k : Int) < (L.length : Int) := by omega
      have kf0 := cell_regrown hf0; have kg0 := cell_regrown hg0
      have kf1 := cell_regrown hf1; have kg1 := cell_regrown hg1
      go_wp2_with fail
      refine wp_region_bel mixed (by kernel_rfl) ?_
      repeat (go_big_quiet_step (fail))
      refine wpQuiet_nil ?_
      intro w1 hw1
      clear hf0 hg0 hf1 hg1 kf0 kg0 kf1 kg1
      go_wp2
      go_roundw
      case rel => exact ⟨k + 1, by omega, by go_num, bt hB hw1⟩
      case measure => simp [intOf]; omega
    · obtain rfl : k = L.length := by omega
      go_wp2
      go_ret
      exact ⟨rfl, hB⟩
end Go.Proofs.YtdibfppmodeiiaaDoor
