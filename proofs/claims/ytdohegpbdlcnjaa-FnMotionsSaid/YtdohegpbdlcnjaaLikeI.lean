/- Contracts of the laws' comparisons and sums of numbers. -/
import Derived.Test.YtdohegpbdlcnjaaInts
import Derived.Test.YtdohegpbdlcnjaaShare
namespace Go.Proofs.Ytdohegpbdlcnjaa
open Go.RowKit
set_option linter.unusedVariables false
set_option maxHeartbeats 1000000 in
theorem likeInts_c (A A' : Option Addr) (n c c' : Nat) (L : List Int) (w : World) (hn : L.length = n) (hr : Rd w w.heap.size A n (L.map (Value.int .i64))) (hr' : Rd w w.heap.size A' n (L.map (Value.int .i64))) (hl : n ≤ 140737488355328) (hc : n ≤ c) (hc' : n ≤ c') :
    Calls Try.prog 18 #[.slice A n c, .slice A' n c'] w fun e w' => e = .returned (.bool true) ∧ Below w.heap.size w w' := by
  subst hn
  go_enter Try.func18, Try.ntmps18
  go_wp2
  go_loopw [5] (fun i wr => ∃ k : Nat, k ≤ L.length ∧ i = .int .i64 k ∧ Below w.heap.size w wr) (fun i _ => L.length - (intOf i).toNat)
  case atStart => exact ⟨0, by omega, rfl, Below.refl _ _⟩
  case round =>
    obtain ⟨k, hk, rfl, hB⟩ := hrel
    by_cases hlt : k < L.length
    · obtain ⟨b, off, rfl, hb, hc⟩ := Rd.ints (hr.below hB) hlt
      obtain ⟨b', off', rfl, hb', hc'⟩ := Rd.ints (hr'.below hB) hlt
      have hf0 : wr.cell? ⟨b, off + k, none⟩ = some (.int .i64 L[k]) := hc k hlt
      have hg0 : wr.cell? ⟨b', off' + k, none⟩ = some (.int .i64 L[k]) := hc' k hlt
      clear hc hc'
      generalize L[k] = a0 at *
      have hk0 : (0 : Int) ≤ (k : Int) := by omega
      have hk1 : (k : Int) < (L.length : Int) := by omega
      have kf0 := cell_regrown hf0; have kg0 := cell_regrown hg0
      go_wp2_with fail
      refine wp_region_bel mixed (by kernel_rfl) ?_
      repeat (go_big_quiet_step (fail))
      refine wpQuiet_nil ?_
      intro w1 hw1
      clear hf0 hg0 kf0 kg0
      go_wp2
      go_roundw
      case rel => exact ⟨k + 1, by omega, by go_num, bt hB hw1⟩
      case measure => simp [intOf]; omega
    · obtain rfl : k = L.length := by omega
      go_wp2
      go_ret
      exact ⟨rfl, hB⟩
theorem lawsum_c (A : Option Addr) (n c : Nat) (D : List Int) (w : World) (hn : D.length = n) (hr : Rd w w.heap.size A n (D.map (Value.int .i64))) (hl : n ≤ 60) (hc : n ≤ c) (hb : ∀ x ∈ D, 0 ≤ x ∧ x ≤ 2000000000000) :
    Calls Try.prog 19 #[.slice A n c] w fun e w' => e = .returned (.int .i64 (sumI D)) ∧ w = w' := by
  subst hn
  have HB := Lib.hid hb; clear hb
  go_enter Try.func19, Try.ntmps19
  go_wp2
  go_loop [3, 4] (fun v i => ∃ k : Nat, k ≤ D.length ∧ i = .int .i64 k ∧ v = .int .i64 (sumI (D.take k))) (fun _ i => D.length - (intOf i).toNat)
  case atStart => exact ⟨0, by omega, rfl, rfl⟩
  case round =>
    obtain ⟨k, hk, rfl, rfl⟩ := hrel
    by_cases hlt : k < D.length
    · obtain ⟨b, off, rfl, hb, hcell⟩ := Rd.ints hr hlt
      have f0 := hcell k hlt
      have HS := Lib.hid (sumI_snoc hlt)
      have hbd := sumI_take_bd (B := 2000000000000) (by omega) HB.out k
      have hx := HB.out _ (List.getElem_mem hlt)
      clear hcell
      generalize D[k] = x at *
      go_wp2
      go_round
      case rel => exact ⟨k + 1, by omega, by go_num, by rw [HS.out]⟩
      case measure => simp [intOf]; omega
    · obtain rfl : k = D.length := by omega
      go_wp2
      go_ret
      exact ⟨ret_int (by first | rfl | simp), rfl⟩
set_option maxHeartbeats 1000000 in
theorem hasInt_b (A : Option Addr) (n c : Nat) (D : List Int) (x : Int) (b : Bool) (w : World) (hn : D.length = n) (hr : Rd w w.heap.size A n (D.map (Value.int .i64))) (hl : n ≤ 140737488355328) (hc : n ≤ c) (h : decide (x ∈ D) = b) :
    Calls Try.prog 20 #[.slice A n c, .int .i64 x] w fun e w' => e = .returned (.bool b) ∧ Below w.heap.size w w' := by
  subst hn
  have HB := Lib.hid h; clear h
  go_enter Try.func20, Try.ntmps20
  go_wp2
  go_loopw [5] (fun i wr => ∃ k : Nat, k ≤ D.length ∧ i = .int .i64 k ∧ Below w.heap.size w wr ∧ Hid (∀ j, ∀ hj : j < D.length, j < k → D[j] ≠ x)) (fun i _ => D.length - (intOf i).toNat)
  case atStart => exact ⟨0, by omega, rfl, Below.refl _ _, fun j _ hj => absurd hj (by omega)⟩
  case round =>
    obtain ⟨k, hk, rfl, hB, HN⟩ := hrel
    by_cases hlt : k < D.length
    · obtain ⟨bb, off, rfl, hb, hcell⟩ := Rd.ints (hr.below hB) hlt
      have f0 := hcell k hlt
      have HM := Lib.hid (List.getElem_mem hlt)
      have HD := Lib.hid (rfl : D[k] = D[k])
      clear hcell
      have hk0 : (0 : Int) ≤ (k : Int) := by omega
      have hk1 : (k : Int) < (D.length : Int) := by omega
      by_cases he : D[k] = x
      · have hbt : b = true := by rw [← HB.out]; simp; rw [← he]; exact HM.out
        rw [he] at f0
        subst hbt
        go_wp2
        go_ret
        exact ⟨rfl, hB⟩
      · have HE := Lib.hid he
        generalize hy : D[k] = y at *
        have HY := Lib.hid hy; clear hy
        go_wp2
        go_roundw
        case rel => exact ⟨k + 1, by omega, by go_num, hB, fun j hj hjk => by
          by_cases e : j = k
          · subst e; rw [HY.out]; exact HE.out
          · exact HN.out j hj (by omega)⟩
        case measure => simp [intOf]; omega
    · obtain rfl : k = D.length := by omega
      have hbf : b = false := by
        rw [← HB.out]; simp
        intro hm
        obtain ⟨j, hj, e⟩ := List.getElem_of_mem hm
        exact HN.out j hj hj e
      subst hbf
      go_wp2
      go_ret
      exact ⟨rfl, hB⟩
end Go.Proofs.Ytdohegpbdlcnjaa
