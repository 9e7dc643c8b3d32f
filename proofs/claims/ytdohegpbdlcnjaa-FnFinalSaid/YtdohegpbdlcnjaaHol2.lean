/- Contracts: next court day, deadlines, AreHolidays of both texts. -/
import Derived.Test.YtdohegpbdlcnjaaHol
namespace Go.Proofs.Ytdohegpbdlcnjaa
open Go.RowKit
set_option linter.unusedVariables false

set_option maxHeartbeats 1000000 in
theorem nextCourtDay_c (A : Option Addr) (c : Nat) (H : List Int) (d : Int) (w : World) (hr : Rd w w.heap.size A H.length (H.map (Value.int .i64))) (hl : H.length ≤ 140737488355328) (hcap : H.length ≤ c) (h0 : 0 ≤ d ∧ d ≤ 20030) :
    Calls Try.prog 100 #[.slice A H.length c, .int .i64 d] w fun e w' => e = .returned (.tuple #[.int .i64 (if nx H d ≤ 20000 then nx H d else 0), .int .i64 (if nx H d ≤ 20000 then 0 else 3)]) ∧ w = w' := by
  by_cases hz : nx H d ≤ 20000
  · rw [if_pos hz, if_pos hz]
    have HZ := Lib.hid hz; clear hz
    go_enter Try.func100, Try.ntmps100
    go_wp2
    go_loop [1] (fun i => ∃ q : Int, i = .int .i64 q ∧ 0 ≤ q ∧ q ≤ 20030 ∧ Hid (nx H d = nx H q)) (fun i => (20030 - intOf i).toNat)
    case atStart => exact ⟨d, rfl, h0.1, h0.2, rfl⟩
    case round =>
      obtain ⟨q, rfl, hq0, hq1, HT⟩ := hrel
      by_cases hlt : q ≤ 20000
      · cases hc : courtB H q
        · have HS := Lib.hid (nx_step (by omega) hc)
          have HC := Lib.hid hc; clear hc
          go_wp2_with (first | (go_at_call 103; refine (isCourtDay_b A c H q _ _ hr hl hcap hq0 HC.out).mono ?_; rintro e w' ⟨rfl, rfl⟩))
          go_round
          case rel => exact ⟨q + 1, by go_num, by omega, by omega, HT.out.trans HS.out⟩
          case measure => simp [intOf]; omega
        · have HS := Lib.hid (nx_court hc)
          have HC := Lib.hid hc; clear hc
          go_wp2_with (first | (go_at_call 103; refine (isCourtDay_b A c H q _ _ hr hl hcap hq0 HC.out).mono ?_; rintro e w' ⟨rfl, rfl⟩))
          go_ret2
          exact ⟨by rw [HT.out, HS.out]; rfl, rfl⟩
      · exfalso
        have h1 := nx_ge H q
        have h2 := HT.out
        have h3 := HZ.out
        omega
  · rw [if_neg hz, if_neg hz]
    have HZ := Lib.hid hz; clear hz
    go_enter Try.func100, Try.ntmps100
    go_wp2
    go_loop [1] (fun i => ∃ q : Int, i = .int .i64 q ∧ 0 ≤ q ∧ q ≤ 20030 ∧ Hid (nx H d = nx H q)) (fun i => (20030 - intOf i).toNat)
    case atStart => exact ⟨d, rfl, h0.1, h0.2, rfl⟩
    case round =>
      obtain ⟨q, rfl, hq0, hq1, HT⟩ := hrel
      by_cases hlt : q ≤ 20000
      · cases hc : courtB H q
        · have HS := Lib.hid (nx_step (by omega) hc)
          have HC := Lib.hid hc; clear hc
          go_wp2_with (first | (go_at_call 103; refine (isCourtDay_b A c H q _ _ hr hl hcap hq0 HC.out).mono ?_; rintro e w' ⟨rfl, rfl⟩))
          go_round
          case rel => exact ⟨q + 1, by go_num, by omega, by omega, HT.out.trans HS.out⟩
          case measure => simp [intOf]; omega
        · exfalso
          have h1 := nx_court hc
          have h2 := HT.out
          have h3 := HZ.out
          omega
      · go_wp2
        go_ret2
        exact ⟨rfl, rfl⟩

set_option maxHeartbeats 1000000 in
theorem l02Next_c (A : Option Addr) (c : Nat) (H : List Int) (d : Int) (w : World) (hr : Rd w w.heap.size A H.length (H.map (Value.int .i64))) (hl : H.length ≤ 140737488355328) (hcap : H.length ≤ c) (h0 : 0 ≤ d ∧ d ≤ 20030) (hok : holOk H = true) :
    Calls Try.prog 101 #[.slice A H.length c, .int .i64 d] w fun e w' => e = .returned (.int .i64 (nx H d)) ∧ w = w' := by
  have HOK := Lib.hid hok; clear hok
  go_enter Try.func101, Try.ntmps101
  go_wp2
  go_loop [1] (fun i => ∃ q : Int, i = .int .i64 q ∧ 0 ≤ q ∧ q ≤ 20034 ∧ Hid (nx H d = nx H q)) (fun i => (20034 - intOf i).toNat)
  case atStart => exact ⟨d, rfl, h0.1, by omega, rfl⟩
  case round =>
    obtain ⟨q, rfl, hq0, hq1, HT⟩ := hrel
    cases hc : courtB H q
    · have hlt : q < 20034 := by
        rcases Int.lt_or_eq_of_le hq1 with h | h
        · exact h
        · rw [h, court_last HOK.out] at hc; cases hc
      have HS := Lib.hid (nx_step hlt hc)
      have HC := Lib.hid hc
      go_wp2_with (first | (go_at_call 104; refine (l02Court_b A c H q _ _ hr hl hcap hq0 HC.out).mono ?_; rintro e w' ⟨rfl, rfl⟩))
      go_round
      case rel => exact ⟨q + 1, by go_num, by omega, by omega, HT.out.trans HS.out⟩
      case measure => simp [intOf]; omega
    · have HS := Lib.hid (nx_court hc)
      have HC := Lib.hid hc
      go_wp2_with (first | (go_at_call 104; refine (l02Court_b A c H q _ _ hr hl hcap hq0 HC.out).mono ?_; rintro e w' ⟨rfl, rfl⟩))
      go_ret
      exact ⟨ret_int (by rw [HT.out, HS.out]), rfl⟩

theorem deadline_c (A : Option Addr) (c : Nat) (H : List Int) (d n : Int) (w : World) (hr : Rd w w.heap.size A H.length (H.map (Value.int .i64))) (hl : H.length ≤ 140737488355328) (hcap : H.length ≤ c) (h0 : 0 ≤ d ∧ d ≤ 20000) (h1 : 0 ≤ n ∧ n ≤ 30) :
    Calls Try.prog 86 #[.slice A H.length c, .int .i64 d, .int .i64 n] w fun e w' => e = .returned (.int .i64 (deadF H d n)) ∧ w = w' := by
  unfold deadF
  by_cases h : nx H (d + n) ≤ 20000
  all_goals
    have hN := nextCourtDay_c A c H (d + n) w hr hl hcap (by omega)
    first | (rw [if_pos h, if_pos h] at hN) | (rw [if_neg h, if_neg h] at hN)
    first | (rw [if_pos h]) | (rw [if_neg h])
    generalize nx H (d + n) = z at *
    go_enter Try.func86, Try.ntmps86
    go_wp2_with fail
    refine hN.mono ?_
    rintro e w' ⟨rfl, rfl⟩
    go_wp2
    go_ret
    exact ⟨rfl, rfl⟩

theorem l31Deadline_c (A : Option Addr) (c : Nat) (H : List Int) (d n : Int) (w : World) (hr : Rd w w.heap.size A H.length (H.map (Value.int .i64))) (hl : H.length ≤ 140737488355328) (hcap : H.length ≤ c) (h0 : 0 ≤ d ∧ d ≤ 20000) (h1 : 0 ≤ n ∧ n ≤ 30) (hok : holOk H = true) :
    Calls Try.prog 88 #[.slice A H.length c, .int .i64 d, .int .i64 n] w fun e w' => e = .returned (.int .i64 (deadF H d n)) ∧ w = w' := by
  unfold deadF
  by_cases h : nx H (d + n) ≤ 20000
  all_goals
    have hN := l02Next_c A c H (d + n) w hr hl hcap (by omega) hok
    first | (rw [if_pos h]) | (rw [if_neg h])
    generalize nx H (d + n) = z at *
    go_enter Try.func88, Try.ntmps88
    go_wp2_with fail
    refine hN.mono ?_
    rintro e w' ⟨rfl, rfl⟩
    go_wp2
    go_ret
    exact ⟨rfl, rfl⟩

set_option maxHeartbeats 1000000 in
theorem increasing_b (A : Option Addr) (c : Nat) (H : List Int) (b : Bool) (w : World) (hr : Rd w w.heap.size A H.length (H.map (Value.int .i64))) (hl : H.length ≤ 140737488355328) (hcap : H.length ≤ c) (h : incOk H = b) :
    Calls Try.prog 102 #[.slice A H.length c, .int .i64 0, .int .i64 20000] w fun e w' => e = .returned (.bool b) ∧ w = w' := by
  have HB := Lib.hid h; clear h
  go_enter Try.func102, Try.ntmps102
  go_wp2
  go_loop [11] (fun i => ∃ k : Nat, k ≤ H.length ∧ i = .int .i64 k ∧ Hid (∀ j, j < k → holAt H j = true)) (fun i => H.length - (intOf i).toNat)
  case atStart => exact ⟨0, by omega, rfl, fun j hj => absurd hj (by omega)⟩
  case round =>
    obtain ⟨k, hk, rfl, HT⟩ := hrel
    by_cases hlt : k < H.length
    · obtain ⟨bf, offf, rfl, hbf, hcf⟩ := Rd.ints hr hlt
      have f0 := hcf k hlt
      have hp0 : 0 < k → w.cell? ⟨bf, offf + (k - 1), none⟩ = some (.int .i64 (H.getD (k - 1) 0)) := by
        intro h0
        rw [List.getD_eq_getElem?_getD, List.getElem?_eq_getElem (show k - 1 < H.length by omega)]
        exact hcf (k - 1) (by omega)
      have T := Lib.hid (holAt_eq hlt)
      have hk' : (k : Int) < H.length := by omega
      have hk0 : (0 : Int) ≤ (k : Int) := by omega
      have hkc : (k : Int) ≤ (c : Int) := by omega
      clear hcf
      generalize H[k] = x at *
      generalize H.getD (k - 1) 0 = p at *
      go_wp2_with (first | (go_at_call 72; refine (within_b _ _ _ _ _ rfl).mono ?_; rintro e w' ⟨rfl, rfl⟩))
      all_goals first
        | (go_ret
           exact ⟨ret_bool (by rw [← HB.out]; exact (inc_false hlt (by rw [T.out]; simp_all <;> omega)).symm), rfl⟩)
        | (go_round
           case rel => exact ⟨k + 1, by omega, by go_num, holAt_step HT (by rw [T.out]; simp_all <;> omega)⟩
           case measure => simp [intOf]; omega)
    · have hkl : k = H.length := by omega
      subst hkl
      have HF := Lib.hid (inc_true HT.out)
      clear hlt HT
      go_wp2
      go_ret
      exact ⟨ret_bool (by rw [← HB.out, HF.out]), rfl⟩

theorem impl_AreHolidays (A : Option Addr) (c : Nat) (H : List Int) (b : Bool) (w : World) (hr : Rd w w.heap.size A H.length (H.map (Value.int .i64))) (hl : H.length ≤ 140737488355328) (hcap : H.length ≤ c) (h : holOk H = b) :
    Calls Try.prog 91 #[.slice A H.length c] w fun e w' => e = .returned (.bool b) ∧ w = w' := by
  have HB := Lib.hid h; clear h
  cases hi : incOk H
  all_goals
    go_enter Try.func91, Try.ntmps91
    go_wp2_with (first | (go_at_call 79; refine (few_b _ _ _ _ rfl).mono ?_; rintro e w' ⟨rfl, rfl⟩) | (go_at_call 102; refine (increasing_b A c H _ _ hr hl hcap hi).mono ?_; rintro e w' ⟨rfl, rfl⟩))
    all_goals (go_ret; exact ⟨ret_bool (by rw [← HB.out]; simp_all [holOk] <;> omega), rfl⟩)

set_option maxHeartbeats 1000000 in
theorem spec_AreHolidays (A : Option Addr) (c : Nat) (H : List Int) (b : Bool) (w : World) (hr : Rd w w.heap.size A H.length (H.map (Value.int .i64))) (hl : H.length ≤ 140737488355328) (hcap : H.length ≤ c) (h : holOk H = b) :
    Calls Try.prog 94 #[.slice A H.length c] w fun e w' => e = .returned (.bool b) ∧ Below w.heap.size w w' := by
  have HB := Lib.hid h; clear h
  go_enter Try.func94, Try.ntmps94
  go_wp2
  go_loopw [3] (fun i wr => ∃ k : Nat, k ≤ H.length ∧ i = .int .i64 k ∧ Below w.heap.size w wr ∧ Hid (∀ j, j < k → holAt H j = true)) (fun i _ => H.length - (intOf i).toNat)
  case atStart => exact ⟨0, by omega, rfl, Below.refl _ _, fun j hj => absurd hj (by omega)⟩
  case round =>
    obtain ⟨k, hk, rfl, hB, HT⟩ := hrel
    by_cases hlt : k < H.length
    · obtain ⟨bf, offf, rfl, hbf, hcf⟩ := Rd.ints (rdW hB hr) hlt
      have f0 := hcf k hlt
      have hp0 : 0 < k → wr.cell? ⟨bf, offf + (k - 1), none⟩ = some (.int .i64 (H.getD (k - 1) 0)) := by
        intro h0
        rw [List.getD_eq_getElem?_getD, List.getElem?_eq_getElem (show k - 1 < H.length by omega)]
        exact hcf (k - 1) (by omega)
      have T := Lib.hid (holAt_eq hlt)
      have hk' : (k : Int) < H.length := by omega
      have hk0 : (0 : Int) ≤ (k : Int) := by omega
      have hkc : (k : Int) ≤ (c : Int) := by omega
      clear hcf
      generalize H[k] = x at *
      generalize H.getD (k - 1) 0 = p at *
      go_wp2_with fail
      have k0 := cell_regrown f0
      have k3 := fun h => cell_regrown (hp0 h)
      clear f0 hp0
      refine wp_region_bel mixed (by kernel_rfl) ?_
      repeat (any_goals (first | go_big_quiet_step ((first | exact rg_same (l02Is_b _ _ _ rfl))) | quiet_step ((first | exact rg_same (l02Is_b _ _ _ rfl))) | (refine wpQuiet_step (fun K hK => ?_); go_simp; (split <;> first | (refine hK _ ?_; clear hK K) | (apply Exists.intro; refine ⟨fun _ => ?_, hK _ ?_⟩; ((first | exact rg_same (l02Is_b _ _ _ rfl))); clear hK K)))))
      all_goals (refine wpQuiet_nil ?_; intro w1 hw1)
      all_goals go_wp2
      all_goals first
        | (go_ret
           exact ⟨ret_bool (by rw [← HB.out, holOk, inc_false hlt (by rw [T.out]; simp_all <;> omega), Bool.and_false]), bt hB hw1⟩)
        | (go_roundw
           case rel => exact ⟨k + 1, by omega, by go_num, bt hB hw1, holAt_step HT (by rw [T.out]; simp_all <;> omega)⟩
           case measure => simp [intOf]; omega)
    · have hkl : k = H.length := by omega
      subst hkl
      have HF := Lib.hid (inc_true HT.out)
      clear hlt HT
      go_wp2
      go_ret
      exact ⟨ret_bool (by rw [← HB.out, holOk, HF.out]; simp <;> omega), hB⟩
end Go.Proofs.Ytdohegpbdlcnjaa
