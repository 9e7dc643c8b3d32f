/- Contracts: next court day, deadlines, AreHolidays of both texts. -/
import Derived.Test.YteecdkaajcijpaaHol
namespace Go.Proofs.Yteecdkaajcijpaa
open Go.RowKit
set_option linter.unusedVariables false





set_option maxHeartbeats 1000000 in
theorem increasing_b (A : Option Addr) (c : Nat) (H : List Int) (b : Bool) (w : World) (hr : Rd w w.heap.size A H.length (H.map (Value.int .i64))) (hl : H.length ≤ 140737488355328) (hcap : H.length ≤ c) (h : incOk H = b) :
    Calls Try.prog 32 #[.slice A H.length c, .int .i64 0, .int .i64 20000] w fun e w' => e = .returned (.bool b) ∧ w = w' := by
  have HB := Lib.hid h; clear h
  go_enter Try.func32, Try.ntmps32
  go_wp2
  go_loop [11] (fun i => ∃ k : Nat, k ≤ H.length ∧ i = .int .i64 k ∧ Hid (∀ j, j < k → holAt H j = true)) (fun i => H.length - (intOf i).toNat)
  case atStart => exact ⟨0, by omega, rfl, fun j hj => absurd hj (by omega)⟩
  case round =>
    obtain ⟨k, hk, rfl, HT⟩ := hrel
    by_cases hlt : k < H.length
    · obtain ⟨bf, offf, rfl, hbf, hcf⟩ := Rd.ints hr hlt
      have f0 := hcf k hlt
      have hp0 : 0 < k → w.cell? ⟨bf, offf + (k - 1), none⟩ = some (.int .i64 (H.getD (k - 1) 0)) := by
        intro h0
        rw [List.getD_eq_getElem?_getD, List.getElem?_eq_getElem (show k - 1 < H.length by omega)]
        exact hcf (k - 1) (by omega)
      have T := Lib.hid (holAt_eq hlt)
      have hk' : (k : Int) < H.length := by omega
      have hk0 : (0 : Int) ≤ (k : Int) := by omega
      have hkc : (k : Int) ≤ (c : Int) := by omega
      clear hcf
      generalize H[k] = x at *
      generalize H.getD (k - 1) 0 = p at *
      go_wp2_with (first | (go_at_call 38; refine (within_b _ _ _ _ _ rfl).mono ?_; rintro e w' ⟨rfl, rfl⟩))
      all_goals first
        | (go_ret
           exact ⟨ret_bool (by rw [← HB.out]; exact (inc_false hlt (by rw [T.out]; simp_all <;> omega)).symm), rfl⟩)
        | (go_round
           case rel => exact ⟨k + 1, by omega, by go_num, holAt_step HT (by rw [T.out]; simp_all <;> omega)⟩
           case measure => simp [intOf]; omega)
    · have hkl : k = H.length := by omega
      subst hkl
      have HF := Lib.hid (inc_true HT.out)
      clear hlt HT
      go_wp2
      go_ret
      exact ⟨ret_bool (by rw [← HB.out, HF.out]), rfl⟩

theorem impl_AreHolidays (A : Option Addr) (c : Nat) (H : List Int) (b : Bool) (w : World) (hr : Rd w w.heap.size A H.length (H.map (Value.int .i64))) (hl : H.length ≤ 140737488355328) (hcap : H.length ≤ c) (h : holOk H = b) :
    Calls Try.prog 18 #[.slice A H.length c] w fun e w' => e = .returned (.bool b) ∧ w = w' := by
  have HB := Lib.hid h; clear h
  cases hi : incOk H
  all_goals
    go_enter Try.func18, Try.ntmps18
    go_wp2_with (first | (go_at_call 31; refine (few_b _ _ _ _ rfl).mono ?_; rintro e w' ⟨rfl, rfl⟩) | (go_at_call 32; refine (increasing_b A c H _ _ hr hl hcap hi).mono ?_; rintro e w' ⟨rfl, rfl⟩))
    all_goals (go_ret; exact ⟨ret_bool (by rw [← HB.out]; simp_all [holOk] <;> omega), rfl⟩)

set_option maxHeartbeats 1000000 in
theorem spec_AreHolidays (A : Option Addr) (c : Nat) (H : List Int) (b : Bool) (w : World) (hr : Rd w w.heap.size A H.length (H.map (Value.int .i64))) (hl : H.length ≤ 140737488355328) (hcap : H.length ≤ c) (h : holOk H = b) :
    Calls Try.prog 12 #[.slice A H.length c] w fun e w' => e = .returned (.bool b) ∧ Below w.heap.size w w' := by
  have HB := Lib.hid h; clear h
  go_enter Try.func12, Try.ntmps12
  go_wp2
  go_loopw [3] (fun i wr => ∃ k : Nat, k ≤ H.length ∧ i = .int .i64 k ∧ Below w.heap.size w wr ∧ Hid (∀ j, j < k → holAt H j = true)) (fun i _ => H.length - (intOf i).toNat)
  case atStart => exact ⟨0, by omega, rfl, Below.refl _ _, fun j hj => absurd hj (by omega)⟩
  case round =>
    obtain ⟨k, hk, rfl, hB, HT⟩ := hrel
    by_cases hlt : k < H.length
    · obtain ⟨bf, offf, rfl, hbf, hcf⟩ := Rd.ints (rdW hB hr) hlt
      have f0 := hcf k hlt
      have hp0 : 0 < k → wr.cell? ⟨bf, offf + (k - 1), none⟩ = some (.int .i64 (H.getD (k - 1) 0)) := by
        intro h0
        rw [List.getD_eq_getElem?_getD, List.getElem?_eq_getElem (show k - 1 < H.length by omega)]
        exact hcf (k - 1) (by omega)
      have T := Lib.hid (holAt_eq hlt)
      have hk' : (k : Int) < H.length := by omega
      have hk0 : (0 : Int) ≤ (k : Int) := by omega
      have hkc : (k : Int) ≤ (c : Int) := by omega
      clear hcf
      generalize H[k] = x at *
      generalize H.getD (k - 1) 0 = p at *
      go_wp2_with fail
      have k0 := cell_regrown f0
      have k3 := fun h => cell_regrown (hp0 h)
      clear f0 hp0
      refine wp_region_bel mixed (by kernel_rfl) ?_
      repeat (any_goals (first | go_big_quiet_step ((first | exact rg_same (l02Is_b _ _ _ rfl))) | quiet_step ((first | exact rg_same (l02Is_b _ _ _ rfl))) | (refine wpQuiet_step (fun K hK => ?_); go_simp; (split <;> first | (refine hK _ ?_; clear hK K) | (apply Exists.intro; refine ⟨fun _ => ?_, hK _ ?_⟩; ((first | exact rg_same (l02Is_b _ _ _ rfl))); clear hK K)))))
      all_goals (refine wpQuiet_nil ?_; intro w1 hw1)
      all_goals go_wp2
      all_goals first
        | (go_ret
           exact ⟨ret_bool (by rw [← HB.out, holOk, inc_false hlt (by rw [T.out]; simp_all <;> omega), Bool.and_false]), bt hB hw1⟩)
        | (go_roundw
           case rel => exact ⟨k + 1, by omega, by go_num, bt hB hw1, holAt_step HT (by rw [T.out]; simp_all <;> omega)⟩
           case measure => simp [intOf]; omega)
    · have hkl : k = H.length := by omega
      subst hkl
      have HF := Lib.hid (inc_true HT.out)
      clear hlt HT
      go_wp2
      go_ret
      exact ⟨ret_bool (by rw [← HB.out, holOk, HF.out]; simp <;> omega), hB⟩
end Go.Proofs.Yteecdkaajcijpaa
