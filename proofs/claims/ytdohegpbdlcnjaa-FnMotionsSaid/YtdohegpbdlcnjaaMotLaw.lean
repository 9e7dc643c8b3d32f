/- Plain law: what FnMotionLists and FnMotions compare. -/
import Derived.Test.YtdohegpbdlcnjaaMotGood
import Derived.Test.YtdohegpbdlcnjaaMotNext
import Derived.Test.YtdohegpbdlcnjaaLikeI
namespace Go.Proofs.Ytdohegpbdlcnjaa
open Go.RowKit
set_option linter.unusedVariables false
theorem openCode_0 {M : List MotionD} (h : openCode M = 0) : motsOk M = true := by
  unfold openCode at h; split at h
  · assumption
  · omega
theorem law_cnt {M : List MotionD} (h : openCode M = 0) : ∃ a b c d e f : Int, countFor M = [a, b, c, d, e, f] ∧ sumI [a, b, c, d, e, f] = M.length ∧ a + b + c = (openFor M).length ∧ 0 ≤ a ∧ a ≤ M.length ∧ 0 ≤ b ∧ b ≤ M.length ∧ 0 ≤ c ∧ c ≤ M.length ∧ (∀ x ∈ [a, b, c, d, e, f], 0 ≤ x ∧ x ≤ M.length) := by
  have hok := openCode_0 h
  have h1 := cnt_sums (mot_states hok)
  have h2 := cnt_sum hok
  refine ⟨cntS M 0, cntS M 1, cntS M 2, cntS M 3, cntS M 4, cntS M 5, ?_, h2, ?_, (cntS_bd M 0).1, (cntS_bd M 0).2, (cntS_bd M 1).1, (cntS_bd M 1).2, (cntS_bd M 2).1, (cntS_bd M 2).2, ?_⟩
  · rw [countFor, if_pos hok]; rfl
  · rw [openFor, if_pos hok]; exact h1.2
  · intro x hx
    simp only [List.mem_cons, List.not_mem_nil, or_false] at hx
    rcases hx with rfl | rfl | rfl | rfl | rfl | rfl <;> exact cntS_bd M _
theorem codeM_ok {M : List MotionD} {n day : Int} (h : codeM M n day = 0) : motsOk M = true ∧ ¬ findM n M 0 < 0 := by
  unfold codeM at h
  split at h
  · rename_i h1
    split at h
    · split at h
      · omega
      · rename_i h3; exact ⟨h1, h3⟩
    · omega
  · omega
theorem law_wait_mem (M : List MotionD) (n : Int) : ∀ x ∈ waitFor M n, x ∈ openFor M := by
  intro x hx
  unfold waitFor at hx
  split at hx
  · rename_i h
    rw [openFor, if_pos (codeM_ok h).1]; exact waitL_open _ _ x hx
  · simp at hx
theorem law_wait_fall (M : List MotionD) (n : Int) {i : Nat} {x y : Int} (hx : (waitFor M n)[i]? = some x) (hy : (waitFor M n)[i + 1]? = some y) : y < x := by
  unfold waitFor at hx hy
  split at hx
  · rename_i h
    rw [if_pos h] at hy
    exact waitL_falls (codeM_ok h).1 _ _ i x y hx hy
  · simp at hx
theorem law_wait_some {M : List MotionD} {n : Int} (h : codeM M n 0 = 0) : (0 < (waitFor M n).length) ↔ n ∈ openFor M := by
  rw [waitFor, if_pos h, openFor, if_pos (codeM_ok h).1]
  exact wait_some (codeM_ok h).1 (codeM_ok h).2
theorem lawsum_s (A : Option Addr) (n c : Nat) (D : List Int) (s : Int) (w : World) (hn : D.length = n) (hr : Rd w w.heap.size A n (D.map (Value.int .i64))) (hl : n ≤ 60) (hc : n ≤ c) (hb : ∀ x ∈ D, 0 ≤ x ∧ x ≤ 2000000000000) (hs : sumI D = s) :
    Calls Try.prog 19 #[.slice A n c] w fun e w' => e = .returned (.int .i64 s) ∧ w = w' := by
  subst hs; exact lawsum_c A n c D w hn hr hl hc hb
theorem law_file {L : List MotionD} {p : ByteArray} {day after : Int} (h : (fileM L p day after).2 = 0) : openCode (fileM L p day after).1 = 0 ∧ (fileM L p day after).1.length = L.length + 1 ∧ ∃ (k : Nat) (hk : k < (fileM L p day after).1.length), k + 1 = (fileM L p day after).1.length ∧ (fileM L p day after).1[k].number ∈ openFor (fileM L p day after).1 := by
  obtain ⟨h1, h2⟩ := fileM_is h
  rw [h1]
  refine ⟨by rw [openCode, if_pos h2], by simp, L.length, by simp, by simp, ?_⟩
  rw [openFor, if_pos h2]
  simp only [List.getElem_append_right (Nat.le_refl _), Nat.sub_self, List.getElem_cons_zero]
  exact file_open
theorem law_next {L : List MotionD} {n day : Int} (h : codeM L n day = 0) {s : Int} (h0 : 0 ≤ s) (h5 : s < 6) : (decide (s ∈ nextFor L n day) = decide ((chgM L n s day).2 = 0)) := by
  have := next_chg h h0 h5
  by_cases hm : s ∈ nextFor L n day
  · rw [decide_eq_true hm, decide_eq_true (this.1 hm)]
  · rw [decide_eq_false hm, decide_eq_false (fun e => hm (this.2 e))]
theorem law_open {L : List MotionD} {n day : Int} (h : codeM L n day = 0) : openCode L = 0 ∧ ((nextFor L n day).length = 0 ∨ n ∈ openFor L) := by
  have hok := (codeM_ok h).1
  refine ⟨by rw [openCode, if_pos hok], ?_⟩
  rw [openFor, if_pos hok]
  exact next_open h
end Go.Proofs.Ytdohegpbdlcnjaa
