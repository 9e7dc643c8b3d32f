/- Plain law: what FnAppeals and FnFinal compare. -/
import Derived.Test.YtdohegpbdlcnjaaAppChg4
import Derived.Test.YtdohegpbdlcnjaaAppPlain
import Derived.Test.YtdohegpbdlcnjaaAppFin
namespace Go.Proofs.Ytdohegpbdlcnjaa
open Go.RowKit
set_option linter.unusedVariables false
def newA (L : List AppealD) (day : Int) : AppealD := ⟨(L.length : Int) + 1, day, 0, 0, 0⟩
theorem dlFor_ok {H : List Int} {J : Int} {L : List AppealD} (h : (dlFor H J L).2 = 0) : appsOk H J L = true ∧ settledB L = true ∧ L.length ≠ 6 ∧ (dlFor H J L).1 = deadF H (lastAt J L L.length) 30 := by
  unfold dlFor at h ⊢
  split at h <;> rename_i h1
  · split at h <;> rename_i h2
    · split at h <;> rename_i h3
      · simp at h
      · rw [if_pos h1, if_pos h2, if_neg h3]; exact ⟨h1, h2, h3, rfl⟩
    · simp at h
  · simp at h
theorem fileR_ok {H : List Int} {J : Int} {L : List AppealD} {day : Int} (h : (fileR H J L day).2 = 0) : (fileR H J L day).1 = L ++ [newA L day] ∧ appsOk H J L = true ∧ inB day 0 20000 = true ∧ (dlFor H J L).2 = 0 ∧ inB day (lastAt J L L.length) (dlFor H J L).1 = true := by
  unfold fileR at h ⊢
  split at h <;> rename_i h1
  · split at h <;> rename_i h2
    · split at h <;> rename_i h3
      · split at h <;> rename_i h4
        · rw [if_pos h1, if_pos h2, if_pos h3, if_pos h4]; exact ⟨rfl, h1, h2, h3, h4⟩
        · simp at h
      · exact absurd h h3
    · simp at h
  · simp at h
theorem fileR_good {H : List Int} {J : Int} {L : List AppealD} {day : Int} (h : (fileR H J L day).2 = 0) : appsOk H J (fileR H J L day).1 = true ∧ (fileR H J L day).1.length = L.length + 1 ∧ day ≤ (dlFor H J L).1 := by
  obtain ⟨h1, h2, h3, h4, h5⟩ := fileR_ok h
  obtain ⟨_, h6, h7, h8⟩ := dlFor_ok h4
  obtain ⟨p1, p2, p3, p4⟩ := apps_parts h2
  rw [h1]
  refine ⟨?_, by simp, (inB_iff.1 h5).2⟩
  rw [h8] at h5
  rw [appsOk_app, p1, p2, decide_eq_true (show L.length + 1 ≤ 6 by omega)]
  have hall : (List.range L.length).all (appAt H J L) = true := List.all_eq_true.2 fun j hj => p4 j (by simpa using hj)
  rw [hall]
  unfold settledB at h6
  rw [show (decide (L.length = 0) || goesB (L.getD (L.length - 1) default)) = true from h6]
  simp [newA, appOk, inB]
  exact h5
theorem replyR_good {H : List Int} {J : Int} {L : List AppealD} {day : Int} (h : (replyR H J L day).2 = 0) : appsOk H J (replyR H J L day).1 = true := by
  unfold replyR at h ⊢
  split at h <;> rename_i h1
  · rw [if_pos h1]
    obtain ⟨hok, hd, h0⟩ := codeN_0 h1
    simp only at h ⊢
    split at h <;> rename_i h2
    · rw [if_pos h2]
      obtain ⟨r0, r1, r2, r3⟩ := h2
      generalize hx : L.getD (L.length - 1) default = x at *
      obtain ⟨a0, a1, a2, a3, a4⟩ := x
      simp only at r0 r1 r3
      subst r0; subst r1
      exact (reply_ok hok h0 hx r2).trans r3
    · simp at h
  · exact absurd h h1
theorem decR_good {H : List Int} {J : Int} {L : List AppealD} {res day : Int} (h : (decR H J L res day).2 = 0) : appsOk H J (decR H J L res day).1 = true := by
  unfold decR at h ⊢
  split at h <;> rename_i h1
  · simp at h
  · rw [if_neg h1]
    split at h <;> rename_i h2
    · rw [if_pos h2]
      obtain ⟨hok, hd, h0⟩ := codeN_0 h2
      have hr : inB res 1 3 = true := by
        cases hb : inB res 1 3
        · exact absurd ⟨hok, hb⟩ h1
        · rfl
      simp only at h ⊢
      split at h <;> rename_i h3
      · rw [if_pos h3]
        obtain ⟨r0, r1, r2⟩ := h3
        generalize hx : L.getD (L.length - 1) default = x at *
        obtain ⟨a0, a1, a2, a3, a4⟩ := x
        simp only at r0 r1
        subst r0
        rw [decide_ok hok h0 hx hr (inB_iff.1 hd).2]
        exact decide_eq_true r1
      · simp at h
    · exact absurd h h2
theorem dead_last {H : List Int} {J : Int} {L : List AppealD} (h : (dlFor H J L).2 = 0) : lastAt J L L.length ≤ (dlFor H J L).1 ∧ 0 ≤ (dlFor H J L).1 ∧ (dlFor H J L).1 ≤ 20000 := by
  obtain ⟨h1, _, _, h4⟩ := dlFor_ok h
  have h5 := (apps_last h1).1
  have h6 := deadF_bd (H := H) h5 (n := 30) (by omega)
  rw [h4]; omega
/-- Behind the deadline nothing is filed; on it something is. -/
theorem file_late {H : List Int} {J : Int} {L : List AppealD} (h : (dlFor H J L).2 = 0) (hd : (dlFor H J L).1 ≠ 20000) : fileR H J L ((dlFor H J L).1 + 1) = ([], 5) ∧ (fileR H J L (dlFor H J L).1).2 = 0 := by
  obtain ⟨h1, _, _, _⟩ := dlFor_ok h
  have hb := dead_last h
  constructor
  · rw [fileR, if_pos h1, if_pos (inB_true (by omega) (by omega)), if_pos h, if_neg (by rw [inB_iff]; omega)]
  · rw [fileR, if_pos h1, if_pos (inB_true (by omega) (by omega)), if_pos h, if_pos (inB_true (by omega) (by omega))]
theorem standAt_one (L : List AppealD) : ∀ k, standAt L k = 1 ∨ standAt L k = -1
  | 0 => by first | (left; rfl) | (right; rfl)
  | k + 1 => by
    have := standAt_one L k
    unfold standAt
    split <;> omega
theorem fin_ok {H : List Int} {J : Int} {L : List AppealD} {day : Int} (h : finF H J L day = (true, 0)) : appsOk H J L = true ∧ inB day 0 20000 = true ∧ settledB L = true ∧ lastAt J L L.length ≤ day ∧ (L.length = 6 ∨ deadF H (lastAt J L L.length) 30 < day) := by
  unfold finF at h
  split at h <;> rename_i h1
  · split at h <;> rename_i h2
    · have h3 := congrArg Prod.fst h
      simp only [Bool.and_eq_true, Bool.or_eq_true, decide_eq_true_eq] at h3
      exact ⟨h1, h2, h3.1.1, h3.1.2, h3.2⟩
    · simp at h
  · simp at h
theorem fin_file {H : List Int} {J : Int} {L : List AppealD} {day : Int} (h : finF H J L day = (true, 0)) : (fileR H J L day).1 = [] ∧ (fileR H J L day).2 ≠ 0 ∧ (standF H J L).1 ≠ 0 := by
  obtain ⟨h1, h2, h3, h4, h5⟩ := fin_ok h
  refine ⟨?_, ?_, ?_⟩
  · rw [fileR, if_pos h1, if_pos h2]
    split <;> rename_i h6
    · obtain ⟨_, _, h7, h8⟩ := dlFor_ok h6
      rw [if_neg (by rw [inB_iff, h8]; omega)]
    · rfl
  · intro h6
    obtain ⟨_, _, _, q4, q5⟩ := fileR_ok h6
    obtain ⟨_, _, h7, h8⟩ := dlFor_ok q4
    rw [h8, inB_iff] at q5
    omega
  · rw [standF, if_pos h1, if_pos h3]
    have := standAt_one L L.length
    simp only; omega
theorem fin_next {H : List Int} {J : Int} {L : List AppealD} {day : Int} (h : finF H J L day = (true, 0)) (hd : day ≠ 20000) : finF H J L (day + 1) = (true, 0) := by
  obtain ⟨h1, h2, h3, h4, h5⟩ := fin_ok h
  have := inB_iff.1 h2
  rw [finF, if_pos h1, if_pos (inB_true (by omega) (by omega)), h3, decide_eq_true (show lastAt J L L.length ≤ day + 1 by omega)]
  rcases h5 with h5 | h5
  · rw [decide_eq_true h5]; rfl
  · rw [decide_eq_true (show deadF H (lastAt J L L.length) 30 < day + 1 by omega)]; simp
theorem longAt_is {L : List AppealD} : ∀ (k : Nat), k ≤ L.length → 0 ≤ (longAt L k).1 → ∃ j, ∃ hj : j < L.length, (longAt L k).1 = (j : Int) ∧ L[j].result ≠ 0 ∧ L[j].decided - L[j].filed = (longAt L k).2
  | 0, _, h => by simp [longAt] at h
  | k + 1, hk, h => by
    rw [longAt_succ (by omega)] at h ⊢
    split at h <;> rename_i h1
    · rw [if_pos h1]; exact ⟨k, by omega, rfl, h1.1, rfl⟩
    · rw [if_neg h1]; exact longAt_is k (by omega) h
theorem long_ok {H : List Int} {J : Int} {L : List AppealD} (h : (longF H J L).2.2 = 0) : appsOk H J L = true ∧ ∃ j, ∃ hj : j < L.length, (longF H J L).1 = (j : Int) ∧ L[j].result ≠ 0 ∧ L[j].decided - L[j].filed = (longF H J L).2.1 := by
  unfold longF at h ⊢
  split at h <;> rename_i h1
  · rw [if_pos h1]
    split at h <;> rename_i h2
    · simp at h
    · rw [if_neg h2]
      exact ⟨h1, longAt_is L.length (Nat.le_refl _) (by omega)⟩
  · simp at h
end Go.Proofs.Ytdohegpbdlcnjaa
