/- Contracts: settled, last decision, code, DeadlineFor of both texts. -/
import Derived.Test.YtdohegpbdlcnjaaAppAre
namespace Go.Proofs.Ytdohegpbdlcnjaa
open Go.RowKit
set_option linter.unusedVariables false
def settledB (L : List AppealD) : Bool := decide (L.length = 0) || goesB (L.getD (L.length - 1) default)
theorem apps_parts {H : List Int} {J : Int} {L : List AppealD} (h : appsOk H J L = true) : holOk H = true ∧ inB J 0 20000 = true ∧ L.length ≤ 6 ∧ ∀ j, j < L.length → appAt H J L j = true := by
  simp only [appsOk, Bool.and_eq_true, decide_eq_true_eq, List.all_eq_true] at h
  exact ⟨h.1.1.1, h.1.1.2, h.1.2, fun j hj => h.2 j (by simp [hj])⟩
theorem apps_last {H : List Int} {J : Int} {L : List AppealD} (h : appsOk H J L = true) : (0 ≤ lastAt J L L.length ∧ lastAt J L L.length ≤ 20000) ∧ (0 < L.length → 0 ≤ (L.getD (L.length - 1) default).result ∧ (L.getD (L.length - 1) default).result ≤ 3) := by
  obtain ⟨_, h2, _, h4⟩ := apps_parts h
  exact last_bd h2 (Nat.le_refl _) h4
def dlFor (H : List Int) (J : Int) (L : List AppealD) : Int × Int :=
  if appsOk H J L then (if settledB L then (if L.length = 6 then (0, 3) else (deadF H (lastAt J L L.length) 30, 0)) else (0, 5)) else (0, 1)

theorem lastDecision_c (J : Int) (A : Option Addr) (c : Nat) (L : List AppealD) (w : World) (hr : Rd w w.heap.size A (L.length * 5) (L.flatMap appealC)) (hl : L.length ≤ 140737488355328) (hcap : L.length ≤ c) :
    Calls Try.prog 82 #[.int .i64 J, .slice A L.length c] w fun e w' => e = .returned (.int .i64 (lastAt J L L.length)) ∧ w = w' := by
  by_cases h0 : L.length = 0
  · rw [lastAt, if_pos h0, h0]
    go_enter Try.func82, Try.ntmps82
    go_wp2
    go_ret
    exact ⟨rfl, rfl⟩
  · rw [lastAt, if_neg h0]
    have hlt : L.length - 1 < L.length := by omega
    obtain ⟨bf, offf, rfl, hbf, hcf⟩ := Rd.elem appealC 5 (fun _ => rfl) hr (by omega) hlt
    have f3 : w.cell? ⟨bf, offf + (L.length - 1) * 5 + 3, none⟩ = some (.int .i64 (L.getD (L.length - 1) default).decided) := by
      rw [List.getD_eq_getElem?_getD, List.getElem?_eq_getElem hlt]
      exact hcf (L.length - 1) hlt 3 _ rfl
    have hn : (1 : Int) ≤ (L.length : Int) := by omega
    clear hcf hr
    generalize (L.getD (L.length - 1) default).decided = z at *
    obtain ⟨m, hm⟩ : ∃ m, L.length = m + 1 := ⟨L.length - 1, by omega⟩
    rw [show L.length - 1 = m by omega] at f3
    clear hlt h0
    rw [hm] at hl hcap hn ⊢
    clear hm
    have hme : ((m + 1 : Nat) : Int) - 1 = (m : Int) := by omega
    go_enter Try.func82, Try.ntmps82
    go_wp2
    go_ret
    exact ⟨rfl, rfl⟩

theorem l31Last_c (J : Int) (A : Option Addr) (c : Nat) (L : List AppealD) (w : World) (hr : Rd w w.heap.size A (L.length * 5) (L.flatMap appealC)) (hl : L.length ≤ 140737488355328) (hcap : L.length ≤ c) :
    Calls Try.prog 81 #[.int .i64 J, .slice A L.length c] w fun e w' => e = .returned (.int .i64 (lastAt J L L.length)) ∧ w = w' := by
  by_cases h0 : L.length = 0
  · rw [lastAt, if_pos h0, h0]
    go_enter Try.func81, Try.ntmps81
    go_wp2
    go_ret
    exact ⟨rfl, rfl⟩
  · rw [lastAt, if_neg h0]
    have hlt : L.length - 1 < L.length := by omega
    obtain ⟨bf, offf, rfl, hbf, hcf⟩ := Rd.elem appealC 5 (fun _ => rfl) hr (by omega) hlt
    have f3 : w.cell? ⟨bf, offf + (L.length - 1) * 5 + 3, none⟩ = some (.int .i64 (L.getD (L.length - 1) default).decided) := by
      rw [List.getD_eq_getElem?_getD, List.getElem?_eq_getElem hlt]
      exact hcf (L.length - 1) hlt 3 _ rfl
    have hn : (1 : Int) ≤ (L.length : Int) := by omega
    clear hcf hr
    generalize (L.getD (L.length - 1) default).decided = z at *
    obtain ⟨m, hm⟩ : ∃ m, L.length = m + 1 := ⟨L.length - 1, by omega⟩
    rw [show L.length - 1 = m by omega] at f3
    clear hlt h0
    rw [hm] at hl hcap hn ⊢
    clear hm
    have hme : ((m + 1 : Nat) : Int) - 1 = (m : Int) := by omega
    go_enter Try.func81, Try.ntmps81
    go_wp2
    go_ret
    exact ⟨rfl, rfl⟩


theorem settled_b (A : Option Addr) (c : Nat) (L : List AppealD) (b : Bool) (w : World) (hr : Rd w w.heap.size A (L.length * 5) (L.flatMap appealC)) (hl : L.length ≤ 140737488355328) (hcap : L.length ≤ c) (h : settledB L = b) :
    Calls Try.prog 85 #[.slice A L.length c] w fun e w' => e = .returned (.bool b) ∧ Below w.heap.size w w' := by
  by_cases h0 : L.length = 0
  · have : b = true := by rw [← h]; simp [settledB, h0]
    subst this
    clear h
    rw [h0]
    go_enter Try.func85, Try.ntmps85
    go_wp2
    go_ret
    exact ⟨rfl, Below.refl _ _⟩
  · have hg : goesB (L.getD (L.length - 1) default) = b := by rw [← h]; simp [settledB, h0]
    have hlt : L.length - 1 < L.length := by omega
    obtain ⟨bf, offf, rfl, hbf, hcf⟩ := Rd.elem appealC 5 (fun _ => rfl) hr (by omega) hlt
    have f0 : w.cell? ⟨bf, offf + (L.length - 1) * 5, none⟩ = some (.int .i64 (L.getD (L.length - 1) default).level) := by
      rw [List.getD_eq_getElem?_getD, List.getElem?_eq_getElem hlt]
      exact hcf (L.length - 1) hlt 0 _ rfl
    have f1 : w.cell? ⟨bf, offf + (L.length - 1) * 5 + 1, none⟩ = some (.int .i64 (L.getD (L.length - 1) default).filed) := by
      rw [List.getD_eq_getElem?_getD, List.getElem?_eq_getElem hlt]
      exact hcf (L.length - 1) hlt 1 _ rfl
    have f2 : w.cell? ⟨bf, offf + (L.length - 1) * 5 + 2, none⟩ = some (.int .i64 (L.getD (L.length - 1) default).replied) := by
      rw [List.getD_eq_getElem?_getD, List.getElem?_eq_getElem hlt]
      exact hcf (L.length - 1) hlt 2 _ rfl
    have f3 : w.cell? ⟨bf, offf + (L.length - 1) * 5 + 3, none⟩ = some (.int .i64 (L.getD (L.length - 1) default).decided) := by
      rw [List.getD_eq_getElem?_getD, List.getElem?_eq_getElem hlt]
      exact hcf (L.length - 1) hlt 3 _ rfl
    have f4 : w.cell? ⟨bf, offf + (L.length - 1) * 5 + 4, none⟩ = some (.int .i64 (L.getD (L.length - 1) default).result) := by
      rw [List.getD_eq_getElem?_getD, List.getElem?_eq_getElem hlt]
      exact hcf (L.length - 1) hlt 4 _ rfl
    have hn : (1 : Int) ≤ (L.length : Int) := by omega
    clear hcf hr h
    generalize L.getD (L.length - 1) default = q at *
    obtain ⟨q0, q1, q2, q3, q4⟩ := q
    obtain ⟨m, hm⟩ : ∃ m, L.length = m + 1 := ⟨L.length - 1, by omega⟩
    rw [show L.length - 1 = m by omega] at f0 f1 f2 f3 f4
    clear hlt h0
    rw [hm] at hl hcap hn ⊢
    clear hm
    have hme : ((m + 1 : Nat) : Int) - 1 = (m : Int) := by omega
    go_enter Try.func85, Try.ntmps85
    go_wp2_with fail
    try any_goals (exfalso; omega)
    refine (goesOn_b _ _ _ _ _ _ _ hg).mono ?_
    rintro e w1 ⟨rfl, hb1⟩
    go_wp2
    go_ret
    exact ⟨rfl, hb1⟩

end Go.Proofs.Ytdohegpbdlcnjaa
