/- Contracts: DeadlineFor of the reference. -/
import Derived.Test.YtdohegpbdlcnjaaAppDl
namespace Go.Proofs.Ytdohegpbdlcnjaa
open Go.RowKit
set_option linter.unusedVariables false
/-- The last element's cells. -/
theorem last_cells {A : Option Addr} {L : List AppealD} {w : World} {B : Nat} (hr : Rd w B A (L.length * 5) (L.flatMap appealC)) (h0 : 0 < L.length) :
    ∃ b off a0 a1 a2 a3 a4, A = some ⟨b, off, none⟩ ∧ b < B ∧ L.getD (L.length - 1) default = ⟨a0, a1, a2, a3, a4⟩ ∧ w.cell? ⟨b, off + (L.length - 1) * 5, none⟩ = some (.int .i64 a0) ∧ w.cell? ⟨b, off + (L.length - 1) * 5 + 1, none⟩ = some (.int .i64 a1) ∧
      w.cell? ⟨b, off + (L.length - 1) * 5 + 2, none⟩ = some (.int .i64 a2) ∧ w.cell? ⟨b, off + (L.length - 1) * 5 + 3, none⟩ = some (.int .i64 a3) ∧ w.cell? ⟨b, off + (L.length - 1) * 5 + 4, none⟩ = some (.int .i64 a4) := by
  have hlt : L.length - 1 < L.length := by omega
  obtain ⟨bf, offf, rfl, hbf, hcf⟩ := Rd.elem appealC 5 (fun _ => rfl) hr (by omega) hlt
  have hx : L.getD (L.length - 1) default = L[L.length - 1] := by rw [List.getD_eq_getElem?_getD, List.getElem?_eq_getElem hlt]; rfl
  exact ⟨bf, offf, L[L.length - 1].level, L[L.length - 1].filed, L[L.length - 1].replied, L[L.length - 1].decided, L[L.length - 1].result, rfl, hbf, by rw [hx], hcf (L.length - 1) hlt 0 _ rfl, hcf (L.length - 1) hlt 1 _ rfl, hcf (L.length - 1) hlt 2 _ rfl, hcf (L.length - 1) hlt 3 _ rfl, hcf (L.length - 1) hlt 4 _ rfl⟩
theorem closed_of {a0 a1 a2 a3 a4 : Int} {b : Bool} (h : goesB ⟨a0, a1, a2, a3, a4⟩ = b) (h1 : 0 ≤ a4) (h2 : a4 ≤ 3) : (a4 == 0 || a4 == 3) = !b := by
  rw [← h]
  rcases (show a4 = 0 ∨ a4 = 1 ∨ a4 = 2 ∨ a4 = 3 by omega) with rfl | rfl | rfl | rfl <;> rfl
set_option maxRecDepth 100000 in
set_option maxHeartbeats 1000000 in
theorem spec_DeadlineFor (AH : Option Addr) (cH : Nat) (H : List Int) (J : Int) (A : Option Addr) (c : Nat) (L : List AppealD) (w : World) (hrH : Rd w w.heap.size AH H.length (H.map (Value.int .i64))) (hlH : H.length ≤ 140737488355328) (hcapH : H.length ≤ cH) (hr : Rd w w.heap.size A (L.length * 5) (L.flatMap appealC)) (hl : L.length ≤ 140737488355328) (hcap : L.length ≤ c) :
    Calls Try.prog 37 #[.slice AH H.length cH, .int .i64 J, .slice A L.length c] w fun e w' => e = .returned (.tuple #[.int .i64 (dlFor H J L).1, .int .i64 (dlFor H J L).2]) ∧ Below w.heap.size w w' := by
  unfold dlFor
  have hc0 := l31Code_c AH cH H J A c L 0 w hrH hlH hcapH hr hl hcap
  unfold codeA at hc0
  have h00 : inB 0 0 20000 = true := by decide
  cases hT : appsOk H J L
  · rw [if_neg (by decide)]
    rw [hT, if_neg (by decide)] at hc0
    go_enter Try.func37, Try.ntmps37
    go_wp2_with fail
    refine hc0.mono ?_
    rintro e w1 ⟨rfl, hb1⟩
    clear hc0
    go_wp2
    go_ret2
    exact ⟨rfl, hb1⟩
  rw [hT, if_pos rfl, h00, if_pos rfl] at hc0
  rw [if_pos rfl]
  by_cases h0 : L.length = 0
  · have hS : settledB L = true := by simp [settledB, h0]
    have hlb := (apps_last hT).1
    rw [if_pos hS, if_neg (by omega)]
    have h0q : ((L.length : Int) == 6) = false := by simp; omega
    have h0r : decide ((0 : Int) < L.length) = false := decide_eq_false (by omega)
    have h0s : decide (0 < L.length) = false := decide_eq_false (by omega)
    clear h0
    have HT := Lib.hid hT
    clear hT
    have HC := Lib.hid hc0
    clear hc0
    go_enter Try.func37, Try.ntmps37
    go_wp2_with fail
    refine HC.out.mono ?_
    rintro e w1 ⟨rfl, hb1⟩
    go_wp2_with fail
    refine (l31Last_c J A c L w1 (rdW hb1 hr) hl hcap).mono ?_
    rintro e w' ⟨rfl, rfl⟩
    go_wp2_with fail
    refine (l31Deadline_c AH cH H _ 30 w1 (rdW hb1 hrH) hlH hcapH hlb (by omega) (apps_parts HT.out).1).mono ?_
    rintro e w' ⟨rfl, rfl⟩
    go_wp2
    go_ret2
    exact ⟨rfl, hb1⟩
  obtain ⟨b, off, a0, a1, a2, a3, a4, rfl, hb, hx, f0, f1, f2, f3, f4⟩ := last_cells hr (by omega)
  have hres := (apps_last hT).2 (by omega)
  rw [hx] at hres
  simp only at hres
  cases hg : goesB ⟨a0, a1, a2, a3, a4⟩
  · have hS : settledB L = false := by rw [settledB, hx, hg, decide_eq_false h0]; rfl
    rw [if_neg (by rw [hS]; decide)]
    have hcl := closed_of hg hres.1 hres.2
    have h1 : (1 : Int) ≤ L.length := by omega
    have h1r : decide ((0 : Int) < L.length) = true := decide_eq_true (by omega)
    clear h0
    have HT := Lib.hid hT
    clear hT hx
    have HC := Lib.hid hc0
    clear hc0
    go_enter Try.func37, Try.ntmps37
    go_wp2_with fail
    refine HC.out.mono ?_
    rintro e w1 ⟨rfl, hb1⟩
    have hk := (bcell hb1).1
    rw [← hk _ _ hb] at f0 f1 f2 f3 f4
    clear hk
    go_wp2_with fail
    refine (l31Closed_b _ _ _ _ _ _ _ hcl).mono ?_
    rintro e w2 ⟨rfl, hb2⟩
    go_wp2
    go_ret2
    exact ⟨rfl, bt hb1 hb2⟩
  · have hS : settledB L = true := by rw [settledB, hx, hg]; simp
    rw [if_pos hS]
    have hcl := closed_of hg hres.1 hres.2
    have h1 : (1 : Int) ≤ L.length := by omega
    have h1r : decide ((0 : Int) < L.length) = true := decide_eq_true (by omega)
    have hlb := (apps_last hT).1
    clear h0
    have HT := Lib.hid hT
    have HR := Lib.hid hr
    clear hT hx hr
    have HC := Lib.hid hc0
    clear hc0
    by_cases h6 : L.length = 6
    · rw [if_pos h6]
      have h6q : ((L.length : Int) == 6) = true := by simp; omega
      clear h6
      go_enter Try.func37, Try.ntmps37
      go_wp2_with fail
      refine HC.out.mono ?_
      rintro e w1 ⟨rfl, hb1⟩
      have hk := (bcell hb1).1
      rw [← hk _ _ hb] at f0 f1 f2 f3 f4
      clear hk
      go_wp2_with fail
      refine (l31Closed_b _ _ _ _ _ _ _ hcl).mono ?_
      rintro e w2 ⟨rfl, hb2⟩
      go_wp2
      go_ret2
      exact ⟨rfl, bt hb1 hb2⟩
    · rw [if_neg h6]
      have h6q : ((L.length : Int) == 6) = false := by simp; omega
      clear h6
      go_enter Try.func37, Try.ntmps37
      go_wp2_with fail
      refine HC.out.mono ?_
      rintro e w1 ⟨rfl, hb1⟩
      have hk := (bcell hb1).1
      rw [← hk _ _ hb] at f0 f1 f2 f3 f4
      clear hk
      go_wp2_with fail
      refine (l31Closed_b _ _ _ _ _ _ _ hcl).mono ?_
      rintro e w2 ⟨rfl, hb2⟩
      have hB2 := bt hb1 hb2
      clear f0 f1 f2 f3 f4
      go_wp2_with fail
      refine (l31Last_c J _ c L w2 (rdW hB2 HR.out) hl hcap).mono ?_
      rintro e w' ⟨rfl, rfl⟩
      go_wp2_with fail
      refine (l31Deadline_c AH cH H _ 30 w2 (rdW hB2 hrH) hlH hcapH hlb (by omega) (apps_parts HT.out).1).mono ?_
      rintro e w' ⟨rfl, rfl⟩
      go_wp2
      go_ret2
      exact ⟨rfl, hB2⟩
end Go.Proofs.Ytdohegpbdlcnjaa
