/- Contracts: IsFinalOn of both texts. -/
import Derived.Test.YtdohegpbdlcnjaaAppPlain
namespace Go.Proofs.Ytdohegpbdlcnjaa
open Go.RowKit
set_option linter.unusedVariables false
theorem finF_bad {H : List Int} {J : Int} {L : List AppealD} {day : Int} (h : appsOk H J L = false) : finF H J L day = (false, 1) := by rw [finF, h]; rfl
theorem finF_day {H : List Int} {J : Int} {L : List AppealD} {day : Int} (h : appsOk H J L = true) (hd : inB day 0 20000 = false) : finF H J L day = (false, 2) := by rw [finF, h, hd]; rfl
theorem finF_open {H : List Int} {J : Int} {L : List AppealD} {day : Int} (h : appsOk H J L = true) (hd : inB day 0 20000 = true) (hs : settledB L = false) : finF H J L day = (false, 0) := by rw [finF, h, hd, hs]; rfl
theorem finF_six {H : List Int} {J : Int} {L : List AppealD} {day : Int} (h : appsOk H J L = true) (hd : inB day 0 20000 = true) (hs : settledB L = true) (h6 : L.length = 6) : finF H J L day = (decide (lastAt J L L.length ≤ day), 0) := by
  rw [finF, h, hd, hs, decide_eq_true h6]; simp
theorem finF_few {H : List Int} {J : Int} {L : List AppealD} {day : Int} (h : appsOk H J L = true) (hd : inB day 0 20000 = true) (hs : settledB L = true) (h6 : ¬ L.length = 6) : finF H J L day = (decide (lastAt J L L.length ≤ day) && decide (deadF H (lastAt J L L.length) 30 < day), 0) := by
  rw [finF, h, hd, hs, decide_eq_false h6]; simp

set_option maxRecDepth 100000 in
set_option maxHeartbeats 2000000 in
theorem impl_IsFinalOn (AH : Option Addr) (cH : Nat) (H : List Int) (J : Int) (A : Option Addr) (c : Nat) (L : List AppealD) (day : Int) (w : World) (hrH : Rd w w.heap.size AH H.length (H.map (Value.int .i64))) (hlH : H.length ≤ 140737488355328) (hcapH : H.length ≤ cH) (hr : Rd w w.heap.size A (L.length * 5) (L.flatMap appealC)) (hl : L.length ≤ 140737488355328) (hcap : L.length ≤ c) :
    Calls Try.prog 48 #[.slice AH H.length cH, .int .i64 J, .slice A L.length c, .int .i64 day] w fun e w' => e = .returned (.tuple #[.bool (finF H J L day).1, .int .i64 (finF H J L day).2]) ∧ Below w.heap.size w w' := by
  cases hT : appsOk H J L
  · rw [finF_bad hT]
    go_enter Try.func48, Try.ntmps48
    go_wp2_with fail
    refine (impl_AreAppeals AH cH H J A c L _ w hrH hlH hcapH hr hl hcap hT).mono ?_
    rintro e w1 ⟨rfl, hb1⟩
    go_wp2
    go_ret2
    exact ⟨rfl, hb1⟩
  cases hD : inB day 0 20000
  · rw [finF_day hT hD]
    go_enter Try.func48, Try.ntmps48
    go_wp2_with fail
    refine (impl_AreAppeals AH cH H J A c L _ w hrH hlH hcapH hr hl hcap hT).mono ?_
    rintro e w1 ⟨rfl, hb1⟩
    go_wp2_with (first | (go_at_call 65; refine (isDay_b _ _ _ hD).mono ?_; rintro e w' ⟨rfl, rfl⟩))
    go_ret2
    exact ⟨rfl, hb1⟩
  have hlb := (apps_last hT).1
  have HLB := Lib.hid hlb
  have HT := Lib.hid hT
  by_cases h6 : L.length = 6
  · have h6q : ((L.length : Int) == 6) = true := by simp; omega
    cases hS : settledB L
    · rw [finF_open hT hD hS]
      clear h6
      go_enter Try.func48, Try.ntmps48
      go_wp2_with fail
      refine (impl_AreAppeals AH cH H J A c L _ w hrH hlH hcapH hr hl hcap hT).mono ?_
      rintro e w1 ⟨rfl, hb1⟩
      go_wp2_with (first | (go_at_call 65; refine (isDay_b _ _ _ hD).mono ?_; rintro e w' ⟨rfl, rfl⟩))
      refine (lastDecision_c J A c L w1 (rdW hb1 hr) hl hcap).mono ?_
      rintro e w' ⟨rfl, rfl⟩
      go_wp2_with fail
      refine (settled_b A c L _ w1 (rdW hb1 hr) hl hcap hS).mono ?_
      rintro e w2 ⟨rfl, hb2⟩
      go_wp2
      go_ret2
      exact ⟨rfl, bt hb1 hb2⟩
    · rw [finF_six hT hD hS h6]
      clear h6
      go_enter Try.func48, Try.ntmps48
      go_wp2_with fail
      refine (impl_AreAppeals AH cH H J A c L _ w hrH hlH hcapH hr hl hcap hT).mono ?_
      rintro e w1 ⟨rfl, hb1⟩
      go_wp2_with (first | (go_at_call 65; refine (isDay_b _ _ _ hD).mono ?_; rintro e w' ⟨rfl, rfl⟩))
      refine (lastDecision_c J A c L w1 (rdW hb1 hr) hl hcap).mono ?_
      rintro e w' ⟨rfl, rfl⟩
      go_wp2_with fail
      refine (settled_b A c L _ w1 (rdW hb1 hr) hl hcap hS).mono ?_
      rintro e w2 ⟨rfl, hb2⟩
      go_wp2
      all_goals (go_ret2; exact ⟨by first | rfl | (simp [*]; done) | (simp [*]; omega) | (simp; omega), bt hb1 hb2⟩)
  · have h6q : ((L.length : Int) == 6) = false := by simp; omega
    cases hS : settledB L
    · rw [finF_open hT hD hS]
      clear h6
      go_enter Try.func48, Try.ntmps48
      go_wp2_with fail
      refine (impl_AreAppeals AH cH H J A c L _ w hrH hlH hcapH hr hl hcap hT).mono ?_
      rintro e w1 ⟨rfl, hb1⟩
      go_wp2_with (first | (go_at_call 65; refine (isDay_b _ _ _ hD).mono ?_; rintro e w' ⟨rfl, rfl⟩))
      refine (lastDecision_c J A c L w1 (rdW hb1 hr) hl hcap).mono ?_
      rintro e w' ⟨rfl, rfl⟩
      go_wp2_with fail
      refine (deadline_c AH cH H _ 30 w1 (rdW hb1 hrH) hlH hcapH hlb (by omega)).mono ?_
      rintro e w' ⟨rfl, rfl⟩
      go_wp2_with fail
      refine (settled_b A c L _ w1 (rdW hb1 hr) hl hcap hS).mono ?_
      rintro e w2 ⟨rfl, hb2⟩
      go_wp2
      go_ret2
      exact ⟨rfl, bt hb1 hb2⟩
    · rw [finF_few hT hD hS h6]
      clear h6
      go_enter Try.func48, Try.ntmps48
      go_wp2_with fail
      refine (impl_AreAppeals AH cH H J A c L _ w hrH hlH hcapH hr hl hcap hT).mono ?_
      rintro e w1 ⟨rfl, hb1⟩
      go_wp2_with (first | (go_at_call 65; refine (isDay_b _ _ _ hD).mono ?_; rintro e w' ⟨rfl, rfl⟩))
      refine (lastDecision_c J A c L w1 (rdW hb1 hr) hl hcap).mono ?_
      rintro e w' ⟨rfl, rfl⟩
      go_wp2_with fail
      refine (deadline_c AH cH H _ 30 w1 (rdW hb1 hrH) hlH hcapH hlb (by omega)).mono ?_
      rintro e w' ⟨rfl, rfl⟩
      go_wp2_with fail
      refine (settled_b A c L _ w1 (rdW hb1 hr) hl hcap hS).mono ?_
      rintro e w2 ⟨rfl, hb2⟩
      go_wp2
      all_goals (go_ret2; exact ⟨by first | rfl | (simp [*]; done) | (simp [*]; omega) | (simp; omega), bt hb1 hb2⟩)

set_option maxRecDepth 100000 in
set_option maxHeartbeats 2000000 in
theorem spec_IsFinalOn (AH : Option Addr) (cH : Nat) (H : List Int) (J : Int) (A : Option Addr) (c : Nat) (L : List AppealD) (day : Int) (w : World) (hrH : Rd w w.heap.size AH H.length (H.map (Value.int .i64))) (hlH : H.length ≤ 140737488355328) (hcapH : H.length ≤ cH) (hr : Rd w w.heap.size A (L.length * 5) (L.flatMap appealC)) (hl : L.length ≤ 140737488355328) (hcap : L.length ≤ c) :
    Calls Try.prog 49 #[.slice AH H.length cH, .int .i64 J, .slice A L.length c, .int .i64 day] w fun e w' => e = .returned (.tuple #[.bool (finF H J L day).1, .int .i64 (finF H J L day).2]) ∧ Below w.heap.size w w' := by
  have hc0 := l31Code_c AH cH H J A c L day w hrH hlH hcapH hr hl hcap
  have HDL := fun (W : World) a b => spec_DeadlineFor AH cH H J A c L W a hlH hcapH b hl hcap
  unfold codeA at hc0
  unfold dlFor at HDL
  cases hT : appsOk H J L
  · rw [finF_bad hT]
    rw [hT, if_neg (by decide)] at hc0
    clear HDL
    go_enter Try.func49, Try.ntmps49
    go_wp2_with fail
    refine hc0.mono ?_
    rintro e w1 ⟨rfl, hb1⟩
    go_wp2
    go_ret2
    exact ⟨rfl, hb1⟩
  rw [hT, if_pos rfl] at hc0
  rw [hT, if_pos rfl] at HDL
  cases hD : inB day 0 20000
  · rw [finF_day hT hD]
    rw [hD, if_neg (by decide)] at hc0
    clear HDL
    go_enter Try.func49, Try.ntmps49
    go_wp2_with fail
    refine hc0.mono ?_
    rintro e w1 ⟨rfl, hb1⟩
    go_wp2
    go_ret2
    exact ⟨rfl, hb1⟩
  rw [hD, if_pos rfl] at hc0
  have HC := Lib.hid hc0
  clear hc0
  cases hS : settledB L
  · rw [finF_open hT hD hS]
    rw [hS, if_neg (by decide)] at HDL
    have HD := Lib.hid HDL
    clear HDL hT hD hS
    go_enter Try.func49, Try.ntmps49
    go_wp2_with fail
    refine HC.out.mono ?_
    rintro e w1 ⟨rfl, hb1⟩
    go_wp2_with fail
    refine (HD.out w1 (rdW hb1 hrH) (rdW hb1 hr)).mono ?_
    rintro e w2 ⟨rfl, hb2⟩
    go_wp2
    go_ret2
    exact ⟨rfl, bt hb1 hb2⟩
  rw [hS, if_pos rfl] at HDL
  by_cases h6 : L.length = 6
  · rw [finF_six hT hD hS h6]
    rw [if_pos h6] at HDL
    have HD := Lib.hid HDL
    clear HDL hT hD hS h6
    go_enter Try.func49, Try.ntmps49
    go_wp2_with fail
    refine HC.out.mono ?_
    rintro e w1 ⟨rfl, hb1⟩
    go_wp2_with fail
    refine (HD.out w1 (rdW hb1 hrH) (rdW hb1 hr)).mono ?_
    rintro e w2 ⟨rfl, hb2⟩
    have hB2 := bt hb1 hb2
    go_wp2_with fail
    refine (l31Last_c J A c L w2 (rdW hB2 hr) hl hcap).mono ?_
    rintro e w' ⟨rfl, rfl⟩
    go_wp2
    all_goals (go_ret2; exact ⟨by first | rfl | (simp [*]; done) | (simp [*]; omega) | (simp; omega), bt hb1 hb2⟩)
  · rw [finF_few hT hD hS h6]
    rw [if_neg h6] at HDL
    have HD := Lib.hid HDL
    clear HDL hT hD hS h6
    go_enter Try.func49, Try.ntmps49
    go_wp2_with fail
    refine HC.out.mono ?_
    rintro e w1 ⟨rfl, hb1⟩
    go_wp2_with fail
    refine (HD.out w1 (rdW hb1 hrH) (rdW hb1 hr)).mono ?_
    rintro e w2 ⟨rfl, hb2⟩
    have hB2 := bt hb1 hb2
    go_wp2_with fail
    refine (l31Last_c J A c L w2 (rdW hB2 hr) hl hcap).mono ?_
    rintro e w' ⟨rfl, rfl⟩
    go_wp2
    all_goals (go_ret2; exact ⟨by first | rfl | (simp [*]; done) | (simp [*]; omega) | (simp; omega), bt hb1 hb2⟩)
end Go.Proofs.Ytdohegpbdlcnjaa
