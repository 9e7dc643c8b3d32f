/- Contracts: l31Code, DeadlineFor of both texts. -/
import Derived.Test.YtdohegpbdlcnjaaAppHelp
namespace Go.Proofs.Ytdohegpbdlcnjaa
open Go.RowKit
set_option linter.unusedVariables false
def codeA (H : List Int) (J : Int) (L : List AppealD) (day : Int) : Int := if appsOk H J L then (if inB day 0 20000 then 0 else 2) else 1
theorem l31Code_c (AH : Option Addr) (cH : Nat) (H : List Int) (J : Int) (A : Option Addr) (c : Nat) (L : List AppealD) (day : Int) (w : World) (hrH : Rd w w.heap.size AH H.length (H.map (Value.int .i64))) (hlH : H.length ≤ 140737488355328) (hcapH : H.length ≤ cH) (hr : Rd w w.heap.size A (L.length * 5) (L.flatMap appealC)) (hl : L.length ≤ 140737488355328) (hcap : L.length ≤ c) :
    Calls Try.prog 84 #[.slice AH H.length cH, .int .i64 J, .slice A L.length c, .int .i64 day] w fun e w' => e = .returned (.int .i64 (codeA H J L day)) ∧ Below w.heap.size w w' := by
  unfold codeA
  cases hT : appsOk H J L
  · go_enter Try.func84, Try.ntmps84
    go_wp2_with fail
    refine (spec_AreAppeals AH cH H J A c L _ w hrH hlH hcapH hr hl hcap hT).mono ?_
    rintro e w1 ⟨rfl, hb1⟩
    go_wp2
    go_ret
    exact ⟨rfl, hb1⟩
  · cases hD : inB day 0 20000
    all_goals
      go_enter Try.func84, Try.ntmps84
      go_wp2_with fail
      refine (spec_AreAppeals AH cH H J A c L _ w hrH hlH hcapH hr hl hcap hT).mono ?_
      rintro e w1 ⟨rfl, hb1⟩
      go_wp2_with (first | (go_at_call 67; refine (l02Is_b _ _ _ hD).mono ?_; rintro e w' ⟨rfl, rfl⟩))
      go_ret
      exact ⟨rfl, hb1⟩

set_option maxHeartbeats 1000000 in
theorem impl_DeadlineFor (AH : Option Addr) (cH : Nat) (H : List Int) (J : Int) (A : Option Addr) (c : Nat) (L : List AppealD) (w : World) (hrH : Rd w w.heap.size AH H.length (H.map (Value.int .i64))) (hlH : H.length ≤ 140737488355328) (hcapH : H.length ≤ cH) (hr : Rd w w.heap.size A (L.length * 5) (L.flatMap appealC)) (hl : L.length ≤ 140737488355328) (hcap : L.length ≤ c) :
    Calls Try.prog 36 #[.slice AH H.length cH, .int .i64 J, .slice A L.length c] w fun e w' => e = .returned (.tuple #[.int .i64 (dlFor H J L).1, .int .i64 (dlFor H J L).2]) ∧ Below w.heap.size w w' := by
  unfold dlFor
  cases hT : appsOk H J L
  · rw [if_neg (by decide)]
    go_enter Try.func36, Try.ntmps36
    go_wp2_with fail
    refine (impl_AreAppeals AH cH H J A c L _ w hrH hlH hcapH hr hl hcap hT).mono ?_
    rintro e w1 ⟨rfl, hb1⟩
    go_wp2
    go_ret2
    exact ⟨rfl, hb1⟩
  · cases hS : settledB L
    · rw [if_pos rfl, if_neg (by decide)]
      go_enter Try.func36, Try.ntmps36
      go_wp2_with fail
      refine (impl_AreAppeals AH cH H J A c L _ w hrH hlH hcapH hr hl hcap hT).mono ?_
      rintro e w1 ⟨rfl, hb1⟩
      go_wp2_with fail
      refine (settled_b A c L _ w1 (rdW hb1 hr) hl hcap hS).mono ?_
      rintro e w2 ⟨rfl, hb2⟩
      go_wp2
      go_ret2
      exact ⟨rfl, bt hb1 hb2⟩
    · by_cases h6 : L.length = 6
      · rw [if_pos rfl, if_pos rfl, if_pos h6]
        have h6q : ((L.length : Int) == 6) = true := by simp; omega
        clear h6
        go_enter Try.func36, Try.ntmps36
        go_wp2_with fail
        refine (impl_AreAppeals AH cH H J A c L _ w hrH hlH hcapH hr hl hcap hT).mono ?_
        rintro e w1 ⟨rfl, hb1⟩
        go_wp2_with fail
        refine (settled_b A c L _ w1 (rdW hb1 hr) hl hcap hS).mono ?_
        rintro e w2 ⟨rfl, hb2⟩
        go_wp2
        go_ret2
        exact ⟨rfl, bt hb1 hb2⟩
      · rw [if_pos rfl, if_pos rfl, if_neg h6]
        have hlb := (apps_last hT).1
        have h6q : ((L.length : Int) == 6) = false := by simp; omega
        clear h6
        go_enter Try.func36, Try.ntmps36
        go_wp2_with fail
        refine (impl_AreAppeals AH cH H J A c L _ w hrH hlH hcapH hr hl hcap hT).mono ?_
        rintro e w1 ⟨rfl, hb1⟩
        go_wp2_with fail
        refine (settled_b A c L _ w1 (rdW hb1 hr) hl hcap hS).mono ?_
        rintro e w2 ⟨rfl, hb2⟩
        have hB2 := bt hb1 hb2
        go_wp2_with fail
        refine (lastDecision_c J A c L w2 (rdW hB2 hr) hl hcap).mono ?_
        rintro e w' ⟨rfl, rfl⟩
        go_wp2_with fail
        refine (deadline_c AH cH H _ 30 w2 (rdW hB2 hrH) hlH hcapH hlb (by omega)).mono ?_
        rintro e w' ⟨rfl, rfl⟩
        go_wp2
        go_ret2
        exact ⟨rfl, hB2⟩

end Go.Proofs.Ytdohegpbdlcnjaa
