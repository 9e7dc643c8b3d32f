/- Contracts: ReplyAppeal of the reference; DecideAppeal of both texts. -/
import Derived.Test.YtdohegpbdlcnjaaAppChg2
namespace Go.Proofs.Ytdohegpbdlcnjaa
open Go.RowKit
set_option linter.unusedVariables false
theorem swap_last {H : List Int} {J : Int} {L : List AppealD} (h : appsOk H J L = true) (h0 : 0 < L.length) {x : AppealD} (hx : L.getD (L.length - 1) default = x) (y : AppealD) (hy : y.level = x.level) :
    appOk H (lastAt J (L.take (L.length - 1)) (L.take (L.length - 1)).length) x = true ∧ appsOk H J (chg L y) = appOk H (lastAt J (L.take (L.length - 1)) (L.take (L.length - 1)).length) y := by
  have hs := snoc_of h0
  rw [hx] at hs
  rw [hs] at h
  obtain ⟨h1, h2, h3⟩ := appsOk_swap h y
  exact ⟨h2, h3 (by rw [hy, h1])⟩
theorem reply_ok {H : List Int} {J : Int} {L : List AppealD} (h : appsOk H J L = true) (h0 : 0 < L.length) {a0 a1 a3 day : Int} (hx : L.getD (L.length - 1) default = ⟨a0, a1, 0, a3, 0⟩) (hd : day ≠ 0) :
    appsOk H J (chg L ⟨a0, a1, day, a3, 0⟩) = inB day a1 (deadF H a1 20) := by
  obtain ⟨h1, h2⟩ := swap_last h h0 hx ⟨a0, a1, day, a3, 0⟩ rfl
  rw [h2]
  simp only [appOk, Bool.and_eq_true] at h1
  obtain ⟨⟨⟨h3, h4⟩, h5⟩, h6⟩ := h1
  simp only [appOk]
  simp only [if_true] at h6
  rw [h3, h4]
  simp [hd, h6]
theorem decide_ok {H : List Int} {J : Int} {L : List AppealD} (h : appsOk H J L = true) (h0 : 0 < L.length) {a0 a1 a2 a3 day res : Int} (hx : L.getD (L.length - 1) default = ⟨a0, a1, a2, a3, 0⟩) (hr : inB res 1 3 = true) (hd : day ≤ 20000) :
    appsOk H J (chg L ⟨a0, a1, a2, day, res⟩) = decide (max a1 a2 ≤ day) := by
  obtain ⟨h1, h2⟩ := swap_last h h0 hx ⟨a0, a1, a2, day, res⟩ rfl
  rw [h2]
  simp only [appOk, Bool.and_eq_true] at h1
  obtain ⟨⟨⟨h3, h4⟩, h5⟩, h6⟩ := h1
  have hr' := inB_iff.1 hr
  have hr3 : inB res 0 3 = true := inB_true (by omega) (by omega)
  simp only [appOk]
  rw [h3, hr3, h5, if_neg (by omega)]
  simp [inB, hd]
theorem codeA_bad {H : List Int} {J : Int} {L : List AppealD} {day : Int} (h : codeA H J L day ≠ 0) : codeN H J L day = codeA H J L day := by
  unfold codeA at h; unfold codeN codeA
  split
  · rename_i h1
    rw [if_pos h1] at h
    split
    · rename_i h2; rw [if_pos h2] at h; exact absurd rfl h
    · rfl
  · rfl
theorem codeA_empty {H : List Int} {J : Int} {L : List AppealD} {day : Int} (h : codeA H J L day = 0) (h0 : L.length = 0) : codeN H J L day = 4 := by
  unfold codeA at h; unfold codeN
  split
  · rename_i h1
    rw [if_pos h1] at h
    split
    · first | rfl | (rw [if_pos h0])
    · rename_i h2; rw [if_neg h2] at h; omega
  · rename_i h1; rw [if_neg h1] at h; omega
theorem codeA_good {H : List Int} {J : Int} {L : List AppealD} {day : Int} (h : codeA H J L day = 0) (h0 : 0 < L.length) : codeN H J L day = 0 := by
  unfold codeA at h; unfold codeN
  split
  · rename_i h1
    rw [if_pos h1] at h
    split
    · first | rfl | (rw [if_neg (by omega)])
    · rename_i h2; rw [if_neg h2] at h; omega
  · rename_i h1; rw [if_neg h1] at h; omega


set_option maxRecDepth 100000 in
set_option maxHeartbeats 4000000 in
theorem spec_ReplyAppeal (AH : Option Addr) (cH : Nat) (H : List Int) (J : Int) (A : Option Addr) (c : Nat) (L : List AppealD) (day : Int) (w : World) (hrH : Rd w w.heap.size AH H.length (H.map (Value.int .i64))) (hlH : H.length ≤ 140737488355328) (hcapH : H.length ≤ cH) (hr : Rd w w.heap.size A (L.length * 5) (L.flatMap appealC)) (hl : L.length ≤ 140737488355328) (hcap : L.length ≤ c) :
    Calls Try.prog 40 #[.slice AH H.length cH, .int .i64 J, .slice A L.length c, .int .i64 day] w (RowPost2 64 5 (replyR H J L day).1.length ((replyR H J L day).1.flatMap appealC) (replyR H J L day).2 w) := by
  have hc0 := l31Code_c AH cH H J A c L day w hrH hlH hcapH hr hl hcap
  by_cases hcd : codeA H J L day = 0
  · rw [hcd] at hc0
    by_cases h0 : L.length = 0
    · have HCD := Lib.hid (replyR_bad (L := L) (H := H) (J := J) (day := day) (by rw [codeA_empty hcd h0]; omega))
      have HC4 := Lib.hid (codeA_empty hcd h0)
      have h0q : ((L.length : Int) == 0) = true := by rw [beq_iff_eq]; omega
      have HC := Lib.hid hc0
      clear hc0 hcd h0
      go_enter Try.func40, Try.ntmps40
      go_wp2_with fail
      refine HC.out.mono ?_
      rintro e w1 ⟨rfl, hb1⟩
      go_wp2
      go_ret2
      rw [HCD.out, HC4.out]
      exact rowPost2_nil hb1
    · have hcn := codeA_good hcd (show 0 < L.length by omega)
      obtain ⟨hT, hD, h0p⟩ := codeN_0 hcn
      have h6 := (apps_parts hT).2.2.1
      have hel := apps_elem hT (show L.length - 1 < L.length by omega)
      rw [← getD_lt (show L.length - 1 < L.length by omega)] at hel
      obtain ⟨b, off, a0, a1, a2, a3, a4, rfl, hb, hx, f0, f1, f2, f3, f4⟩ := last_cells hr h0p
      rw [hx] at hel
      obtain ⟨he1, he3, he5⟩ := hel
      simp only at he1 he3 he5
      have HX := Lib.hid hx
      have H0 := Lib.hid h0p
      have HCD := Lib.hid hcn
      have HC := Lib.hid hc0
      have HT := Lib.hid hT
      have HR := Lib.hid hr
      have h1 : (1 : Int) ≤ L.length := by omega
      have h0q : ((L.length : Int) == 0) = false := by rw [beq_eq_false_iff_ne]; omega
      clear hc0 hcd hcn hT hD h0 h0p hx hr
      by_cases h2 : a4 = 0
      · subst h2
        by_cases h2 : a2 = 0
        · subst h2
          by_cases hdn : day = 0
          · subst hdn
            go_enter Try.func40, Try.ntmps40
            go_wp2_with fail
            refine HC.out.mono ?_
            rintro e w1 ⟨rfl, hb1⟩
            have hk := (bcell hb1).1
            rw [← hk _ _ hb] at f0 f1 f2 f3 f4
            clear hk
            go_wp2
            go_ret2
            rw [replyR_no HCD.out HX.out (by intro h; exact h.2.2.1 rfl)]
            exact rowPost2_nil (hb1.alloc hb1.size _)
          · skip
            go_enter Try.func40, Try.ntmps40
            go_wp2_with fail
            refine HC.out.mono ?_
            rintro e w1 ⟨rfl, hb1⟩
            have hk := (bcell hb1).1
            rw [← hk _ _ hb] at f0 f1 f2 f3 f4
            clear hk
            have hBa := hb1.alloc hb1.size (.cells #[.int .i64 a0, .int .i64 a1, .int .i64 day, .int .i64 a3, .int .i64 0] 64)
            have HRa := Lib.hid (rdW hBa hrH)
            have HRb := Lib.hid (rdW hBa HR.out)
            go_wp2_with fail
            refine (l31Change_c AH cH H J _ c L a0 a1 day a3 0 _ HRa.out hlH hcapH HRb.out hl hcap H0.out (by omega)).mono ?_
            rintro e w3 ⟨A3, c3, rfl, ho3, hb3, hc3, hd3⟩
            go_wp2
            go_ret2
            have hfin : replyR H J L day = chgR H J L ⟨a0, a1, day, a3, 0⟩ := by
              have hap := reply_ok HT.out H0.out HX.out hdn
              cases hW : inB day a1 (deadF H a1 20)
              · rw [hW] at hap
                rw [chgR_f hap, replyR_no HCD.out HX.out (by intro h; have := h.2.2.2; rw [hW] at this; cases this)]
              · rw [hW] at hap
                rw [chgR_t hap, replyR_yes HCD.out HX.out hdn hW]
            rw [hfin]
            exact rowPost2_mk (own_mono ho3 hBa.size) (bt hBa hb3)
        · skip
          go_enter Try.func40, Try.ntmps40
          go_wp2_with fail
          refine HC.out.mono ?_
          rintro e w1 ⟨rfl, hb1⟩
          have hk := (bcell hb1).1
          rw [← hk _ _ hb] at f0 f1 f2 f3 f4
          clear hk
          go_wp2
          go_ret2
          rw [replyR_no HCD.out HX.out (by intro h; exact h2 h.2.1)]
          exact rowPost2_nil (hb1.alloc hb1.size _)
      · skip
        go_enter Try.func40, Try.ntmps40
        go_wp2_with fail
        refine HC.out.mono ?_
        rintro e w1 ⟨rfl, hb1⟩
        have hk := (bcell hb1).1
        rw [← hk _ _ hb] at f0 f1 f2 f3 f4
        clear hk
        go_wp2
        go_ret2
        rw [replyR_no HCD.out HX.out (by intro h; exact h2 h.1)]
        exact rowPost2_nil (hb1.alloc hb1.size _)
  · have HCD := Lib.hid (replyR_bad (L := L) (H := H) (J := J) (day := day) (by rw [codeA_bad hcd]; exact hcd))
    have HCB := Lib.hid (codeA_bad hcd)
    have hne : (codeA H J L day != 0) = true := by rw [bne_iff_ne]; exact hcd
    have hne2 : (codeA H J L day == 0) = false := by rw [beq_eq_false_iff_ne]; exact hcd
    have HC := Lib.hid hc0
    clear hc0 hcd
    go_enter Try.func40, Try.ntmps40
    go_wp2_with fail
    refine HC.out.mono ?_
    rintro e w1 ⟨rfl, hb1⟩
    go_wp2
    go_ret2
    rw [HCD.out, HCB.out]
    exact rowPost2_nil hb1

end Go.Proofs.Ytdohegpbdlcnjaa
