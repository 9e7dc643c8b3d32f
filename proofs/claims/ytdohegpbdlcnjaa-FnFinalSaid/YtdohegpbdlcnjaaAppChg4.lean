/- Contracts: DecideAppeal of both texts. -/
import Derived.Test.YtdohegpbdlcnjaaAppChg3
namespace Go.Proofs.Ytdohegpbdlcnjaa
open Go.RowKit
set_option linter.unusedVariables false
def decR (H : List Int) (J : Int) (L : List AppealD) (res day : Int) : List AppealD × Int :=
  if appsOk H J L = true ∧ inB res 1 3 = false then ([], 2)
  else if codeN H J L day = 0 then
    (let a := L.getD (L.length - 1) default
     if a.result = 0 ∧ max a.filed a.replied ≤ day ∧ day ≠ 0 then (chg L ⟨a.level, a.filed, a.replied, day, res⟩, 0) else ([], 5))
  else ([], codeN H J L day)
theorem decR_in {H : List Int} {J : Int} {L : List AppealD} {res day : Int} (h : appsOk H J L = true) (hr : inB res 1 3 = false) : decR H J L res day = ([], 2) := by rw [decR, if_pos ⟨h, hr⟩]
theorem decR_bad {H : List Int} {J : Int} {L : List AppealD} {res day : Int} (h : appsOk H J L = false ∨ inB res 1 3 = true) (hc : codeN H J L day ≠ 0) : decR H J L res day = ([], codeN H J L day) := by
  rw [decR, if_neg (by rintro ⟨h1, h2⟩; rcases h with h | h <;> simp_all), if_neg hc]
theorem decR_no {H : List Int} {J : Int} {L : List AppealD} {res day a0 a1 a2 a3 a4 : Int} (hr : inB res 1 3 = true) (hc : codeN H J L day = 0) (hx : L.getD (L.length - 1) default = ⟨a0, a1, a2, a3, a4⟩) (hn : ¬ (a4 = 0 ∧ max a1 a2 ≤ day ∧ day ≠ 0)) : decR H J L res day = ([], 5) := by
  rw [decR, if_neg (by rintro ⟨_, h2⟩; rw [hr] at h2; cases h2), if_pos hc, hx]; simp only; rw [if_neg hn]
theorem decR_yes {H : List Int} {J : Int} {L : List AppealD} {res day a0 a1 a2 a3 : Int} (hr : inB res 1 3 = true) (hc : codeN H J L day = 0) (hx : L.getD (L.length - 1) default = ⟨a0, a1, a2, a3, 0⟩) (hm : max a1 a2 ≤ day) (hd : day ≠ 0) : decR H J L res day = (chg L ⟨a0, a1, a2, day, res⟩, 0) := by
  rw [decR, if_neg (by rintro ⟨_, h2⟩; rw [hr] at h2; cases h2), if_pos hc, hx]; simp [hm, hd]
theorem decR_len (H : List Int) (J : Int) (L : List AppealD) (res day : Int) : (decR H J L res day).1.length ≤ 6 := by
  unfold decR
  split
  · simp
  · split
    · rename_i h
      obtain ⟨hT, _, h0⟩ := codeN_0 h
      have := (apps_parts hT).2.2.1
      simp only
      split
      · rw [chg_len h0]; exact this
      · simp
    · simp
theorem replyR_len (H : List Int) (J : Int) (L : List AppealD) (day : Int) : (replyR H J L day).1.length ≤ 6 := by
  unfold replyR
  split
  · rename_i h
    obtain ⟨hT, _, h0⟩ := codeN_0 h
    have := (apps_parts hT).2.2.1
    simp only
    split
    · rw [chg_len h0]; exact this
    · simp
  · simp


set_option maxRecDepth 100000 in
set_option maxHeartbeats 4000000 in
theorem impl_DecideAppeal (AH : Option Addr) (cH : Nat) (H : List Int) (J : Int) (A : Option Addr) (c : Nat) (L : List AppealD) (res day : Int) (w : World) (hrH : Rd w w.heap.size AH H.length (H.map (Value.int .i64))) (hlH : H.length ≤ 140737488355328) (hcapH : H.length ≤ cH) (hr : Rd w w.heap.size A (L.length * 5) (L.flatMap appealC)) (hl : L.length ≤ 140737488355328) (hcap : L.length ≤ c) :
    Calls Try.prog 42 #[.slice AH H.length cH, .int .i64 J, .slice A L.length c, .int .i64 res, .int .i64 day] w (RowPost2 64 5 (decR H J L res day).1.length ((decR H J L res day).1.flatMap appealC) (decR H J L res day).2 w) := by
  have hcd := fun (W : World) a b => appealCode_c AH cH H J A c L day W a hlH hcapH b hl hcap
  cases hT : appsOk H J L
  · have hc1 : codeN H J L day = 1 := by rw [codeN, hT]; rfl
    have HCD := Lib.hid (decR_bad (res := res) (.inl hT) (show codeN H J L day ≠ 0 by omega))
    rw [hc1] at hcd
    have HC1 := Lib.hid hc1
    have HC := Lib.hid hcd
    clear hcd hc1
    go_enter Try.func42, Try.ntmps42
    go_wp2_with fail
    refine (impl_AreAppeals AH cH H J A c L _ w hrH hlH hcapH hr hl hcap hT).mono ?_
    rintro e w0 ⟨rfl, hb0⟩
    go_wp2_with fail
    refine (HC.out w0 (rdW hb0 hrH) (rdW hb0 hr)).mono ?_
    rintro e w1 ⟨rfl, hb01⟩
    go_wp2
    go_ret2
    rw [HCD.out, HC1.out]
    exact rowPost2_nil (bt hb0 hb01)
  cases hI : inB res 1 3
  · have HI := Lib.hid hI
    have HT := Lib.hid hT
    clear hT hcd
    go_enter Try.func42, Try.ntmps42
    go_wp2_with fail
    refine (impl_AreAppeals AH cH H J A c L _ w hrH hlH hcapH hr hl hcap HT.out).mono ?_
    rintro e w0 ⟨rfl, hb0⟩
    go_wp2_with (first | (go_at_call 72; refine (within_b _ _ _ _ _ hI).mono ?_; rintro e w' ⟨rfl, rfl⟩))
    go_ret2
    rw [decR_in HT.out HI.out]
    exact rowPost2_nil hb0
  have HI := Lib.hid hI
  have HT := Lib.hid hT
  by_cases hc0 : codeN H J L day = 0
  · obtain ⟨_, hD, h0⟩ := codeN_0 hc0
    have h6 := (apps_parts hT).2.2.1
    rw [hc0] at hcd
    have hel := apps_elem hT (show L.length - 1 < L.length by omega)
    rw [← getD_lt (show L.length - 1 < L.length by omega)] at hel
    have hsn := snoc_of h0
    generalize hy : L.getD (L.length - 1) default = y at hel hsn
    obtain ⟨a0, a1, a2, a3, a4⟩ := y
    obtain ⟨he1, he3, he5⟩ := hel
    simp only at he1 he3 he5
    have HSN := Lib.hid hsn
    have HX := Lib.hid hy
    have H0 := Lib.hid h0
    have HCD := Lib.hid hc0
    have HC := Lib.hid hcd
    have h1 : (1 : Int) ≤ L.length := by omega
    clear hcd hc0 hT hD h0 hsn hy
    by_cases h2 : a4 = 0
    · subst h2
      obtain ⟨m, hmx⟩ : ∃ m, (if a1 < a2 then a2 else a1) = m := ⟨_, rfl⟩
      have HMX := Lib.hid (show max a1 a2 = m by split at hmx <;> omega)
      by_cases hm : day < m
      · have HM := Lib.hid hm
        have hmB : decide (day < m) = true := decide_eq_true hm
        go_enter Try.func42, Try.ntmps42
        go_wp2_with fail
        refine (impl_AreAppeals AH cH H J A c L _ w hrH hlH hcapH hr hl hcap HT.out).mono ?_
        rintro e w0 ⟨rfl, hb0⟩
        go_wp2_with (first | (go_at_call 72; refine (within_b _ _ _ _ _ hI).mono ?_; rintro e w' ⟨rfl, rfl⟩))
        refine (HC.out w0 (rdW hb0 hrH) (rdW hb0 hr)).mono ?_
        rintro e w1 ⟨rfl, hb01⟩
        have hb1 := bt hb0 hb01
        clear hb0 hb01
        go_wp2_with fail
        refine (cloneAppeal_c A c L w1 (rdW hb1 hr) (by omega)).mono ?_
        rintro e w3 ⟨A3, c3, rfl, ho3, hb3, hc3, hd3⟩
        have hB3 := bt hb1 hb3
        obtain ⟨g, rfl, hg1, hg2, f0, f1, f2, f3, f4⟩ := own_last ho3 H0.out HX.out
        have HRH := Lib.hid (rdW hB3 hrH)
        have HO := Lib.hid ho3
        clear ho3
        go_wp2_with fail
        have kf1 := cell_regrown f1
        have kf2 := cell_regrown f2
        have kf4 := cell_regrown f4
        refine wp_region_bel mixed (by kernel_rfl) ?_
        repeat (any_goals (first | go_big_quiet_step ((fail)) | quiet_step ((fail)) | (refine wpQuiet_step (fun K hK => ?_); go_simp; (split <;> first | (refine hK _ ?_; clear hK K) | (apply Exists.intro; refine ⟨fun _ => ?_, hK _ ?_⟩; ((fail)); clear hK K)))))
        all_goals (refine wpQuiet_nil ?_; intro w1 hw1)
        all_goals (clear kf1 kf2 kf4; replace f1 := (hw1.cell (by (try simp only); omega)).trans f1; replace f2 := (hw1.cell (by (try simp only); omega)).trans f2; replace f4 := (hw1.cell (by (try simp only); omega)).trans f4)
        go_wp2
        go_ret2
        rw [decR_no HI.out HCD.out HX.out (by intro h; have h3 := h.2.1; have h4 := HM.out; rw [HMX.out] at h3; omega)]
        exact rowPost2_nil (bt hB3 hw1)
      · have HM := Lib.hid (show m ≤ day by omega)
        have hmB : decide (day < m) = false := decide_eq_false hm
        by_cases hdn : day = 0
        · subst hdn
          go_enter Try.func42, Try.ntmps42
          go_wp2_with fail
          refine (impl_AreAppeals AH cH H J A c L _ w hrH hlH hcapH hr hl hcap HT.out).mono ?_
          rintro e w0 ⟨rfl, hb0⟩
          go_wp2_with (first | (go_at_call 72; refine (within_b _ _ _ _ _ hI).mono ?_; rintro e w' ⟨rfl, rfl⟩))
          refine (HC.out w0 (rdW hb0 hrH) (rdW hb0 hr)).mono ?_
          rintro e w1 ⟨rfl, hb01⟩
          have hb1 := bt hb0 hb01
          clear hb0 hb01
          go_wp2_with fail
          refine (cloneAppeal_c A c L w1 (rdW hb1 hr) (by omega)).mono ?_
          rintro e w3 ⟨A3, c3, rfl, ho3, hb3, hc3, hd3⟩
          have hB3 := bt hb1 hb3
          obtain ⟨g, rfl, hg1, hg2, f0, f1, f2, f3, f4⟩ := own_last ho3 H0.out HX.out
          have HRH := Lib.hid (rdW hB3 hrH)
          have HO := Lib.hid ho3
          clear ho3
          go_wp2_with fail
          have kf1 := cell_regrown f1
          have kf2 := cell_regrown f2
          have kf4 := cell_regrown f4
          refine wp_region_bel mixed (by kernel_rfl) ?_
          repeat (any_goals (first | go_big_quiet_step ((fail)) | quiet_step ((fail)) | (refine wpQuiet_step (fun K hK => ?_); go_simp; (split <;> first | (refine hK _ ?_; clear hK K) | (apply Exists.intro; refine ⟨fun _ => ?_, hK _ ?_⟩; ((fail)); clear hK K)))))
          all_goals (refine wpQuiet_nil ?_; intro w1 hw1)
          all_goals (clear kf1 kf2 kf4; replace f1 := (hw1.cell (by (try simp only); omega)).trans f1; replace f2 := (hw1.cell (by (try simp only); omega)).trans f2; replace f4 := (hw1.cell (by (try simp only); omega)).trans f4)
          go_wp2
          go_ret2
          rw [decR_no HI.out HCD.out HX.out (by intro h; exact h.2.2 rfl)]
          exact rowPost2_nil (bt hB3 hw1)
        · have hdB : (day == 0) = false := beq_eq_false_iff_ne.2 hdn
          go_enter Try.func42, Try.ntmps42
          go_wp2_with fail
          refine (impl_AreAppeals AH cH H J A c L _ w hrH hlH hcapH hr hl hcap HT.out).mono ?_
          rintro e w0 ⟨rfl, hb0⟩
          go_wp2_with (first | (go_at_call 72; refine (within_b _ _ _ _ _ hI).mono ?_; rintro e w' ⟨rfl, rfl⟩))
          refine (HC.out w0 (rdW hb0 hrH) (rdW hb0 hr)).mono ?_
          rintro e w1 ⟨rfl, hb01⟩
          have hb1 := bt hb0 hb01
          clear hb0 hb01
          go_wp2_with fail
          refine (cloneAppeal_c A c L w1 (rdW hb1 hr) (by omega)).mono ?_
          rintro e w3 ⟨A3, c3, rfl, ho3, hb3, hc3, hd3⟩
          have hB3 := bt hb1 hb3
          obtain ⟨g, rfl, hg1, hg2, f0, f1, f2, f3, f4⟩ := own_last ho3 H0.out HX.out
          have HRH := Lib.hid (rdW hB3 hrH)
          have HO := Lib.hid ho3
          clear ho3
          go_wp2_with fail
          have kf1 := cell_regrown f1
          have kf2 := cell_regrown f2
          have kf4 := cell_regrown f4
          refine wp_region_bel mixed (by kernel_rfl) ?_
          repeat (any_goals (first | go_big_quiet_step ((fail)) | quiet_step ((fail)) | (refine wpQuiet_step (fun K hK => ?_); go_simp; (split <;> first | (refine hK _ ?_; clear hK K) | (apply Exists.intro; refine ⟨fun _ => ?_, hK _ ?_⟩; ((fail)); clear hK K)))))
          all_goals (refine wpQuiet_nil ?_; intro w1 hw1)
          all_goals (clear kf1 kf2 kf4; replace f1 := (hw1.cell (by (try simp only); omega)).trans f1; replace f2 := (hw1.cell (by (try simp only); omega)).trans f2; replace f4 := (hw1.cell (by (try simp only); omega)).trans f4)
          have ho4 := own_below HO.out hw1
          have hz := ho4.frozenAt ((L.length - 1) * 5 + 4)
          have hz2 := ho4.frozenAt ((L.length - 1) * 5 + 3)
          have f3' := (hw1.cell (p := ⟨g, (L.length - 1) * 5 + 3, none⟩) (by (try simp only); omega)).trans f3
          have hs1 := ho4.stored ((L.length - 1) * 5 + 4) (.int .i64 res)
          have hs2 := hs1.1.stored ((L.length - 1) * 5 + 3) (.int .i64 day)
          have HS1 := Lib.hid hs1.2
          have HS2 := Lib.hid hs2
          clear hs1 hs2 ho4
          go_wp2
          go_ret2
          rw [decR_yes HI.out HCD.out HX.out (by rw [HMX.out]; exact HM.out) hdn]
          have hl5 := chg_len H0.out ⟨a0, a1, a2, day, res⟩
          rw [hl5]
          have e2 : ((L.flatMap appealC).set ((L.length - 1) * 5 + 4) (.int .i64 res)).set ((L.length - 1) * 5 + 3) (.int .i64 day) = (chg L ⟨a0, a1, a2, day, res⟩).flatMap appealC := by
            have hs := HSN.out
            have hm : (L.take (L.length - 1)).length = L.length - 1 := by simp
            have h5 := flat_set (M := L.take (L.length - 1)) (x := ⟨a0, a1, a2, a3, 0⟩) (y := ⟨a0, a1, a2, a3, res⟩) (j := 4) (v := .int .i64 res) (by omega) rfl
            have h6 := flat_set (M := L.take (L.length - 1)) (x := ⟨a0, a1, a2, a3, res⟩) (y := ⟨a0, a1, a2, day, res⟩) (j := 3) (v := .int .i64 day) (by omega) rfl
            rw [hm, ← hs] at h5
            rw [hm] at h6
            rw [h5, h6]
            rfl
          have hfin := (HS2.out).1
          rw [e2] at hfin
          exact rowPost2_mk (own_mono hfin hb1.size) (below_grown (below_grown (bt hB3 hw1) HS1.out (Nat.le_refl _) (fun k hk => by cases hk; have := hb1.size; omega)) (HS2.out).2 (Nat.le_refl _) (fun k hk => by cases hk; have := hb1.size; omega))
    · skip
      go_enter Try.func42, Try.ntmps42
      go_wp2_with fail
      refine (impl_AreAppeals AH cH H J A c L _ w hrH hlH hcapH hr hl hcap HT.out).mono ?_
      rintro e w0 ⟨rfl, hb0⟩
      go_wp2_with (first | (go_at_call 72; refine (within_b _ _ _ _ _ hI).mono ?_; rintro e w' ⟨rfl, rfl⟩))
      refine (HC.out w0 (rdW hb0 hrH) (rdW hb0 hr)).mono ?_
      rintro e w1 ⟨rfl, hb01⟩
      have hb1 := bt hb0 hb01
      clear hb0 hb01
      go_wp2_with fail
      refine (cloneAppeal_c A c L w1 (rdW hb1 hr) (by omega)).mono ?_
      rintro e w3 ⟨A3, c3, rfl, ho3, hb3, hc3, hd3⟩
      have hB3 := bt hb1 hb3
      obtain ⟨g, rfl, hg1, hg2, f0, f1, f2, f3, f4⟩ := own_last ho3 H0.out HX.out
      have HRH := Lib.hid (rdW hB3 hrH)
      have HO := Lib.hid ho3
      clear ho3
      go_wp2_with fail
      have kf1 := cell_regrown f1
      have kf2 := cell_regrown f2
      have kf4 := cell_regrown f4
      refine wp_region_bel mixed (by kernel_rfl) ?_
      repeat (any_goals (first | go_big_quiet_step ((fail)) | quiet_step ((fail)) | (refine wpQuiet_step (fun K hK => ?_); go_simp; (split <;> first | (refine hK _ ?_; clear hK K) | (apply Exists.intro; refine ⟨fun _ => ?_, hK _ ?_⟩; ((fail)); clear hK K)))))
      all_goals (refine wpQuiet_nil ?_; intro w1 hw1)
      all_goals (clear kf1 kf2 kf4; replace f1 := (hw1.cell (by (try simp only); omega)).trans f1; replace f2 := (hw1.cell (by (try simp only); omega)).trans f2; replace f4 := (hw1.cell (by (try simp only); omega)).trans f4)
      go_wp2
      go_ret2
      rw [decR_no HI.out HCD.out HX.out (by intro h; exact h2 h.1)]
      exact rowPost2_nil (bt hB3 hw1)
  · have HCD := Lib.hid (decR_bad (res := res) (.inr hI) hc0)
    have HC := Lib.hid hcd
    have hne : (codeN H J L day != 0) = true := by rw [bne_iff_ne]; exact hc0
    clear hc0 hcd hT
    go_enter Try.func42, Try.ntmps42
    go_wp2_with fail
    refine (impl_AreAppeals AH cH H J A c L _ w hrH hlH hcapH hr hl hcap HT.out).mono ?_
    rintro e w0 ⟨rfl, hb0⟩
    go_wp2_with (first | (go_at_call 72; refine (within_b _ _ _ _ _ hI).mono ?_; rintro e w' ⟨rfl, rfl⟩))
    refine (HC.out w0 (rdW hb0 hrH) (rdW hb0 hr)).mono ?_
    rintro e w1 ⟨rfl, hb01⟩
    go_wp2
    go_ret2
    rw [HCD.out]
    exact rowPost2_nil (bt hb0 hb01)


set_option maxRecDepth 100000 in
set_option maxHeartbeats 4000000 in
theorem spec_DecideAppeal (AH : Option Addr) (cH : Nat) (H : List Int) (J : Int) (A : Option Addr) (c : Nat) (L : List AppealD) (res day : Int) (w : World) (hrH : Rd w w.heap.size AH H.length (H.map (Value.int .i64))) (hlH : H.length ≤ 140737488355328) (hcapH : H.length ≤ cH) (hr : Rd w w.heap.size A (L.length * 5) (L.flatMap appealC)) (hl : L.length ≤ 140737488355328) (hcap : L.length ≤ c) :
    Calls Try.prog 43 #[.slice AH H.length cH, .int .i64 J, .slice A L.length c, .int .i64 res, .int .i64 day] w (RowPost2 64 5 (decR H J L res day).1.length ((decR H J L res day).1.flatMap appealC) (decR H J L res day).2 w) := by
  cases hI : inB res 1 3
  · have hc0 := l31Code_c AH cH H J A c L (-1) w hrH hlH hcapH hr hl hcap
    unfold codeA at hc0
    rw [show inB (-1) 0 20000 = false from by decide] at hc0
    have HI := Lib.hid hI
    cases hT : appsOk H J L
    · have hc1 : codeN H J L day = 1 := by rw [codeN, hT]; rfl
      have HCD := Lib.hid (decR_bad (res := res) (.inl hT) (show codeN H J L day ≠ 0 by omega))
      rw [hT, if_neg (by decide)] at hc0
      have HC1 := Lib.hid hc1
      have HC := Lib.hid hc0
      clear hc0 hc1 hT
      go_enter Try.func43, Try.ntmps43
      go_wp2_with (first | (go_at_call 74; refine (l01In_b _ _ _ _ _ hI).mono ?_; rintro e w' ⟨rfl, rfl⟩))
      refine HC.out.mono ?_
      rintro e w1 ⟨rfl, hb1⟩
      go_wp2
      go_ret2
      rw [HCD.out, HC1.out]
      exact rowPost2_nil hb1
    · have HT := Lib.hid hT
      rw [hT, if_pos rfl, if_neg (by decide)] at hc0
      have HC := Lib.hid hc0
      clear hc0 hT
      go_enter Try.func43, Try.ntmps43
      go_wp2_with (first | (go_at_call 74; refine (l01In_b _ _ _ _ _ hI).mono ?_; rintro e w' ⟨rfl, rfl⟩))
      refine HC.out.mono ?_
      rintro e w1 ⟨rfl, hb1⟩
      go_wp2
      go_ret2
      rw [decR_in HT.out HI.out]
      exact rowPost2_nil hb1
  have HI := Lib.hid hI
  have hc0 := l31Code_c AH cH H J A c L day w hrH hlH hcapH hr hl hcap
  by_cases hcd : codeA H J L day = 0
  · rw [hcd] at hc0
    by_cases h0 : L.length = 0
    · have HCD := Lib.hid (decR_bad (res := res) (L := L) (H := H) (J := J) (day := day) (.inr hI) (by rw [codeA_empty hcd h0]; omega))
      have HC4 := Lib.hid (codeA_empty hcd h0)
      have h0q : ((L.length : Int) == 0) = true := by rw [beq_iff_eq]; omega
      have HC := Lib.hid hc0
      clear hc0 hcd h0
      go_enter Try.func43, Try.ntmps43
      go_wp2_with (first | (go_at_call 74; refine (l01In_b _ _ _ _ _ hI).mono ?_; rintro e w' ⟨rfl, rfl⟩))
      refine HC.out.mono ?_
      rintro e w1 ⟨rfl, hb1⟩
      go_wp2
      go_ret2
      rw [HCD.out, HC4.out]
      exact rowPost2_nil hb1
    · have hcn := codeA_good hcd (show 0 < L.length by omega)
      obtain ⟨hT, hD, h0p⟩ := codeN_0 hcn
      have HD := Lib.hid (inB_iff.1 hD).2
      have h6 := (apps_parts hT).2.2.1
      have hel := apps_elem hT (show L.length - 1 < L.length by omega)
      rw [← getD_lt (show L.length - 1 < L.length by omega)] at hel
      obtain ⟨b, off, a0, a1, a2, a3, a4, rfl, hb, hx, f0, f1, f2, f3, f4⟩ := last_cells hr h0p
      rw [hx] at hel
      obtain ⟨he1, he3, he5⟩ := hel
      simp only at he1 he3 he5
      have HX := Lib.hid hx
      have H0 := Lib.hid h0p
      have HCD := Lib.hid hcn
      have HC := Lib.hid hc0
      have HT := Lib.hid hT
      have HR := Lib.hid hr
      have h1 : (1 : Int) ≤ L.length := by omega
      have h0q : ((L.length : Int) == 0) = false := by rw [beq_eq_false_iff_ne]; omega
      clear hc0 hcd hcn hT hD h0 h0p hx hr
      by_cases h2 : a4 = 0
      · subst h2
        by_cases hdn : day = 0
        · subst hdn
          go_enter Try.func43, Try.ntmps43
          go_wp2_with (first | (go_at_call 74; refine (l01In_b _ _ _ _ _ hI).mono ?_; rintro e w' ⟨rfl, rfl⟩))
          refine HC.out.mono ?_
          rintro e w1 ⟨rfl, hb1⟩
          have hk := (bcell hb1).1
          rw [← hk _ _ hb] at f0 f1 f2 f3 f4
          clear hk
          go_wp2
          go_ret2
          rw [decR_no HI.out HCD.out HX.out (by intro h; exact h.2.2 rfl)]
          exact rowPost2_nil (hb1.alloc hb1.size _)
        · skip
          go_enter Try.func43, Try.ntmps43
          go_wp2_with (first | (go_at_call 74; refine (l01In_b _ _ _ _ _ hI).mono ?_; rintro e w' ⟨rfl, rfl⟩))
          refine HC.out.mono ?_
          rintro e w1 ⟨rfl, hb1⟩
          have hk := (bcell hb1).1
          rw [← hk _ _ hb] at f0 f1 f2 f3 f4
          clear hk
          have hBa := hb1.alloc hb1.size (.cells #[.int .i64 a0, .int .i64 a1, .int .i64 a2, .int .i64 day, .int .i64 res] 64)
          have HRa := Lib.hid (rdW hBa hrH)
          have HRb := Lib.hid (rdW hBa HR.out)
          go_wp2_with fail
          refine (l31Change_c AH cH H J _ c L a0 a1 a2 day res _ HRa.out hlH hcapH HRb.out hl hcap H0.out (by omega)).mono ?_
          rintro e w3 ⟨A3, c3, rfl, ho3, hb3, hc3, hd3⟩
          go_wp2
          go_ret2
          have hfin : decR H J L res day = chgR H J L ⟨a0, a1, a2, day, res⟩ := by
            have hap := decide_ok HT.out H0.out HX.out HI.out HD.out
            by_cases hm : max a1 a2 ≤ day
            · rw [decide_eq_true hm] at hap
              rw [chgR_t hap, decR_yes HI.out HCD.out HX.out hm hdn]
            · rw [decide_eq_false hm] at hap
              rw [chgR_f hap, decR_no HI.out HCD.out HX.out (by intro h; exact hm h.2.1)]
          rw [hfin]
          exact rowPost2_mk (own_mono ho3 hBa.size) (bt hBa hb3)
      · skip
        go_enter Try.func43, Try.ntmps43
        go_wp2_with (first | (go_at_call 74; refine (l01In_b _ _ _ _ _ hI).mono ?_; rintro e w' ⟨rfl, rfl⟩))
        refine HC.out.mono ?_
        rintro e w1 ⟨rfl, hb1⟩
        have hk := (bcell hb1).1
        rw [← hk _ _ hb] at f0 f1 f2 f3 f4
        clear hk
        go_wp2
        go_ret2
        rw [decR_no HI.out HCD.out HX.out (by intro h; exact h2 h.1)]
        exact rowPost2_nil (hb1.alloc hb1.size _)
  · have HCD := Lib.hid (decR_bad (res := res) (L := L) (H := H) (J := J) (day := day) (.inr hI) (by rw [codeA_bad hcd]; exact hcd))
    have HCB := Lib.hid (codeA_bad hcd)
    have hne : (codeA H J L day != 0) = true := by rw [bne_iff_ne]; exact hcd
    have hne2 : (codeA H J L day == 0) = false := by rw [beq_eq_false_iff_ne]; exact hcd
    have HC := Lib.hid hc0
    clear hc0 hcd
    go_enter Try.func43, Try.ntmps43
    go_wp2_with (first | (go_at_call 74; refine (l01In_b _ _ _ _ _ hI).mono ?_; rintro e w' ⟨rfl, rfl⟩))
    refine HC.out.mono ?_
    rintro e w1 ⟨rfl, hb1⟩
    go_wp2
    go_ret2
    rw [HCD.out, HCB.out]
    exact rowPost2_nil hb1

end Go.Proofs.Ytdohegpbdlcnjaa
