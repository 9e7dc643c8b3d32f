/- Contracts: appealCode, l31Change; ReplyAppeal, DecideAppeal of both texts. -/
import Derived.Test.YtdohegpbdlcnjaaAppFile
namespace Go.Proofs.Ytdohegpbdlcnjaa
open Go.RowKit
set_option linter.unusedVariables false
def codeN (H : List Int) (J : Int) (L : List AppealD) (day : Int) : Int := if appsOk H J L then (if inB day 0 20000 then (if L.length = 0 then 4 else 0) else 2) else 1
theorem appealCode_c (AH : Option Addr) (cH : Nat) (H : List Int) (J : Int) (A : Option Addr) (c : Nat) (L : List AppealD) (day : Int) (w : World) (hrH : Rd w w.heap.size AH H.length (H.map (Value.int .i64))) (hlH : H.length ≤ 140737488355328) (hcapH : H.length ≤ cH) (hr : Rd w w.heap.size A (L.length * 5) (L.flatMap appealC)) (hl : L.length ≤ 140737488355328) (hcap : L.length ≤ c) :
    Calls Try.prog 89 #[.slice AH H.length cH, .int .i64 J, .slice A L.length c, .int .i64 day] w fun e w' => e = .returned (.int .i64 (codeN H J L day)) ∧ Below w.heap.size w w' := by
  unfold codeN
  cases hT : appsOk H J L
  · rw [if_neg (by decide)]
    go_enter Try.func89, Try.ntmps89
    go_wp2_with fail
    refine (impl_AreAppeals AH cH H J A c L _ w hrH hlH hcapH hr hl hcap hT).mono ?_
    rintro e w1 ⟨rfl, hb1⟩
    go_wp2
    go_ret
    exact ⟨rfl, hb1⟩
  rw [if_pos rfl]
  cases hD : inB day 0 20000
  · rw [if_neg (by decide)]
    go_enter Try.func89, Try.ntmps89
    go_wp2_with fail
    refine (impl_AreAppeals AH cH H J A c L _ w hrH hlH hcapH hr hl hcap hT).mono ?_
    rintro e w1 ⟨rfl, hb1⟩
    go_wp2_with (first | (go_at_call 65; refine (isDay_b _ _ _ hD).mono ?_; rintro e w' ⟨rfl, rfl⟩))
    go_ret
    exact ⟨rfl, hb1⟩
  rw [if_pos rfl]
  by_cases h0 : L.length = 0
  · rw [if_pos h0]
    have h0q : ((L.length : Int) == 0) = true := by rw [beq_iff_eq]; omega
    clear h0
    go_enter Try.func89, Try.ntmps89
    go_wp2_with fail
    refine (impl_AreAppeals AH cH H J A c L _ w hrH hlH hcapH hr hl hcap hT).mono ?_
    rintro e w1 ⟨rfl, hb1⟩
    go_wp2_with (first | (go_at_call 65; refine (isDay_b _ _ _ hD).mono ?_; rintro e w' ⟨rfl, rfl⟩))
    go_ret
    exact ⟨rfl, hb1⟩
  · rw [if_neg h0]
    have h0q : ((L.length : Int) == 0) = false := by rw [beq_eq_false_iff_ne]; omega
    clear h0
    go_enter Try.func89, Try.ntmps89
    go_wp2_with fail
    refine (impl_AreAppeals AH cH H J A c L _ w hrH hlH hcapH hr hl hcap hT).mono ?_
    rintro e w1 ⟨rfl, hb1⟩
    go_wp2_with (first | (go_at_call 65; refine (isDay_b _ _ _ hD).mono ?_; rintro e w' ⟨rfl, rfl⟩))
    go_ret
    exact ⟨rfl, hb1⟩


/-! ### Plain: the last element replaced -/
theorem lastAt_app (J : Int) (M : List AppealD) (x : AppealD) {j : Nat} (h : j ≤ M.length) : lastAt J (M ++ [x]) j = lastAt J M j := by
  unfold lastAt
  by_cases h0 : j = 0
  · rw [if_pos h0, if_pos h0]
  · rw [if_neg h0, if_neg h0, List.getD_eq_getElem?_getD, List.getD_eq_getElem?_getD, List.getElem?_append_left (by omega)]
theorem appAt_app (H : List Int) (J : Int) (M : List AppealD) (x : AppealD) {j : Nat} (h : j < M.length) : appAt H J (M ++ [x]) j = appAt H J M j := by
  unfold appAt
  rw [List.getElem?_append_left h, lastAt_app J M x (by omega), List.getD_eq_getElem?_getD, List.getElem?_append_left (show j - 1 < M.length by omega), ← List.getD_eq_getElem?_getD]
theorem appAt_last (H : List Int) (J : Int) (M : List AppealD) (x : AppealD) : appAt H J (M ++ [x]) M.length = (x.level == (M.length : Int) + 1 && appOk H (lastAt J M M.length) x && (decide (M.length = 0) || goesB (M.getD (M.length - 1) default))) := by
  unfold appAt
  rw [List.getElem?_append_right (Nat.le_refl _), Nat.sub_self, lastAt_app J M x (Nat.le_refl _)]
  by_cases h0 : M.length = 0
  · simp [h0]
  · rw [List.getD_eq_getElem?_getD, List.getElem?_append_left (show M.length - 1 < M.length by omega), ← List.getD_eq_getElem?_getD]; rfl
theorem appsOk_app (H : List Int) (J : Int) (M : List AppealD) (x : AppealD) : appsOk H J (M ++ [x]) = (holOk H && inB J 0 20000 && decide (M.length + 1 ≤ 6) && ((List.range M.length).all (appAt H J M) && (x.level == (M.length : Int) + 1 && appOk H (lastAt J M M.length) x && (decide (M.length = 0) || goesB (M.getD (M.length - 1) default))))) := by
  unfold appsOk
  have e : (List.range M.length).all (appAt H J (M ++ [x])) = (List.range M.length).all (appAt H J M) := by
    rw [Bool.eq_iff_iff, List.all_eq_true, List.all_eq_true]
    constructor
    · intro h j hj; rw [← appAt_app H J M x (by simpa using hj)]; exact h j hj
    · intro h j hj; rw [appAt_app H J M x (by simpa using hj)]; exact h j hj
  rw [show (M ++ [x]).length = M.length + 1 by simp, List.range_succ, List.all_append, e]
  simp only [List.all_cons, List.all_nil, Bool.and_true]
  rw [appAt_last]
theorem appsOk_swap {H : List Int} {J : Int} {M : List AppealD} {x : AppealD} (h : appsOk H J (M ++ [x]) = true) (y : AppealD) : x.level = (M.length : Int) + 1 ∧ appOk H (lastAt J M M.length) x = true ∧ (y.level = (M.length : Int) + 1 → appsOk H J (M ++ [y]) = appOk H (lastAt J M M.length) y) := by
  rw [appsOk_app] at h
  simp only [Bool.and_eq_true, beq_iff_eq] at h
  obtain ⟨⟨⟨h1, h2⟩, h3⟩, h4, ⟨h5, h6⟩, h7⟩ := h
  refine ⟨h5, h6, fun hy => ?_⟩
  rw [appsOk_app, h1, h2, h3, h4, h7]
  simp [hy]
theorem snoc_of {L : List AppealD} (h : 0 < L.length) : L = L.take (L.length - 1) ++ [L.getD (L.length - 1) default] := by
  have e : L.getD (L.length - 1) default = L[L.length - 1] := getD_lt (by omega)
  rw [e]
  have := List.take_succ_eq_append_getElem (l := L) (i := L.length - 1) (by omega)
  rw [← this, show L.length - 1 + 1 = L.length by omega, List.take_length]
theorem flat_set {M : List AppealD} {x y : AppealD} {j : Nat} {v : Value} (hj : j < 5) (h : (appealC x).set j v = appealC y) : ((M ++ [x]).flatMap appealC).set (M.length * 5 + j) v = (M ++ [y]).flatMap appealC := by
  rw [List.flatMap_append, List.flatMap_append, List.set_append_right _ _ (by rw [flat_len appealC 5 (fun _ => rfl)]; omega), flat_len appealC 5 (fun _ => rfl), Nat.add_sub_cancel_left]
  simp only [List.flatMap_cons, List.flatMap_nil, List.append_nil]
  rw [h]
def chg (L : List AppealD) (y : AppealD) : List AppealD := L.take (L.length - 1) ++ [y]
theorem chg_len {L : List AppealD} (h : 0 < L.length) (y : AppealD) : (chg L y).length = L.length := by simp [chg]; omega
/-- The last element's cells in a row of the call's own. -/
theorem own_last {w : World} {base : Nat} {e : TypeId} {A : Option Addr} {c : Nat} {L : List AppealD} (h : w.ownsRow base e 5 (.slice A L.length c) L.length (L.flatMap appealC)) (h0 : 0 < L.length) {a0 a1 a2 a3 a4 : Int} (hx : L.getD (L.length - 1) default = ⟨a0, a1, a2, a3, a4⟩) :
    ∃ g, A = some ⟨g, 0, none⟩ ∧ base ≤ g ∧ g < w.heap.size ∧ w.cell? ⟨g, (L.length - 1) * 5, none⟩ = some (.int .i64 a0) ∧ w.cell? ⟨g, (L.length - 1) * 5 + 1, none⟩ = some (.int .i64 a1) ∧
      w.cell? ⟨g, (L.length - 1) * 5 + 2, none⟩ = some (.int .i64 a2) ∧ w.cell? ⟨g, (L.length - 1) * 5 + 3, none⟩ = some (.int .i64 a3) ∧ w.cell? ⟨g, (L.length - 1) * 5 + 4, none⟩ = some (.int .i64 a4) := by
  obtain ⟨g, rfl, hg1, hg2⟩ := own_head h h0
  obtain ⟨b, off, b0, b1, b2, b3, b4, hA, _, hy, f0, f1, f2, f3, f4⟩ := last_cells (Rd.of_own h) h0
  cases hA
  obtain ⟨rfl, rfl, rfl, rfl, rfl⟩ := AppealD.mk.inj (hx.symm.trans hy)
  simp only [Nat.zero_add] at f0 f1 f2 f3 f4
  exact ⟨g, rfl, hg1, hg2, f0, f1, f2, f3, f4⟩

/-! ### ReplyAppeal -/
def replyR (H : List Int) (J : Int) (L : List AppealD) (day : Int) : List AppealD × Int :=
  if codeN H J L day = 0 then
    (let a := L.getD (L.length - 1) default
     if a.result = 0 ∧ a.replied = 0 ∧ day ≠ 0 ∧ inB day a.filed (deadF H a.filed 20) = true then (chg L ⟨a.level, a.filed, day, a.decided, a.result⟩, 0) else ([], 5))
  else ([], codeN H J L day)
theorem codeN_0 {H : List Int} {J : Int} {L : List AppealD} {day : Int} (h : codeN H J L day = 0) : appsOk H J L = true ∧ inB day 0 20000 = true ∧ 0 < L.length := by
  unfold codeN at h
  split at h
  · split at h
    · split at h
      · omega
      · rename_i h1 h2 h3; exact ⟨h1, h2, by omega⟩
    · omega
  · omega

theorem replyR_yes {H : List Int} {J : Int} {L : List AppealD} {day a0 a1 a3 : Int} (hc : codeN H J L day = 0) (hx : L.getD (L.length - 1) default = ⟨a0, a1, 0, a3, 0⟩) (hd : day ≠ 0) (hw : inB day a1 (deadF H a1 20) = true) : replyR H J L day = (chg L ⟨a0, a1, day, a3, 0⟩, 0) := by
  rw [replyR, if_pos hc, hx]; simp [hd, hw]
theorem replyR_no {H : List Int} {J : Int} {L : List AppealD} {day a0 a1 a2 a3 a4 : Int} (hc : codeN H J L day = 0) (hx : L.getD (L.length - 1) default = ⟨a0, a1, a2, a3, a4⟩) (hn : ¬ (a4 = 0 ∧ a2 = 0 ∧ day ≠ 0 ∧ inB day a1 (deadF H a1 20) = true)) : replyR H J L day = ([], 5) := by
  rw [replyR, if_pos hc, hx]; simp only; rw [if_neg hn]
theorem replyR_bad {H : List Int} {J : Int} {L : List AppealD} {day : Int} (hc : codeN H J L day ≠ 0) : replyR H J L day = ([], codeN H J L day) := by rw [replyR, if_neg hc]


set_option maxRecDepth 100000 in
set_option maxHeartbeats 4000000 in
theorem impl_ReplyAppeal (AH : Option Addr) (cH : Nat) (H : List Int) (J : Int) (A : Option Addr) (c : Nat) (L : List AppealD) (day : Int) (w : World) (hrH : Rd w w.heap.size AH H.length (H.map (Value.int .i64))) (hlH : H.length ≤ 140737488355328) (hcapH : H.length ≤ cH) (hr : Rd w w.heap.size A (L.length * 5) (L.flatMap appealC)) (hl : L.length ≤ 140737488355328) (hcap : L.length ≤ c) :
    Calls Try.prog 39 #[.slice AH H.length cH, .int .i64 J, .slice A L.length c, .int .i64 day] w (RowPost2 64 5 (replyR H J L day).1.length ((replyR H J L day).1.flatMap appealC) (replyR H J L day).2 w) := by
  have hcd := appealCode_c AH cH H J A c L day w hrH hlH hcapH hr hl hcap
  by_cases hc0 : codeN H J L day = 0
  · obtain ⟨hT, hD, h0⟩ := codeN_0 hc0
    have h6 := (apps_parts hT).2.2.1
    rw [hc0] at hcd
    have hel := apps_elem hT (show L.length - 1 < L.length by omega)
    rw [← getD_lt (show L.length - 1 < L.length by omega)] at hel
    have hsn := snoc_of h0
    have hx : L.getD (L.length - 1) default = L.getD (L.length - 1) default := rfl
    generalize hy : L.getD (L.length - 1) default = y at hel hsn hx
    obtain ⟨a0, a1, a2, a3, a4⟩ := y
    obtain ⟨he1, he3, he5⟩ := hel
    simp only at he1 he3 he5
    have HSN := Lib.hid hsn
    have HX := Lib.hid hy
    have H0 := Lib.hid h0
    have HCD := Lib.hid hc0
    have HC := Lib.hid hcd
    have h1 : (1 : Int) ≤ L.length := by omega
    have hd20 : (0 : Int) ≤ 20 ∧ (20 : Int) ≤ 30 := by omega
    clear hcd hc0 hT hD h0 hsn hy hx
    by_cases h2 : a4 = 0
    · subst h2
      by_cases h2 : a2 = 0
      · subst h2
        by_cases hdn : day = 0
        · subst hdn
          go_enter Try.func39, Try.ntmps39
          go_wp2_with fail
          refine HC.out.mono ?_
          rintro e w1 ⟨rfl, hb1⟩
          go_wp2_with fail
          refine (cloneAppeal_c A c L w1 (rdW hb1 hr) (by omega)).mono ?_
          rintro e w3 ⟨A3, c3, rfl, ho3, hb3, hc3, hd3⟩
          have hB3 := bt hb1 hb3
          obtain ⟨g, rfl, hg1, hg2, f0, f1, f2, f3, f4⟩ := own_last ho3 H0.out HX.out
          have HRH := Lib.hid (rdW hB3 hrH)
          have HO := Lib.hid ho3
          clear ho3
          go_wp2_with fail
          have kf1 := cell_regrown f1
          have kf2 := cell_regrown f2
          have kf4 := cell_regrown f4
          refine wp_region_bel mixed (by kernel_rfl) ?_
          repeat (any_goals (first | go_big_quiet_step ((fail)) | quiet_step ((fail)) | (refine wpQuiet_step (fun K hK => ?_); go_simp; (split <;> first | (refine hK _ ?_; clear hK K) | (apply Exists.intro; refine ⟨fun _ => ?_, hK _ ?_⟩; ((fail)); clear hK K)))))
          all_goals (refine wpQuiet_nil ?_; intro w1 hw1)
          all_goals (clear kf1 kf2 kf4; replace f1 := (hw1.cell (by (try simp only); omega)).trans f1; replace f2 := (hw1.cell (by (try simp only); omega)).trans f2; replace f4 := (hw1.cell (by (try simp only); omega)).trans f4)
          go_wp2
          go_ret2
          rw [replyR_no HCD.out HX.out (by intro h; exact h.2.2.1 rfl)]
          exact rowPost2_nil (bt hB3 hw1)
        · cases hW : inB day a1 (deadF H a1 20)
          · have HW := Lib.hid hW
            go_enter Try.func39, Try.ntmps39
            go_wp2_with fail
            refine HC.out.mono ?_
            rintro e w1 ⟨rfl, hb1⟩
            go_wp2_with fail
            refine (cloneAppeal_c A c L w1 (rdW hb1 hr) (by omega)).mono ?_
            rintro e w3 ⟨A3, c3, rfl, ho3, hb3, hc3, hd3⟩
            have hB3 := bt hb1 hb3
            obtain ⟨g, rfl, hg1, hg2, f0, f1, f2, f3, f4⟩ := own_last ho3 H0.out HX.out
            have HRH := Lib.hid (rdW hB3 hrH)
            have HO := Lib.hid ho3
            clear ho3
            go_wp2_with fail
            have kf1 := cell_regrown f1
            have kf2 := cell_regrown f2
            have kf4 := cell_regrown f4
            refine wp_region_bel mixed (by kernel_rfl) ?_
            repeat (any_goals (first | go_big_quiet_step ((first | exact rg_same (deadline_c AH cH H a1 20 _ (by exact rdW (below_regrown _ _ _) HRH.out) hlH hcapH he1 hd20) | exact rg_same (within_b _ _ _ _ _ hW))) | quiet_step ((first | exact rg_same (deadline_c AH cH H a1 20 _ (by exact rdW (below_regrown _ _ _) HRH.out) hlH hcapH he1 hd20) | exact rg_same (within_b _ _ _ _ _ hW))) | (refine wpQuiet_step (fun K hK => ?_); go_simp; (split <;> first | (refine hK _ ?_; clear hK K) | (apply Exists.intro; refine ⟨fun _ => ?_, hK _ ?_⟩; ((first | exact rg_same (deadline_c AH cH H a1 20 _ (by exact rdW (below_regrown _ _ _) HRH.out) hlH hcapH he1 hd20) | exact rg_same (within_b _ _ _ _ _ hW))); clear hK K)))))
            all_goals (refine wpQuiet_nil ?_; intro w1 hw1)
            all_goals (clear kf1 kf2 kf4; replace f1 := (hw1.cell (by (try simp only); omega)).trans f1; replace f2 := (hw1.cell (by (try simp only); omega)).trans f2; replace f4 := (hw1.cell (by (try simp only); omega)).trans f4)
            go_wp2
            go_ret2
            rw [replyR_no HCD.out HX.out (by intro h; have := h.2.2.2; rw [HW.out] at this; cases this)]
            exact rowPost2_nil (bt hB3 hw1)
          · have HW := Lib.hid hW
            go_enter Try.func39, Try.ntmps39
            go_wp2_with fail
            refine HC.out.mono ?_
            rintro e w1 ⟨rfl, hb1⟩
            go_wp2_with fail
            refine (cloneAppeal_c A c L w1 (rdW hb1 hr) (by omega)).mono ?_
            rintro e w3 ⟨A3, c3, rfl, ho3, hb3, hc3, hd3⟩
            have hB3 := bt hb1 hb3
            obtain ⟨g, rfl, hg1, hg2, f0, f1, f2, f3, f4⟩ := own_last ho3 H0.out HX.out
            have HRH := Lib.hid (rdW hB3 hrH)
            have HO := Lib.hid ho3
            clear ho3
            go_wp2_with fail
            have kf1 := cell_regrown f1
            have kf2 := cell_regrown f2
            have kf4 := cell_regrown f4
            refine wp_region_bel mixed (by kernel_rfl) ?_
            repeat (any_goals (first | go_big_quiet_step ((first | exact rg_same (deadline_c AH cH H a1 20 _ (by exact rdW (below_regrown _ _ _) HRH.out) hlH hcapH he1 hd20) | exact rg_same (within_b _ _ _ _ _ hW))) | quiet_step ((first | exact rg_same (deadline_c AH cH H a1 20 _ (by exact rdW (below_regrown _ _ _) HRH.out) hlH hcapH he1 hd20) | exact rg_same (within_b _ _ _ _ _ hW))) | (refine wpQuiet_step (fun K hK => ?_); go_simp; (split <;> first | (refine hK _ ?_; clear hK K) | (apply Exists.intro; refine ⟨fun _ => ?_, hK _ ?_⟩; ((first | exact rg_same (deadline_c AH cH H a1 20 _ (by exact rdW (below_regrown _ _ _) HRH.out) hlH hcapH he1 hd20) | exact rg_same (within_b _ _ _ _ _ hW))); clear hK K)))))
            all_goals (refine wpQuiet_nil ?_; intro w1 hw1)
            all_goals (clear kf1 kf2 kf4; replace f1 := (hw1.cell (by (try simp only); omega)).trans f1; replace f2 := (hw1.cell (by (try simp only); omega)).trans f2; replace f4 := (hw1.cell (by (try simp only); omega)).trans f4)
            have ho4 := own_below HO.out hw1
            have hz := ho4.frozenAt ((L.length - 1) * 5 + 2)
            have hsg := ho4.stored ((L.length - 1) * 5 + 2) (.int .i64 day)
            have HSG := Lib.hid hsg
            clear hsg ho4
            go_wp2
            go_ret2
            rw [replyR_yes HCD.out HX.out hdn HW.out]
            have hl5 := chg_len H0.out ⟨a0, a1, day, a3, 0⟩
            rw [hl5]
            have e2 : (L.flatMap appealC).set ((L.length - 1) * 5 + 2) (.int .i64 day) = (chg L ⟨a0, a1, day, a3, 0⟩).flatMap appealC := by
              have hs := HSN.out
              have hm : (L.take (L.length - 1)).length = L.length - 1 := by simp
              have := flat_set (M := L.take (L.length - 1)) (x := ⟨a0, a1, 0, a3, 0⟩) (y := ⟨a0, a1, day, a3, 0⟩) (j := 2) (v := .int .i64 day) (by omega) rfl
              rw [hm, ← hs] at this
              exact this
            have hfin := (HSG.out).1
            rw [e2] at hfin
            exact rowPost2_mk (own_mono hfin hb1.size) (below_grown (bt hB3 hw1) (HSG.out).2 (Nat.le_refl _) (fun k hk => by cases hk; have := hb1.size; omega))
      · skip
        go_enter Try.func39, Try.ntmps39
        go_wp2_with fail
        refine HC.out.mono ?_
        rintro e w1 ⟨rfl, hb1⟩
        go_wp2_with fail
        refine (cloneAppeal_c A c L w1 (rdW hb1 hr) (by omega)).mono ?_
        rintro e w3 ⟨A3, c3, rfl, ho3, hb3, hc3, hd3⟩
        have hB3 := bt hb1 hb3
        obtain ⟨g, rfl, hg1, hg2, f0, f1, f2, f3, f4⟩ := own_last ho3 H0.out HX.out
        have HRH := Lib.hid (rdW hB3 hrH)
        have HO := Lib.hid ho3
        clear ho3
        go_wp2_with fail
        have kf1 := cell_regrown f1
        have kf2 := cell_regrown f2
        have kf4 := cell_regrown f4
        refine wp_region_bel mixed (by kernel_rfl) ?_
        repeat (any_goals (first | go_big_quiet_step ((fail)) | quiet_step ((fail)) | (refine wpQuiet_step (fun K hK => ?_); go_simp; (split <;> first | (refine hK _ ?_; clear hK K) | (apply Exists.intro; refine ⟨fun _ => ?_, hK _ ?_⟩; ((fail)); clear hK K)))))
        all_goals (refine wpQuiet_nil ?_; intro w1 hw1)
        all_goals (clear kf1 kf2 kf4; replace f1 := (hw1.cell (by (try simp only); omega)).trans f1; replace f2 := (hw1.cell (by (try simp only); omega)).trans f2; replace f4 := (hw1.cell (by (try simp only); omega)).trans f4)
        go_wp2
        go_ret2
        rw [replyR_no HCD.out HX.out (by intro h; exact h2 h.2.1)]
        exact rowPost2_nil (bt hB3 hw1)
    · skip
      go_enter Try.func39, Try.ntmps39
      go_wp2_with fail
      refine HC.out.mono ?_
      rintro e w1 ⟨rfl, hb1⟩
      go_wp2_with fail
      refine (cloneAppeal_c A c L w1 (rdW hb1 hr) (by omega)).mono ?_
      rintro e w3 ⟨A3, c3, rfl, ho3, hb3, hc3, hd3⟩
      have hB3 := bt hb1 hb3
      obtain ⟨g, rfl, hg1, hg2, f0, f1, f2, f3, f4⟩ := own_last ho3 H0.out HX.out
      have HRH := Lib.hid (rdW hB3 hrH)
      have HO := Lib.hid ho3
      clear ho3
      go_wp2_with fail
      have kf1 := cell_regrown f1
      have kf2 := cell_regrown f2
      have kf4 := cell_regrown f4
      refine wp_region_bel mixed (by kernel_rfl) ?_
      repeat (any_goals (first | go_big_quiet_step ((fail)) | quiet_step ((fail)) | (refine wpQuiet_step (fun K hK => ?_); go_simp; (split <;> first | (refine hK _ ?_; clear hK K) | (apply Exists.intro; refine ⟨fun _ => ?_, hK _ ?_⟩; ((fail)); clear hK K)))))
      all_goals (refine wpQuiet_nil ?_; intro w1 hw1)
      all_goals (clear kf1 kf2 kf4; replace f1 := (hw1.cell (by (try simp only); omega)).trans f1; replace f2 := (hw1.cell (by (try simp only); omega)).trans f2; replace f4 := (hw1.cell (by (try simp only); omega)).trans f4)
      go_wp2
      go_ret2
      rw [replyR_no HCD.out HX.out (by intro h; exact h2 h.1)]
      exact rowPost2_nil (bt hB3 hw1)
  · have HCD := Lib.hid hc0
    have HC := Lib.hid hcd
    have hne : (codeN H J L day != 0) = true := by rw [bne_iff_ne]; exact hc0
    clear hc0 hcd
    go_enter Try.func39, Try.ntmps39
    go_wp2_with fail
    refine HC.out.mono ?_
    rintro e w1 ⟨rfl, hb1⟩
    go_wp2
    go_ret2
    rw [replyR_bad HCD.out]
    exact rowPost2_nil hb1

end Go.Proofs.Ytdohegpbdlcnjaa
