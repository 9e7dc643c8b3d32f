/- Contracts: AreAppeals of both texts. -/
import Derived.Test.YtdohegpbdlcnjaaAppOk
namespace Go.Proofs.Ytdohegpbdlcnjaa
open Go.RowKit
set_option linter.unusedVariables false
def lastAt (J : Int) (L : List AppealD) (k : Nat) : Int := if k = 0 then J else (L.getD (k - 1) default).decided
def appAt (H : List Int) (J : Int) (L : List AppealD) (k : Nat) : Bool :=
  match L[k]? with
  | none => true
  | some x => x.level == (k : Int) + 1 && appOk H (lastAt J L k) x && (decide (k = 0) || goesB (L.getD (k - 1) default))
def appsOk (H : List Int) (J : Int) (L : List AppealD) : Bool := holOk H && inB J 0 20000 && decide (L.length ≤ 6) && (List.range L.length).all (appAt H J L)
theorem appAt_eq {H : List Int} {J : Int} {L : List AppealD} {k : Nat} (hk : k < L.length) :
    appAt H J L k = (L[k].level == (k : Int) + 1 && appOk H (lastAt J L k) L[k] && (decide (k = 0) || goesB (L.getD (k - 1) default))) := by
  simp [appAt, List.getElem?_eq_getElem hk]
theorem apps_false {H : List Int} {J : Int} {L : List AppealD} {k : Nat} (hk : k < L.length) (h : appAt H J L k = false) : appsOk H J L = false := by
  have : (List.range L.length).all (appAt H J L) = false := by
    rw [← Bool.not_eq_true, List.all_eq_true]
    intro hh
    have := hh k (by simp [hk])
    rw [h] at this; cases this
  simp [appsOk, this]
theorem apps_all {H : List Int} {J : Int} {L : List AppealD} (h : ∀ j, j < L.length → appAt H J L j = true) : appsOk H J L = (holOk H && inB J 0 20000 && decide (L.length ≤ 6)) := by
  have : (List.range L.length).all (appAt H J L) = true := by
    rw [List.all_eq_true]; intro x hx; exact h x (by simpa using hx)
  simp [appsOk, this]
theorem appAt_step {H : List Int} {J : Int} {L : List AppealD} {k : Nat} (T : Hid (∀ j, j < k → appAt H J L j = true)) (h : appAt H J L k = true) : Hid (∀ j, j < k + 1 → appAt H J L j = true) := by
  intro j hj
  by_cases e : j = k
  · subst e; exact h
  · exact T.out j (by omega)
theorem lastAt_succ {J : Int} {L : List AppealD} {k : Nat} (hk : k < L.length) : lastAt J L (k + 1) = L[k].decided := by
  rw [lastAt, if_neg (by omega), Nat.add_sub_cancel, List.getD_eq_getElem?_getD, List.getElem?_eq_getElem hk]; rfl
theorem last_bd {H : List Int} {J : Int} {L : List AppealD} (hJ : inB J 0 20000 = true) : ∀ {k : Nat}, k ≤ L.length → (∀ j, j < k → appAt H J L j = true) → (0 ≤ lastAt J L k ∧ lastAt J L k ≤ 20000) ∧ (0 < k → 0 ≤ (L.getD (k - 1) default).result ∧ (L.getD (k - 1) default).result ≤ 3)
  | 0, _, _ => ⟨by have := inB_iff.1 hJ; rw [lastAt, if_pos rfl]; omega, fun h => absurd h (by omega)⟩
  | k + 1, hk, T => by
    have IH := (last_bd (H := H) (L := L) hJ (k := k) (by omega) (fun j hj => T j (by omega))).1
    have h := T k (by omega)
    rw [appAt_eq (show k < L.length by omega), Bool.and_eq_true, Bool.and_eq_true] at h
    have := app_dec IH h.1.2
    rw [lastAt_succ (show k < L.length by omega)]
    refine ⟨this.1, fun _ => ?_⟩
    rw [Nat.add_sub_cancel, List.getD_eq_getElem?_getD, List.getElem?_eq_getElem (show k < L.length by omega)]
    exact this.2


set_option maxRecDepth 100000 in
set_option maxHeartbeats 2000000 in
theorem impl_AreAppeals (AH : Option Addr) (cH : Nat) (H : List Int) (J : Int) (A : Option Addr) (c : Nat) (L : List AppealD) (b : Bool) (w : World) (hrH : Rd w w.heap.size AH H.length (H.map (Value.int .i64))) (hlH : H.length ≤ 140737488355328) (hcapH : H.length ≤ cH) (hr : Rd w w.heap.size A (L.length * 5) (L.flatMap appealC)) (hl : L.length ≤ 140737488355328) (hcap : L.length ≤ c) (h : appsOk H J L = b) :
    Calls Try.prog 45 #[.slice AH H.length cH, .int .i64 J, .slice A L.length c] w fun e w' => e = .returned (.bool b) ∧ Below w.heap.size w w' := by
  have HB := Lib.hid h; clear h
  cases hH : holOk H
  · go_enter Try.func45, Try.ntmps45
    go_wp2_with fail
    refine (impl_AreHolidays AH cH H _ w hrH hlH hcapH hH).mono ?_
    rintro e w1 ⟨rfl, rfl⟩
    go_wp2
    go_ret
    exact ⟨ret_bool (by rw [← HB.out]; simp [appsOk, hH]), Below.refl _ _⟩
  cases hJ : inB J 0 20000
  · go_enter Try.func45, Try.ntmps45
    go_wp2_with fail
    refine (impl_AreHolidays AH cH H _ w hrH hlH hcapH hH).mono ?_
    rintro e w1 ⟨rfl, rfl⟩
    go_wp2_with (first | (go_at_call 65; refine (isDay_b _ _ _ hJ).mono ?_; rintro e w' ⟨rfl, rfl⟩))
    go_ret
    exact ⟨ret_bool (by rw [← HB.out]; simp [appsOk, hJ]), Below.refl _ _⟩
  cases h6 : decide (L.length ≤ 6)
  · have h6' : ¬ L.length ≤ 6 := by simpa using h6
    have h6i : ¬ (L.length : Int) ≤ 6 := by omega
    have h6j : (6 : Int) < L.length := by omega
    have HFW := Lib.hid (show decide ((L.length : Int) ≤ 6) = false by simp; omega)
    go_enter Try.func45, Try.ntmps45
    go_wp2_with fail
    refine (impl_AreHolidays AH cH H _ w hrH hlH hcapH hH).mono ?_
    rintro e w1 ⟨rfl, rfl⟩
    go_wp2_with (first | (go_at_call 65; refine (isDay_b _ _ _ hJ).mono ?_; rintro e w' ⟨rfl, rfl⟩) | (go_at_call 79; refine (few_b _ _ _ _ HFW.out).mono ?_; rintro e w' ⟨rfl, rfl⟩))
    go_ret
    exact ⟨ret_bool (by rw [← HB.out]; simp [appsOk, h6']), Below.refl _ _⟩
  have h6' : L.length ≤ 6 := by simpa using h6
  have h6i : (L.length : Int) ≤ 6 := by omega
  have HFW := Lib.hid (show decide ((L.length : Int) ≤ 6) = true by simp; omega)
  have HJ := Lib.hid hJ
  have HH := Lib.hid hH
  go_enter Try.func45, Try.ntmps45
  go_wp2_with fail
  refine (impl_AreHolidays AH cH H _ w hrH hlH hcapH hH).mono ?_
  rintro e w1 ⟨rfl, rfl⟩
  have hb1 : Below w.heap.size w w := Below.refl _ _
  go_wp2_with (first | (go_at_call 65; refine (isDay_b _ _ _ hJ).mono ?_; rintro e w' ⟨rfl, rfl⟩) | (go_at_call 79; refine (few_b _ _ _ _ HFW.out).mono ?_; rintro e w' ⟨rfl, rfl⟩))
  go_loopw [7, 27] (fun l i wr => ∃ k : Nat, k ≤ L.length ∧ i = .int .i64 k ∧ l = .int .i64 (lastAt J L k) ∧ Below w.heap.size w wr ∧ Hid (∀ j, j < k → appAt H J L j = true)) (fun _ i _ => L.length - (intOf i).toNat)
  case atStart => exact ⟨0, by omega, rfl, rfl, hb1, fun j hj => absurd hj (by omega)⟩
  case round =>
    obtain ⟨k, hk, rfl, rfl, hB, HT⟩ := hrel
    clear hb1 hJ hH
    by_cases hlt : k < L.length
    · obtain ⟨bf, offf, rfl, hbf, hcf⟩ := Rd.elem appealC 5 (fun _ => rfl) (rdW hB hr) (by omega) hlt
      have f0 : wr.cell? ⟨bf, offf + k * 5, none⟩ = some (.int .i64 L[k].level) := hcf k hlt 0 _ rfl
      have f1 : wr.cell? ⟨bf, offf + k * 5 + 1, none⟩ = some (.int .i64 L[k].filed) := hcf k hlt 1 _ rfl
      have f2 : wr.cell? ⟨bf, offf + k * 5 + 2, none⟩ = some (.int .i64 L[k].replied) := hcf k hlt 2 _ rfl
      have f3 : wr.cell? ⟨bf, offf + k * 5 + 3, none⟩ = some (.int .i64 L[k].decided) := hcf k hlt 3 _ rfl
      have f4 : wr.cell? ⟨bf, offf + k * 5 + 4, none⟩ = some (.int .i64 L[k].result) := hcf k hlt 4 _ rfl
      have hp0 : 0 < k → wr.cell? ⟨bf, offf + (k - 1) * 5, none⟩ = some (.int .i64 (L.getD (k - 1) default).level) := by
        intro h0
        rw [List.getD_eq_getElem?_getD, List.getElem?_eq_getElem (show k - 1 < L.length by omega)]
        exact hcf (k - 1) (by omega) 0 _ rfl
      have hp1 : 0 < k → wr.cell? ⟨bf, offf + (k - 1) * 5 + 1, none⟩ = some (.int .i64 (L.getD (k - 1) default).filed) := by
        intro h0
        rw [List.getD_eq_getElem?_getD, List.getElem?_eq_getElem (show k - 1 < L.length by omega)]
        exact hcf (k - 1) (by omega) 1 _ rfl
      have hp2 : 0 < k → wr.cell? ⟨bf, offf + (k - 1) * 5 + 2, none⟩ = some (.int .i64 (L.getD (k - 1) default).replied) := by
        intro h0
        rw [List.getD_eq_getElem?_getD, List.getElem?_eq_getElem (show k - 1 < L.length by omega)]
        exact hcf (k - 1) (by omega) 2 _ rfl
      have hp3 : 0 < k → wr.cell? ⟨bf, offf + (k - 1) * 5 + 3, none⟩ = some (.int .i64 (L.getD (k - 1) default).decided) := by
        intro h0
        rw [List.getD_eq_getElem?_getD, List.getElem?_eq_getElem (show k - 1 < L.length by omega)]
        exact hcf (k - 1) (by omega) 3 _ rfl
      have hp4 : 0 < k → wr.cell? ⟨bf, offf + (k - 1) * 5 + 4, none⟩ = some (.int .i64 (L.getD (k - 1) default).result) := by
        intro h0
        rw [List.getD_eq_getElem?_getD, List.getElem?_eq_getElem (show k - 1 < L.length by omega)]
        exact hcf (k - 1) (by omega) 4 _ rfl
      have T := Lib.hid (appAt_eq (H := H) (J := J) hlt)
      have HBD := last_bd HJ.out hk HT.out
      have hz := HBD.1
      have HP := Lib.hid HBD.2
      have HLS := Lib.hid (lastAt_succ (J := J) hlt)
      clear HBD
      have hk' : (k : Int) < L.length := by omega
      have hk0 : (0 : Int) ≤ (k : Int) := by omega
      have hkc : (k : Int) ≤ (c : Int) := by omega
      have HRH := Lib.hid (rdW hB hrH)
      clear hcf
      generalize L[k] = x at *
      generalize L.getD (k - 1) default = q at *
      generalize lastAt J L k = z at *
      obtain ⟨x0, x1, x2, x3, x4⟩ := x
      obtain ⟨q0, q1, q2, q3, q4⟩ := q
      by_cases hx : x0 = (k : Int) + 1
      · subst hx
        cases hA : appOk H z ⟨(k : Int) + 1, x1, x2, x3, x4⟩
        · go_wp2_with fail
          generalize hW1 : wr.alloc _ = W1
          have hbW1 : Below wr.heap.size wr W1 := by subst hW1; exact (Below.refl _ _).alloc (Nat.le_refl _) _
          have hsW1 : W1.heap.size = wr.heap.size + 1 := by subst hW1; simp
          have cxW1_0 : ∀ i, W1.cell? ⟨wr.heap.size, i, none⟩ = (#[.int .i64 ((k : Int) + 1), .int .i64 x1, .int .i64 x2, .int .i64 x3, .int .i64 x4] : Array Value)[i]? := by intro i; subst hW1; simp [go_sem]
          have HSW1 := Lib.hid hsW1; clear hW1 hsW1
          have hs4 := HSW1.out
          refine (isAppeal_b AH cH H z _ _ _ _ _ _ W1 (rdW hbW1 HRH.out) hlH hcapH hz hA).mono ?_
          rintro e w1 ⟨rfl, hb2⟩
          have hw1 := bt hbW1 hb2
          replace cxW1_0 := fun i => (hb2.cell (by (try simp only); omega)).trans (cxW1_0 i)
          clear hp0 hp1 hp2 hp3 hp4 f0 f1 f2 f3 f4
          go_wp2
          first
              | (go_ret
                 exact ⟨ret_bool (by rw [← HB.out]; exact (apps_false hlt (by rw [T.out]; have HP := HP.out; first | (simp_all; done) | (simp_all; omega))).symm), bt hB hw1⟩)
              | (go_roundw
                 case rel => exact ⟨k + 1, by omega, by go_num, by rw [HLS.out], bt hB hw1, appAt_step HT (by rw [T.out]; have HP := HP.out; first | (simp_all; done) | (simp_all; omega))⟩
                 case measure => simp [intOf]; omega)
        · by_cases hk1 : 0 < k
          · have g0 := Lib.hid (hp0 hk1)
            have g1 := Lib.hid (hp1 hk1)
            have g2 := Lib.hid (hp2 hk1)
            have g3 := Lib.hid (hp3 hk1)
            have g4 := Lib.hid (hp4 hk1)
            cases hg : goesB ⟨q0, q1, q2, q3, q4⟩
            all_goals
              clear hp0 hp1 hp2 hp3 hp4
              go_wp2_with fail
              generalize hW1 : wr.alloc _ = W1
              have hbW1 : Below wr.heap.size wr W1 := by subst hW1; exact (Below.refl _ _).alloc (Nat.le_refl _) _
              have hsW1 : W1.heap.size = wr.heap.size + 1 := by subst hW1; simp
              have cxW1_0 : ∀ i, W1.cell? ⟨wr.heap.size, i, none⟩ = (#[.int .i64 ((k : Int) + 1), .int .i64 x1, .int .i64 x2, .int .i64 x3, .int .i64 x4] : Array Value)[i]? := by intro i; subst hW1; simp [go_sem]
              have HSW1 := Lib.hid hsW1; clear hW1 hsW1
              have hs4 := HSW1.out
              refine (isAppeal_b AH cH H z _ _ _ _ _ _ W1 (rdW hbW1 HRH.out) hlH hcapH hz hA).mono ?_
              rintro e w1 ⟨rfl, hb2⟩
              have hw1 := bt hbW1 hb2
              replace cxW1_0 := fun i => (hb2.cell (by (try simp only); omega)).trans (cxW1_0 i)
              clear f0 f1 f2 f3 f4
              have p0 := (hw1.cell (by exact hbf)).trans g0.out
              have p1 := (hw1.cell (by exact hbf)).trans g1.out
              have p2 := (hw1.cell (by exact hbf)).trans g2.out
              have p3 := (hw1.cell (by exact hbf)).trans g3.out
              have p4 := (hw1.cell (by exact hbf)).trans g4.out
              have hsz1 := hw1.size
              have hsz2 := hb2.size
              go_wp2_with fail
              try any_goals (exfalso; omega)
              refine (goesOn_b _ _ _ _ _ _ _ hg).mono ?_
              rintro e w3 ⟨rfl, hb3⟩
              replace cxW1_0 := fun i => (hb3.cell (by (try simp only); omega)).trans (cxW1_0 i)
              have hw1 := bt hw1 hb3
              go_wp2
              first
              | (go_ret
                 exact ⟨ret_bool (by rw [← HB.out]; exact (apps_false hlt (by rw [T.out]; have HP := HP.out; first | (simp_all; done) | (simp_all; omega))).symm), bt hB hw1⟩)
              | (go_roundw
                 case rel => exact ⟨k + 1, by omega, by go_num, by rw [HLS.out], bt hB hw1, appAt_step HT (by rw [T.out]; have HP := HP.out; first | (simp_all; done) | (simp_all; omega))⟩
                 case measure => simp [intOf]; omega)
          · clear hp0 hp1 hp2 hp3 hp4
            have HK1 := Lib.hid hk1; clear hk1
            go_wp2_with fail
            generalize hW1 : wr.alloc _ = W1
            have hbW1 : Below wr.heap.size wr W1 := by subst hW1; exact (Below.refl _ _).alloc (Nat.le_refl _) _
            have hsW1 : W1.heap.size = wr.heap.size + 1 := by subst hW1; simp
            have cxW1_0 : ∀ i, W1.cell? ⟨wr.heap.size, i, none⟩ = (#[.int .i64 ((k : Int) + 1), .int .i64 x1, .int .i64 x2, .int .i64 x3, .int .i64 x4] : Array Value)[i]? := by intro i; subst hW1; simp [go_sem]
            have HSW1 := Lib.hid hsW1; clear hW1 hsW1
            have hs4 := HSW1.out
            refine (isAppeal_b AH cH H z _ _ _ _ _ _ W1 (rdW hbW1 HRH.out) hlH hcapH hz hA).mono ?_
            rintro e w1 ⟨rfl, hb2⟩
            have hw1 := bt hbW1 hb2
            replace cxW1_0 := fun i => (hb2.cell (by (try simp only); omega)).trans (cxW1_0 i)
            clear f0 f1 f2 f3 f4
            have hk1 := HK1.out
            go_wp2_with fail
            try any_goals (exfalso; omega)
            first
              | (go_ret
                 exact ⟨ret_bool (by rw [← HB.out]; exact (apps_false hlt (by rw [T.out]; have HP := HP.out; first | (simp_all; done) | (simp_all; omega))).symm), bt hB hw1⟩)
              | (go_roundw
                 case rel => exact ⟨k + 1, by omega, by go_num, by rw [HLS.out], bt hB hw1, appAt_step HT (by rw [T.out]; have HP := HP.out; first | (simp_all; done) | (simp_all; omega))⟩
                 case measure => simp [intOf]; omega)
      · clear hp0 hp1 hp2 hp3 hp4
        have hw1 : Below wr.heap.size wr (wr.alloc (.cells #[.int .i64 x0, .int .i64 x1, .int .i64 x2, .int .i64 x3, .int .i64 x4] 64)) := (Below.refl _ _).alloc (Nat.le_refl _) _
        go_wp2
        first
              | (go_ret
                 exact ⟨ret_bool (by rw [← HB.out]; exact (apps_false hlt (by rw [T.out]; have HP := HP.out; first | (simp_all; done) | (simp_all; omega))).symm), bt hB hw1⟩)
              | (go_roundw
                 case rel => exact ⟨k + 1, by omega, by go_num, by rw [HLS.out], bt hB hw1, appAt_step HT (by rw [T.out]; have HP := HP.out; first | (simp_all; done) | (simp_all; omega))⟩
                 case measure => simp [intOf]; omega)
    · have hkl : k = L.length := by omega
      subst hkl
      have HF := Lib.hid (apps_all HT.out)
      clear hlt HT
      go_wp2
      go_ret
      exact ⟨ret_bool (by rw [← HB.out, HF.out, HH.out, HJ.out, h6]; rfl), hB⟩

set_option maxRecDepth 100000 in
set_option maxHeartbeats 2000000 in
theorem spec_AreAppeals (AH : Option Addr) (cH : Nat) (H : List Int) (J : Int) (A : Option Addr) (c : Nat) (L : List AppealD) (b : Bool) (w : World) (hrH : Rd w w.heap.size AH H.length (H.map (Value.int .i64))) (hlH : H.length ≤ 140737488355328) (hcapH : H.length ≤ cH) (hr : Rd w w.heap.size A (L.length * 5) (L.flatMap appealC)) (hl : L.length ≤ 140737488355328) (hcap : L.length ≤ c) (h : appsOk H J L = b) :
    Calls Try.prog 46 #[.slice AH H.length cH, .int .i64 J, .slice A L.length c] w fun e w' => e = .returned (.bool b) ∧ Below w.heap.size w w' := by
  have HB := Lib.hid h; clear h
  cases hH : holOk H
  · go_enter Try.func46, Try.ntmps46
    go_wp2_with fail
    refine (spec_AreHolidays AH cH H _ w hrH hlH hcapH hH).mono ?_
    rintro e w1 ⟨rfl, hb1⟩
    go_wp2
    go_ret
    exact ⟨ret_bool (by rw [← HB.out]; simp [appsOk, hH]), hb1⟩
  cases hJ : inB J 0 20000
  · go_enter Try.func46, Try.ntmps46
    go_wp2_with fail
    refine (spec_AreHolidays AH cH H _ w hrH hlH hcapH hH).mono ?_
    rintro e w1 ⟨rfl, hb1⟩
    go_wp2_with (first | (go_at_call 67; refine (l02Is_b _ _ _ hJ).mono ?_; rintro e w' ⟨rfl, rfl⟩))
    go_ret
    exact ⟨ret_bool (by rw [← HB.out]; simp [appsOk, hJ]), hb1⟩
  cases h6 : decide (L.length ≤ 6)
  · have h6' : ¬ L.length ≤ 6 := by simpa using h6
    have h6i : ¬ (L.length : Int) ≤ 6 := by omega
    have h6j : (6 : Int) < L.length := by omega
    have HFW := Lib.hid (show decide ((L.length : Int) ≤ 6) = false by simp; omega)
    go_enter Try.func46, Try.ntmps46
    go_wp2_with fail
    refine (spec_AreHolidays AH cH H _ w hrH hlH hcapH hH).mono ?_
    rintro e w1 ⟨rfl, hb1⟩
    go_wp2_with (first | (go_at_call 67; refine (l02Is_b _ _ _ hJ).mono ?_; rintro e w' ⟨rfl, rfl⟩) )
    go_ret
    exact ⟨ret_bool (by rw [← HB.out]; simp [appsOk, h6']), hb1⟩
  have h6' : L.length ≤ 6 := by simpa using h6
  have h6i : (L.length : Int) ≤ 6 := by omega
  have HFW := Lib.hid (show decide ((L.length : Int) ≤ 6) = true by simp; omega)
  have HJ := Lib.hid hJ
  have HH := Lib.hid hH
  go_enter Try.func46, Try.ntmps46
  go_wp2_with fail
  refine (spec_AreHolidays AH cH H _ w hrH hlH hcapH hH).mono ?_
  rintro e w1 ⟨rfl, hb1⟩
  have hb1 : Below w.heap.size w w1 := hb1
  go_wp2_with (first | (go_at_call 67; refine (l02Is_b _ _ _ hJ).mono ?_; rintro e w' ⟨rfl, rfl⟩) )
  go_loopw [7, 8] (fun l i wr => ∃ k : Nat, k ≤ L.length ∧ i = .int .i64 k ∧ l = .int .i64 (lastAt J L k) ∧ Below w.heap.size w wr ∧ Hid (∀ j, j < k → appAt H J L j = true)) (fun _ i _ => L.length - (intOf i).toNat)
  case atStart => exact ⟨0, by omega, rfl, rfl, hb1, fun j hj => absurd hj (by omega)⟩
  case round =>
    obtain ⟨k, hk, rfl, rfl, hB, HT⟩ := hrel
    clear hb1 hJ hH
    by_cases hlt : k < L.length
    · obtain ⟨bf, offf, rfl, hbf, hcf⟩ := Rd.elem appealC 5 (fun _ => rfl) (rdW hB hr) (by omega) hlt
      have f0 : wr.cell? ⟨bf, offf + k * 5, none⟩ = some (.int .i64 L[k].level) := hcf k hlt 0 _ rfl
      have f1 : wr.cell? ⟨bf, offf + k * 5 + 1, none⟩ = some (.int .i64 L[k].filed) := hcf k hlt 1 _ rfl
      have f2 : wr.cell? ⟨bf, offf + k * 5 + 2, none⟩ = some (.int .i64 L[k].replied) := hcf k hlt 2 _ rfl
      have f3 : wr.cell? ⟨bf, offf + k * 5 + 3, none⟩ = some (.int .i64 L[k].decided) := hcf k hlt 3 _ rfl
      have f4 : wr.cell? ⟨bf, offf + k * 5 + 4, none⟩ = some (.int .i64 L[k].result) := hcf k hlt 4 _ rfl
      have hp0 : 0 < k → wr.cell? ⟨bf, offf + (k - 1) * 5, none⟩ = some (.int .i64 (L.getD (k - 1) default).level) := by
        intro h0
        rw [List.getD_eq_getElem?_getD, List.getElem?_eq_getElem (show k - 1 < L.length by omega)]
        exact hcf (k - 1) (by omega) 0 _ rfl
      have hp1 : 0 < k → wr.cell? ⟨bf, offf + (k - 1) * 5 + 1, none⟩ = some (.int .i64 (L.getD (k - 1) default).filed) := by
        intro h0
        rw [List.getD_eq_getElem?_getD, List.getElem?_eq_getElem (show k - 1 < L.length by omega)]
        exact hcf (k - 1) (by omega) 1 _ rfl
      have hp2 : 0 < k → wr.cell? ⟨bf, offf + (k - 1) * 5 + 2, none⟩ = some (.int .i64 (L.getD (k - 1) default).replied) := by
        intro h0
        rw [List.getD_eq_getElem?_getD, List.getElem?_eq_getElem (show k - 1 < L.length by omega)]
        exact hcf (k - 1) (by omega) 2 _ rfl
      have hp3 : 0 < k → wr.cell? ⟨bf, offf + (k - 1) * 5 + 3, none⟩ = some (.int .i64 (L.getD (k - 1) default).decided) := by
        intro h0
        rw [List.getD_eq_getElem?_getD, List.getElem?_eq_getElem (show k - 1 < L.length by omega)]
        exact hcf (k - 1) (by omega) 3 _ rfl
      have hp4 : 0 < k → wr.cell? ⟨bf, offf + (k - 1) * 5 + 4, none⟩ = some (.int .i64 (L.getD (k - 1) default).result) := by
        intro h0
        rw [List.getD_eq_getElem?_getD, List.getElem?_eq_getElem (show k - 1 < L.length by omega)]
        exact hcf (k - 1) (by omega) 4 _ rfl
      have T := Lib.hid (appAt_eq (H := H) (J := J) hlt)
      have HBD := last_bd HJ.out hk HT.out
      have hz := HBD.1
      have HP := Lib.hid HBD.2
      have HLS := Lib.hid (lastAt_succ (J := J) hlt)
      clear HBD
      have hk' : (k : Int) < L.length := by omega
      have hk0 : (0 : Int) ≤ (k : Int) := by omega
      have hkc : (k : Int) ≤ (c : Int) := by omega
      have HRH := Lib.hid (rdW hB hrH)
      clear hcf
      generalize L[k] = x at *
      generalize L.getD (k - 1) default = q at *
      generalize lastAt J L k = z at *
      obtain ⟨x0, x1, x2, x3, x4⟩ := x
      obtain ⟨q0, q1, q2, q3, q4⟩ := q
      have E0 := Lib.hid f0
      have E1 := Lib.hid f1
      have E2 := Lib.hid f2
      have E3 := Lib.hid f3
      have E4 := Lib.hid f4
      have hk4 : (0 : Int) ≤ (k : Int) + 1 := by omega
      have HTF := Lib.hid T.out
      cases hL : (x0 == (k : Int) + 1 && appOk H z ⟨x0, x1, x2, x3, x4⟩)
      all_goals
        by_cases hk1 : 0 < k
        · have hk2 : (0 : Int) < (k : Int) := by omega
          replace hp0 := hp0 hk1
          replace hp1 := hp1 hk1
          replace hp2 := hp2 hk1
          replace hp3 := hp3 hk1
          replace hp4 := hp4 hk1
          cases hcl : (q4 == 0 || q4 == 3)
          · go_wp2_with fail
            try any_goals (exfalso; omega)
            refine (l31Closed_b _ _ _ _ _ _ wr hcl).mono ?_
            rintro e w2 ⟨rfl, hb2⟩
            have f0 := (hb2.cell (by exact hbf)).trans E0.out
            have f1 := (hb2.cell (by exact hbf)).trans E1.out
            have f2 := (hb2.cell (by exact hbf)).trans E2.out
            have f3 := (hb2.cell (by exact hbf)).trans E3.out
            have f4 := (hb2.cell (by exact hbf)).trans E4.out
            go_wp2_with fail
            refine (l31Is_b AH cH H _ _ _ _ _ _ z _ w2 (rdW hb2 HRH.out) hlH hcapH hz HH.out hL).mono ?_
            rintro e w1 ⟨rfl, hb3⟩
            have hw1 := bt hb2 hb3
            have f3 := (hw1.cell (by exact hbf)).trans E3.out
            go_wp2
            first
              | (go_ret
                 exact ⟨ret_bool (by rw [← HB.out]; exact (apps_false hlt (by rw [T.out]; have HP := HP.out; first | (rw [hL]; rfl) | (simp_all [goesB]; done) | (simp_all [goesB]; omega))).symm), bt hB hw1⟩)
              | (go_roundw
                 case rel => exact ⟨k + 1, by omega, by go_num, by rw [HLS.out], bt hB hw1, appAt_step HT (by rw [T.out]; have HP := HP.out; rw [hL]; first | (simp_all [goesB]; done) | (simp_all [goesB]; omega))⟩
                 case measure => simp [intOf]; omega)
          · go_wp2_with fail
            try any_goals (exfalso; omega)
            refine (l31Closed_b _ _ _ _ _ _ wr hcl).mono ?_
            rintro e w1 ⟨rfl, hw1⟩
            go_wp2
            first
              | (go_ret
                 exact ⟨ret_bool (by rw [← HB.out]; exact (apps_false hlt (by rw [T.out]; have HP := HP.out; first | (rw [hL]; rfl) | (simp_all [goesB]; done) | (simp_all [goesB]; omega))).symm), bt hB hw1⟩)
              | (go_roundw
                 case rel => exact ⟨k + 1, by omega, by go_num, by rw [HLS.out], bt hB hw1, appAt_step HT (by rw [T.out]; have HP := HP.out; rw [hL]; first | (simp_all [goesB]; done) | (simp_all [goesB]; omega))⟩
                 case measure => simp [intOf]; omega)
        · have HK1 := Lib.hid hk1
          clear hk1 hp0 hp1 hp2 hp3 hp4
          go_wp2_with fail
          try any_goals (exfalso; have := HK1.out; omega)
          refine (l31Is_b AH cH H _ _ _ _ _ _ z _ wr HRH.out hlH hcapH hz HH.out hL).mono ?_
          rintro e w1 ⟨rfl, hw1⟩
          have f3 := (hw1.cell (by exact hbf)).trans E3.out
          have hk1 := HK1.out
          go_wp2
          first
              | (go_ret
                 exact ⟨ret_bool (by rw [← HB.out]; exact (apps_false hlt (by rw [T.out]; have HP := HP.out; first | (rw [hL]; rfl) | (simp_all [goesB]; done) | (simp_all [goesB]; omega))).symm), bt hB hw1⟩)
              | (go_roundw
                 case rel => exact ⟨k + 1, by omega, by go_num, by rw [HLS.out], bt hB hw1, appAt_step HT (by rw [T.out]; have HP := HP.out; rw [hL]; first | (simp_all [goesB]; done) | (simp_all [goesB]; omega))⟩
                 case measure => simp [intOf]; omega)
    · have hkl : k = L.length := by omega
      subst hkl
      have HF := Lib.hid (apps_all HT.out)
      clear hlt HT
      go_wp2
      go_ret
      exact ⟨ret_bool (by rw [← HB.out, HF.out, HH.out, HJ.out, h6]; rfl), hB⟩
end Go.Proofs.Ytdohegpbdlcnjaa
