/- Contracts: callOf, l10Find, mayMove, l10May. Contracts: moveCode, l10Code, CalledOn of both texts. -/
import Derived.Test.YtiamignopfhkfaaGreatDoorZ6
import Derived.Test.YtiamignopfhkfaaGreatDoorZ4
import Derived.Deep.CutRange
import Derived.Deep.DeepCutAuto
section
namespace Go.Proofs.YtiamignopfhkfaaGreatDoor
open Go.RowKit
set_option linter.unusedVariables false

theorem idxC_stop {n : Int} {K : List CallD} {k : Nat} (hk : k < K.length) (T : Hid (∀ j (hj : j < K.length), j < k → K[j].number < n)) (h : ¬ K[k].number < n) : idxC n K = k ∧ hasC n K = (K[k].number == n) := by
  have e : idxC n K = k := idxC_eq (by omega) T.out (fun _ => h)
  refine ⟨e, ?_⟩
  have h2 : idxC n K < K.length := by omega
  rw [hasC_at h2]; simp only [e]
theorem idxC_last {n : Int} {K : List CallD} (T : Hid (∀ j (hj : j < K.length), j < K.length → K[j].number < n)) : idxC n K = K.length ∧ hasC n K = false := by
  have e : idxC n K = K.length := idxC_eq (Nat.le_refl _) T.out (fun h => absurd h (by omega))
  exact ⟨e, hasC_end (by omega)⟩
theorem idxC_go {n : Int} {K : List CallD} {k : Nat} (hk : k < K.length) (T : Hid (∀ j (hj : j < K.length), j < k → K[j].number < n)) (h : K[k].number < n) : Hid (∀ j (hj : j < K.length), j < k + 1 → K[j].number < n) := fun j hj hlt => by
  by_cases e : j = k
  · subst e; exact h
  · exact T.out j hj (by omega)
set_option maxHeartbeats 2000000 in
theorem callOf_c (A : Option Addr) (c : Nat) (K : List CallD) (n : Int) (w : World) (hr : Rd w w.heap.size A (K.length * 4) (K.flatMap callC)) (hl : K.length ≤ 140737488355328) (hcap : K.length ≤ c) :
    Calls Tryz.prog 133 #[.slice A K.length c, .int .i64 n] w fun e w' => e = .returned (.tuple #[.int .i64 (idxC n K : Nat), .bool (hasC n K)]) ∧ Below w.heap.size w w' := by
  generalize hI : idxC n K = I
  generalize hB : hasC n K = B
  have HI := Lib.hid hI; have HB := Lib.hid hB
  clear hI hB
  go_enter Tryz.func133, Tryz.ntmps133
  go_wp2
  go_loop [6] (fun i => ∃ k : Nat, k ≤ K.length ∧ i = .int .i64 k ∧ Hid (∀ j (hj : j < K.length), j < k → K[j].number < n)) (fun i => K.length - (intOf i).toNat)
  case atStart => exact ⟨0, by omega, rfl, fun j hj h => absurd h (by omega)⟩
  case round =>
    obtain ⟨k, hk, rfl, HT⟩ := hrel
    by_cases hlt : k < K.length
    · obtain ⟨bf, offf, rfl, hbf, hcf⟩ := Rd.elem callC 4 (fun _ => rfl) (hr) (by omega) hlt
      have f0 : w.cell? ⟨bf, offf + k * 4, none⟩ = some (.int .i64 K[k].number) := hcf k hlt 0 _ rfl
      have f1 : w.cell? ⟨bf, offf + k * 4 + 1, none⟩ = some (.int .i64 K[k].first) := hcf k hlt 1 _ rfl
      have f2 : w.cell? ⟨bf, offf + k * 4 + 2, none⟩ = some (.int .i64 K[k].day) := hcf k hlt 2 _ rfl
      have f3 : w.cell? ⟨bf, offf + k * 4 + 3, none⟩ = some (.int .i64 K[k].moves) := hcf k hlt 3 _ rfl
      have hk' : (k : Int) < K.length := by omega
      have hk0 : (0 : Int) ≤ (k : Int) := by omega
      have hkc : (k : Int) ≤ (c : Int) := by omega
      have HG := Lib.hid (idxC_go (n := n) hlt HT)
      have HS := Lib.hid (idxC_stop (n := n) hlt HT)
      clear hcf f1 f2 f3
      generalize K[k].number = x at *
      by_cases hx : x < n
      · have HX := Lib.hid (HG.out hx)
        go_wp2
        go_round
        case rel => exact ⟨k + 1, by omega, by go_num, HX⟩
        case measure => simp [intOf]; omega
      · obtain ⟨e1, e2⟩ := HS.out hx
        have E1 := Lib.hid e1; have E2 := Lib.hid e2
        clear e1 e2
        go_wp2_with fail
        go_quiet (fail)
        go_wp2
        go_ret2
        exact ⟨by rw [← HI.out, ← HB.out, E1.out, E2.out]; rfl, below_drewN (Below.refl _ _) _⟩
    · obtain rfl : k = K.length := by omega
      obtain ⟨e1, e2⟩ := idxC_last HT
      have E1 := Lib.hid e1; have E2 := Lib.hid e2
      clear e1 e2
      go_wp2_with fail
      go_quiet (fail)
      go_wp2
      go_ret2
      exact ⟨by rw [← HI.out, ← HB.out, E1.out, E2.out]; rfl, below_drewN (Below.refl _ _) _⟩
set_option maxHeartbeats 1000000 in
theorem l10Find_c (A : Option Addr) (c : Nat) (K : List CallD) (n : Int) (w : World) (hr : Rd w w.heap.size A (K.length * 4) (K.flatMap callC)) (hl : K.length ≤ 140737488355328) (hcap : K.length ≤ c) :
    Calls Tryz.prog 157 #[.slice A K.length c, .int .i64 n] w fun e w' => e = .returned (.int .i64 (findC n K 0)) ∧ w = w' := by
  generalize hq : findC n K 0 = q
  have HQ := Lib.hid hq
  clear hq
  go_enter Tryz.func157, Tryz.ntmps157
  go_wp2
  go_loop [5] (fun i => ∃ k : Nat, k ≤ K.length ∧ i = .int .i64 k ∧ Hid (findC n K 0 = findC n (K.drop k) k)) (fun i => K.length - (intOf i).toNat)
  case atStart => exact ⟨0, by omega, rfl, by unfold Hid; simp⟩
  case round =>
    obtain ⟨k, hk, rfl, HT⟩ := hrel
    by_cases hlt : k < K.length
    · obtain ⟨bf, offf, rfl, hbf, hcf⟩ := Rd.elem callC 4 (fun _ => rfl) (hr) (by omega) hlt
      have f0 : w.cell? ⟨bf, offf + k * 4, none⟩ = some (.int .i64 K[k].number) := hcf k hlt 0 _ rfl
      have f1 : w.cell? ⟨bf, offf + k * 4 + 1, none⟩ = some (.int .i64 K[k].first) := hcf k hlt 1 _ rfl
      have f2 : w.cell? ⟨bf, offf + k * 4 + 2, none⟩ = some (.int .i64 K[k].day) := hcf k hlt 2 _ rfl
      have f3 : w.cell? ⟨bf, offf + k * 4 + 3, none⟩ = some (.int .i64 K[k].moves) := hcf k hlt 3 _ rfl
      have hk' : (k : Int) < K.length := by omega
      have hk0 : (0 : Int) ≤ (k : Int) := by omega
      have hkc : (k : Int) ≤ (c : Int) := by omega
      have HG := Lib.hid (fun h => findC_hit (n := n) hlt h (k : Int))
      have HS := Lib.hid (fun h => findC_miss (n := n) hlt h (k : Int))
      clear hcf f1 f2 f3
      generalize K[k].number = x at *
      by_cases hx : x = n
      · have HX := Lib.hid (HG.out hx)
        have hxb : (x == n) = true := by simp [hx]
        have HX2 := Lib.hid hx; clear hx
        go_wp2
        go_ret
        exact ⟨ret_int (by rw [← HQ.out, HT.out, HX.out]), rfl⟩
      · have HX := Lib.hid (HS.out hx)
        have hxb : (x == n) = false := beq_eq_false_iff_ne.2 hx
        go_wp2
        go_round
        case rel => exact ⟨k + 1, by omega, by go_num, by unfold Hid; rw [HT.out, HX.out]; rfl⟩
        case measure => simp [intOf]; omega
    · obtain rfl : k = K.length := by omega
      have HE := Lib.hid (findC_end (n := n) (L := K) (Nat.le_refl _) (K.length : Int))
      go_wp2
      go_ret
      exact ⟨ret_int (by rw [← HQ.out, HT.out, HE.out]), rfl⟩
set_option maxHeartbeats 2000000 in
theorem mayMove_c (AH : Option Addr) (cH : Nat) (H : List Int) (x0 x1 x2 x3 d : Int) (b : Bool) (w : World) (hrH : Rd w w.heap.size AH H.length (H.map (Value.int .i64))) (hlH : H.length ≤ 140737488355328) (hcH : H.length ≤ cH) (h0 : 0 ≤ d) (hx : (0 ≤ x1 ∧ x1 ≤ 20000) ∧ (0 ≤ x2 ∧ x2 ≤ 20000)) (h : mayV H ⟨x0, x1, x2, x3⟩ d = b) : Calls Tryz.prog 135 #[.agg #[.int .i64 x0, .int .i64 x1, .int .i64 x2, .int .i64 x3], .slice AH H.length cH, .int .i64 d] w fun e w' => e = .returned (.bool b) ∧ Below w.heap.size w w' := by
  have HB := Lib.hid h; clear h
  by_cases h3 : x3 < 2
  · cases h4 : inB d (x2 + 1) (x1 + 180)
    · go_enter Tryz.func135, Tryz.ntmps135
      go_wp2_with (first | (go_at_call 92; refine (within_b _ _ _ _ _ h4).mono ?_; rintro e w' ⟨rfl, rfl⟩))
      go_ret
      exact ⟨ret_bool (by rw [← HB.out]; simp [mayV, h4]), (Below.refl _ _).alloc (Nat.le_refl _) _⟩
    · have HC := Lib.hid (fun (W : World) hb => isCourtDay_b AH cH H d _ W (rdW hb hrH) hlH hcH h0 rfl)
      have HD : Hid (b = courtB H d) := by unfold Hid; rw [← HB.out]; simp [mayV, h3, h4]
      generalize courtB H d = q at *
      go_enter Tryz.func135, Tryz.ntmps135
      go_wp2_with (first | (go_at_call 92; refine (within_b _ _ _ _ _ h4).mono ?_; rintro e w' ⟨rfl, rfl⟩) | (go_at_call 178; refine (HC.out _ ((Below.refl _ _).alloc (Nat.le_refl _) _)).mono ?_; rintro e w' ⟨rfl, rfl⟩))
      go_ret
      exact ⟨ret_bool (by first | (rw [HD.out]; done) | (rw [HD.out]; rfl)), (Below.refl _ _).alloc (Nat.le_refl _) _⟩
  · go_enter Tryz.func135, Tryz.ntmps135
    go_wp2
    go_ret
    exact ⟨ret_bool (by rw [← HB.out]; simp only [mayV, decide_eq_false (show ¬ x3 < 2 by omega), Bool.false_and]), (Below.refl _ _).alloc (Nat.le_refl _) _⟩
set_option maxHeartbeats 2000000 in
theorem l10May_c (AH : Option Addr) (cH : Nat) (H : List Int) (x0 x1 x2 x3 d : Int) (b : Bool) (w : World) (hrH : Rd w w.heap.size AH H.length (H.map (Value.int .i64))) (hlH : H.length ≤ 140737488355328) (hcH : H.length ≤ cH) (h0 : 0 ≤ d) (hx : (0 ≤ x1 ∧ x1 ≤ 20000) ∧ (0 ≤ x2 ∧ x2 ≤ 20000)) (h : mayV H ⟨x0, x1, x2, x3⟩ d = b) : Calls Tryz.prog 158 #[.slice AH H.length cH, .agg #[.int .i64 x0, .int .i64 x1, .int .i64 x2, .int .i64 x3], .int .i64 d] w fun e w' => e = .returned (.bool b) ∧ Below w.heap.size w w' := by
  have HC := Lib.hid (fun (W : World) hb => l02Court_b AH cH H d _ W (rdW hb hrH) hlH hcH h0 rfl)
  have HB := Lib.hid h; clear h
  have HD : Hid (b = (decide (x2 < d) && decide (x3 < 2) && courtB H d && decide (d ≤ x1 + 180))) := by
    unfold Hid; rw [← HB.out, Bool.eq_iff_iff]
    simp only [mayV, inB, Bool.and_eq_true, decide_eq_true_eq]
    constructor
    · rintro ⟨⟨a, b1, b2⟩, c⟩; exact ⟨⟨⟨by omega, a⟩, c⟩, b2⟩
    · rintro ⟨⟨⟨a, b⟩, c⟩, d⟩; exact ⟨⟨b, by omega, d⟩, c⟩
  generalize courtB H d = q at *
  clear HB
  by_cases p1 : x2 < d <;> by_cases p2 : x3 < 2 <;> by_cases p3 : d ≤ x1 + 180 <;> cases q
  all_goals
    have HF : Hid (b = _) := HD
    go_enter Tryz.func158, Tryz.ntmps158
    go_wp2_with (first | (go_at_call 155; refine (HC.out _ ((Below.refl _ _).alloc (Nat.le_refl _) _)).mono ?_; rintro e w' ⟨rfl, rfl⟩))
    go_ret
    exact ⟨ret_bool (by rw [HF.out]; simp [p1, p2, p3]), (Below.refl _ _).alloc (Nat.le_refl _) _⟩
end Go.Proofs.YtiamignopfhkfaaGreatDoor
end
section
namespace Go.Proofs.YtiamignopfhkfaaGreatDoor
open Go.RowKit
set_option linter.unusedVariables false
set_option linter.unusedSimpArgs false

theorem codeC_1 {H : List Int} {K : List CallD} {n d : Int} (h : (holOk H && callsOk K) = false) : codeC H K n d = 1 := by unfold codeC; rw [h]; rfl
theorem codeC_2 {H : List Int} {K : List CallD} {n d : Int} (h : (holOk H && callsOk K) = true) (hd : inB d 0 20000 = false) : codeC H K n d = 2 := by unfold codeC; rw [h, hd]; rfl
theorem codeC_4 {H : List Int} {K : List CallD} {n d : Int} (h : (holOk H && callsOk K) = true) (hd : inB d 0 20000 = true) (hh : hasC n K = false) : codeC H K n d = 4 := by unfold codeC; rw [h, hd, hh]; rfl
theorem codeC_00 {H : List Int} {K : List CallD} {n d : Int} (h : (holOk H && callsOk K) = true) (hd : inB d 0 20000 = true) (hh : hasC n K = true) : codeC H K n d = 0 := by unfold codeC; rw [h, hd, hh]; rfl
def mcI (q : Int) (i : Nat) : Int := if q = 0 then (i : Int) else 0
set_option maxRecDepth 100000 in
set_option maxHeartbeats 2000000 in
theorem moveCode_c (AH : Option Addr) (cH : Nat) (H : List Int) (A : Option Addr) (c : Nat) (K : List CallD) (n d : Int) (w : World) (hr : Rd w w.heap.size A (K.length * 4) (K.flatMap callC)) (hl : K.length ≤ 140737488355328) (hcap : K.length ≤ c) (hrH : Rd w w.heap.size AH H.length (H.map (Value.int .i64))) (hlH : H.length ≤ 140737488355328) (hcH : H.length ≤ cH) : Calls Tryz.prog 189 #[.slice AH H.length cH, .slice A K.length c, .int .i64 n, .int .i64 d] w fun e w' => e = .returned (.tuple #[.int .i64 (mcI (codeC H K n d) (idxC n K)), .int .i64 (codeC H K n d)]) ∧ Below w.heap.size w w' := by
  have HO := Lib.hid (callOf_c A c K n w hr hl hcap)
  have HHO := Lib.hid (fun (W : World) hb => impl_AreHolidays AH cH H _ W (rdW hb hrH) hlH hcH rfl)
  have HCO := Lib.hid (fun (W : World) hb => impl_AreCalls A c K _ W (rdW hb hr) hl hcap rfl)
  have H1 := Lib.hid (codeC_1 (H := H) (K := K) (n := n) (d := d))
  have H2 := Lib.hid (codeC_2 (H := H) (K := K) (n := n) (d := d))
  have H4 := Lib.hid (codeC_4 (H := H) (K := K) (n := n) (d := d))
  have H0 := Lib.hid (codeC_00 (H := H) (K := K) (n := n) (d := d))
  generalize codeC H K n d = q at *
  generalize idxC n K = i at *
  generalize hasC n K = f at *
  generalize holOk H = b1 at *
  generalize callsOk K = b2 at *
  cases b1
  · have hq := H1.out rfl
    have HQ := Lib.hid hq; clear hq
    go_enter Tryz.func189, Tryz.ntmps189
    go_wp2_with fail
    refine HO.out.mono ?_
    rintro e w1 ⟨rfl, hb1⟩
    go_wp2_with fail
    refine (HHO.out w1 hb1).mono ?_
    rintro e w' ⟨rfl, rfl⟩
    go_wp2
    go_ret2
    exact ⟨by rw [HQ.out]; rfl, hb1⟩
  · cases b2
    · have hq := H1.out rfl
      have HQ := Lib.hid hq; clear hq
      go_enter Tryz.func189, Tryz.ntmps189
      go_wp2_with fail
      refine HO.out.mono ?_
      rintro e w1 ⟨rfl, hb1⟩
      go_wp2_with fail
      refine (HHO.out w1 hb1).mono ?_
      rintro e w' ⟨rfl, rfl⟩
      go_wp2_with fail
      refine (HCO.out w1 hb1).mono ?_
      rintro e w2 ⟨rfl, hb2⟩
      go_wp2
      go_ret2
      exact ⟨by rw [HQ.out]; rfl, bt hb1 hb2⟩
    · have HQ : Hid (q = if inB d 0 20000 then (if f then 0 else 4) else 2) := by
        unfold Hid
        cases hd : inB d 0 20000
        · exact H2.out rfl hd
        · cases f
          · exact H4.out rfl hd rfl
          · exact H0.out rfl hd rfl
      cases hd : inB d 0 20000 <;> cases f
      all_goals
        rw [hd] at HQ
        go_enter Tryz.func189, Tryz.ntmps189
        go_wp2_with fail
        refine HO.out.mono ?_
        rintro e w1 ⟨rfl, hb1⟩
        go_wp2_with fail
        refine (HHO.out w1 hb1).mono ?_
        rintro e w' ⟨rfl, rfl⟩
        go_wp2_with fail
        refine (HCO.out w1 hb1).mono ?_
        rintro e w2 ⟨rfl, hb2⟩
        go_wp2_with (first | (go_at_call 94; refine (isDay_b _ _ _ hd).mono ?_; rintro e w' ⟨rfl, rfl⟩))
        go_ret2
        exact ⟨by rw [HQ.out]; rfl, bt hb1 hb2⟩
set_option maxRecDepth 100000 in
set_option maxHeartbeats 2000000 in
theorem l10Code_c (AH : Option Addr) (cH : Nat) (H : List Int) (A : Option Addr) (c : Nat) (K : List CallD) (n d : Int) (w : World) (hr : Rd w w.heap.size A (K.length * 4) (K.flatMap callC)) (hl : K.length ≤ 140737488355328) (hcap : K.length ≤ c) (hrH : Rd w w.heap.size AH H.length (H.map (Value.int .i64))) (hlH : H.length ≤ 140737488355328) (hcH : H.length ≤ cH) : Calls Tryz.prog 156 #[.slice AH H.length cH, .slice A K.length c, .int .i64 n, .int .i64 d] w fun e w' => e = .returned (.int .i64 (codeC H K n d)) ∧ Below w.heap.size w w' := by
  have HO := Lib.hid (fun (W : World) hb => l10Find_c A c K n W (rdW hb hr) hl hcap)
  have HHO := Lib.hid (spec_AreHolidays AH cH H _ w hrH hlH hcH rfl)
  have HCO := Lib.hid (fun (W : World) hb => spec_AreCalls A c K _ W (rdW hb hr) hl hcap rfl)
  have H1 := Lib.hid (codeC_1 (H := H) (K := K) (n := n) (d := d))
  have H2 := Lib.hid (codeC_2 (H := H) (K := K) (n := n) (d := d))
  have H4 := Lib.hid (codeC_4 (H := H) (K := K) (n := n) (d := d))
  have H0 := Lib.hid (codeC_00 (H := H) (K := K) (n := n) (d := d))
  have HF := Lib.hid (fun h => findC_eq (n := n) (K := K) h)
  generalize codeC H K n d = q at *
  generalize idxC n K = i at *
  generalize findC n K 0 = z at *
  generalize hasC n K = f at *
  generalize holOk H = b1 at *
  generalize callsOk K = b2 at *
  cases b1
  · have HQ := Lib.hid (H1.out rfl)
    go_enter Tryz.func156, Tryz.ntmps156
    go_wp2_with fail
    refine HHO.out.mono ?_
    rintro e w1 ⟨rfl, hb1⟩
    go_wp2
    go_ret
    exact ⟨by rw [HQ.out]; rfl, hb1⟩
  · cases b2
    · have HQ := Lib.hid (H1.out rfl)
      go_enter Tryz.func156, Tryz.ntmps156
      go_wp2_with fail
      refine HHO.out.mono ?_
      rintro e w1 ⟨rfl, hb1⟩
      go_wp2_with fail
      refine (HCO.out w1 hb1).mono ?_
      rintro e w2 ⟨rfl, hb2⟩
      go_wp2
      go_ret
      exact ⟨by rw [HQ.out]; rfl, bt hb1 hb2⟩
    · have HZ := HF.out rfl
      cases hd : inB d 0 20000
      · have HQ := Lib.hid (H2.out rfl hd)
        go_enter Tryz.func156, Tryz.ntmps156
        go_wp2_with fail
        refine HHO.out.mono ?_
        rintro e w1 ⟨rfl, hb1⟩
        go_wp2_with fail
        refine (HCO.out w1 hb1).mono ?_
        rintro e w2 ⟨rfl, hb2⟩
        go_wp2_with (first | (go_at_call 80; refine (l02Is_b _ _ _ hd).mono ?_; rintro e w' ⟨rfl, rfl⟩))
        go_ret
        exact ⟨by rw [HQ.out]; rfl, bt hb1 hb2⟩
      · cases f
        · have HQ := Lib.hid (H4.out rfl hd rfl)
          simp only [Bool.false_eq_true, if_false, if_true] at HZ
          subst HZ
          go_enter Tryz.func156, Tryz.ntmps156
          go_wp2_with fail
          refine HHO.out.mono ?_
          rintro e w1 ⟨rfl, hb1⟩
          go_wp2_with fail
          refine (HCO.out w1 hb1).mono ?_
          rintro e w2 ⟨rfl, hb2⟩
          go_wp2_with (first | (go_at_call 80; refine (l02Is_b _ _ _ hd).mono ?_; rintro e w' ⟨rfl, rfl⟩))
          refine (HO.out w2 (bt hb1 hb2)).mono ?_
          rintro e w' ⟨rfl, rfl⟩
          go_wp2
          go_ret
          exact ⟨by rw [HQ.out]; rfl, bt hb1 hb2⟩
        · have HQ := Lib.hid (H0.out rfl hd rfl)
          simp only [Bool.false_eq_true, if_false, if_true] at HZ
          subst HZ
          go_enter Tryz.func156, Tryz.ntmps156
          go_wp2_with fail
          refine HHO.out.mono ?_
          rintro e w1 ⟨rfl, hb1⟩
          go_wp2_with fail
          refine (HCO.out w1 hb1).mono ?_
          rintro e w2 ⟨rfl, hb2⟩
          go_wp2_with (first | (go_at_call 80; refine (l02Is_b _ _ _ hd).mono ?_; rintro e w' ⟨rfl, rfl⟩))
          refine (HO.out w2 (bt hb1 hb2)).mono ?_
          rintro e w' ⟨rfl, rfl⟩
          go_wp2
          go_ret
          exact ⟨by rw [HQ.out]; rfl, bt hb1 hb2⟩
/-! ### the calls for a day -/
theorem own_snocI' {W : World} {b : Nat} {A : Option Addr} {c : Nat} {D : List Int} {y : Int} (h : W.ownsRow b 2 1 (.slice A (D.length + 1) c) (D.length + 1) (D.map (Value.int .i64) ++ [.int .i64 y])) : W.ownsRow b 2 1 (.slice A (D ++ [y]).length c) (D ++ [y]).length ((D ++ [y]).map (Value.int .i64)) := by
  rw [List.length_append, List.map_append]; exact h
set_option maxRecDepth 100000 in
set_option maxHeartbeats 2000000 in
theorem calledOn_c (A : Option Addr) (c : Nat) (K : List CallD) (d : Int) (w : World) (hr : Rd w w.heap.size A (K.length * 4) (K.flatMap callC)) (hl : K.length ≤ 140737488355328) (hcap : K.length ≤ c) (hl8 : K.length ≤ 1000000) :
    Calls Tryz.prog 136 #[.slice A K.length c, .int .i64 d] w (RowPost1 2 1 (onC K d).length ((onC K d).map (Value.int .i64)) w) := by
  obtain ⟨i0, hi, hz0, hz1, hz2⟩ := info_parts int_info
  have hown0 := Lib.hid (World.ownsRow_lit (base := w.heap.size) (e := 2) (size := 1) w #[] 0 (Nat.le_refl _) (by unfold maxLen; omega) rfl)
  go_enter Tryz.func136, Tryz.ntmps136
  go_wp2
  go_loopw [5, 11] (fun v i wr => ∃ (k : Nat) (D : List Int) (A2 : Option Addr) (c2 : Nat), k ≤ K.length ∧ i = .int .i64 k ∧ v = .slice A2 D.length c2 ∧ D.length ≤ k ∧ Below w.heap.size w wr ∧ Hid (wr.ownsRow w.heap.size 2 1 (.slice A2 D.length c2) D.length (D.map (Value.int .i64))) ∧ Hid (D = onC (K.take k) d)) (fun _ i _ => K.length - (intOf i).toNat)
  case atStart => exact ⟨0, [], _, _, by omega, rfl, rfl, by simp, (Below.refl _ _).alloc (Nat.le_refl _) _, hown0, by simp [Hid, onC]⟩
  case round =>
    obtain ⟨k, D, A2, c2, hk, rfl, rfl, hDk, hB, HO, HD⟩ := hrel
    clear hown0
    have hszr := hB.size
    by_cases hlt : k < K.length
    · obtain ⟨bf, offf, rfl, hbf, hcf⟩ := Rd.elem callC 4 (fun _ => rfl) (rdW hB hr) (by omega) hlt
      have f0 : wr.cell? ⟨bf, offf + k * 4, none⟩ = some (.int .i64 K[k].number) := hcf k hlt 0 _ rfl
      have f1 : wr.cell? ⟨bf, offf + k * 4 + 1, none⟩ = some (.int .i64 K[k].first) := hcf k hlt 1 _ rfl
      have f2 : wr.cell? ⟨bf, offf + k * 4 + 2, none⟩ = some (.int .i64 K[k].day) := hcf k hlt 2 _ rfl
      have f3 : wr.cell? ⟨bf, offf + k * 4 + 3, none⟩ = some (.int .i64 K[k].moves) := hcf k hlt 3 _ rfl
      have HS := Lib.hid (onC_snoc (d := d) hlt)
      have hk' : (k : Int) < K.length := by omega
      have hk0 : (0 : Int) ≤ (k : Int) := by omega
      have hkc : (k : Int) ≤ (c : Int) := by omega
      clear hcf
      generalize K[k] = x at *
      obtain ⟨x0, x1, x2, x3⟩ := x
      cases hx : x2 == d
      · have HX : Hid (D = onC (K.take (k + 1)) d) := by unfold Hid; rw [HS.out, HD.out]; simp [hx]
        go_wp2
        go_roundw
        case rel => exact ⟨k + 1, D, A2, c2, by omega, by go_num, rfl, by omega, hB.alloc hB.size _, own_below HO.out ((Below.refl _ _).alloc (Nat.le_refl _) _), HX⟩
        case measure => simp [intOf]; omega
      · have HX : Hid (D ++ [x0] = onC (K.take (k + 1)) d) := by unfold Hid; rw [HS.out, HD.out]; simp [hx]
        go_upto_region 6 with fail
        generalize hW1 : wr.alloc _ = W1
        have hbW1 : Below wr.heap.size wr W1 := by subst hW1; exact (Below.refl _ _).alloc (Nat.le_refl _) _
        have hsW1 : W1.heap.size = wr.heap.size + 1 := by subst hW1; simp
        have cxW1_0 : ∀ i, W1.cell? ⟨wr.heap.size, i, none⟩ = (#[.int .i64 x0, .int .i64 x1, .int .i64 x2, .int .i64 x3] : Array Value)[i]? := by intro i; subst hW1; simp [go_sem]
        have HSW1 := Lib.hid hsW1; clear hW1 hsW1
        have HO2 := Lib.hid (own_below HO.out hbW1)
        have hB1 := bt hB hbW1
        have hz1' : w.heap.size ≤ W1.heap.size := hB1.size
        go_wp2_with (first | (at_builtin; refine wpList_push W1 rfl _ _ 30 rfl w.heap.size 2 i0 _ 1 8 Tryz.underlying30 hi hz0 hz1 hz2 rfl (by decide) (.slice A2 D.length c2) (D.length) (D.map (Value.int .i64)) (by rfl) HO2.out [.int .i64 x0] 2 (by rfl) rfl (by simp [Value.oneCell']) (by unfold maxLen; omega) (by omega) (by omega) ?_; intro A7 c7 w7 ho7 hg7; have HO7 := Lib.hid (own_snocI' (y := x0) ho7); have hb7 := below_grown hB1 hg7 (Nat.le_refl _) (fun k hk => HO2.out.lt k hk |>.1); clear ho7 hg7))
        go_roundw
        case rel => exact ⟨k + 1, D ++ [x0], A7, c7, by omega, by go_num, by simp, by simp; omega, hb7, HO7, HX⟩
        case measure => simp [intOf]; omega
    · obtain rfl : k = K.length := by omega
      go_wp2
      go_ret
      obtain rfl : D = onC K d := by rw [HD.out, List.take_length]
      exact rowPost1_mk HO.out hB
set_option maxRecDepth 100000 in
set_option maxHeartbeats 2000000 in
theorem l10On_c (A : Option Addr) (c : Nat) (K : List CallD) (d : Int) (w : World) (hr : Rd w w.heap.size A (K.length * 4) (K.flatMap callC)) (hl : K.length ≤ 140737488355328) (hcap : K.length ≤ c) (hl8 : K.length ≤ 1000000) :
    Calls Tryz.prog 163 #[.slice A K.length c, .int .i64 d] w (RowPost1 2 1 (onC K d).length ((onC K d).map (Value.int .i64)) w) := by
  obtain ⟨i0, hi, hz0, hz1, hz2⟩ := info_parts int_info
  have hown0 := Lib.hid (World.ownsRow_lit (base := w.heap.size) (e := 2) (size := 1) w #[] 0 (Nat.le_refl _) (by unfold maxLen; omega) rfl)
  go_enter Tryz.func163, Tryz.ntmps163
  go_wp2
  go_loopw [5, 6] (fun v i wr => ∃ (k : Nat) (D : List Int) (A2 : Option Addr) (c2 : Nat), k ≤ K.length ∧ i = .int .i64 k ∧ v = .slice A2 D.length c2 ∧ D.length ≤ k ∧ Below w.heap.size w wr ∧ Hid (wr.ownsRow w.heap.size 2 1 (.slice A2 D.length c2) D.length (D.map (Value.int .i64))) ∧ Hid (D = onC (K.take k) d)) (fun _ i _ => K.length - (intOf i).toNat)
  case atStart => exact ⟨0, [], _, _, by omega, rfl, rfl, by simp, (Below.refl _ _).alloc (Nat.le_refl _) _, hown0, by simp [Hid, onC]⟩
  case round =>
    obtain ⟨k, D, A2, c2, hk, rfl, rfl, hDk, hB, HO, HD⟩ := hrel
    clear hown0
    have hszr := hB.size
    by_cases hlt : k < K.length
    · obtain ⟨bf, offf, rfl, hbf, hcf⟩ := Rd.elem callC 4 (fun _ => rfl) (rdW hB hr) (by omega) hlt
      have f0 : wr.cell? ⟨bf, offf + k * 4, none⟩ = some (.int .i64 K[k].number) := hcf k hlt 0 _ rfl
      have f1 : wr.cell? ⟨bf, offf + k * 4 + 1, none⟩ = some (.int .i64 K[k].first) := hcf k hlt 1 _ rfl
      have f2 : wr.cell? ⟨bf, offf + k * 4 + 2, none⟩ = some (.int .i64 K[k].day) := hcf k hlt 2 _ rfl
      have f3 : wr.cell? ⟨bf, offf + k * 4 + 3, none⟩ = some (.int .i64 K[k].moves) := hcf k hlt 3 _ rfl
      have HS := Lib.hid (onC_snoc (d := d) hlt)
      have hk' : (k : Int) < K.length := by omega
      have hk0 : (0 : Int) ≤ (k : Int) := by omega
      have hkc : (k : Int) ≤ (c : Int) := by omega
      clear hcf
      generalize K[k] = x at *
      obtain ⟨x0, x1, x2, x3⟩ := x
      cases hx : x2 == d
      · have HX : Hid (D = onC (K.take (k + 1)) d) := by unfold Hid; rw [HS.out, HD.out]; simp [hx]
        go_wp2
        go_roundw
        case rel => exact ⟨k + 1, D, A2, c2, by omega, by go_num, rfl, by omega, hB, HO, HX⟩
        case measure => simp [intOf]; omega
      · have HX : Hid (D ++ [x0] = onC (K.take (k + 1)) d) := by unfold Hid; rw [HS.out, HD.out]; simp [hx]
        go_wp2_with (first | (at_builtin; refine wpList_push wr rfl _ _ 30 rfl w.heap.size 2 i0 _ 1 8 Tryz.underlying30 hi hz0 hz1 hz2 rfl (by decide) (.slice A2 D.length c2) (D.length) (D.map (Value.int .i64)) (by rfl) HO.out [.int .i64 x0] 2 (by rfl) rfl (by simp [Value.oneCell']) (by unfold maxLen; omega) (by omega) (by omega) ?_; intro A7 c7 w7 ho7 hg7; have HO7 := Lib.hid (own_snocI' (y := x0) ho7); have hb7 := below_grown hB hg7 (Nat.le_refl _) (fun k hk => HO.out.lt k hk |>.1); clear ho7 hg7))
        go_roundw
        case rel => exact ⟨k + 1, D ++ [x0], A7, c7, by omega, by go_num, by simp, by simp; omega, hb7, HO7, HX⟩
        case measure => simp [intOf]; omega
    · obtain rfl : k = K.length := by omega
      go_wp2
      go_ret
      obtain rfl : D = onC K d := by rw [HD.out, List.take_length]
      exact rowPost1_mk HO.out hB

set_option maxHeartbeats 1000000 in
theorem impl_CalledOn (A : Option Addr) (c : Nat) (K : List CallD) (d : Int) (w : World) (hr : Rd w w.heap.size A (K.length * 4) (K.flatMap callC)) (hl : K.length ≤ 140737488355328) (hcap : K.length ≤ c) : Calls Tryz.prog 104 #[.slice A K.length c, .int .i64 d] w (RowPost2 2 1 (onP K d).length ((onP K d).map (Value.int .i64)) (onCode K d) w) := by
  cases e1 : callsOk K
  · have E1 : onP K d = [] := by simp [onP, e1]
    have E2 : onCode K d = 1 := by simp [onCode, e1]
    rw [E1, E2]
    go_enter Tryz.func104, Tryz.ntmps104
    go_wp2_with fail
    refine (impl_AreCalls A c K _ w hr hl hcap e1).mono ?_
    rintro e w1 ⟨rfl, hb1⟩
    go_wp2
    go_ret2
    exact rowPost2_nil hb1
  · cases e2 : inB d 0 20000
    · have E1 : onP K d = [] := by simp [onP, e1, e2]
      have E2 : onCode K d = 2 := by simp [onCode, e1, e2]
      rw [E1, E2]
      go_enter Tryz.func104, Tryz.ntmps104
      go_wp2_with fail
      refine (impl_AreCalls A c K _ w hr hl hcap e1).mono ?_
      rintro e w1 ⟨rfl, hb1⟩
      go_wp2_with (first | (go_at_call 94; refine (isDay_b _ _ _ e2).mono ?_; rintro e w' ⟨rfl, rfl⟩))
      go_ret2
      exact rowPost2_nil hb1
    · have E1 : onP K d = onC K d := by simp [onP, e1, e2]
      have E2 : onCode K d = 0 := by simp [onCode, e1, e2]
      rw [E1, E2]
      go_enter Tryz.func104, Tryz.ntmps104
      go_wp2_with fail
      refine (impl_AreCalls A c K _ w hr hl hcap e1).mono ?_
      rintro e w1 ⟨rfl, hb1⟩
      go_wp2_with (first | (go_at_call 94; refine (isDay_b _ _ _ e2).mono ?_; rintro e w' ⟨rfl, rfl⟩))
      refine (calledOn_c A c K d w1 (rdW hb1 hr) hl hcap (by have := calls_len e1; omega)).mono ?_
      rintro e w2 ⟨A2, c2, rfl, ho2, hb2, hc2, hm2⟩
      go_wp2
      go_ret2
      exact rowPost2_mk (own_mono ho2 hb1.size) (bt hb1 hb2)

set_option maxHeartbeats 1000000 in
theorem spec_CalledOn (A : Option Addr) (c : Nat) (K : List CallD) (d : Int) (w : World) (hr : Rd w w.heap.size A (K.length * 4) (K.flatMap callC)) (hl : K.length ≤ 140737488355328) (hcap : K.length ≤ c) : Calls Tryz.prog 118 #[.slice A K.length c, .int .i64 d] w (RowPost2 2 1 (onP K d).length ((onP K d).map (Value.int .i64)) (onCode K d) w) := by
  cases e1 : callsOk K
  · have E1 : onP K d = [] := by simp [onP, e1]
    have E2 : onCode K d = 1 := by simp [onCode, e1]
    rw [E1, E2]
    go_enter Tryz.func118, Tryz.ntmps118
    go_wp2_with fail
    refine (spec_AreCalls A c K _ w hr hl hcap e1).mono ?_
    rintro e w1 ⟨rfl, hb1⟩
    go_wp2
    go_ret2
    exact rowPost2_nil hb1
  · cases e2 : inB d 0 20000
    · have E1 : onP K d = [] := by simp [onP, e1, e2]
      have E2 : onCode K d = 2 := by simp [onCode, e1, e2]
      rw [E1, E2]
      go_enter Tryz.func118, Tryz.ntmps118
      go_wp2_with fail
      refine (spec_AreCalls A c K _ w hr hl hcap e1).mono ?_
      rintro e w1 ⟨rfl, hb1⟩
      go_wp2_with (first | (go_at_call 80; refine (l02Is_b _ _ _ e2).mono ?_; rintro e w' ⟨rfl, rfl⟩))
      go_ret2
      exact rowPost2_nil hb1
    · have E1 : onP K d = onC K d := by simp [onP, e1, e2]
      have E2 : onCode K d = 0 := by simp [onCode, e1, e2]
      rw [E1, E2]
      go_enter Tryz.func118, Tryz.ntmps118
      go_wp2_with fail
      refine (spec_AreCalls A c K _ w hr hl hcap e1).mono ?_
      rintro e w1 ⟨rfl, hb1⟩
      go_wp2_with (first | (go_at_call 80; refine (l02Is_b _ _ _ e2).mono ?_; rintro e w' ⟨rfl, rfl⟩))
      refine (l10On_c A c K d w1 (rdW hb1 hr) hl hcap (by have := calls_len e1; omega)).mono ?_
      rintro e w2 ⟨A2, c2, rfl, ho2, hb2, hc2, hm2⟩
      go_wp2
      go_ret2
      exact rowPost2_mk (own_mono ho2 hb1.size) (bt hb1 hb2)

end Go.Proofs.YtiamignopfhkfaaGreatDoor
end
