/- Contracts: ChangeMotion of both texts. -/
import Derived.Test.YtdohegpbdlcnjaaMotFile
import Derived.Test.YtdohegpbdlcnjaaMotMay1
import Derived.Test.YtdohegpbdlcnjaaMotMay2
namespace Go.Proofs.Ytdohegpbdlcnjaa
open Go.RowKit
set_option linter.unusedVariables false
theorem flat_set_at {α : Type} {f : α → List Value} {m : Nat} (hf : ∀ a, (f a).length = m) : ∀ {L : List α} {j i : Nat} {y : α} {v : Value} (hj : j < L.length), i < m → (f L[j]).set i v = f y → (L.flatMap f).set (j * m + i) v = (L.set j y).flatMap f
  | [], j, i, y, v, hj, _, _ => absurd hj (by simp)
  | a :: L, 0, i, y, v, hj, hi, h => by
    rw [List.flatMap_cons, Nat.zero_mul, Nat.zero_add, List.set_append_left _ _ (by rw [hf]; exact hi), List.set_cons_zero, List.flatMap_cons]
    rw [show (f a).set i v = f y from h]
  | a :: L, j + 1, i, y, v, hj, hi, h => by
    have e : (j + 1) * m + i = m + (j * m + i) := by rw [Nat.add_mul]; omega
    rw [List.flatMap_cons, e, List.set_append_right _ _ (by rw [hf]; omega), hf, Nat.add_sub_cancel_left, flat_set_at hf (L := L) (j := j) (y := y) (by simpa using hj) hi (by simpa using h), List.set_cons_succ, List.flatMap_cons]
def upM (x : MotionD) (s day : Int) : MotionD := ⟨x.number, x.party, x.filed, day, s, x.after⟩
def chgM (L : List MotionD) (n s day : Int) : List MotionD × Int :=
  if motsOk L = true ∧ inB s 0 5 = false then ([], 2)
  else if codeM L n day = 0 then (if mayM L (getM L (findM n L 0)) s day then (L.set (findM n L 0).toNat (upM (getM L (findM n L 0)) s day), 0) else ([], 5))
  else ([], codeM L n day)
theorem chgM_2 {L : List MotionD} {n s day : Int} (h : motsOk L = true) (hs : inB s 0 5 = false) : chgM L n s day = ([], 2) := by rw [chgM, if_pos ⟨h, hs⟩]
theorem chgM_c {L : List MotionD} {n s day : Int} (h : motsOk L = false ∨ inB s 0 5 = true) (hc : codeM L n day ≠ 0) : chgM L n s day = ([], codeM L n day) := by
  rw [chgM, if_neg (by rintro ⟨h1, h2⟩; rcases h with h | h <;> simp_all), if_neg hc]
theorem chgM_5 {L : List MotionD} {n s day : Int} (hs : inB s 0 5 = true) (hc : codeM L n day = 0) {j : Nat} (hj : findM n L 0 = (j : Int)) (hjl : j < L.length) (hm : mayM L L[j] s day = false) : chgM L n s day = ([], 5) := by
  rw [chgM, if_neg (by rintro ⟨_, h2⟩; rw [hs] at h2; cases h2), if_pos hc, getM_at hj hjl, hm]; rfl
theorem chgM_0 {L : List MotionD} {n s day : Int} (hs : inB s 0 5 = true) (hc : codeM L n day = 0) {j : Nat} (hj : findM n L 0 = (j : Int)) (hjl : j < L.length) (hm : mayM L L[j] s day = true) : chgM L n s day = (L.set j (upM L[j] s day), 0) := by
  rw [chgM, if_neg (by rintro ⟨_, h2⟩; rw [hs] at h2; cases h2), if_pos hc, getM_at hj hjl, hm, hj]; rfl
theorem codeM_0 {L : List MotionD} {n day : Int} (h0 : codeM L n day = 0) : motsOk L = true ∧ inB day 0 20000 = true ∧ ∃ j : Nat, findM n L 0 = (j : Int) ∧ j < L.length := by
  unfold codeM at h0
  split at h0
  · rename_i h1
    split at h0
    · rename_i h2
      split at h0
      · omega
      · rename_i h3; exact ⟨h1, h2, findM_idx h3⟩
    · omega
  · omega
theorem chgM_len (L : List MotionD) (n s day : Int) : (chgM L n s day).1.length ≤ 12 := by
  unfold chgM
  split
  · simp
  · split
    · rename_i h
      have := mots_len (codeM_0 h).1
      split
      · simpa using this
      · simp
    · simp
theorem codeM_m1 {L : List MotionD} {n : Int} : codeM L n (-1) = if motsOk L then 2 else 1 := by
  unfold codeM
  rw [show inB (-1) 0 20000 = false from by decide]
  simp


set_option maxRecDepth 100000 in
set_option maxHeartbeats 2000000 in
theorem impl_ChangeMotion (A : Option Addr) (c : Nat) (L : List MotionD) (n s day : Int) (w : World) (hr : Rd w w.heap.size A (L.length * 6) (L.flatMap motionC)) (hl : L.length ≤ 140737488355328) (hcap : L.length ≤ c) (hW : ∀ x ∈ L, MotionW x) :
    Calls Try.prog 25 #[.slice A L.length c, .int .i64 n, .int .i64 s, .int .i64 day] w (RowPost2 46 6 (chgM L n s day).1.length ((chgM L n s day).1.flatMap motionC) (chgM L n s day).2 w) := by
  have hcode := fun (W : World) a => motionCode_c A c L n day W a hl hcap hW
  cases hT : motsOk L
  · have hc1 : codeM L n day = 1 := by simp [codeM, hT]
    rw [chgM_c (.inl hT) (by omega), hc1]
    rw [hc1] at hcode
    have HCODE := Lib.hid hcode
    have HC1 := Lib.hid hc1
    clear hc1 hcode
    go_enter Try.func25, Try.ntmps25
    go_wp2_with fail
    refine (impl_AreMotions A c L _ w hr hl hcap hW hT).mono ?_
    rintro e w0 ⟨rfl, hb0⟩
    go_wp2_with fail
    refine (HCODE.out w0 (rdW hb0 hr)).mono ?_
    rintro e w1 ⟨rfl, hb1⟩
    go_wp2
    go_ret2
    exact rowPost2_nil (bt hb0 hb1)
  cases hS : inB s 0 5
  · rw [chgM_2 hT hS]
    clear hcode
    go_enter Try.func25, Try.ntmps25
    go_wp2_with fail
    refine (impl_AreMotions A c L _ w hr hl hcap hW hT).mono ?_
    rintro e w0 ⟨rfl, hb0⟩
    go_wp2_with (first | (go_at_call 72; refine (within_b _ _ _ _ _ hS).mono ?_; rintro e w' ⟨rfl, rfl⟩))
    go_ret2
    exact rowPost2_nil hb0
  by_cases h0 : codeM L n day = 0
  · clear hT
    obtain ⟨hT, hD, j, hj, hjl⟩ := codeM_0 h0
    have h12 := mots_len hT
    have HBD := Lib.hid (mots_bds hT hjl)
    have HAF := Lib.hid (mots_after hT hjl)
    have hj0 : (0 : Int) ≤ (j : Int) := by omega
    have hjL : (j : Int) < L.length := by omega
    have hjc : (j : Int) ≤ (c : Int) := by omega
    have hL0 : 0 < L.length := by omega
    obtain ⟨i0, hi, hz0, hz1, hz2⟩ := info_parts motion_info
    have HO := Lib.hid (one_flat (fun a u hu => by simp only [motionC, List.mem_cons, List.not_mem_nil, or_false] at hu; rcases hu with rfl | rfl | rfl | rfl | rfl | rfl <;> rfl) L : ∀ u ∈ L.flatMap motionC, u.oneCell' = true)
    rw [h0] at hcode
    try rw [if_pos rfl] at hcode
    have HL := Lib.hid hL0
    have HCODE := Lib.hid hcode
    have HT := Lib.hid hT
    have HW := Lib.hid hW
    clear hcode hL0 hD hW
    cases hm : mayM L L[j] s day
    · rw [chgM_5 hS h0 hj hjl hm]
      have H0 := Lib.hid h0
      clear h0
      have HM := Lib.hid hm
      obtain ⟨bf, offf, rfl, hbf, hcf⟩ := Rd.elem motionC 6 (fun _ => rfl) (hr) (by omega) hjl
      have f0 : w.cell? ⟨bf, offf + j * 6, none⟩ = some (.int .i64 L[j].number) := hcf j hjl 0 _ rfl
      have f1 : w.cell? ⟨bf, offf + j * 6 + 1, none⟩ = some (.string L[j].party) := hcf j hjl 1 _ rfl
      have f2 : w.cell? ⟨bf, offf + j * 6 + 2, none⟩ = some (.int .i64 L[j].filed) := hcf j hjl 2 _ rfl
      have f3 : w.cell? ⟨bf, offf + j * 6 + 3, none⟩ = some (.int .i64 L[j].changed) := hcf j hjl 3 _ rfl
      have f4 : w.cell? ⟨bf, offf + j * 6 + 4, none⟩ = some (.int .i64 L[j].state) := hcf j hjl 4 _ rfl
      have f5 : w.cell? ⟨bf, offf + j * 6 + 5, none⟩ = some (.int .i64 L[j].after) := hcf j hjl 5 _ rfl
      have hb := HBD.out.2.1
      have hab := HAF.out
      clear hcf
      generalize hx : L[j] = x at *
      obtain ⟨x0, x1, x2, x3, x4, x5⟩ := x
      have HX := Lib.hid hx
      clear hx
      go_enter Try.func25, Try.ntmps25
      go_wp2_with fail
      refine (impl_AreMotions _ c L _ w hr hl hcap HW.out HT.out).mono ?_
      rintro e w0 ⟨rfl, hb0⟩
      have hlt0 := hb0.size
      replace f0 := (hb0.cell (by (try simp only); omega)).trans f0
      replace f1 := (hb0.cell (by (try simp only); omega)).trans f1
      replace f2 := (hb0.cell (by (try simp only); omega)).trans f2
      replace f3 := (hb0.cell (by (try simp only); omega)).trans f3
      replace f4 := (hb0.cell (by (try simp only); omega)).trans f4
      replace f5 := (hb0.cell (by (try simp only); omega)).trans f5
      go_wp2_with (first | (go_at_call 72; refine (within_b _ _ _ _ _ hS).mono ?_; rintro e w' ⟨rfl, rfl⟩))
      refine (HCODE.out w0 (rdW hb0 hr)).mono ?_
      rintro e w1 ⟨rfl, hb1⟩
      try rw [hj]
      have hlt1 := hb1.size
      replace f0 := (hb1.cell (by (try simp only); omega)).trans f0
      replace f1 := (hb1.cell (by (try simp only); omega)).trans f1
      replace f2 := (hb1.cell (by (try simp only); omega)).trans f2
      replace f3 := (hb1.cell (by (try simp only); omega)).trans f3
      replace f4 := (hb1.cell (by (try simp only); omega)).trans f4
      replace f5 := (hb1.cell (by (try simp only); omega)).trans f5
      have hB1 := bt hb0 hb1
      go_wp2_with fail
      refine (mayGo_c _ c L _ _ _ _ _ _ _ _ _ w1 (rdW hB1 hr) hl hcap hb hab hm).mono ?_
      rintro e w2 ⟨rfl, hb2⟩
      have hB2 := bt hB1 hb2
      go_wp2
      go_ret2
      exact rowPost2_nil hB2
    · rw [chgM_0 hS h0 hj hjl hm]
      have H0 := Lib.hid h0
      clear h0
      have HM := Lib.hid hm
      obtain ⟨bf, offf, rfl, hbf, hcf⟩ := Rd.elem motionC 6 (fun _ => rfl) (hr) (by omega) hjl
      have f0 : w.cell? ⟨bf, offf + j * 6, none⟩ = some (.int .i64 L[j].number) := hcf j hjl 0 _ rfl
      have f1 : w.cell? ⟨bf, offf + j * 6 + 1, none⟩ = some (.string L[j].party) := hcf j hjl 1 _ rfl
      have f2 : w.cell? ⟨bf, offf + j * 6 + 2, none⟩ = some (.int .i64 L[j].filed) := hcf j hjl 2 _ rfl
      have f3 : w.cell? ⟨bf, offf + j * 6 + 3, none⟩ = some (.int .i64 L[j].changed) := hcf j hjl 3 _ rfl
      have f4 : w.cell? ⟨bf, offf + j * 6 + 4, none⟩ = some (.int .i64 L[j].state) := hcf j hjl 4 _ rfl
      have f5 : w.cell? ⟨bf, offf + j * 6 + 5, none⟩ = some (.int .i64 L[j].after) := hcf j hjl 5 _ rfl
      have hb := HBD.out.2.1
      have hab := HAF.out
      clear hcf
      generalize hx : L[j] = x at *
      obtain ⟨x0, x1, x2, x3, x4, x5⟩ := x
      have HX := Lib.hid hx
      clear hx
      go_enter Try.func25, Try.ntmps25
      go_wp2_with fail
      refine (impl_AreMotions _ c L _ w hr hl hcap HW.out HT.out).mono ?_
      rintro e w0 ⟨rfl, hb0⟩
      have hlt0 := hb0.size
      replace f0 := (hb0.cell (by (try simp only); omega)).trans f0
      replace f1 := (hb0.cell (by (try simp only); omega)).trans f1
      replace f2 := (hb0.cell (by (try simp only); omega)).trans f2
      replace f3 := (hb0.cell (by (try simp only); omega)).trans f3
      replace f4 := (hb0.cell (by (try simp only); omega)).trans f4
      replace f5 := (hb0.cell (by (try simp only); omega)).trans f5
      go_wp2_with (first | (go_at_call 72; refine (within_b _ _ _ _ _ hS).mono ?_; rintro e w' ⟨rfl, rfl⟩))
      refine (HCODE.out w0 (rdW hb0 hr)).mono ?_
      rintro e w1 ⟨rfl, hb1⟩
      try rw [hj]
      have hlt1 := hb1.size
      replace f0 := (hb1.cell (by (try simp only); omega)).trans f0
      replace f1 := (hb1.cell (by (try simp only); omega)).trans f1
      replace f2 := (hb1.cell (by (try simp only); omega)).trans f2
      replace f3 := (hb1.cell (by (try simp only); omega)).trans f3
      replace f4 := (hb1.cell (by (try simp only); omega)).trans f4
      replace f5 := (hb1.cell (by (try simp only); omega)).trans f5
      have hB1 := bt hb0 hb1
      go_wp2_with fail
      refine (mayGo_c _ c L _ _ _ _ _ _ _ _ _ w1 (rdW hB1 hr) hl hcap hb hab hm).mono ?_
      rintro e w2 ⟨rfl, hb2⟩
      have hB2 := bt hB1 hb2
      clear f0 f1 f2 f3 f4 f5
      go_wp2_with fail
      refine (cloneMotion_c _ c L w2 (rdW hB2 hr) (by omega)).mono ?_
      rintro e w3 ⟨A3, c3, rfl, ho3, hb3, hc3, hd3⟩
      have hB3 := bt hB2 hb3
      obtain ⟨g, rfl, hg1, hg2⟩ := own_head ho3 HL.out
      obtain ⟨u4, f4⟩ := own_cell ho3 (j := j * 6 + 4) (by omega)
      obtain ⟨u3, f3⟩ := own_cell ho3 (j := j * 6 + 3) (by omega)
      have hz4 := ho3.frozenAt (j * 6 + 4)
      have hz3 := ho3.frozenAt (j * 6 + 3)
      have hs1 := ho3.stored (j * 6 + 4) (.int .i64 s)
      have hs2 := hs1.1.stored (j * 6 + 3) (.int .i64 day)
      have HS1 := Lib.hid hs1.2
      have HS2 := Lib.hid hs2
      clear hs1 hs2 ho3
      go_wp2
      go_ret2
      have e2 : ((L.flatMap motionC).set (j * 6 + 4) (.int .i64 s)).set (j * 6 + 3) (.int .i64 day) = (L.set j (upM (⟨x0, x1, x2, x3, x4, x5⟩ : MotionD) s day)).flatMap motionC := by
        have hx := HX.out
        rw [flat_set_at (f := motionC) (m := 6) (fun _ => rfl) (L := L) (j := j) (i := 4) (y := ⟨x0, x1, x2, x3, s, x5⟩) hjl (by omega) (by rw [hx]; rfl)]
        rw [flat_set_at (f := motionC) (m := 6) (fun _ => rfl) (L := L.set j ⟨x0, x1, x2, x3, s, x5⟩) (j := j) (i := 3) (y := ⟨x0, x1, x2, day, s, x5⟩) (by simpa using hjl) (by omega) (by simp [motionC])]
        rw [List.set_set]; rfl
      have hfin := (HS2.out).1
      rw [e2] at hfin
      have el : (L.set j (upM (⟨x0, x1, x2, x3, x4, x5⟩ : MotionD) s day)).length = L.length := by simp
      rw [el]
      exact rowPost2_mk (own_mono hfin hB2.size) (below_grown (below_grown hB3 HS1.out (Nat.le_refl _) (fun k hk => by cases hk; have := hB2.size; omega)) (HS2.out).2 (Nat.le_refl _) (fun k hk => by cases hk; have := hB2.size; omega))
  · rw [chgM_c (.inr hS) h0]
    rw [if_neg h0] at hcode
    have hne : (codeM L n day != 0) = true := by rw [bne_iff_ne]; exact h0
    have hne2 : (codeM L n day == 0) = false := by rw [beq_eq_false_iff_ne]; exact h0
    generalize codeM L n day = q at *
    have HCODE := Lib.hid hcode
    clear hcode h0
    go_enter Try.func25, Try.ntmps25
    go_wp2_with fail
    refine (impl_AreMotions A c L _ w hr hl hcap hW hT).mono ?_
    rintro e w0 ⟨rfl, hb0⟩
    go_wp2_with (first | (go_at_call 72; refine (within_b _ _ _ _ _ hS).mono ?_; rintro e w' ⟨rfl, rfl⟩))
    refine (HCODE.out w0 (rdW hb0 hr)).mono ?_
    rintro e w1 ⟨rfl, hb1⟩
    go_wp2
    go_ret2
    exact rowPost2_nil (bt hb0 hb1)


set_option maxRecDepth 100000 in
set_option maxHeartbeats 2000000 in
theorem spec_ChangeMotion (A : Option Addr) (c : Nat) (L : List MotionD) (n s day : Int) (w : World) (hr : Rd w w.heap.size A (L.length * 6) (L.flatMap motionC)) (hl : L.length ≤ 140737488355328) (hcap : L.length ≤ c) (hW : ∀ x ∈ L, MotionW x) :
    Calls Try.prog 26 #[.slice A L.length c, .int .i64 n, .int .i64 s, .int .i64 day] w (RowPost2 46 6 (chgM L n s day).1.length ((chgM L n s day).1.flatMap motionC) (chgM L n s day).2 w) := by
  cases hS : inB s 0 5
  · have hcode := l30Code_c A c L n (-1) w hr hl hcap hW
    rw [codeM_m1] at hcode
    cases hT : motsOk L
    · have hc1 : codeM L n day = 1 := by simp [codeM, hT]
      rw [chgM_c (.inl hT) (by omega), hc1]
      rw [hT, if_neg (by decide)] at hcode
      have HCODE := Lib.hid hcode
      have HC1 := Lib.hid hc1
      clear hc1 hcode
      go_enter Try.func26, Try.ntmps26
      go_wp2_with (first | (go_at_call 74; refine (l01In_b _ _ _ _ _ hS).mono ?_; rintro e w' ⟨rfl, rfl⟩))
      refine HCODE.out.mono ?_
      rintro e w1 ⟨rfl, hb1⟩
      go_wp2
      go_ret2
      exact rowPost2_nil hb1
    · rw [chgM_2 hT hS]
      rw [hT, if_pos rfl] at hcode
      have HCODE := Lib.hid hcode
      clear hcode
      go_enter Try.func26, Try.ntmps26
      go_wp2_with (first | (go_at_call 74; refine (l01In_b _ _ _ _ _ hS).mono ?_; rintro e w' ⟨rfl, rfl⟩))
      refine HCODE.out.mono ?_
      rintro e w1 ⟨rfl, hb1⟩
      go_wp2
      go_ret2
      exact rowPost2_nil hb1
  have hcode := l30Code_c A c L n day w hr hl hcap hW
  by_cases h0 : codeM L n day = 0
  · skip
    obtain ⟨hT, hD, j, hj, hjl⟩ := codeM_0 h0
    have h12 := mots_len hT
    have HBD := Lib.hid (mots_bds hT hjl)
    have HAF := Lib.hid (mots_after hT hjl)
    have hj0 : (0 : Int) ≤ (j : Int) := by omega
    have hjL : (j : Int) < L.length := by omega
    have hjc : (j : Int) ≤ (c : Int) := by omega
    have hL0 : 0 < L.length := by omega
    obtain ⟨i0, hi, hz0, hz1, hz2⟩ := info_parts motion_info
    have HO := Lib.hid (one_flat (fun a u hu => by simp only [motionC, List.mem_cons, List.not_mem_nil, or_false] at hu; rcases hu with rfl | rfl | rfl | rfl | rfl | rfl <;> rfl) L : ∀ u ∈ L.flatMap motionC, u.oneCell' = true)
    rw [h0] at hcode
    try rw [if_pos rfl] at hcode
    have HL := Lib.hid hL0
    have HCODE := Lib.hid hcode
    have HT := Lib.hid hT
    have HW := Lib.hid hW
    clear hcode hL0 hD hW
    cases hm : mayM L L[j] s day
    · rw [chgM_5 hS h0 hj hjl hm]
      have H0 := Lib.hid h0
      clear h0
      have HM := Lib.hid hm
      obtain ⟨bf, offf, rfl, hbf, hcf⟩ := Rd.elem motionC 6 (fun _ => rfl) (hr) (by omega) hjl
      have f0 : w.cell? ⟨bf, offf + j * 6, none⟩ = some (.int .i64 L[j].number) := hcf j hjl 0 _ rfl
      have f1 : w.cell? ⟨bf, offf + j * 6 + 1, none⟩ = some (.string L[j].party) := hcf j hjl 1 _ rfl
      have f2 : w.cell? ⟨bf, offf + j * 6 + 2, none⟩ = some (.int .i64 L[j].filed) := hcf j hjl 2 _ rfl
      have f3 : w.cell? ⟨bf, offf + j * 6 + 3, none⟩ = some (.int .i64 L[j].changed) := hcf j hjl 3 _ rfl
      have f4 : w.cell? ⟨bf, offf + j * 6 + 4, none⟩ = some (.int .i64 L[j].state) := hcf j hjl 4 _ rfl
      have f5 : w.cell? ⟨bf, offf + j * 6 + 5, none⟩ = some (.int .i64 L[j].after) := hcf j hjl 5 _ rfl
      have hb := HBD.out.2.1
      have hab := HAF.out
      clear hcf
      generalize hx : L[j] = x at *
      obtain ⟨x0, x1, x2, x3, x4, x5⟩ := x
      have HX := Lib.hid hx
      clear hx
      go_enter Try.func26, Try.ntmps26
      go_wp2_with (first | (go_at_call 74; refine (l01In_b _ _ _ _ _ hS).mono ?_; rintro e w' ⟨rfl, rfl⟩))
      refine HCODE.out.mono ?_
      rintro e w1 ⟨rfl, hb1⟩
      have hlt1 := hb1.size
      replace f0 := (hb1.cell (by (try simp only); omega)).trans f0
      replace f1 := (hb1.cell (by (try simp only); omega)).trans f1
      replace f2 := (hb1.cell (by (try simp only); omega)).trans f2
      replace f3 := (hb1.cell (by (try simp only); omega)).trans f3
      replace f4 := (hb1.cell (by (try simp only); omega)).trans f4
      replace f5 := (hb1.cell (by (try simp only); omega)).trans f5
      go_wp2_with fail
      refine (l30Find_c _ L.length c L n w1 rfl (rdW hb1 hr) hl).mono ?_
      rintro e w' ⟨rfl, rfl⟩
      try rw [hj]
      go_wp2_with fail
      refine (l30May_c _ c L _ _ _ _ _ _ _ _ _ w1 (rdW hb1 hr) hl hcap hb hab hm).mono ?_
      rintro e w2 ⟨rfl, hb2⟩
      have hB2 := bt hb1 hb2
      go_wp2
      go_ret2
      exact rowPost2_nil hB2
    · rw [chgM_0 hS h0 hj hjl hm]
      have H0 := Lib.hid h0
      clear h0
      have HM := Lib.hid hm
      obtain ⟨bf, offf, rfl, hbf, hcf⟩ := Rd.elem motionC 6 (fun _ => rfl) (hr) (by omega) hjl
      have f0 : w.cell? ⟨bf, offf + j * 6, none⟩ = some (.int .i64 L[j].number) := hcf j hjl 0 _ rfl
      have f1 : w.cell? ⟨bf, offf + j * 6 + 1, none⟩ = some (.string L[j].party) := hcf j hjl 1 _ rfl
      have f2 : w.cell? ⟨bf, offf + j * 6 + 2, none⟩ = some (.int .i64 L[j].filed) := hcf j hjl 2 _ rfl
      have f3 : w.cell? ⟨bf, offf + j * 6 + 3, none⟩ = some (.int .i64 L[j].changed) := hcf j hjl 3 _ rfl
      have f4 : w.cell? ⟨bf, offf + j * 6 + 4, none⟩ = some (.int .i64 L[j].state) := hcf j hjl 4 _ rfl
      have f5 : w.cell? ⟨bf, offf + j * 6 + 5, none⟩ = some (.int .i64 L[j].after) := hcf j hjl 5 _ rfl
      have hb := HBD.out.2.1
      have hab := HAF.out
      clear hcf
      generalize hx : L[j] = x at *
      obtain ⟨x0, x1, x2, x3, x4, x5⟩ := x
      have HX := Lib.hid hx
      clear hx
      go_enter Try.func26, Try.ntmps26
      go_wp2_with (first | (go_at_call 74; refine (l01In_b _ _ _ _ _ hS).mono ?_; rintro e w' ⟨rfl, rfl⟩))
      refine HCODE.out.mono ?_
      rintro e w1 ⟨rfl, hb1⟩
      have hlt1 := hb1.size
      replace f0 := (hb1.cell (by (try simp only); omega)).trans f0
      replace f1 := (hb1.cell (by (try simp only); omega)).trans f1
      replace f2 := (hb1.cell (by (try simp only); omega)).trans f2
      replace f3 := (hb1.cell (by (try simp only); omega)).trans f3
      replace f4 := (hb1.cell (by (try simp only); omega)).trans f4
      replace f5 := (hb1.cell (by (try simp only); omega)).trans f5
      go_wp2_with fail
      refine (l30Find_c _ L.length c L n w1 rfl (rdW hb1 hr) hl).mono ?_
      rintro e w' ⟨rfl, rfl⟩
      try rw [hj]
      go_wp2_with fail
      refine (l30May_c _ c L _ _ _ _ _ _ _ _ _ w1 (rdW hb1 hr) hl hcap hb hab hm).mono ?_
      rintro e w2 ⟨rfl, hb2⟩
      have hB2 := bt hb1 hb2
      clear f0 f1 f2 f3 f4 f5
      have HLI := Lib.hid (World.ownsRow_lit (base := w2.heap.size) (size := 6) (e := 46) w2 #[] 0 (Nat.le_refl _) (by unfold maxLen; omega) rfl)
      have HR := Lib.hid ((rdW hB2 hr).alloc (Nat.le_refl _) (.cells #[] 46))
      have hBx : Below w.heap.size w (w2.alloc (.cells #[] 46)) := hB2.alloc hB2.size _
      have HFIX : Hid (∀ (A2 : Option Addr) (c2 : Nat) (w3 : World), w3.ownsRow w2.heap.size 46 6 (.slice A2 L.length c2) L.length (L.flatMap motionC) → ∃ g u4 u3, A2 = some ⟨g, 0, none⟩ ∧ w2.heap.size ≤ g ∧ g < w3.heap.size ∧ w3.cell? ⟨g, j * 6 + 4, none⟩ = some u4 ∧ w3.cell? ⟨g, j * 6 + 3, none⟩ = some u3 ∧ w3.frozen? ⟨g, j * 6 + 4, none⟩ = false ∧ w3.frozen? ⟨g, j * 6 + 3, none⟩ = false ∧ L.length ≤ c2) := fun A2 c2 w3 ho => by
        obtain ⟨g, rfl, hg1, hg2⟩ := own_head ho HL.out
        obtain ⟨u4, f4⟩ := own_cell ho (j := j * 6 + 4) (by omega)
        obtain ⟨u3, f3⟩ := own_cell ho (j := j * 6 + 3) (by omega)
        exact ⟨g, u4, u3, rfl, hg1, hg2, f4, f3, ho.frozenAt _, ho.frozenAt _, (own_cap ho).1⟩
      go_wp2_with (first | (at_builtin; refine wpList_cat _ rfl (.tmp 35) (.tmp 36) 24 rfl w2.heap.size 46 i0 _ 6 56 Try.underlying24 hi hz0 hz1 hz2 rfl (by decide) (.slice (some ⟨w2.heap.size, 0, none⟩) 0 0) (0) ([]) (by rfl) HLI.out _ (L.length) c w2.heap.size (L.flatMap motionC) (by rfl) HR.out HO.out (by unfold maxLen; omega) (by omega) (by simp) ?_; intro A2 c2 w3 ho3 hg3; simp only [Nat.zero_add, List.nil_append] at ho3; obtain ⟨g, u4, u3, rfl, hg1, hg2, f4, f3, hz4, hz3, hcc⟩ := HFIX.out A2 c2 w3 ho3; have HO3 := Lib.hid ho3; clear ho3))
      have hB3 : Below w.heap.size w w3 := below_grown hBx hg3 (Nat.le_refl _) (fun k hk => by cases hk; exact hB2.size)
      have ho3 := HO3.out
      have hs1 := ho3.stored (j * 6 + 4) (.int .i64 s)
      have hs2 := hs1.1.stored (j * 6 + 3) (.int .i64 day)
      have HS1 := Lib.hid hs1.2
      have HS2 := Lib.hid hs2
      clear hs1 hs2 ho3
      go_ret2
      have e2 : ((L.flatMap motionC).set (j * 6 + 4) (.int .i64 s)).set (j * 6 + 3) (.int .i64 day) = (L.set j (upM (⟨x0, x1, x2, x3, x4, x5⟩ : MotionD) s day)).flatMap motionC := by
        have hx := HX.out
        rw [flat_set_at (f := motionC) (m := 6) (fun _ => rfl) (L := L) (j := j) (i := 4) (y := ⟨x0, x1, x2, x3, s, x5⟩) hjl (by omega) (by rw [hx]; rfl)]
        rw [flat_set_at (f := motionC) (m := 6) (fun _ => rfl) (L := L.set j ⟨x0, x1, x2, x3, s, x5⟩) (j := j) (i := 3) (y := ⟨x0, x1, x2, day, s, x5⟩) (by simpa using hjl) (by omega) (by simp [motionC])]
        rw [List.set_set]; rfl
      have hfin := (HS2.out).1
      rw [e2] at hfin
      have el : (L.set j (upM (⟨x0, x1, x2, x3, x4, x5⟩ : MotionD) s day)).length = L.length := by simp
      rw [el]
      exact rowPost2_mk (own_mono hfin hB2.size) (below_grown (below_grown hB3 HS1.out (Nat.le_refl _) (fun k hk => by cases hk; have := hB2.size; omega)) (HS2.out).2 (Nat.le_refl _) (fun k hk => by cases hk; have := hB2.size; omega))
  · rw [chgM_c (.inr hS) h0]
    have hne : (codeM L n day != 0) = true := by rw [bne_iff_ne]; exact h0
    have hne2 : (codeM L n day == 0) = false := by rw [beq_eq_false_iff_ne]; exact h0
    generalize codeM L n day = q at *
    have HCODE := Lib.hid hcode
    clear hcode h0
    go_enter Try.func26, Try.ntmps26
    go_wp2_with (first | (go_at_call 74; refine (l01In_b _ _ _ _ _ hS).mono ?_; rintro e w' ⟨rfl, rfl⟩))
    refine HCODE.out.mono ?_
    rintro e w1 ⟨rfl, hb1⟩
    go_wp2
    go_ret2
    exact rowPost2_nil hb1

end Go.Proofs.Ytdohegpbdlcnjaa
