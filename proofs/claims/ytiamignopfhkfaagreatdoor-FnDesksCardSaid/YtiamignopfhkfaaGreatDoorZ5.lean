/- Contracts: the clone of motions; FileMotion of both texts. -/
import Derived.Test.YtiamignopfhkfaaGreatDoorZ3
import Derived.Test.YtiamignopfhkfaaGreatDoorZ4
namespace Go.Proofs.YtiamignopfhkfaaGreatDoor
open Go.RowKit
set_option linter.unusedVariables false

set_option maxHeartbeats 1000000 in
theorem cloneMotion_c (A : Option Addr) (c : Nat) (L : List MotionD) (w : World) (hr : Rd w w.heap.size A (L.length * 6) (L.flatMap motionC)) (hl : L.length * 56 ≤ 140737488355328) :
    Calls Tryz.prog 190 #[.slice A L.length c] w (RowPost1 70 6 L.length (L.flatMap motionC) w) := by
  obtain ⟨i0, hi, hz0, hz1, hz2⟩ := info_parts motion_info
  have HO := Lib.hid (one_flat (fun a u hu => by simp only [motionC, List.mem_cons, List.not_mem_nil, or_false] at hu; rcases hu with rfl | rfl | rfl | rfl | rfl | rfl <;> rfl) L : ∀ u ∈ L.flatMap motionC, u.oneCell' = true)
  go_enter Tryz.func190, Tryz.ntmps190
  go_wp2_with (first | (at_make; refine wpList_make_own _ rfl _ _ 32 rfl w.heap.size 70 i0 _ 6 Tryz.underlying32 hi hz0 hz1 _ _ _ L.length rfl rfl rfl (by rw [hz2]; omega) (by unfold maxLen; omega) (Nat.le_refl _) ?_; intro w1 hown1 hgrow1; have hb1 : Below w.heap.size w w1 := (Below.refl _ _).grown hgrow1 (Nat.le_refl _) (fun k hk => by cases hk); have HR := Lib.hid (hr.below hb1 : Rd w1 w.heap.size A (L.length * 6) (L.flatMap motionC)); clear hgrow1) | (at_builtin; refine wpList_cat w1 rfl _ _ 32 rfl w.heap.size 70 i0 _ 6 56 Tryz.underlying32 hi hz0 hz1 hz2 rfl (by decide) _ 0 [] rfl hown1 A L.length c w.heap.size (L.flatMap motionC) rfl HR.out HO.out (by unfold maxLen; omega) (by omega) hb1.size ?_; intro A2 c2 w2 hown2 hgrow2))
  have hb2 : Below w.heap.size w w2 := below_grown hb1 hgrow2 (Nat.le_refl _) (fun g hg => by cases hg; exact Nat.le_refl _)
  simp only [Nat.zero_add, List.nil_append] at hown2
  clear hgrow2 hown1
  go_wp2
  go_ret
  exact rowPost1_mk hown2 hb2


def lastNo (L : List MotionD) : Int := if L.length = 0 then 1 else (L.getD (L.length - 1) default).number + 1
def newM (L : List MotionD) (p : ByteArray) (day after : Int) : MotionD := ⟨lastNo L, p, day, day, 0, after⟩
def fileM (L : List MotionD) (p : ByteArray) (day after : Int) : List MotionD × Int :=
  if (motsOk L && isWordB p) = true then (if inB day 0 20000 then (if after ≠ 0 ∧ findM after L 0 < 0 then ([], 4) else (if motsOk (L ++ [newM L p day after]) then (L ++ [newM L p day after], 0) else ([], 3))) else ([], 2)) else ([], 1)
theorem fileM_1 {L : List MotionD} {p : ByteArray} {day after : Int} (h : (motsOk L && isWordB p) = false) : fileM L p day after = ([], 1) := by rw [fileM, h]; rfl
theorem fileM_2 {L : List MotionD} {p : ByteArray} {day after : Int} (h : (motsOk L && isWordB p) = true) (hd : inB day 0 20000 = false) : fileM L p day after = ([], 2) := by rw [fileM, h, hd]; rfl
theorem fileM_4 {L : List MotionD} {p : ByteArray} {day after : Int} (h : (motsOk L && isWordB p) = true) (hd : inB day 0 20000 = true) (ha : after ≠ 0 ∧ findM after L 0 < 0) : fileM L p day after = ([], 4) := by rw [fileM, h, hd, if_pos rfl, if_pos rfl, if_pos ha]
theorem fileM_3 {L : List MotionD} {p : ByteArray} {day after : Int} (h : (motsOk L && isWordB p) = true) (hd : inB day 0 20000 = true) (ha : ¬ (after ≠ 0 ∧ findM after L 0 < 0)) (hm : motsOk (L ++ [newM L p day after]) = false) : fileM L p day after = ([], 3) := by rw [fileM, h, hd, if_pos rfl, if_pos rfl, if_neg ha, hm]; rfl
theorem fileM_0 {L : List MotionD} {p : ByteArray} {day after : Int} (h : (motsOk L && isWordB p) = true) (hd : inB day 0 20000 = true) (ha : ¬ (after ≠ 0 ∧ findM after L 0 < 0)) (hm : motsOk (L ++ [newM L p day after]) = true) : fileM L p day after = (L ++ [newM L p day after], 0) := by rw [fileM, h, hd, if_pos rfl, if_pos rfl, if_neg ha, hm]; rfl
theorem fileM_len (L : List MotionD) (p : ByteArray) (day after : Int) : (fileM L p day after).1.length ≤ 13 := by
  unfold fileM
  split
  · rename_i h
    simp only [Bool.and_eq_true] at h
    have := mots_len h.1
    split <;> (try split) <;> (try split) <;> simp <;> omega
  · simp
theorem lastNo_bd {L : List MotionD} (h : motsOk L = true) : 1 ≤ lastNo L ∧ lastNo L ≤ 1001 := by
  unfold lastNo
  split
  · omega
  · rename_i h0
    have := (mots_bds h (show L.length - 1 < L.length by omega)).1
    rw [List.getD_eq_getElem?_getD, List.getElem?_eq_getElem (show L.length - 1 < L.length by omega)]
    simp only [Option.getD_some]
    omega
theorem newM_w {L : List MotionD} {p : ByteArray} {day after : Int} (h : (motsOk L && isWordB p) = true) (hd : inB day 0 20000 = true) (ha : (Lit.int .i64 after).wf = true) : MotionW (newM L p day after) := by
  simp only [Bool.and_eq_true] at h
  have hp := word_len h.2
  have hdd := inB_iff.1 hd
  refine ⟨WalkArith.wf_i64 ?_, by show p.size ≤ _; unfold maxLen; omega, WalkArith.wf_i64 (by constructor <;> simp only [newM] <;> omega), WalkArith.wf_i64 (by constructor <;> simp only [newM] <;> omega), WalkArith.wf_i64 (by constructor <;> simp only [newM] <;> omega), ha⟩
  have := lastNo_bd h.1
  simp only [newM]
  omega
theorem last_number {w : World} {B : Nat} {A : Option Addr} {L : List MotionD} (hr : Rd w B A (L.length * 6) (L.flatMap motionC)) (h0 : 0 < L.length) :
    ∃ b off, A = some ⟨b, off, none⟩ ∧ b < B ∧ w.cell? ⟨b, off + (L.length - 1) * 6, none⟩ = some (.int .i64 (lastNo L - 1)) := by
  obtain ⟨b, off, rfl, hb, hc⟩ := Rd.elem motionC 6 (fun _ => rfl) hr (by omega) (show L.length - 1 < L.length by omega)
  refine ⟨b, off, rfl, hb, ?_⟩
  have := hc (L.length - 1) (by omega) 0 _ rfl
  rw [show lastNo L - 1 = L[L.length - 1].number from ?_]
  · exact this
  · rw [lastNo, if_neg (by omega), List.getD_eq_getElem?_getD, List.getElem?_eq_getElem (show L.length - 1 < L.length by omega)]; simp


set_option maxRecDepth 100000 in
set_option maxHeartbeats 4000000 in
theorem impl_FileMotion (A : Option Addr) (c : Nat) (L : List MotionD) (p : ByteArray) (day after : Int) (w : World) (hr : Rd w w.heap.size A (L.length * 6) (L.flatMap motionC)) (hl : L.length ≤ 140737488355328) (hcap : L.length ≤ c) (hW : ∀ x ∈ L, MotionW x) (hs : p.size ≤ 9223372036854775807) (ha : (Lit.int .i64 after).wf = true) :
    Calls Tryz.prog 153 #[.slice A L.length c, .string p, .int .i64 day, .int .i64 after] w (RowPost2 70 6 (fileM L p day after).1.length ((fileM L p day after).1.flatMap motionC) (fileM L p day after).2 w) := by
  cases hT : motsOk L
  · rw [fileM_1 (by rw [hT]; rfl)]
    go_enter Tryz.func153, Tryz.ntmps153
    go_wp2_with fail
    refine (impl_AreMotions A c L _ w hr hl hcap hW hT).mono ?_
    rintro e w1 ⟨rfl, hb1⟩
    go_wp2
    go_ret2
    exact rowPost2_nil hb1
  cases hP : isWordB p
  · rw [fileM_1 (by rw [hT, hP]; rfl)]
    go_enter Tryz.func153, Tryz.ntmps153
    go_wp2_with fail
    refine (impl_AreMotions A c L _ w hr hl hcap hW hT).mono ?_
    rintro e w1 ⟨rfl, hb1⟩
    go_wp2_with (first | (go_at_call 95; refine (impl_IsWord _ _ _ hs hP).mono ?_; rintro e w' ⟨rfl, rfl⟩))
    go_ret2
    exact rowPost2_nil hb1
  have hTP : (motsOk L && isWordB p) = true := by rw [hT, hP]; rfl
  cases hD : inB day 0 20000
  · rw [fileM_2 hTP hD]
    clear hTP
    go_enter Tryz.func153, Tryz.ntmps153
    go_wp2_with fail
    refine (impl_AreMotions A c L _ w hr hl hcap hW hT).mono ?_
    rintro e w1 ⟨rfl, hb1⟩
    go_wp2_with (first | (go_at_call 95; refine (impl_IsWord _ _ _ hs hP).mono ?_; rintro e w' ⟨rfl, rfl⟩) | (go_at_call 94; refine (isDay_b _ _ _ hD).mono ?_; rintro e w' ⟨rfl, rfl⟩))
    go_ret2
    exact rowPost2_nil hb1
  have h12 := mots_len hT
  obtain ⟨i0, hi, hz0, hz1, hz2⟩ := info_parts motion_info
  have HO := Lib.hid (one_flat (fun a u hu => by simp only [motionC, List.mem_cons, List.not_mem_nil, or_false] at hu; rcases hu with rfl | rfl | rfl | rfl | rfl | rfl <;> rfl) L : ∀ u ∈ L.flatMap motionC, u.oneCell' = true)
  by_cases ha0 : after = 0
  · have HAF : Hid (¬ (after ≠ 0 ∧ findM after L 0 < 0)) := fun h => h.1 ha0
    have ha0q : (after == 0) = true := by rw [ha0]; rfl
    have ha0n : (after != 0) = false := by rw [ha0]; rfl
    have HA0 := Lib.hid ha0
    clear ha0
    by_cases h0 : L.length = 0
    · skip
      have hL0 : L.length = 0 := h0
      have HX : Hid (newM L p day after = ⟨1, p, day, day, 0, after⟩) := by unfold Hid newM lastNo; rw [if_pos h0]
      have HNW : Hid (∀ x ∈ L ++ [(⟨1, p, day, day, 0, after⟩ : MotionD)], MotionW x) := by
        intro x hx
        rcases List.mem_append.1 hx with h | h
        · exact hW x h
        · rw [List.mem_singleton.1 h, ← HX.out]; exact newM_w hTP hD ha
      have hL1 : (L.length : Int) ≤ 0 := by omega
      have H0 := Lib.hid h0
      clear hL0 h0
      cases hNB : motsOk (L ++ [⟨1, p, day, day, 0, after⟩])
      · rw [fileM_3 hTP hD HAF.out (by rw [HX.out]; exact hNB)]
        have HNB := Lib.hid hNB
        clear hNB hTP
        go_enter Tryz.func153, Tryz.ntmps153
        go_wp2_with fail
        refine (impl_AreMotions A c L _ w hr hl hcap hW hT).mono ?_
        rintro e w1 ⟨rfl, hb1⟩
        have hB2 := hb1
        go_wp2_with (first | (go_at_call 95; refine (impl_IsWord _ _ _ hs hP).mono ?_; rintro e w' ⟨rfl, rfl⟩) | (go_at_call 94; refine (isDay_b _ _ _ hD).mono ?_; rintro e w' ⟨rfl, rfl⟩))
        refine (cloneMotion_c _ c L w1 (rdW hB2 hr) (by omega)).mono ?_
        rintro e w3 ⟨A3, c3, rfl, ho3, hb3, hc3, hd3⟩
        have hB3 := bt hB2 hb3
        have HS3 := Lib.hid hb3.size
        go_wp2_with (at_builtin; go_loud (refine wpList_push w3 rfl _ _ 32 rfl w1.heap.size 70 i0 _ 6 56 Tryz.underlying32 hi hz0 hz1 hz2 rfl (by decide) (.slice A3 L.length c3) L.length (L.flatMap motionC) (by rfl) ho3 [.int .i64 1, .string p, .int .i64 day, .int .i64 day, .int .i64 0, .int .i64 after] 70 (by rfl) rfl (by simp [Value.oneCell']) (by unfold maxLen; omega) (by omega) HS3.out ?_; intro A4 c4 w4 ho4 hg4))
        have e1 : ((L ++ [(⟨1, p, day, day, 0, after⟩ : MotionD)]) : List MotionD).length = L.length + 1 := by simp
        have e2 : ((L ++ [(⟨1, p, day, day, 0, after⟩ : MotionD)]) : List MotionD).flatMap motionC = L.flatMap motionC ++ [.int .i64 1, .string p, .int .i64 day, .int .i64 day, .int .i64 0, .int .i64 after] := by simp [motionC]
        have ho5 : w4.ownsRow w1.heap.size 70 6 (.slice A4 (L ++ [(⟨1, p, day, day, 0, after⟩ : MotionD)]).length c4) (L ++ [(⟨1, p, day, day, 0, after⟩ : MotionD)]).length ((L ++ [(⟨1, p, day, day, 0, after⟩ : MotionD)]).flatMap motionC) := by rw [e1, e2]; exact ho4
        have hc4 := own_cap ho5
        have hB4 : Below w.heap.size w w4 := below_grown hB3 hg4 (Nat.le_refl _) (fun k hk => by have := (World.ownsRow.lt ho3 k hk).1; have := hB2.size; omega)
        have HA := impl_AreMotions A4 c4 (L ++ [(⟨1, p, day, day, 0, after⟩ : MotionD)]) _ w4 (Rd.of_own ho5) (by rw [e1]; omega) hc4.1 HNW.out HNB.out
        rw [e1] at HA
        have HO5 := Lib.hid ho5
        have HE1 := Lib.hid e1
        clear ho5 ho4 hc4 e1 e2 hg4
        refine HA.mono ?_
        rintro e w5 ⟨rfl, hb5⟩
        go_wp2
        go_ret2
        exact rowPost2_nil (bt hB4 hb5)
      · rw [fileM_0 hTP hD HAF.out (by rw [HX.out]; exact hNB), HX.out]
        have HNB := Lib.hid hNB
        clear hNB hTP
        go_enter Tryz.func153, Tryz.ntmps153
        go_wp2_with fail
        refine (impl_AreMotions A c L _ w hr hl hcap hW hT).mono ?_
        rintro e w1 ⟨rfl, hb1⟩
        have hB2 := hb1
        go_wp2_with (first | (go_at_call 95; refine (impl_IsWord _ _ _ hs hP).mono ?_; rintro e w' ⟨rfl, rfl⟩) | (go_at_call 94; refine (isDay_b _ _ _ hD).mono ?_; rintro e w' ⟨rfl, rfl⟩))
        refine (cloneMotion_c _ c L w1 (rdW hB2 hr) (by omega)).mono ?_
        rintro e w3 ⟨A3, c3, rfl, ho3, hb3, hc3, hd3⟩
        have hB3 := bt hB2 hb3
        have HS3 := Lib.hid hb3.size
        go_wp2_with (at_builtin; go_loud (refine wpList_push w3 rfl _ _ 32 rfl w1.heap.size 70 i0 _ 6 56 Tryz.underlying32 hi hz0 hz1 hz2 rfl (by decide) (.slice A3 L.length c3) L.length (L.flatMap motionC) (by rfl) ho3 [.int .i64 1, .string p, .int .i64 day, .int .i64 day, .int .i64 0, .int .i64 after] 70 (by rfl) rfl (by simp [Value.oneCell']) (by unfold maxLen; omega) (by omega) HS3.out ?_; intro A4 c4 w4 ho4 hg4))
        have e1 : ((L ++ [(⟨1, p, day, day, 0, after⟩ : MotionD)]) : List MotionD).length = L.length + 1 := by simp
        have e2 : ((L ++ [(⟨1, p, day, day, 0, after⟩ : MotionD)]) : List MotionD).flatMap motionC = L.flatMap motionC ++ [.int .i64 1, .string p, .int .i64 day, .int .i64 day, .int .i64 0, .int .i64 after] := by simp [motionC]
        have ho5 : w4.ownsRow w1.heap.size 70 6 (.slice A4 (L ++ [(⟨1, p, day, day, 0, after⟩ : MotionD)]).length c4) (L ++ [(⟨1, p, day, day, 0, after⟩ : MotionD)]).length ((L ++ [(⟨1, p, day, day, 0, after⟩ : MotionD)]).flatMap motionC) := by rw [e1, e2]; exact ho4
        have hc4 := own_cap ho5
        have hB4 : Below w.heap.size w w4 := below_grown hB3 hg4 (Nat.le_refl _) (fun k hk => by have := (World.ownsRow.lt ho3 k hk).1; have := hB2.size; omega)
        have HA := impl_AreMotions A4 c4 (L ++ [(⟨1, p, day, day, 0, after⟩ : MotionD)]) _ w4 (Rd.of_own ho5) (by rw [e1]; omega) hc4.1 HNW.out HNB.out
        rw [e1] at HA
        have HO5 := Lib.hid ho5
        have HE1 := Lib.hid e1
        clear ho5 ho4 hc4 e1 e2 hg4
        refine HA.mono ?_
        rintro e w5 ⟨rfl, hb5⟩
        go_wp2
        go_ret2
        have ho6 := own_below (own_mono HO5.out hB2.size) hb5
        rw [HE1.out] at ho6
        rw [HE1.out]
        exact rowPost2_mk ho6 (bt hB4 hb5)
    · skip
      obtain ⟨q, hq⟩ : ∃ q, lastNo L = q + 1 := ⟨lastNo L - 1, by omega⟩
      have hqb := lastNo_bd hT
      rw [hq] at hqb
      have HQ := Lib.hid hq
      have hq1 : 0 ≤ q ∧ q ≤ 1000 := by omega
      have HX : Hid (newM L p day after = ⟨q + 1, p, day, day, 0, after⟩) := by unfold Hid newM; rw [hq]
      have HNW : Hid (∀ x ∈ L ++ [(⟨q + 1, p, day, day, 0, after⟩ : MotionD)], MotionW x) := by
        intro x hx
        rcases List.mem_append.1 hx with h | h
        · exact hW x h
        · rw [List.mem_singleton.1 h, ← HX.out]; exact newM_w hTP hD ha
      have hL1 : (1 : Int) ≤ L.length := by omega
      have H0 := Lib.hid h0
      clear hq hqb h0
      cases hNB : motsOk (L ++ [⟨(q + 1), p, day, day, 0, after⟩])
      · rw [fileM_3 hTP hD HAF.out (by rw [HX.out]; exact hNB)]
        have HNB := Lib.hid hNB
        clear hNB hTP
        go_enter Tryz.func153, Tryz.ntmps153
        go_wp2_with fail
        refine (impl_AreMotions A c L _ w hr hl hcap hW hT).mono ?_
        rintro e w1 ⟨rfl, hb1⟩
        have hB2 := hb1
        obtain ⟨b, off, rfl, hb, hf⟩ := last_number (rdW hB2 hr) (by have := H0.out; omega)
        rw [show lastNo L - 1 = q by have := HQ.out; omega] at hf
        go_wp2_with (first | (go_at_call 95; refine (impl_IsWord _ _ _ hs hP).mono ?_; rintro e w' ⟨rfl, rfl⟩) | (go_at_call 94; refine (isDay_b _ _ _ hD).mono ?_; rintro e w' ⟨rfl, rfl⟩))
        refine (cloneMotion_c _ c L w1 (rdW hB2 hr) (by omega)).mono ?_
        rintro e w3 ⟨A3, c3, rfl, ho3, hb3, hc3, hd3⟩
        have hB3 := bt hB2 hb3
        have HS3 := Lib.hid hb3.size
        go_wp2_with (at_builtin; go_loud (refine wpList_push w3 rfl _ _ 32 rfl w1.heap.size 70 i0 _ 6 56 Tryz.underlying32 hi hz0 hz1 hz2 rfl (by decide) (.slice A3 L.length c3) L.length (L.flatMap motionC) (by rfl) ho3 [.int .i64 (q + 1), .string p, .int .i64 day, .int .i64 day, .int .i64 0, .int .i64 after] 70 (by rfl) rfl (by simp [Value.oneCell']) (by unfold maxLen; omega) (by omega) HS3.out ?_; intro A4 c4 w4 ho4 hg4))
        have e1 : ((L ++ [(⟨(q + 1), p, day, day, 0, after⟩ : MotionD)]) : List MotionD).length = L.length + 1 := by simp
        have e2 : ((L ++ [(⟨(q + 1), p, day, day, 0, after⟩ : MotionD)]) : List MotionD).flatMap motionC = L.flatMap motionC ++ [.int .i64 (q + 1), .string p, .int .i64 day, .int .i64 day, .int .i64 0, .int .i64 after] := by simp [motionC]
        have ho5 : w4.ownsRow w1.heap.size 70 6 (.slice A4 (L ++ [(⟨(q + 1), p, day, day, 0, after⟩ : MotionD)]).length c4) (L ++ [(⟨(q + 1), p, day, day, 0, after⟩ : MotionD)]).length ((L ++ [(⟨(q + 1), p, day, day, 0, after⟩ : MotionD)]).flatMap motionC) := by rw [e1, e2]; exact ho4
        have hc4 := own_cap ho5
        have hB4 : Below w.heap.size w w4 := below_grown hB3 hg4 (Nat.le_refl _) (fun k hk => by have := (World.ownsRow.lt ho3 k hk).1; have := hB2.size; omega)
        have HA := impl_AreMotions A4 c4 (L ++ [(⟨(q + 1), p, day, day, 0, after⟩ : MotionD)]) _ w4 (Rd.of_own ho5) (by rw [e1]; omega) hc4.1 HNW.out HNB.out
        rw [e1] at HA
        have HO5 := Lib.hid ho5
        have HE1 := Lib.hid e1
        clear ho5 ho4 hc4 e1 e2 hg4
        refine HA.mono ?_
        rintro e w5 ⟨rfl, hb5⟩
        go_wp2
        go_ret2
        exact rowPost2_nil (bt hB4 hb5)
      · rw [fileM_0 hTP hD HAF.out (by rw [HX.out]; exact hNB), HX.out]
        have HNB := Lib.hid hNB
        clear hNB hTP
        go_enter Tryz.func153, Tryz.ntmps153
        go_wp2_with fail
        refine (impl_AreMotions A c L _ w hr hl hcap hW hT).mono ?_
        rintro e w1 ⟨rfl, hb1⟩
        have hB2 := hb1
        obtain ⟨b, off, rfl, hb, hf⟩ := last_number (rdW hB2 hr) (by have := H0.out; omega)
        rw [show lastNo L - 1 = q by have := HQ.out; omega] at hf
        go_wp2_with (first | (go_at_call 95; refine (impl_IsWord _ _ _ hs hP).mono ?_; rintro e w' ⟨rfl, rfl⟩) | (go_at_call 94; refine (isDay_b _ _ _ hD).mono ?_; rintro e w' ⟨rfl, rfl⟩))
        refine (cloneMotion_c _ c L w1 (rdW hB2 hr) (by omega)).mono ?_
        rintro e w3 ⟨A3, c3, rfl, ho3, hb3, hc3, hd3⟩
        have hB3 := bt hB2 hb3
        have HS3 := Lib.hid hb3.size
        go_wp2_with (at_builtin; go_loud (refine wpList_push w3 rfl _ _ 32 rfl w1.heap.size 70 i0 _ 6 56 Tryz.underlying32 hi hz0 hz1 hz2 rfl (by decide) (.slice A3 L.length c3) L.length (L.flatMap motionC) (by rfl) ho3 [.int .i64 (q + 1), .string p, .int .i64 day, .int .i64 day, .int .i64 0, .int .i64 after] 70 (by rfl) rfl (by simp [Value.oneCell']) (by unfold maxLen; omega) (by omega) HS3.out ?_; intro A4 c4 w4 ho4 hg4))
        have e1 : ((L ++ [(⟨(q + 1), p, day, day, 0, after⟩ : MotionD)]) : List MotionD).length = L.length + 1 := by simp
        have e2 : ((L ++ [(⟨(q + 1), p, day, day, 0, after⟩ : MotionD)]) : List MotionD).flatMap motionC = L.flatMap motionC ++ [.int .i64 (q + 1), .string p, .int .i64 day, .int .i64 day, .int .i64 0, .int .i64 after] := by simp [motionC]
        have ho5 : w4.ownsRow w1.heap.size 70 6 (.slice A4 (L ++ [(⟨(q + 1), p, day, day, 0, after⟩ : MotionD)]).length c4) (L ++ [(⟨(q + 1), p, day, day, 0, after⟩ : MotionD)]).length ((L ++ [(⟨(q + 1), p, day, day, 0, after⟩ : MotionD)]).flatMap motionC) := by rw [e1, e2]; exact ho4
        have hc4 := own_cap ho5
        have hB4 : Below w.heap.size w w4 := below_grown hB3 hg4 (Nat.le_refl _) (fun k hk => by have := (World.ownsRow.lt ho3 k hk).1; have := hB2.size; omega)
        have HA := impl_AreMotions A4 c4 (L ++ [(⟨(q + 1), p, day, day, 0, after⟩ : MotionD)]) _ w4 (Rd.of_own ho5) (by rw [e1]; omega) hc4.1 HNW.out HNB.out
        rw [e1] at HA
        have HO5 := Lib.hid ho5
        have HE1 := Lib.hid e1
        clear ho5 ho4 hc4 e1 e2 hg4
        refine HA.mono ?_
        rintro e w5 ⟨rfl, hb5⟩
        go_wp2
        go_ret2
        have ho6 := own_below (own_mono HO5.out hB2.size) hb5
        rw [HE1.out] at ho6
        rw [HE1.out]
        exact rowPost2_mk ho6 (bt hB4 hb5)
  · have ha0q : (after == 0) = false := by rw [beq_eq_false_iff_ne]; exact ha0
    have ha0n : (after != 0) = true := by rw [bne_iff_ne]; exact ha0
    by_cases hf : findM after L 0 < 0
    · rw [fileM_4 hTP hD ⟨ha0, hf⟩]
      clear hTP ha0
      go_enter Tryz.func153, Tryz.ntmps153
      go_wp2_with fail
      refine (impl_AreMotions A c L _ w hr hl hcap hW hT).mono ?_
      rintro e w1 ⟨rfl, hb1⟩
      go_wp2_with (first | (go_at_call 95; refine (impl_IsWord _ _ _ hs hP).mono ?_; rintro e w' ⟨rfl, rfl⟩) | (go_at_call 94; refine (isDay_b _ _ _ hD).mono ?_; rintro e w' ⟨rfl, rfl⟩))
      refine (motionOf_c A L.length c L after w1 rfl (rdW hb1 hr) hl).mono ?_
      rintro e w2 ⟨rfl, hb2⟩
      have hB2 := bt hb1 hb2
      go_wp2
      go_ret2
      exact rowPost2_nil hB2
    · have HAF : Hid (¬ (after ≠ 0 ∧ findM after L 0 < 0)) := fun h => hf h.2
      obtain ⟨j, hj, hjl⟩ := findM_idx hf
      have h0 : ¬ L.length = 0 := by omega
      clear ha0
      obtain ⟨q, hq⟩ : ∃ q, lastNo L = q + 1 := ⟨lastNo L - 1, by omega⟩
      have hqb := lastNo_bd hT
      rw [hq] at hqb
      have HQ := Lib.hid hq
      have hq1 : 0 ≤ q ∧ q ≤ 1000 := by omega
      have HX : Hid (newM L p day after = ⟨q + 1, p, day, day, 0, after⟩) := by unfold Hid newM; rw [hq]
      have HNW : Hid (∀ x ∈ L ++ [(⟨q + 1, p, day, day, 0, after⟩ : MotionD)], MotionW x) := by
        intro x hx
        rcases List.mem_append.1 hx with h | h
        · exact hW x h
        · rw [List.mem_singleton.1 h, ← HX.out]; exact newM_w hTP hD ha
      have hL1 : (1 : Int) ≤ L.length := by omega
      have H0 := Lib.hid h0
      clear hq hqb h0
      cases hNB : motsOk (L ++ [⟨(q + 1), p, day, day, 0, after⟩])
      · rw [fileM_3 hTP hD HAF.out (by rw [HX.out]; exact hNB)]
        have HNB := Lib.hid hNB
        clear hNB hTP
        go_enter Tryz.func153, Tryz.ntmps153
        go_wp2_with fail
        refine (impl_AreMotions A c L _ w hr hl hcap hW hT).mono ?_
        rintro e w1 ⟨rfl, hb1⟩
        go_wp2_with (first | (go_at_call 95; refine (impl_IsWord _ _ _ hs hP).mono ?_; rintro e w' ⟨rfl, rfl⟩) | (go_at_call 94; refine (isDay_b _ _ _ hD).mono ?_; rintro e w' ⟨rfl, rfl⟩))
        refine (motionOf_c A L.length c L after w1 rfl (rdW hb1 hr) hl).mono ?_
        rintro e w2 ⟨rfl, hb2⟩
        have hB2 := bt hb1 hb2
        obtain ⟨b, off, rfl, hb, hf⟩ := last_number (rdW hB2 hr) (by have := H0.out; omega)
        rw [show lastNo L - 1 = q by have := HQ.out; omega] at hf
        go_wp2_with fail
        refine (cloneMotion_c _ c L w2 (rdW hB2 hr) (by omega)).mono ?_
        rintro e w3 ⟨A3, c3, rfl, ho3, hb3, hc3, hd3⟩
        have hB3 := bt hB2 hb3
        have HS3 := Lib.hid hb3.size
        go_wp2_with (at_builtin; go_loud (refine wpList_push w3 rfl _ _ 32 rfl w2.heap.size 70 i0 _ 6 56 Tryz.underlying32 hi hz0 hz1 hz2 rfl (by decide) (.slice A3 L.length c3) L.length (L.flatMap motionC) (by rfl) ho3 [.int .i64 (q + 1), .string p, .int .i64 day, .int .i64 day, .int .i64 0, .int .i64 after] 70 (by rfl) rfl (by simp [Value.oneCell']) (by unfold maxLen; omega) (by omega) HS3.out ?_; intro A4 c4 w4 ho4 hg4))
        have e1 : ((L ++ [(⟨(q + 1), p, day, day, 0, after⟩ : MotionD)]) : List MotionD).length = L.length + 1 := by simp
        have e2 : ((L ++ [(⟨(q + 1), p, day, day, 0, after⟩ : MotionD)]) : List MotionD).flatMap motionC = L.flatMap motionC ++ [.int .i64 (q + 1), .string p, .int .i64 day, .int .i64 day, .int .i64 0, .int .i64 after] := by simp [motionC]
        have ho5 : w4.ownsRow w2.heap.size 70 6 (.slice A4 (L ++ [(⟨(q + 1), p, day, day, 0, after⟩ : MotionD)]).length c4) (L ++ [(⟨(q + 1), p, day, day, 0, after⟩ : MotionD)]).length ((L ++ [(⟨(q + 1), p, day, day, 0, after⟩ : MotionD)]).flatMap motionC) := by rw [e1, e2]; exact ho4
        have hc4 := own_cap ho5
        have hB4 : Below w.heap.size w w4 := below_grown hB3 hg4 (Nat.le_refl _) (fun k hk => by have := (World.ownsRow.lt ho3 k hk).1; have := hB2.size; omega)
        have HA := impl_AreMotions A4 c4 (L ++ [(⟨(q + 1), p, day, day, 0, after⟩ : MotionD)]) _ w4 (Rd.of_own ho5) (by rw [e1]; omega) hc4.1 HNW.out HNB.out
        rw [e1] at HA
        have HO5 := Lib.hid ho5
        have HE1 := Lib.hid e1
        clear ho5 ho4 hc4 e1 e2 hg4
        refine HA.mono ?_
        rintro e w5 ⟨rfl, hb5⟩
        go_wp2
        go_ret2
        exact rowPost2_nil (bt hB4 hb5)
      · rw [fileM_0 hTP hD HAF.out (by rw [HX.out]; exact hNB), HX.out]
        have HNB := Lib.hid hNB
        clear hNB hTP
        go_enter Tryz.func153, Tryz.ntmps153
        go_wp2_with fail
        refine (impl_AreMotions A c L _ w hr hl hcap hW hT).mono ?_
        rintro e w1 ⟨rfl, hb1⟩
        go_wp2_with (first | (go_at_call 95; refine (impl_IsWord _ _ _ hs hP).mono ?_; rintro e w' ⟨rfl, rfl⟩) | (go_at_call 94; refine (isDay_b _ _ _ hD).mono ?_; rintro e w' ⟨rfl, rfl⟩))
        refine (motionOf_c A L.length c L after w1 rfl (rdW hb1 hr) hl).mono ?_
        rintro e w2 ⟨rfl, hb2⟩
        have hB2 := bt hb1 hb2
        obtain ⟨b, off, rfl, hb, hf⟩ := last_number (rdW hB2 hr) (by have := H0.out; omega)
        rw [show lastNo L - 1 = q by have := HQ.out; omega] at hf
        go_wp2_with fail
        refine (cloneMotion_c _ c L w2 (rdW hB2 hr) (by omega)).mono ?_
        rintro e w3 ⟨A3, c3, rfl, ho3, hb3, hc3, hd3⟩
        have hB3 := bt hB2 hb3
        have HS3 := Lib.hid hb3.size
        go_wp2_with (at_builtin; go_loud (refine wpList_push w3 rfl _ _ 32 rfl w2.heap.size 70 i0 _ 6 56 Tryz.underlying32 hi hz0 hz1 hz2 rfl (by decide) (.slice A3 L.length c3) L.length (L.flatMap motionC) (by rfl) ho3 [.int .i64 (q + 1), .string p, .int .i64 day, .int .i64 day, .int .i64 0, .int .i64 after] 70 (by rfl) rfl (by simp [Value.oneCell']) (by unfold maxLen; omega) (by omega) HS3.out ?_; intro A4 c4 w4 ho4 hg4))
        have e1 : ((L ++ [(⟨(q + 1), p, day, day, 0, after⟩ : MotionD)]) : List MotionD).length = L.length + 1 := by simp
        have e2 : ((L ++ [(⟨(q + 1), p, day, day, 0, after⟩ : MotionD)]) : List MotionD).flatMap motionC = L.flatMap motionC ++ [.int .i64 (q + 1), .string p, .int .i64 day, .int .i64 day, .int .i64 0, .int .i64 after] := by simp [motionC]
        have ho5 : w4.ownsRow w2.heap.size 70 6 (.slice A4 (L ++ [(⟨(q + 1), p, day, day, 0, after⟩ : MotionD)]).length c4) (L ++ [(⟨(q + 1), p, day, day, 0, after⟩ : MotionD)]).length ((L ++ [(⟨(q + 1), p, day, day, 0, after⟩ : MotionD)]).flatMap motionC) := by rw [e1, e2]; exact ho4
        have hc4 := own_cap ho5
        have hB4 : Below w.heap.size w w4 := below_grown hB3 hg4 (Nat.le_refl _) (fun k hk => by have := (World.ownsRow.lt ho3 k hk).1; have := hB2.size; omega)
        have HA := impl_AreMotions A4 c4 (L ++ [(⟨(q + 1), p, day, day, 0, after⟩ : MotionD)]) _ w4 (Rd.of_own ho5) (by rw [e1]; omega) hc4.1 HNW.out HNB.out
        rw [e1] at HA
        have HO5 := Lib.hid ho5
        have HE1 := Lib.hid e1
        clear ho5 ho4 hc4 e1 e2 hg4
        refine HA.mono ?_
        rintro e w5 ⟨rfl, hb5⟩
        go_wp2
        go_ret2
        have ho6 := own_below (own_mono HO5.out hB2.size) hb5
        rw [HE1.out] at ho6
        rw [HE1.out]
        exact rowPost2_mk ho6 (bt hB4 hb5)


set_option maxRecDepth 100000 in
set_option maxHeartbeats 4000000 in
theorem spec_FileMotion (A : Option Addr) (c : Nat) (L : List MotionD) (p : ByteArray) (day after : Int) (w : World) (hr : Rd w w.heap.size A (L.length * 6) (L.flatMap motionC)) (hl : L.length ≤ 140737488355328) (hcap : L.length ≤ c) (hW : ∀ x ∈ L, MotionW x) (hs : p.size ≤ 9223372036854775807) (ha : (Lit.int .i64 after).wf = true) :
    Calls Tryz.prog 88 #[.slice A L.length c, .string p, .int .i64 day, .int .i64 after] w (RowPost2 70 6 (fileM L p day after).1.length ((fileM L p day after).1.flatMap motionC) (fileM L p day after).2 w) := by
  cases hT : motsOk L
  · rw [fileM_1 (by rw [hT]; rfl)]
    go_enter Tryz.func88, Tryz.ntmps88
    go_wp2_with fail
    refine (spec_AreMotions A c L _ w hr hl hcap hW hT).mono ?_
    rintro e w1 ⟨rfl, hb1⟩
    go_wp2
    go_ret2
    exact rowPost2_nil hb1
  cases hP : isWordB p
  · rw [fileM_1 (by rw [hT, hP]; rfl)]
    go_enter Tryz.func88, Tryz.ntmps88
    go_wp2_with fail
    refine (spec_AreMotions A c L _ w hr hl hcap hW hT).mono ?_
    rintro e w1 ⟨rfl, hb1⟩
    go_wp2_with (first | (go_at_call 82; refine (spec_IsWord _ _ _ hs hP).mono ?_; rintro e w' ⟨rfl, rfl⟩))
    go_ret2
    exact rowPost2_nil hb1
  have hTP : (motsOk L && isWordB p) = true := by rw [hT, hP]; rfl
  cases hD : inB day 0 20000
  · rw [fileM_2 hTP hD]
    clear hTP
    go_enter Tryz.func88, Tryz.ntmps88
    go_wp2_with fail
    refine (spec_AreMotions A c L _ w hr hl hcap hW hT).mono ?_
    rintro e w1 ⟨rfl, hb1⟩
    go_wp2_with (first | (go_at_call 82; refine (spec_IsWord _ _ _ hs hP).mono ?_; rintro e w' ⟨rfl, rfl⟩) | (go_at_call 80; refine (l02Is_b _ _ _ hD).mono ?_; rintro e w' ⟨rfl, rfl⟩))
    go_ret2
    exact rowPost2_nil hb1
  have h12 := mots_len hT
  obtain ⟨i0, hi, hz0, hz1, hz2⟩ := info_parts motion_info
  have HO := Lib.hid (one_flat (fun a u hu => by simp only [motionC, List.mem_cons, List.not_mem_nil, or_false] at hu; rcases hu with rfl | rfl | rfl | rfl | rfl | rfl <;> rfl) L : ∀ u ∈ L.flatMap motionC, u.oneCell' = true)
  by_cases ha0 : after = 0
  · have HAF : Hid (¬ (after ≠ 0 ∧ findM after L 0 < 0)) := fun h => h.1 ha0
    have ha0q : (after == 0) = true := by rw [ha0]; rfl
    have ha0n : (after != 0) = false := by rw [ha0]; rfl
    have HA0 := Lib.hid ha0
    clear ha0
    by_cases h0 : L.length = 0
    · skip
      have hL0 : L.length = 0 := h0
      have HX : Hid (newM L p day after = ⟨1, p, day, day, 0, after⟩) := by unfold Hid newM lastNo; rw [if_pos h0]
      have HNW : Hid (∀ x ∈ L ++ [(⟨1, p, day, day, 0, after⟩ : MotionD)], MotionW x) := by
        intro x hx
        rcases List.mem_append.1 hx with h | h
        · exact hW x h
        · rw [List.mem_singleton.1 h, ← HX.out]; exact newM_w hTP hD ha
      have hL1 : (L.length : Int) ≤ 0 := by omega
      have H0 := Lib.hid h0
      clear hL0 h0
      cases hNB : motsOk (L ++ [⟨1, p, day, day, 0, after⟩])
      · rw [fileM_3 hTP hD HAF.out (by rw [HX.out]; exact hNB)]
        have HNB := Lib.hid hNB
        clear hNB hTP
        go_enter Tryz.func88, Tryz.ntmps88
        go_wp2_with fail
        refine (spec_AreMotions A c L _ w hr hl hcap hW hT).mono ?_
        rintro e w1 ⟨rfl, hb1⟩
        have hB2 := hb1
        have HL := Lib.hid (World.ownsRow_lit (base := w1.heap.size) (size := 6) (e := 70) w1 #[] 0 (Nat.le_refl _) (by unfold maxLen; omega) rfl)
        have HR := Lib.hid ((rdW hB2 hr).alloc (Nat.le_refl _) (.cells #[] 70))
        have hBx : Below w.heap.size w (w1.alloc (.cells #[] 70)) := hB2.alloc hB2.size _
        have HB := Lib.hid hB2.size
        go_wp2_with (first | (go_at_call 82; refine (spec_IsWord _ _ _ hs hP).mono ?_; rintro e w' ⟨rfl, rfl⟩) | (go_at_call 80; refine (l02Is_b _ _ _ hD).mono ?_; rintro e w' ⟨rfl, rfl⟩) | (at_builtin; refine wpList_cat _ rfl (.tmp 42) (.tmp 43) 32 rfl w1.heap.size 70 i0 _ 6 56 Tryz.underlying32 hi hz0 hz1 hz2 rfl (by decide) (.slice (some ⟨w1.heap.size, 0, none⟩) 0 0) (0) ([]) (by rfl) HL.out _ (L.length) c w1.heap.size (L.flatMap motionC) (by rfl) HR.out HO.out (by unfold maxLen; omega) (by omega) (by simp) ?_; intro A2 c2 w3 ho3 hg3; simp only [Nat.zero_add, List.nil_append] at ho3; have HS3 := Lib.hid hg3.size) | (at_builtin; refine wpList_push w3 rfl (.tmp 44) (.tmp 51) 32 rfl w1.heap.size 70 i0 _ 6 56 Tryz.underlying32 hi hz0 hz1 hz2 rfl (by decide) (.slice A2 L.length c2) (L.length) (L.flatMap motionC) (by rfl) ho3 [.int .i64 1, .string p, .int .i64 day, .int .i64 day, .int .i64 0, .int .i64 after] 70 (by rfl) rfl (by simp [Value.oneCell']) (by unfold maxLen; omega) (by omega) (by have := HS3.out; simp at this; omega) ?_; intro A4 c4 w4 ho4 hg4))
        have e1 : ((L ++ [(⟨1, p, day, day, 0, after⟩ : MotionD)]) : List MotionD).length = L.length + 1 := by simp
        have e2 : ((L ++ [(⟨1, p, day, day, 0, after⟩ : MotionD)]) : List MotionD).flatMap motionC = L.flatMap motionC ++ [.int .i64 1, .string p, .int .i64 day, .int .i64 day, .int .i64 0, .int .i64 after] := by simp [motionC]
        have ho5 : w4.ownsRow w1.heap.size 70 6 (.slice A4 (L ++ [(⟨1, p, day, day, 0, after⟩ : MotionD)]).length c4) (L ++ [(⟨1, p, day, day, 0, after⟩ : MotionD)]).length ((L ++ [(⟨1, p, day, day, 0, after⟩ : MotionD)]).flatMap motionC) := by rw [e1, e2]; exact ho4
        have hc4 := own_cap ho5
        have hB3 : Below w.heap.size w w3 := below_grown hBx hg3 (Nat.le_refl _) (fun k hk => by cases hk; exact hB2.size)
        have hB4 : Below w.heap.size w w4 := below_grown hB3 hg4 (Nat.le_refl _) (fun k hk => by have := (World.ownsRow.lt ho3 k hk).1; have := hB2.size; omega)
        have HA := spec_AreMotions A4 c4 (L ++ [(⟨1, p, day, day, 0, after⟩ : MotionD)]) _ w4 (Rd.of_own ho5) (by rw [e1]; omega) hc4.1 HNW.out HNB.out
        rw [e1] at HA
        have HO5 := Lib.hid ho5
        have HE1 := Lib.hid e1
        clear ho5 ho4 hc4 e1 e2 hg4
        refine HA.mono ?_
        rintro e w5 ⟨rfl, hb5⟩
        go_wp2
        go_ret2
        exact rowPost2_nil (bt hB4 hb5)
      · rw [fileM_0 hTP hD HAF.out (by rw [HX.out]; exact hNB), HX.out]
        have HNB := Lib.hid hNB
        clear hNB hTP
        go_enter Tryz.func88, Tryz.ntmps88
        go_wp2_with fail
        refine (spec_AreMotions A c L _ w hr hl hcap hW hT).mono ?_
        rintro e w1 ⟨rfl, hb1⟩
        have hB2 := hb1
        have HL := Lib.hid (World.ownsRow_lit (base := w1.heap.size) (size := 6) (e := 70) w1 #[] 0 (Nat.le_refl _) (by unfold maxLen; omega) rfl)
        have HR := Lib.hid ((rdW hB2 hr).alloc (Nat.le_refl _) (.cells #[] 70))
        have hBx : Below w.heap.size w (w1.alloc (.cells #[] 70)) := hB2.alloc hB2.size _
        have HB := Lib.hid hB2.size
        go_wp2_with (first | (go_at_call 82; refine (spec_IsWord _ _ _ hs hP).mono ?_; rintro e w' ⟨rfl, rfl⟩) | (go_at_call 80; refine (l02Is_b _ _ _ hD).mono ?_; rintro e w' ⟨rfl, rfl⟩) | (at_builtin; refine wpList_cat _ rfl (.tmp 42) (.tmp 43) 32 rfl w1.heap.size 70 i0 _ 6 56 Tryz.underlying32 hi hz0 hz1 hz2 rfl (by decide) (.slice (some ⟨w1.heap.size, 0, none⟩) 0 0) (0) ([]) (by rfl) HL.out _ (L.length) c w1.heap.size (L.flatMap motionC) (by rfl) HR.out HO.out (by unfold maxLen; omega) (by omega) (by simp) ?_; intro A2 c2 w3 ho3 hg3; simp only [Nat.zero_add, List.nil_append] at ho3; have HS3 := Lib.hid hg3.size) | (at_builtin; refine wpList_push w3 rfl (.tmp 44) (.tmp 51) 32 rfl w1.heap.size 70 i0 _ 6 56 Tryz.underlying32 hi hz0 hz1 hz2 rfl (by decide) (.slice A2 L.length c2) (L.length) (L.flatMap motionC) (by rfl) ho3 [.int .i64 1, .string p, .int .i64 day, .int .i64 day, .int .i64 0, .int .i64 after] 70 (by rfl) rfl (by simp [Value.oneCell']) (by unfold maxLen; omega) (by omega) (by have := HS3.out; simp at this; omega) ?_; intro A4 c4 w4 ho4 hg4))
        have e1 : ((L ++ [(⟨1, p, day, day, 0, after⟩ : MotionD)]) : List MotionD).length = L.length + 1 := by simp
        have e2 : ((L ++ [(⟨1, p, day, day, 0, after⟩ : MotionD)]) : List MotionD).flatMap motionC = L.flatMap motionC ++ [.int .i64 1, .string p, .int .i64 day, .int .i64 day, .int .i64 0, .int .i64 after] := by simp [motionC]
        have ho5 : w4.ownsRow w1.heap.size 70 6 (.slice A4 (L ++ [(⟨1, p, day, day, 0, after⟩ : MotionD)]).length c4) (L ++ [(⟨1, p, day, day, 0, after⟩ : MotionD)]).length ((L ++ [(⟨1, p, day, day, 0, after⟩ : MotionD)]).flatMap motionC) := by rw [e1, e2]; exact ho4
        have hc4 := own_cap ho5
        have hB3 : Below w.heap.size w w3 := below_grown hBx hg3 (Nat.le_refl _) (fun k hk => by cases hk; exact hB2.size)
        have hB4 : Below w.heap.size w w4 := below_grown hB3 hg4 (Nat.le_refl _) (fun k hk => by have := (World.ownsRow.lt ho3 k hk).1; have := hB2.size; omega)
        have HA := spec_AreMotions A4 c4 (L ++ [(⟨1, p, day, day, 0, after⟩ : MotionD)]) _ w4 (Rd.of_own ho5) (by rw [e1]; omega) hc4.1 HNW.out HNB.out
        rw [e1] at HA
        have HO5 := Lib.hid ho5
        have HE1 := Lib.hid e1
        clear ho5 ho4 hc4 e1 e2 hg4
        refine HA.mono ?_
        rintro e w5 ⟨rfl, hb5⟩
        go_wp2
        go_ret2
        have ho6 := own_below (own_mono HO5.out hB2.size) hb5
        rw [HE1.out] at ho6
        rw [HE1.out]
        exact rowPost2_mk ho6 (bt hB4 hb5)
    · skip
      obtain ⟨q, hq⟩ : ∃ q, lastNo L = q + 1 := ⟨lastNo L - 1, by omega⟩
      have hqb := lastNo_bd hT
      rw [hq] at hqb
      have HQ := Lib.hid hq
      have hq1 : 0 ≤ q ∧ q ≤ 1000 := by omega
      have HX : Hid (newM L p day after = ⟨q + 1, p, day, day, 0, after⟩) := by unfold Hid newM; rw [hq]
      have HNW : Hid (∀ x ∈ L ++ [(⟨q + 1, p, day, day, 0, after⟩ : MotionD)], MotionW x) := by
        intro x hx
        rcases List.mem_append.1 hx with h | h
        · exact hW x h
        · rw [List.mem_singleton.1 h, ← HX.out]; exact newM_w hTP hD ha
      have hL1 : (1 : Int) ≤ L.length := by omega
      have H0 := Lib.hid h0
      clear hq hqb h0
      cases hNB : motsOk (L ++ [⟨(q + 1), p, day, day, 0, after⟩])
      · rw [fileM_3 hTP hD HAF.out (by rw [HX.out]; exact hNB)]
        have HNB := Lib.hid hNB
        clear hNB hTP
        go_enter Tryz.func88, Tryz.ntmps88
        go_wp2_with fail
        refine (spec_AreMotions A c L _ w hr hl hcap hW hT).mono ?_
        rintro e w1 ⟨rfl, hb1⟩
        have hB2 := hb1
        obtain ⟨b, off, rfl, hb, hf⟩ := last_number (rdW hB2 hr) (by have := H0.out; omega)
        rw [show lastNo L - 1 = q by have := HQ.out; omega] at hf
        have HL := Lib.hid (World.ownsRow_lit (base := w1.heap.size) (size := 6) (e := 70) w1 #[] 0 (Nat.le_refl _) (by unfold maxLen; omega) rfl)
        have HR := Lib.hid ((rdW hB2 hr).alloc (Nat.le_refl _) (.cells #[] 70))
        have hBx : Below w.heap.size w (w1.alloc (.cells #[] 70)) := hB2.alloc hB2.size _
        have HB := Lib.hid hB2.size
        go_wp2_with (first | (go_at_call 82; refine (spec_IsWord _ _ _ hs hP).mono ?_; rintro e w' ⟨rfl, rfl⟩) | (go_at_call 80; refine (l02Is_b _ _ _ hD).mono ?_; rintro e w' ⟨rfl, rfl⟩) | (at_builtin; refine wpList_cat _ rfl (.tmp 42) (.tmp 43) 32 rfl w1.heap.size 70 i0 _ 6 56 Tryz.underlying32 hi hz0 hz1 hz2 rfl (by decide) (.slice (some ⟨w1.heap.size, 0, none⟩) 0 0) (0) ([]) (by rfl) HL.out _ (L.length) c w1.heap.size (L.flatMap motionC) (by rfl) HR.out HO.out (by unfold maxLen; omega) (by omega) (by simp) ?_; intro A2 c2 w3 ho3 hg3; simp only [Nat.zero_add, List.nil_append] at ho3; have HS3 := Lib.hid hg3.size) | (at_builtin; refine wpList_push w3 rfl (.tmp 44) (.tmp 51) 32 rfl w1.heap.size 70 i0 _ 6 56 Tryz.underlying32 hi hz0 hz1 hz2 rfl (by decide) (.slice A2 L.length c2) (L.length) (L.flatMap motionC) (by rfl) ho3 [.int .i64 (q + 1), .string p, .int .i64 day, .int .i64 day, .int .i64 0, .int .i64 after] 70 (by rfl) rfl (by simp [Value.oneCell']) (by unfold maxLen; omega) (by omega) (by have := HS3.out; simp at this; omega) ?_; intro A4 c4 w4 ho4 hg4))
        have e1 : ((L ++ [(⟨(q + 1), p, day, day, 0, after⟩ : MotionD)]) : List MotionD).length = L.length + 1 := by simp
        have e2 : ((L ++ [(⟨(q + 1), p, day, day, 0, after⟩ : MotionD)]) : List MotionD).flatMap motionC = L.flatMap motionC ++ [.int .i64 (q + 1), .string p, .int .i64 day, .int .i64 day, .int .i64 0, .int .i64 after] := by simp [motionC]
        have ho5 : w4.ownsRow w1.heap.size 70 6 (.slice A4 (L ++ [(⟨(q + 1), p, day, day, 0, after⟩ : MotionD)]).length c4) (L ++ [(⟨(q + 1), p, day, day, 0, after⟩ : MotionD)]).length ((L ++ [(⟨(q + 1), p, day, day, 0, after⟩ : MotionD)]).flatMap motionC) := by rw [e1, e2]; exact ho4
        have hc4 := own_cap ho5
        have hB3 : Below w.heap.size w w3 := below_grown hBx hg3 (Nat.le_refl _) (fun k hk => by cases hk; exact hB2.size)
        have hB4 : Below w.heap.size w w4 := below_grown hB3 hg4 (Nat.le_refl _) (fun k hk => by have := (World.ownsRow.lt ho3 k hk).1; have := hB2.size; omega)
        have HA := spec_AreMotions A4 c4 (L ++ [(⟨(q + 1), p, day, day, 0, after⟩ : MotionD)]) _ w4 (Rd.of_own ho5) (by rw [e1]; omega) hc4.1 HNW.out HNB.out
        rw [e1] at HA
        have HO5 := Lib.hid ho5
        have HE1 := Lib.hid e1
        clear ho5 ho4 hc4 e1 e2 hg4
        refine HA.mono ?_
        rintro e w5 ⟨rfl, hb5⟩
        go_wp2
        go_ret2
        exact rowPost2_nil (bt hB4 hb5)
      · rw [fileM_0 hTP hD HAF.out (by rw [HX.out]; exact hNB), HX.out]
        have HNB := Lib.hid hNB
        clear hNB hTP
        go_enter Tryz.func88, Tryz.ntmps88
        go_wp2_with fail
        refine (spec_AreMotions A c L _ w hr hl hcap hW hT).mono ?_
        rintro e w1 ⟨rfl, hb1⟩
        have hB2 := hb1
        obtain ⟨b, off, rfl, hb, hf⟩ := last_number (rdW hB2 hr) (by have := H0.out; omega)
        rw [show lastNo L - 1 = q by have := HQ.out; omega] at hf
        have HL := Lib.hid (World.ownsRow_lit (base := w1.heap.size) (size := 6) (e := 70) w1 #[] 0 (Nat.le_refl _) (by unfold maxLen; omega) rfl)
        have HR := Lib.hid ((rdW hB2 hr).alloc (Nat.le_refl _) (.cells #[] 70))
        have hBx : Below w.heap.size w (w1.alloc (.cells #[] 70)) := hB2.alloc hB2.size _
        have HB := Lib.hid hB2.size
        go_wp2_with (first | (go_at_call 82; refine (spec_IsWord _ _ _ hs hP).mono ?_; rintro e w' ⟨rfl, rfl⟩) | (go_at_call 80; refine (l02Is_b _ _ _ hD).mono ?_; rintro e w' ⟨rfl, rfl⟩) | (at_builtin; refine wpList_cat _ rfl (.tmp 42) (.tmp 43) 32 rfl w1.heap.size 70 i0 _ 6 56 Tryz.underlying32 hi hz0 hz1 hz2 rfl (by decide) (.slice (some ⟨w1.heap.size, 0, none⟩) 0 0) (0) ([]) (by rfl) HL.out _ (L.length) c w1.heap.size (L.flatMap motionC) (by rfl) HR.out HO.out (by unfold maxLen; omega) (by omega) (by simp) ?_; intro A2 c2 w3 ho3 hg3; simp only [Nat.zero_add, List.nil_append] at ho3; have HS3 := Lib.hid hg3.size) | (at_builtin; refine wpList_push w3 rfl (.tmp 44) (.tmp 51) 32 rfl w1.heap.size 70 i0 _ 6 56 Tryz.underlying32 hi hz0 hz1 hz2 rfl (by decide) (.slice A2 L.length c2) (L.length) (L.flatMap motionC) (by rfl) ho3 [.int .i64 (q + 1), .string p, .int .i64 day, .int .i64 day, .int .i64 0, .int .i64 after] 70 (by rfl) rfl (by simp [Value.oneCell']) (by unfold maxLen; omega) (by omega) (by have := HS3.out; simp at this; omega) ?_; intro A4 c4 w4 ho4 hg4))
        have e1 : ((L ++ [(⟨(q + 1), p, day, day, 0, after⟩ : MotionD)]) : List MotionD).length = L.length + 1 := by simp
        have e2 : ((L ++ [(⟨(q + 1), p, day, day, 0, after⟩ : MotionD)]) : List MotionD).flatMap motionC = L.flatMap motionC ++ [.int .i64 (q + 1), .string p, .int .i64 day, .int .i64 day, .int .i64 0, .int .i64 after] := by simp [motionC]
        have ho5 : w4.ownsRow w1.heap.size 70 6 (.slice A4 (L ++ [(⟨(q + 1), p, day, day, 0, after⟩ : MotionD)]).length c4) (L ++ [(⟨(q + 1), p, day, day, 0, after⟩ : MotionD)]).length ((L ++ [(⟨(q + 1), p, day, day, 0, after⟩ : MotionD)]).flatMap motionC) := by rw [e1, e2]; exact ho4
        have hc4 := own_cap ho5
        have hB3 : Below w.heap.size w w3 := below_grown hBx hg3 (Nat.le_refl _) (fun k hk => by cases hk; exact hB2.size)
        have hB4 : Below w.heap.size w w4 := below_grown hB3 hg4 (Nat.le_refl _) (fun k hk => by have := (World.ownsRow.lt ho3 k hk).1; have := hB2.size; omega)
        have HA := spec_AreMotions A4 c4 (L ++ [(⟨(q + 1), p, day, day, 0, after⟩ : MotionD)]) _ w4 (Rd.of_own ho5) (by rw [e1]; omega) hc4.1 HNW.out HNB.out
        rw [e1] at HA
        have HO5 := Lib.hid ho5
        have HE1 := Lib.hid e1
        clear ho5 ho4 hc4 e1 e2 hg4
        refine HA.mono ?_
        rintro e w5 ⟨rfl, hb5⟩
        go_wp2
        go_ret2
        have ho6 := own_below (own_mono HO5.out hB2.size) hb5
        rw [HE1.out] at ho6
        rw [HE1.out]
        exact rowPost2_mk ho6 (bt hB4 hb5)
  · have ha0q : (after == 0) = false := by rw [beq_eq_false_iff_ne]; exact ha0
    have ha0n : (after != 0) = true := by rw [bne_iff_ne]; exact ha0
    by_cases hf : findM after L 0 < 0
    · rw [fileM_4 hTP hD ⟨ha0, hf⟩]
      clear hTP ha0
      go_enter Tryz.func88, Tryz.ntmps88
      go_wp2_with fail
      refine (spec_AreMotions A c L _ w hr hl hcap hW hT).mono ?_
      rintro e w1 ⟨rfl, hb1⟩
      go_wp2_with (first | (go_at_call 82; refine (spec_IsWord _ _ _ hs hP).mono ?_; rintro e w' ⟨rfl, rfl⟩) | (go_at_call 80; refine (l02Is_b _ _ _ hD).mono ?_; rintro e w' ⟨rfl, rfl⟩))
      refine (l30Find_c A L.length c L after w1 rfl (rdW hb1 hr) hl).mono ?_
      rintro e w2 ⟨rfl, rfl⟩
      have hB2 := hb1
      go_wp2
      go_ret2
      exact rowPost2_nil hB2
    · have HAF : Hid (¬ (after ≠ 0 ∧ findM after L 0 < 0)) := fun h => hf h.2
      obtain ⟨j, hj, hjl⟩ := findM_idx hf
      have h0 : ¬ L.length = 0 := by omega
      clear ha0
      obtain ⟨q, hq⟩ : ∃ q, lastNo L = q + 1 := ⟨lastNo L - 1, by omega⟩
      have hqb := lastNo_bd hT
      rw [hq] at hqb
      have HQ := Lib.hid hq
      have hq1 : 0 ≤ q ∧ q ≤ 1000 := by omega
      have HX : Hid (newM L p day after = ⟨q + 1, p, day, day, 0, after⟩) := by unfold Hid newM; rw [hq]
      have HNW : Hid (∀ x ∈ L ++ [(⟨q + 1, p, day, day, 0, after⟩ : MotionD)], MotionW x) := by
        intro x hx
        rcases List.mem_append.1 hx with h | h
        · exact hW x h
        · rw [List.mem_singleton.1 h, ← HX.out]; exact newM_w hTP hD ha
      have hL1 : (1 : Int) ≤ L.length := by omega
      have H0 := Lib.hid h0
      clear hq hqb h0
      cases hNB : motsOk (L ++ [⟨(q + 1), p, day, day, 0, after⟩])
      · rw [fileM_3 hTP hD HAF.out (by rw [HX.out]; exact hNB)]
        have HNB := Lib.hid hNB
        clear hNB hTP
        go_enter Tryz.func88, Tryz.ntmps88
        go_wp2_with fail
        refine (spec_AreMotions A c L _ w hr hl hcap hW hT).mono ?_
        rintro e w1 ⟨rfl, hb1⟩
        go_wp2_with (first | (go_at_call 82; refine (spec_IsWord _ _ _ hs hP).mono ?_; rintro e w' ⟨rfl, rfl⟩) | (go_at_call 80; refine (l02Is_b _ _ _ hD).mono ?_; rintro e w' ⟨rfl, rfl⟩))
        refine (l30Find_c A L.length c L after w1 rfl (rdW hb1 hr) hl).mono ?_
        rintro e w2 ⟨rfl, rfl⟩
        have hB2 := hb1
        obtain ⟨b, off, rfl, hb, hf⟩ := last_number (rdW hB2 hr) (by have := H0.out; omega)
        rw [show lastNo L - 1 = q by have := HQ.out; omega] at hf
        have HL := Lib.hid (World.ownsRow_lit (base := w1.heap.size) (size := 6) (e := 70) w1 #[] 0 (Nat.le_refl _) (by unfold maxLen; omega) rfl)
        have HR := Lib.hid ((rdW hB2 hr).alloc (Nat.le_refl _) (.cells #[] 70))
        have hBx : Below w.heap.size w (w1.alloc (.cells #[] 70)) := hB2.alloc hB2.size _
        have HB := Lib.hid hB2.size
        go_wp2_with (first | (at_builtin; refine wpList_cat _ rfl (.tmp 42) (.tmp 43) 32 rfl w1.heap.size 70 i0 _ 6 56 Tryz.underlying32 hi hz0 hz1 hz2 rfl (by decide) (.slice (some ⟨w1.heap.size, 0, none⟩) 0 0) (0) ([]) (by rfl) HL.out _ (L.length) c w1.heap.size (L.flatMap motionC) (by rfl) HR.out HO.out (by unfold maxLen; omega) (by omega) (by simp) ?_; intro A2 c2 w3 ho3 hg3; simp only [Nat.zero_add, List.nil_append] at ho3; have HS3 := Lib.hid hg3.size) | (at_builtin; refine wpList_push w3 rfl (.tmp 44) (.tmp 51) 32 rfl w1.heap.size 70 i0 _ 6 56 Tryz.underlying32 hi hz0 hz1 hz2 rfl (by decide) (.slice A2 L.length c2) (L.length) (L.flatMap motionC) (by rfl) ho3 [.int .i64 (q + 1), .string p, .int .i64 day, .int .i64 day, .int .i64 0, .int .i64 after] 70 (by rfl) rfl (by simp [Value.oneCell']) (by unfold maxLen; omega) (by omega) (by have := HS3.out; simp at this; omega) ?_; intro A4 c4 w4 ho4 hg4))
        have e1 : ((L ++ [(⟨(q + 1), p, day, day, 0, after⟩ : MotionD)]) : List MotionD).length = L.length + 1 := by simp
        have e2 : ((L ++ [(⟨(q + 1), p, day, day, 0, after⟩ : MotionD)]) : List MotionD).flatMap motionC = L.flatMap motionC ++ [.int .i64 (q + 1), .string p, .int .i64 day, .int .i64 day, .int .i64 0, .int .i64 after] := by simp [motionC]
        have ho5 : w4.ownsRow w1.heap.size 70 6 (.slice A4 (L ++ [(⟨(q + 1), p, day, day, 0, after⟩ : MotionD)]).length c4) (L ++ [(⟨(q + 1), p, day, day, 0, after⟩ : MotionD)]).length ((L ++ [(⟨(q + 1), p, day, day, 0, after⟩ : MotionD)]).flatMap motionC) := by rw [e1, e2]; exact ho4
        have hc4 := own_cap ho5
        have hB3 : Below w.heap.size w w3 := below_grown hBx hg3 (Nat.le_refl _) (fun k hk => by cases hk; exact hB2.size)
        have hB4 : Below w.heap.size w w4 := below_grown hB3 hg4 (Nat.le_refl _) (fun k hk => by have := (World.ownsRow.lt ho3 k hk).1; have := hB2.size; omega)
        have HA := spec_AreMotions A4 c4 (L ++ [(⟨(q + 1), p, day, day, 0, after⟩ : MotionD)]) _ w4 (Rd.of_own ho5) (by rw [e1]; omega) hc4.1 HNW.out HNB.out
        rw [e1] at HA
        have HO5 := Lib.hid ho5
        have HE1 := Lib.hid e1
        clear ho5 ho4 hc4 e1 e2 hg4
        refine HA.mono ?_
        rintro e w5 ⟨rfl, hb5⟩
        go_wp2
        go_ret2
        exact rowPost2_nil (bt hB4 hb5)
      · rw [fileM_0 hTP hD HAF.out (by rw [HX.out]; exact hNB), HX.out]
        have HNB := Lib.hid hNB
        clear hNB hTP
        go_enter Tryz.func88, Tryz.ntmps88
        go_wp2_with fail
        refine (spec_AreMotions A c L _ w hr hl hcap hW hT).mono ?_
        rintro e w1 ⟨rfl, hb1⟩
        go_wp2_with (first | (go_at_call 82; refine (spec_IsWord _ _ _ hs hP).mono ?_; rintro e w' ⟨rfl, rfl⟩) | (go_at_call 80; refine (l02Is_b _ _ _ hD).mono ?_; rintro e w' ⟨rfl, rfl⟩))
        refine (l30Find_c A L.length c L after w1 rfl (rdW hb1 hr) hl).mono ?_
        rintro e w2 ⟨rfl, rfl⟩
        have hB2 := hb1
        obtain ⟨b, off, rfl, hb, hf⟩ := last_number (rdW hB2 hr) (by have := H0.out; omega)
        rw [show lastNo L - 1 = q by have := HQ.out; omega] at hf
        have HL := Lib.hid (World.ownsRow_lit (base := w1.heap.size) (size := 6) (e := 70) w1 #[] 0 (Nat.le_refl _) (by unfold maxLen; omega) rfl)
        have HR := Lib.hid ((rdW hB2 hr).alloc (Nat.le_refl _) (.cells #[] 70))
        have hBx : Below w.heap.size w (w1.alloc (.cells #[] 70)) := hB2.alloc hB2.size _
        have HB := Lib.hid hB2.size
        go_wp2_with (first | (at_builtin; refine wpList_cat _ rfl (.tmp 42) (.tmp 43) 32 rfl w1.heap.size 70 i0 _ 6 56 Tryz.underlying32 hi hz0 hz1 hz2 rfl (by decide) (.slice (some ⟨w1.heap.size, 0, none⟩) 0 0) (0) ([]) (by rfl) HL.out _ (L.length) c w1.heap.size (L.flatMap motionC) (by rfl) HR.out HO.out (by unfold maxLen; omega) (by omega) (by simp) ?_; intro A2 c2 w3 ho3 hg3; simp only [Nat.zero_add, List.nil_append] at ho3; have HS3 := Lib.hid hg3.size) | (at_builtin; refine wpList_push w3 rfl (.tmp 44) (.tmp 51) 32 rfl w1.heap.size 70 i0 _ 6 56 Tryz.underlying32 hi hz0 hz1 hz2 rfl (by decide) (.slice A2 L.length c2) (L.length) (L.flatMap motionC) (by rfl) ho3 [.int .i64 (q + 1), .string p, .int .i64 day, .int .i64 day, .int .i64 0, .int .i64 after] 70 (by rfl) rfl (by simp [Value.oneCell']) (by unfold maxLen; omega) (by omega) (by have := HS3.out; simp at this; omega) ?_; intro A4 c4 w4 ho4 hg4))
        have e1 : ((L ++ [(⟨(q + 1), p, day, day, 0, after⟩ : MotionD)]) : List MotionD).length = L.length + 1 := by simp
        have e2 : ((L ++ [(⟨(q + 1), p, day, day, 0, after⟩ : MotionD)]) : List MotionD).flatMap motionC = L.flatMap motionC ++ [.int .i64 (q + 1), .string p, .int .i64 day, .int .i64 day, .int .i64 0, .int .i64 after] := by simp [motionC]
        have ho5 : w4.ownsRow w1.heap.size 70 6 (.slice A4 (L ++ [(⟨(q + 1), p, day, day, 0, after⟩ : MotionD)]).length c4) (L ++ [(⟨(q + 1), p, day, day, 0, after⟩ : MotionD)]).length ((L ++ [(⟨(q + 1), p, day, day, 0, after⟩ : MotionD)]).flatMap motionC) := by rw [e1, e2]; exact ho4
        have hc4 := own_cap ho5
        have hB3 : Below w.heap.size w w3 := below_grown hBx hg3 (Nat.le_refl _) (fun k hk => by cases hk; exact hB2.size)
        have hB4 : Below w.heap.size w w4 := below_grown hB3 hg4 (Nat.le_refl _) (fun k hk => by have := (World.ownsRow.lt ho3 k hk).1; have := hB2.size; omega)
        have HA := spec_AreMotions A4 c4 (L ++ [(⟨(q + 1), p, day, day, 0, after⟩ : MotionD)]) _ w4 (Rd.of_own ho5) (by rw [e1]; omega) hc4.1 HNW.out HNB.out
        rw [e1] at HA
        have HO5 := Lib.hid ho5
        have HE1 := Lib.hid e1
        clear ho5 ho4 hc4 e1 e2 hg4
        refine HA.mono ?_
        rintro e w5 ⟨rfl, hb5⟩
        go_wp2
        go_ret2
        have ho6 := own_below (own_mono HO5.out hB2.size) hb5
        rw [HE1.out] at ho6
        rw [HE1.out]
        exact rowPost2_mk ho6 (bt hB4 hb5)

end Go.Proofs.YtiamignopfhkfaaGreatDoor
