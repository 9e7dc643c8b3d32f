/- Contract: l34Run, a line of the console, of the reference. -/
import Derived.Test.YtiamignopfhkfaaGreatDoorZExecS2
import Derived.Test.YtiamignopfhkfaaGreatDoorZ22
import Derived.StillTailTactics
import Derived.Deep.RegionWith
import Derived.Test.YtiamignopfhkfaaGreatDoorZ11
import Derived.Test.YtiamignopfhkfaaGreatDoorZ18
import Derived.Test.YtiamignopfhkfaaGreatDoorZConL2
namespace Go.Proofs.YtiamignopfhkfaaGreatDoor
open Go.RowKit
set_option linter.unusedVariables false
set_option linter.unusedSimpArgs false
/-- What l34Run hands back. -/
def RunPost (d : DeskD) (s : ByteArray) (w : World) (e : Ending) (w' : World) : Prop :=
  ∃ v, e = .returned (.tuple #[v, .string (lineD d s).2]) ∧ DeskV v (lineD d s).1 w' ∧ Below w.heap.size w w'
theorem parse_no {s : ByteArray} (w : World) (hs : s.size ≤ 2000000) (hl : lineB s = false) : Calls Tryz.prog 40 #[.string s] w fun e w' => ∃ v1 v2, e = .returned (.tuple #[v1, v2, .bool false]) ∧ Below w.heap.size w w' :=
  (l34Parse_v s w hs).mono fun e w' ⟨v1, v2, h1, h2, _⟩ => ⟨v1, v2, by rw [h1, hl], h2⟩
theorem parse_yes {s : ByteArray} {m : Cm} (w : World) (hs : s.size ≤ 2000000) (hl : lineB s = true) (hm : cmOf s = some m) : Calls Tryz.prog 40 #[.string s] w fun e w' =>
    ∃ A c A2 c2, e = .returned (.tuple #[.slice A (wordsB s).length c, .slice A2 (numsC m).length c2, .bool true]) ∧ Below w.heap.size w w' ∧ (wordsB s).length ≤ c ∧ 0 < (wordsB s).length ∧ Rd w' w'.heap.size A (wordsB s).length ((wordsB s).map Value.string) ∧ (numsC m).length ≤ c2 ∧ Rd w' w'.heap.size A2 (numsC m).length ((numsC m).map (Value.int .i64)) :=
  (l34Parse_v s w hs).mono fun e w' ⟨v1, v2, h1, h2, h3⟩ => by
    obtain ⟨A, c, A2, c2, m2, k1, k2, k3, k4, k5, k6, k7, k8, _⟩ := h3 hl
    rw [hm] at k1
    injection k1 with k1
    subst k1
    exact ⟨A, c, A2, c2, by rw [h1, hl, k2, k6], h2, k3, k4, k5, k7, k8⟩
theorem word_at {s : ByteArray} {m : Cm} (hl : lineB s = true) (hm : cmOf s = some m) : (wordsB s).getD 0 default = wordC m ∧ (∀ t a b, m = .fil t a b → (wordsB s).getD 1 default = t ∧ 1 < (wordsB s).length) := by
  obtain ⟨k, m2, _, _, h3, h4, _, _, _, h8⟩ := cmOf_yes hl
  rw [hm] at h3
  injection h3 with h3
  subst h3
  exact ⟨h4, h8⟩
theorem line_cm {s : ByteArray} {m : Cm} (h : cmOf s = some m) : lineB s = true := by
  cases hl : lineB s
  · rw [cmOf_no hl] at h; cases h
  · rfl
theorem errT_cut' (q : Int) : ({ data := #[101, 114, 114, 111, 114, 32] } : ByteArray) ++ decI q = errT q := rfl
/-- A command that only asks. -/
def isAsk : Cm → Bool
  | .opn => true
  | .onD _ => true
  | .due _ _ => true
  | .plu _ _ => true
  | .fre _ _ => true
  | .nex _ _ => true
  | .dra _ _ _ => true
  | .cha _ _ _ _ => true
  | _ => false
theorem ask_same {d : DeskD} {m : Cm} (h : isAsk m = true) : (exec d m).1 = d := by cases m <;> first | rfl | cases h
theorem ask_all (A1 A2 A3 : Option Addr) (c1 c2 c3 : Nat) (d : DeskD) (A : Option Addr) (c : Nat) (w : World) (hgd : DGood d) (hrw : RowsW 0 d A1 A2 A3 c1 c2 c3 w) (m : Cm) (ha : isAsk m = true) (hN : Rd w w.heap.size A (numsC m).length ((numsC m).map (Value.int .i64))) (hc : (numsC m).length ≤ c) : Calls Tryz.prog 89 #[.agg #[.slice A1 d.H.length c1, .slice A2 d.K.length c2, .slice A3 d.M.length c3], .string (wordC m), .slice A (numsC m).length c] w (AskPost d m w) := by
  cases m with
  | opn => exact ask_opn A1 A2 A3 c1 c2 c3 d A c w hgd hrw hc
  | onD a => exact ask_onD A1 A2 A3 c1 c2 c3 d A c w hgd hrw a hN hc
  | due a b => exact ask_due A1 A2 A3 c1 c2 c3 d A c w hgd hrw a b hN hc
  | plu a b => exact ask_plu A1 A2 A3 c1 c2 c3 d A c w hgd hrw a b hN hc
  | fre a b => exact ask_fre A1 A2 A3 c1 c2 c3 d A c w hgd hrw a b hN hc
  | nex a b => exact ask_nex A1 A2 A3 c1 c2 c3 d A c w hgd hrw a b hN hc
  | dra a b x => exact ask_dra A1 A2 A3 c1 c2 c3 d A c w hgd hrw a b x hN hc
  | cha a b x y => exact ask_cha A1 A2 A3 c1 c2 c3 d A c w hgd hrw a b x y hN hc
  | hol a => cases ha
  | cal a b => cases ha
  | mov a b => cases ha
  | sta a b x => cases ha
  | fil t a b => cases ha

set_option maxRecDepth 100000 in
set_option maxHeartbeats 4000000 in
theorem srun_no (A1 A2 A3 : Option Addr) (c1 c2 c3 : Nat) (d : DeskD) (s : ByteArray) (w : World) (hgd : DGood d) (hrw : RowsW 0 d A1 A2 A3 c1 c2 c3 w) (hs : s.size ≤ 2000000) (hl : lineB s = false) : Calls Tryz.prog 64 #[.agg #[.slice A1 d.H.length c1, .slice A2 d.K.length c2, .slice A3 d.M.length c3], .string s] w (RunPost d s w) := by
  have HRW := Lib.hid hrw
  have HX := Lib.hid (lineD_none (d := d) (cmOf_no hl))
  have HPA := Lib.hid (fun W => parse_no (s := s) W hs hl)
  have HCT := Lib.hid (errT_cut' 6)
  have HDC := Lib.hid (fun W => decN (n := 6) ⟨by decide, by decide⟩ W)
  have hz6 := decI_sz (n := 6) ⟨by decide, by decide⟩
  generalize decI 6 = t6 at *
  generalize errT 6 = e6 at *
  clear hrw hgd hl
  go_enter Tryz.func64, Tryz.ntmps64
  go_wp2_with fail
  generalize hW0 : (w.alloc (.cells #[.slice A1 d.H.length c1, .slice A2 d.K.length c2, .slice A3 d.M.length c3] 34)).alloc (.cells #[.slice none 0 0, .slice none 0 0, .slice none 0 0] 34) = W0
  have hbW0 : Below w.heap.size w W0 := by subst hW0; exact ((Below.refl _ _).alloc (Nat.le_refl _) _).alloc (by simp) _
  have HX2 := Lib.hid (show BD W0 w.heap.size (.slice A1 d.H.length c1) (.slice A2 d.K.length c2) (.slice A3 d.M.length c3) by subst hW0; exact (BD.new w _ _ _).below ((Below.refl _ _).alloc (Nat.le_refl _) _))
  have HX4 := Lib.hid (show BD W0 (w.heap.size + 1) (.slice none 0 0) (.slice none 0 0) (.slice none 0 0) by subst hW0; have h := BD.new (w.alloc (.cells #[.slice A1 d.H.length c1, .slice A2 d.K.length c2, .slice A3 d.M.length c3] 34)) (.slice none 0 0) (.slice none 0 0) (.slice none 0 0); simpa using h)
  clear hW0
  refine (HPA.out W0).mono ?_
  rintro e w1 ⟨v1, v2, rfl, hb1⟩
  have hB1 := bt hbW0 hb1
  replace HX2 := Lib.hid (HX2.out.below hb1)
  replace HX4 := Lib.hid (HX4.out.below hb1)
  have hz1 := HX4.out.lt
  go_wp2_with fail
  have HK1 : Hid (∀ W1 : World, Below w1.drew.heap.size w1.drew W1 → (BD W1 w.heap.size (.slice A1 d.H.length c1) (.slice A2 d.K.length c2) (.slice A3 d.M.length c3) ∧ BD W1 (w.heap.size + 1) (.slice none 0 0) (.slice none 0 0) (.slice none 0 0) ∧ Below w.heap.size w W1)) := fun W1 hb => ⟨HX2.out.drew.below hb, HX4.out.drew.below hb, bt hB1 (bt ((Below.refl _ _).drew) hb)⟩
  have e0 := HX2.out.c0
  have e1 := HX2.out.c1
  have e2 := HX2.out.c2
  go_region_with (first | (go_at_call 66; refine (HDC.out _).mono ?_; rintro e w9 ⟨rfl, hb9⟩; obtain ⟨b2, b4, hB9⟩ := HK1.out w9 hb9; have f0 := b2.c0; have f1 := b2.c1; have f2 := b2.c2; have r0 := b4.c0; have r1 := b4.c1; have r2 := b4.c2; have zr := b4.frozen))
  all_goals
    have HB9 := Lib.hid hB9
    clear hB9 hb9
    go_wp2
    have hBZ := bel3 HB9.out (b := w.heap.size + 1) (by omega) (.slice A1 d.H.length c1) (.slice A2 d.K.length c2) (.slice A3 d.M.length c3)
    refine bodyPost_ret (v := .tuple #[.agg #[.slice A1 d.H.length c1, .slice A2 d.K.length c2, .slice A3 d.M.length c3], .string _]) (by simp [results, Tryz.results64, go_sem, r0, r1, r2]; rfl) rfl ?_
    exact ⟨_, by rw [HX.out, ← HCT.out], by rw [HX.out]; exact ⟨A1, A2, A3, c1, c2, c3, rfl, HRW.out.below hBZ⟩, hBZ⟩

set_option maxRecDepth 100000 in
set_option maxHeartbeats 4000000 in
theorem srun_ask (A1 A2 A3 : Option Addr) (c1 c2 c3 : Nat) (d : DeskD) (s : ByteArray) (w : World) (hgd : DGood d) (hrw : RowsW 0 d A1 A2 A3 c1 c2 c3 w) (hs : s.size ≤ 2000000) (m : Cm) (hm : cmOf s = some (m)) (ha : isAsk m = true) : Calls Tryz.prog 64 #[.agg #[.slice A1 d.H.length c1, .slice A2 d.K.length c2, .slice A3 d.M.length c3], .string s] w (RunPost d s w) := by
  have HRW := Lib.hid hrw
  have hl := line_cm hm
  have hw := (word_at hl hm).1
  have HPA := Lib.hid (fun W => parse_yes (s := s) W hs hl hm)
  have hcb := exec_cb d (m)
  have HXY := Lib.hid (fun h => lineD_ok (d := d) hm h)
  have HXN := Lib.hid (fun h => lineD_err (d := d) hm h)
  have HCT := Lib.hid (errT_cut' (exec d (m)).2.2)
  have HDC := Lib.hid (fun W => decN (n := (exec d (m)).2.2) ⟨hcb.1, by have := hcb.2; omega⟩ W)
  have hz6 := decI_sz (n := (exec d (m)).2.2) ⟨hcb.1, by have := hcb.2; omega⟩
  have hcB := cm_bounds hm
  have HASK := Lib.hid (fun (W : World) (A : Option Addr) (c : Nat) (hb : Below w.heap.size w W) hN hc => ask_all A1 A2 A3 c1 c2 c3 d A c W hgd (HRW.out.below hb) m ha hN hc)
  unfold AskPost at HASK
  have hsm := ask_same (d := d) ha
  have n0 : ((wordC m).toList == [104, 111, 108, 105, 100, 97, 121]) = false := str_ne (by cases m <;> first | (simp only [wordC]; decide) | cases ha)
  have n1 : ((wordC m).toList == [115, 101, 116]) = false := str_ne (by cases m <;> first | (simp only [wordC]; decide) | cases ha)
  have n2 : ((wordC m).toList == [99, 97, 108, 108]) = false := str_ne (by cases m <;> first | (simp only [wordC]; decide) | cases ha)
  have n3 : ((wordC m).toList == [109, 111, 118, 101]) = false := str_ne (by cases m <;> first | (simp only [wordC]; decide) | cases ha)
  have n4 : ((wordC m).toList == [102, 105, 108, 101]) = false := str_ne (by cases m <;> first | (simp only [wordC]; decide) | cases ha)
  generalize exec d m = R at *
  obtain ⟨dd, o, q⟩ := R
  simp only at hsm HXY HXN HCT HDC hz6 HASK
  have hsm2 := hsm.symm
  subst hsm2
  generalize wordC m = ww at *
  generalize numsC m = NN at *
  generalize wordsB s = D at *
  clear hrw hgd hl hm ha hcB hcb
  by_cases hq : q = 0
  · have HX := Lib.hid (HXY.out hq)
    clear HXY HXN HCT HDC hz6
    subst hq
    go_enter Tryz.func64, Tryz.ntmps64
    go_wp2_with fail
    generalize hW0 : (w.alloc (.cells #[.slice A1 d.H.length c1, .slice A2 d.K.length c2, .slice A3 d.M.length c3] 34)).alloc (.cells #[.slice none 0 0, .slice none 0 0, .slice none 0 0] 34) = W0
    have hbW0 : Below w.heap.size w W0 := by subst hW0; exact ((Below.refl _ _).alloc (Nat.le_refl _) _).alloc (by simp) _
    have HX2 := Lib.hid (show BD W0 w.heap.size (.slice A1 d.H.length c1) (.slice A2 d.K.length c2) (.slice A3 d.M.length c3) by subst hW0; exact (BD.new w _ _ _).below ((Below.refl _ _).alloc (Nat.le_refl _) _))
    have HX4 := Lib.hid (show BD W0 (w.heap.size + 1) (.slice none 0 0) (.slice none 0 0) (.slice none 0 0) by subst hW0; have h := BD.new (w.alloc (.cells #[.slice A1 d.H.length c1, .slice A2 d.K.length c2, .slice A3 d.M.length c3] 34)) (.slice none 0 0) (.slice none 0 0) (.slice none 0 0); simpa using h)
    clear hW0
    refine (HPA.out W0).mono ?_
    rintro e w1 ⟨A, c, A2', c2', rfl, hb1, hcD, hDp, hRD, hcN, hRN⟩
    have hB1 := bt hbW0 hb1
    replace HX2 := Lib.hid (HX2.out.below hb1)
    replace HX4 := Lib.hid (HX4.out.below hb1)
    have hz1 := HX4.out.lt
    obtain ⟨bD, oD, rfl, hbD, hcl⟩ := Rd.strs hRD hDp
    have hc0 : w1.cell? ⟨bD, oD, none⟩ = some (.string ww) := by
      have h := hcl 0 hDp
      rw [← getD_at hDp, hw] at h
      exact h
    have e0 := HX2.out.c0
    have e1 := HX2.out.c1
    have e2 := HX2.out.c2
    go_wp2_with fail
    generalize hW4 : w1.alloc (.cells #[.slice A1 d.H.length c1, .slice A2 d.K.length c2, .slice A3 d.M.length c3] 34) = W4
    have hbW4 : Below w1.heap.size w1 W4 := by subst hW4; exact (Below.refl _ _).alloc (Nat.le_refl _) _
    have HX9 := Lib.hid (show BD W4 w1.heap.size (.slice A1 d.H.length c1) (.slice A2 d.K.length c2) (.slice A3 d.M.length c3) by subst hW4; exact BD.new _ _ _ _)
    clear hW4
    have hB4 := bt hB1 hbW4
    replace HX2 := Lib.hid (HX2.out.below hbW4)
    replace HX4 := Lib.hid (HX4.out.below hbW4)
    replace hc0 := (hbW4.cell (p := ⟨bD, oD, none⟩) hbD).trans hc0
    replace e0 := HX2.out.c0
    replace e1 := HX2.out.c1
    replace e2 := HX2.out.c2
    have hz4 := HX9.out.lt
    have HKd : Hid (∀ W1 : World, Below W4.heap.size W4 W1 → ((W1.cell? ⟨w.heap.size, 0, none⟩ = some (.slice A1 d.H.length c1)) ∧ (W1.cell? ⟨w.heap.size, 1, none⟩ = some (.slice A2 d.K.length c2)) ∧ (W1.cell? ⟨w.heap.size, 2, none⟩ = some (.slice A3 d.M.length c3)) ∧ (W1.cell? ⟨bD, oD, none⟩ = some (.string ww)) ∧ Below W4.heap.size W4 W1)) := fun W1 h => ⟨(HX2.out.below h).c0, (HX2.out.below h).c1, (HX2.out.below h).c2, (h.cell (p := ⟨bD, oD, none⟩) (by simp only; omega)).trans hc0, h⟩
    go_region_held3 (fun W1 => (W1.cell? ⟨w.heap.size, 0, none⟩ = some (.slice A1 d.H.length c1)) ∧ (W1.cell? ⟨w.heap.size, 1, none⟩ = some (.slice A2 d.K.length c2)) ∧ (W1.cell? ⟨w.heap.size, 2, none⟩ = some (.slice A3 d.M.length c3)) ∧ (W1.cell? ⟨bD, oD, none⟩ = some (.string ww)) ∧ Below W4.heap.size W4 W1) (first | exact HKd.out _ ((Below.refl _ _).drew) | exact HKd.out _ (bt (by assumption) hb5))
      ((first
        | (go_at_call 89; go_split_ands; refine (HASK.out _ _ c2' (bt hB4 (by assumption)) (rdW (bt hbW4 (by assumption)) hRN) hcN).mono ?_; rintro e w5 ⟨rfl, hb5⟩)))
    all_goals
      have hB4x : Below W4.heap.size W4 w5 := bt (by assumption) hb5
      have hB5 := bt hB4 hB4x
      replace HX4 := Lib.hid (HX4.out.below hB4x)
      replace HX9 := Lib.hid (HX9.out.below hB4x)
      clear hb5
      have f0 := HX9.out.c0
      have f1 := HX9.out.c1
      have f2 := HX9.out.c2
      have r0 := HX4.out.c0
      have r1 := HX4.out.c1
      have r2 := HX4.out.c2
      have zr := HX4.out.frozen
      go_wp2
      have hBZ := bel3 hB5 (b := w.heap.size + 1) (by omega) (.slice A1 d.H.length c1) (.slice A2 d.K.length c2) (.slice A3 d.M.length c3)
      refine bodyPost_ret (v := .tuple #[.agg #[.slice A1 d.H.length c1, .slice A2 d.K.length c2, .slice A3 d.M.length c3], .string o]) (by simp [results, Tryz.results64, go_sem, r0, r1, r2]) rfl ?_
      exact ⟨_, by rw [HX.out], by rw [HX.out]; exact ⟨A1, A2, A3, c1, c2, c3, rfl, HRW.out.below hBZ⟩, hBZ⟩
  · have HX := Lib.hid (HXN.out hq)
    have hqb : (q != 0) = true := bne_iff_ne.2 hq
    clear HXY HXN hq
    generalize decI q = t6 at *
    generalize errT q = e6 at *
    go_enter Tryz.func64, Tryz.ntmps64
    go_wp2_with fail
    generalize hW0 : (w.alloc (.cells #[.slice A1 d.H.length c1, .slice A2 d.K.length c2, .slice A3 d.M.length c3] 34)).alloc (.cells #[.slice none 0 0, .slice none 0 0, .slice none 0 0] 34) = W0
    have hbW0 : Below w.heap.size w W0 := by subst hW0; exact ((Below.refl _ _).alloc (Nat.le_refl _) _).alloc (by simp) _
    have HX2 := Lib.hid (show BD W0 w.heap.size (.slice A1 d.H.length c1) (.slice A2 d.K.length c2) (.slice A3 d.M.length c3) by subst hW0; exact (BD.new w _ _ _).below ((Below.refl _ _).alloc (Nat.le_refl _) _))
    have HX4 := Lib.hid (show BD W0 (w.heap.size + 1) (.slice none 0 0) (.slice none 0 0) (.slice none 0 0) by subst hW0; have h := BD.new (w.alloc (.cells #[.slice A1 d.H.length c1, .slice A2 d.K.length c2, .slice A3 d.M.length c3] 34)) (.slice none 0 0) (.slice none 0 0) (.slice none 0 0); simpa using h)
    clear hW0
    refine (HPA.out W0).mono ?_
    rintro e w1 ⟨A, c, A2', c2', rfl, hb1, hcD, hDp, hRD, hcN, hRN⟩
    have hB1 := bt hbW0 hb1
    replace HX2 := Lib.hid (HX2.out.below hb1)
    replace HX4 := Lib.hid (HX4.out.below hb1)
    have hz1 := HX4.out.lt
    obtain ⟨bD, oD, rfl, hbD, hcl⟩ := Rd.strs hRD hDp
    have hc0 : w1.cell? ⟨bD, oD, none⟩ = some (.string ww) := by
      have h := hcl 0 hDp
      rw [← getD_at hDp, hw] at h
      exact h
    have e0 := HX2.out.c0
    have e1 := HX2.out.c1
    have e2 := HX2.out.c2
    go_wp2_with fail
    generalize hW4 : w1.alloc (.cells #[.slice A1 d.H.length c1, .slice A2 d.K.length c2, .slice A3 d.M.length c3] 34) = W4
    have hbW4 : Below w1.heap.size w1 W4 := by subst hW4; exact (Below.refl _ _).alloc (Nat.le_refl _) _
    have HX9 := Lib.hid (show BD W4 w1.heap.size (.slice A1 d.H.length c1) (.slice A2 d.K.length c2) (.slice A3 d.M.length c3) by subst hW4; exact BD.new _ _ _ _)
    clear hW4
    have hB4 := bt hB1 hbW4
    replace HX2 := Lib.hid (HX2.out.below hbW4)
    replace HX4 := Lib.hid (HX4.out.below hbW4)
    replace hc0 := (hbW4.cell (p := ⟨bD, oD, none⟩) hbD).trans hc0
    replace e0 := HX2.out.c0
    replace e1 := HX2.out.c1
    replace e2 := HX2.out.c2
    have hz4 := HX9.out.lt
    have HKd : Hid (∀ W1 : World, Below W4.heap.size W4 W1 → ((W1.cell? ⟨w.heap.size, 0, none⟩ = some (.slice A1 d.H.length c1)) ∧ (W1.cell? ⟨w.heap.size, 1, none⟩ = some (.slice A2 d.K.length c2)) ∧ (W1.cell? ⟨w.heap.size, 2, none⟩ = some (.slice A3 d.M.length c3)) ∧ (W1.cell? ⟨bD, oD, none⟩ = some (.string ww)) ∧ Below W4.heap.size W4 W1)) := fun W1 h => ⟨(HX2.out.below h).c0, (HX2.out.below h).c1, (HX2.out.below h).c2, (h.cell (p := ⟨bD, oD, none⟩) (by simp only; omega)).trans hc0, h⟩
    go_region_held3 (fun W1 => (W1.cell? ⟨w.heap.size, 0, none⟩ = some (.slice A1 d.H.length c1)) ∧ (W1.cell? ⟨w.heap.size, 1, none⟩ = some (.slice A2 d.K.length c2)) ∧ (W1.cell? ⟨w.heap.size, 2, none⟩ = some (.slice A3 d.M.length c3)) ∧ (W1.cell? ⟨bD, oD, none⟩ = some (.string ww)) ∧ Below W4.heap.size W4 W1) (first | exact HKd.out _ ((Below.refl _ _).drew) | exact HKd.out _ (bt (by assumption) hb5))
      ((first
        | (go_at_call 89; go_split_ands; refine (HASK.out _ _ c2' (bt hB4 (by assumption)) (rdW (bt hbW4 (by assumption)) hRN) hcN).mono ?_; rintro e w5 ⟨rfl, hb5⟩)))
    all_goals
      have hB4x : Below W4.heap.size W4 w5 := bt (by assumption) hb5
      replace hB1 := bt hB4 hB4x
      replace HX2 := Lib.hid (HX2.out.below hB4x)
      replace HX4 := Lib.hid (HX4.out.below hB4x)
      clear e0 e1 e2 hb5
      go_wp2_with fail
      have HK1 : Hid (∀ W1 : World, Below w5.drew.heap.size w5.drew W1 → (BD W1 w.heap.size (.slice A1 d.H.length c1) (.slice A2 d.K.length c2) (.slice A3 d.M.length c3) ∧ BD W1 (w.heap.size + 1) (.slice none 0 0) (.slice none 0 0) (.slice none 0 0) ∧ Below w.heap.size w W1)) := fun W1 hb => ⟨HX2.out.drew.below hb, HX4.out.drew.below hb, bt hB1 (bt ((Below.refl _ _).drew) hb)⟩
      have e0 := HX2.out.c0
      have e1 := HX2.out.c1
      have e2 := HX2.out.c2
      go_region_with (first | (go_at_call 66; refine (HDC.out _).mono ?_; rintro e w9 ⟨rfl, hb9⟩; obtain ⟨b2, b4, hB9⟩ := HK1.out w9 hb9; have f0 := b2.c0; have f1 := b2.c1; have f2 := b2.c2; have r0 := b4.c0; have r1 := b4.c1; have r2 := b4.c2; have zr := b4.frozen))
      all_goals
        have HB9 := Lib.hid hB9
        clear hB9 hb9
        go_wp2
        have hBZ := bel3 HB9.out (b := w.heap.size + 1) (by omega) (.slice A1 d.H.length c1) (.slice A2 d.K.length c2) (.slice A3 d.M.length c3)
        refine bodyPost_ret (v := .tuple #[.agg #[.slice A1 d.H.length c1, .slice A2 d.K.length c2, .slice A3 d.M.length c3], .string _]) (by simp [results, Tryz.results64, go_sem, r0, r1, r2]; rfl) rfl ?_
        exact ⟨_, by rw [HX.out, ← HCT.out], by rw [HX.out]; exact ⟨A1, A2, A3, c1, c2, c3, rfl, HRW.out.below hBZ⟩, hBZ⟩
end Go.Proofs.YtiamignopfhkfaaGreatDoor
