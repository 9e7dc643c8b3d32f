/- Contract: l34Run of the reference, some commands. -/
import Derived.Test.YtiamignopfhkfaaGreatDoorZRunS0
namespace Go.Proofs.YtiamignopfhkfaaGreatDoor
open Go.RowKit
set_option linter.unusedVariables false
set_option linter.unusedSimpArgs false

set_option maxRecDepth 100000 in
set_option maxHeartbeats 4000000 in
theorem srun_fil (A1 A2 A3 : Option Addr) (c1 c2 c3 : Nat) (d : DeskD) (s : ByteArray) (w : World) (hgd : DGood d) (hrw : RowsW 0 d A1 A2 A3 c1 c2 c3 w) (hs : s.size ≤ 2000000) (t : ByteArray) (qa qb : Int) (hm : cmOf s = some (.fil t qa qb)) : Calls Tryz.prog 64 #[.agg #[.slice A1 d.H.length c1, .slice A2 d.K.length c2, .slice A3 d.M.length c3], .string s] w (RunPost d s w) := by
  have HRW := Lib.hid hrw
  have hl := line_cm hm
  have hw := (word_at hl hm).1
  have HPA := Lib.hid (fun W => parse_yes (s := s) W hs hl hm)
  have hcb := exec_cb d (.fil t qa qb)
  have HXY := Lib.hid (fun h => lineD_ok (d := d) hm h)
  have HXN := Lib.hid (fun h => lineD_err (d := d) hm h)
  have HCT := Lib.hid (errT_cut' (exec d (.fil t qa qb)).2.2)
  have HDC := Lib.hid (fun W => decN (n := (exec d (.fil t qa qb)).2.2) ⟨hcb.1, by have := hcb.2; omega⟩ W)
  have hz6 := decI_sz (n := (exec d (.fil t qa qb)).2.2) ⟨hcb.1, by have := hcb.2; omega⟩
  have hcB := cm_bounds hm
  have hqb := hcB qb (by simp [numsC])
  have hts : t.size ≤ 2000000 := Nat.le_trans (cm_text hm) hs
  have hwf : (Lit.int .i64 qb).wf = true := WalkArith.wf_i64 (by constructor <;> omega)
  have hcap := hrw.caps
  have hlen := hgd.lens
  have HC := Lib.hid (fun (W1 : World) (hb : Below w.heap.size w W1) => spec_FileMotion A3 c3 d.M t qa qb W1 (rdW hb HRW.out.rd3) (by omega) hcap.2.2 hgd.2.2.2 (by omega) hwf)
  have HW1 := Lib.hid ((word_at hl hm).2 t qa qb rfl)
  have hwc : wordC (.fil t qa qb) = { data := #[102, 105, 108, 101] } := rfl
  rw [hwc] at hw
  have hNN : (numsC (.fil t qa qb)).length = 2 := rfl
  have hNV : (numsC (.fil t qa qb)).map (Value.int .i64) = [.int .i64 qa, .int .i64 qb] := rfl
  rw [hNN, hNV] at HPA
  generalize wordsB s = D at *
  clear hwc hNN hNV hcb hcB hqb
  by_cases hq : (fileM d.M t qa qb).2 = 0
  · have hX0 : exec d (.fil t qa qb) = (⟨d.H, d.K, (fileM d.M t qa qb).1⟩, decI (lastNo d.M), 0) := by simp only [exec]; rw [if_pos hq]
    have HX := Lib.hid (HXY.out (by rw [hX0]))
    rw [hX0] at HX
    have HL := Lib.hid (fileM_is hq).1
    have HLN := Lib.hid (show (fileM d.M t qa qb).1.length = d.M.length + 1 by rw [HL.out]; simp)
    have HLG : Hid (∀ hh : d.M.length < (fileM d.M t qa qb).1.length, (motionC (fileM d.M t qa qb).1[d.M.length])[0]? = some (.int .i64 (lastNo d.M))) := fun hh => by
      have e9 : (fileM d.M t qa qb).1[d.M.length] = newM d.M t qa qb := by
        have := List.getElem_of_eq HL.out hh
        rw [this]; simp
      rw [e9]; rfl
    have hlb := lastNo_bd hgd.2.2.1
    rw [hq, HLN.out] at HC
    have HDZ := Lib.hid (fun W => decN (n := lastNo d.M) ⟨by omega, by omega⟩ W)
    clear HXY HXN HCT HDC hz6 hX0 hq HL
    generalize (fileM d.M t qa qb).1 = L at *
    generalize lastNo d.M = z at *
    clear hrw hgd hl hm
    go_enter Tryz.func64, Tryz.ntmps64
    go_wp2_with fail
    generalize hW0 : (w.alloc (.cells #[.slice A1 d.H.length c1, .slice A2 d.K.length c2, .slice A3 d.M.length c3] 34)).alloc (.cells #[.slice none 0 0, .slice none 0 0, .slice none 0 0] 34) = W0
    have hbW0 : Below w.heap.size w W0 := by subst hW0; exact ((Below.refl _ _).alloc (Nat.le_refl _) _).alloc (by simp) _
    have HX2 := Lib.hid (show BD W0 w.heap.size (.slice A1 d.H.length c1) (.slice A2 d.K.length c2) (.slice A3 d.M.length c3) by subst hW0; exact (BD.new w _ _ _).below ((Below.refl _ _).alloc (Nat.le_refl _) _))
    have HX4 := Lib.hid (show BD W0 (w.heap.size + 1) (.slice none 0 0) (.slice none 0 0) (.slice none 0 0) by subst hW0; have h := BD.new (w.alloc (.cells #[.slice A1 d.H.length c1, .slice A2 d.K.length c2, .slice A3 d.M.length c3] 34)) (.slice none 0 0) (.slice none 0 0) (.slice none 0 0); simpa using h)
    clear hW0
    refine (HPA.out W0).mono ?_
    rintro e w1 ⟨A, c, A2', c2', rfl, hb1, hcD, hDp, hRD, hcN, hRN⟩
    have hB1 := bt hbW0 hb1
    replace HX2 := Lib.hid (HX2.out.below hb1)
    replace HX4 := Lib.hid (HX4.out.below hb1)
    have hz1 := HX4.out.lt
    obtain ⟨bD, oD, rfl, hbD, hcl⟩ := Rd.strs hRD hDp
    have hc0 : w1.cell? ⟨bD, oD, none⟩ = some (.string { data := #[102, 105, 108, 101] }) := by
      have h := hcl 0 hDp
      rw [← getD_at hDp, hw] at h
      exact h
    have e0 := HX2.out.c0
    have e1 := HX2.out.c1
    have e2 := HX2.out.c2
    obtain ⟨bN, oN, rfl, hbN, hcn⟩ := hRN.at_ (by omega)
    have n0 : w1.cell? ⟨bN, oN, none⟩ = some (.int .i64 qa) := hcn 0 _ rfl
    have n1 : w1.cell? ⟨bN, oN + 1, none⟩ = some (.int .i64 qb) := hcn 1 _ rfl
    have hc1 : w1.cell? ⟨bD, oD + 1, none⟩ = some (.string t) := by
      have h := hcl 1 HW1.out.2
      rw [← getD_at HW1.out.2, HW1.out.1] at h
      exact h
    clear hcn hcl
    go_wp2_with fail
    generalize hW4 : w1.alloc (.cells #[.slice A1 d.H.length c1, .slice A2 d.K.length c2, .slice A3 d.M.length c3] 34) = W4
    have hbW4 : Below w1.heap.size w1 W4 := by subst hW4; exact (Below.refl _ _).alloc (Nat.le_refl _) _
    have HX9 := Lib.hid (show BD W4 w1.heap.size (.slice A1 d.H.length c1) (.slice A2 d.K.length c2) (.slice A3 d.M.length c3) by subst hW4; exact BD.new _ _ _ _)
    clear hW4
    have hB4 := bt hB1 hbW4
    replace HX2 := Lib.hid (HX2.out.below hbW4)
    replace HX4 := Lib.hid (HX4.out.below hbW4)
    replace hc0 := (hbW4.cell (p := ⟨bD, oD, none⟩) hbD).trans hc0
    replace e0 := HX2.out.c0
    replace e1 := HX2.out.c1
    replace e2 := HX2.out.c2
    have hz4 := HX9.out.lt
    have HKd : Hid (∀ W1 : World, Below W4.heap.size W4 W1 → ((W1.cell? ⟨w.heap.size, 2, none⟩ = some (.slice A3 d.M.length c3)) ∧ (W1.cell? ⟨bD, oD + 1, none⟩ = some (.string t)) ∧ (W1.cell? ⟨bN, oN, none⟩ = some (.int .i64 qa)) ∧ (W1.cell? ⟨bN, oN + 1, none⟩ = some (.int .i64 qb)) ∧ Below W4.heap.size W4 W1)) := fun W1 h => ⟨(HX2.out.below h).c2, (h.cell (p := ⟨bD, oD + 1, none⟩) (by simp only; omega)).trans ((hbW4.cell (p := ⟨bD, oD + 1, none⟩) hbD).trans hc1), (h.cell (p := ⟨bN, oN, none⟩) (by simp only; omega)).trans ((hbW4.cell (p := ⟨bN, oN, none⟩) hbN).trans n0), (h.cell (p := ⟨bN, oN + 1, none⟩) (by simp only; omega)).trans ((hbW4.cell (p := ⟨bN, oN + 1, none⟩) hbN).trans n1), h⟩
    have h1D : (1 : Int) < (D.length : Int) := by have := HW1.out.2; omega
    go_region_held3 (fun W1 => (W1.cell? ⟨w.heap.size, 2, none⟩ = some (.slice A3 d.M.length c3)) ∧ (W1.cell? ⟨bD, oD + 1, none⟩ = some (.string t)) ∧ (W1.cell? ⟨bN, oN, none⟩ = some (.int .i64 qa)) ∧ (W1.cell? ⟨bN, oN + 1, none⟩ = some (.int .i64 qb)) ∧ Below W4.heap.size W4 W1) (first | exact HKd.out _ ((Below.refl _ _).drew) | exact HKd.out _ (bt (by assumption) hb5))
      ((first
        | (go_at_call 88; go_split_ands; refine (HC.out _ (bt hB4 (by assumption))).mono ?_; rintro e w5 ⟨A9, c9, rfl, ho9, hb5, hc9, hm9⟩)))
    all_goals
      have hB4x : Below W4.heap.size W4 w5 := bt (by assumption) hb5
      have hB5 := bt hB4 hB4x
      replace HX4 := Lib.hid (HX4.out.below hB4x)
      replace HX9 := Lib.hid (HX9.out.below hB4x)
      have HR5 := Lib.hid (HRW.out.below hB5)
      have ho8 := own_mono ho9 (Nat.zero_le _)
      have HO8 := Lib.hid ho8
      obtain ⟨h, rfl, hh1, hh2⟩ := own_head ho8 (by omega)
      have hlast : w5.cell? ⟨h, d.M.length * 6, none⟩ = some (.int .i64 z) := by
        have h9 := ho8.cellAt (d.M.length * 6) (by omega)
        have h8 := flat_get motionC 6 (fun _ => rfl) L d.M.length 0 (by rw [HLN.out]; omega) (by omega)
        rw [Nat.add_zero] at h8
        rw [h9, h8]; exact HLG.out _
      have hne9 : h ≠ w1.heap.size := own_not_box ho8 HX9.out (by decide) h rfl
      have hne9' : w1.heap.size ≠ h := fun e => hne9 e.symm
      have f0 := HX9.out.c0
      have f1 := HX9.out.c1
      have f2 := HX9.out.c2
      have zf := HX9.out.frozen
      clear ho9 ho8 hb5
      go_wp2_with fail
      have HX9n := Lib.hid (HX9.out.set2 (.slice (some ⟨h, 0, none⟩) (d.M.length + 1) c9))
      have HX4n := Lib.hid (HX4.out.other (c := w1.heap.size) (j := 2) (x := .slice (some ⟨h, 0, none⟩) (d.M.length + 1) c9) (by omega))
      have HR6 := Lib.hid (HR5.out.put1 HX9.out 2 (.slice (some ⟨h, 0, none⟩) (d.M.length + 1) c9))
      have HO6 := Lib.hid (own_set HO8.out (own_not_box HO8.out HX9.out (by decide)) 2 (.slice (some ⟨h, 0, none⟩) (d.M.length + 1) c9))
      have hB6 := hB5.setCell (p := ⟨w1.heap.size, 2, none⟩) (by simp only; omega) (.slice (some ⟨h, 0, none⟩) (d.M.length + 1) c9)
      generalize w5.setCell ⟨w1.heap.size, 2, none⟩ (.slice (some ⟨h, 0, none⟩) (d.M.length + 1) c9) = W6 at *
      clear f0 f1 f2 zf HX9 HX4 HR5 HO8 hlast
      refine (HDZ.out W6).mono ?_
      rintro e w7 ⟨rfl, hb7⟩
      have HX9 := Lib.hid (HX9n.out.below hb7)
      have HX4 := Lib.hid (HX4n.out.below hb7)
      have hB5 := bt hB6 hb7
      have HRZ : Hid (RowsW 0 ⟨d.H, d.K, L⟩ A1 A2 (some ⟨h, 0, none⟩) c1 c2 c9 w7) := ⟨own_below HR6.out.1 hb7, own_below HR6.out.2.1 hb7, by have h6 := own_below HO6.out hb7; rw [← HLN.out] at h6; exact h6⟩
      have f0 := HX9.out.c0
      have f1 := HX9.out.c1
      have f2 := HX9.out.c2
      have r0 := HX4.out.c0
      have r1 := HX4.out.c1
      have r2 := HX4.out.c2
      have zr := HX4.out.frozen
      go_wp2
      have hBZ := bel3 hB5 (b := w.heap.size + 1) (by omega) (.slice A1 d.H.length c1) (.slice A2 d.K.length c2) (.slice (some ⟨h, 0, none⟩) (d.M.length + 1) c9)
      refine bodyPost_ret (v := .tuple #[.agg #[.slice A1 d.H.length c1, .slice A2 d.K.length c2, .slice (some ⟨h, 0, none⟩) (d.M.length + 1) c9], .string (decI z)]) (by simp [results, Tryz.results64, go_sem, r0, r1, r2]) rfl ?_
      exact ⟨_, by rw [HX.out], by rw [HX.out]; exact ⟨A1, A2, some ⟨h, 0, none⟩, c1, c2, c9, by rw [← HLN.out], HRZ.out.put HX4.out _ _ _⟩, hBZ⟩
  · have hX0 : exec d (.fil t qa qb) = (d, ⟨#[]⟩, (fileM d.M t qa qb).2) := by simp only [exec]; rw [if_neg hq]
    have hX2 : (exec d (.fil t qa qb)).2.2 = (fileM d.M t qa qb).2 := by rw [hX0]
    have HX := Lib.hid (HXN.out (by rw [hX2]; exact hq))
    rw [hX2] at HX HCT HDC hz6
    clear HXY HXN hX0 hX2
    generalize fileM d.M t qa qb = p at *
    obtain ⟨L, q⟩ := p
    simp only at hq HX HCT HDC hz6
    have hqb : (q == 0) = false := beq_eq_false_iff_ne.2 hq
    have hqn : (q != 0) = true := bne_iff_ne.2 hq
    generalize decI q = t6 at *
    generalize errT q = e6 at *
    clear hq hrw hgd hl hm
    go_enter Tryz.func64, Tryz.ntmps64
    go_wp2_with fail
    generalize hW0 : (w.alloc (.cells #[.slice A1 d.H.length c1, .slice A2 d.K.length c2, .slice A3 d.M.length c3] 34)).alloc (.cells #[.slice none 0 0, .slice none 0 0, .slice none 0 0] 34) = W0
    have hbW0 : Below w.heap.size w W0 := by subst hW0; exact ((Below.refl _ _).alloc (Nat.le_refl _) _).alloc (by simp) _
    have HX2 := Lib.hid (show BD W0 w.heap.size (.slice A1 d.H.length c1) (.slice A2 d.K.length c2) (.slice A3 d.M.length c3) by subst hW0; exact (BD.new w _ _ _).below ((Below.refl _ _).alloc (Nat.le_refl _) _))
    have HX4 := Lib.hid (show BD W0 (w.heap.size + 1) (.slice none 0 0) (.slice none 0 0) (.slice none 0 0) by subst hW0; have h := BD.new (w.alloc (.cells #[.slice A1 d.H.length c1, .slice A2 d.K.length c2, .slice A3 d.M.length c3] 34)) (.slice none 0 0) (.slice none 0 0) (.slice none 0 0); simpa using h)
    clear hW0
    refine (HPA.out W0).mono ?_
    rintro e w1 ⟨A, c, A2', c2', rfl, hb1, hcD, hDp, hRD, hcN, hRN⟩
    have hB1 := bt hbW0 hb1
    replace HX2 := Lib.hid (HX2.out.below hb1)
    replace HX4 := Lib.hid (HX4.out.below hb1)
    have hz1 := HX4.out.lt
    obtain ⟨bD, oD, rfl, hbD, hcl⟩ := Rd.strs hRD hDp
    have hc0 : w1.cell? ⟨bD, oD, none⟩ = some (.string { data := #[102, 105, 108, 101] }) := by
      have h := hcl 0 hDp
      rw [← getD_at hDp, hw] at h
      exact h
    have e0 := HX2.out.c0
    have e1 := HX2.out.c1
    have e2 := HX2.out.c2
    obtain ⟨bN, oN, rfl, hbN, hcn⟩ := hRN.at_ (by omega)
    have n0 : w1.cell? ⟨bN, oN, none⟩ = some (.int .i64 qa) := hcn 0 _ rfl
    have n1 : w1.cell? ⟨bN, oN + 1, none⟩ = some (.int .i64 qb) := hcn 1 _ rfl
    have hc1 : w1.cell? ⟨bD, oD + 1, none⟩ = some (.string t) := by
      have h := hcl 1 HW1.out.2
      rw [← getD_at HW1.out.2, HW1.out.1] at h
      exact h
    clear hcn hcl
    go_wp2_with fail
    generalize hW4 : w1.alloc (.cells #[.slice A1 d.H.length c1, .slice A2 d.K.length c2, .slice A3 d.M.length c3] 34) = W4
    have hbW4 : Below w1.heap.size w1 W4 := by subst hW4; exact (Below.refl _ _).alloc (Nat.le_refl _) _
    have HX9 := Lib.hid (show BD W4 w1.heap.size (.slice A1 d.H.length c1) (.slice A2 d.K.length c2) (.slice A3 d.M.length c3) by subst hW4; exact BD.new _ _ _ _)
    clear hW4
    have hB4 := bt hB1 hbW4
    replace HX2 := Lib.hid (HX2.out.below hbW4)
    replace HX4 := Lib.hid (HX4.out.below hbW4)
    replace hc0 := (hbW4.cell (p := ⟨bD, oD, none⟩) hbD).trans hc0
    replace e0 := HX2.out.c0
    replace e1 := HX2.out.c1
    replace e2 := HX2.out.c2
    have hz4 := HX9.out.lt
    have HKd : Hid (∀ W1 : World, Below W4.heap.size W4 W1 → ((W1.cell? ⟨w.heap.size, 2, none⟩ = some (.slice A3 d.M.length c3)) ∧ (W1.cell? ⟨bD, oD + 1, none⟩ = some (.string t)) ∧ (W1.cell? ⟨bN, oN, none⟩ = some (.int .i64 qa)) ∧ (W1.cell? ⟨bN, oN + 1, none⟩ = some (.int .i64 qb)) ∧ Below W4.heap.size W4 W1)) := fun W1 h => ⟨(HX2.out.below h).c2, (h.cell (p := ⟨bD, oD + 1, none⟩) (by simp only; omega)).trans ((hbW4.cell (p := ⟨bD, oD + 1, none⟩) hbD).trans hc1), (h.cell (p := ⟨bN, oN, none⟩) (by simp only; omega)).trans ((hbW4.cell (p := ⟨bN, oN, none⟩) hbN).trans n0), (h.cell (p := ⟨bN, oN + 1, none⟩) (by simp only; omega)).trans ((hbW4.cell (p := ⟨bN, oN + 1, none⟩) hbN).trans n1), h⟩
    have h1D : (1 : Int) < (D.length : Int) := by have := HW1.out.2; omega
    go_region_held3 (fun W1 => (W1.cell? ⟨w.heap.size, 2, none⟩ = some (.slice A3 d.M.length c3)) ∧ (W1.cell? ⟨bD, oD + 1, none⟩ = some (.string t)) ∧ (W1.cell? ⟨bN, oN, none⟩ = some (.int .i64 qa)) ∧ (W1.cell? ⟨bN, oN + 1, none⟩ = some (.int .i64 qb)) ∧ Below W4.heap.size W4 W1) (first | exact HKd.out _ ((Below.refl _ _).drew) | exact HKd.out _ (bt (by assumption) hb5))
      ((first
        | (go_at_call 88; go_split_ands; refine (HC.out _ (bt hB4 (by assumption))).mono ?_; rintro e w5 ⟨A9, c9, rfl, ho9, hb5, hc9, hm9⟩)))
    all_goals
      have hB4x : Below W4.heap.size W4 w5 := bt (by assumption) hb5
      replace hB1 := bt hB4 hB4x
      replace HX2 := Lib.hid (HX2.out.below hB4x)
      replace HX4 := Lib.hid (HX4.out.below hB4x)
      clear e0 e1 e2 hb5 ho9
      go_wp2_with fail
      have HK1 : Hid (∀ W1 : World, Below w5.drew.heap.size w5.drew W1 → (BD W1 w.heap.size (.slice A1 d.H.length c1) (.slice A2 d.K.length c2) (.slice A3 d.M.length c3) ∧ BD W1 (w.heap.size + 1) (.slice none 0 0) (.slice none 0 0) (.slice none 0 0) ∧ Below w.heap.size w W1)) := fun W1 hb => ⟨HX2.out.drew.below hb, HX4.out.drew.below hb, bt hB1 (bt ((Below.refl _ _).drew) hb)⟩
      have e0 := HX2.out.c0
      have e1 := HX2.out.c1
      have e2 := HX2.out.c2
      go_region_with (first | (go_at_call 66; refine (HDC.out _).mono ?_; rintro e w9 ⟨rfl, hb9⟩; obtain ⟨b2, b4, hB9⟩ := HK1.out w9 hb9; have f0 := b2.c0; have f1 := b2.c1; have f2 := b2.c2; have r0 := b4.c0; have r1 := b4.c1; have r2 := b4.c2; have zr := b4.frozen))
      all_goals
        have HB9 := Lib.hid hB9
        clear hB9 hb9
        go_wp2
        have hBZ := bel3 HB9.out (b := w.heap.size + 1) (by omega) (.slice A1 d.H.length c1) (.slice A2 d.K.length c2) (.slice A3 d.M.length c3)
        refine bodyPost_ret (v := .tuple #[.agg #[.slice A1 d.H.length c1, .slice A2 d.K.length c2, .slice A3 d.M.length c3], .string _]) (by simp [results, Tryz.results64, go_sem, r0, r1, r2]; rfl) rfl ?_
        exact ⟨_, by rw [HX.out, ← HCT.out], by rw [HX.out]; exact ⟨A1, A2, A3, c1, c2, c3, rfl, HRW.out.below hBZ⟩, hBZ⟩
end Go.Proofs.YtiamignopfhkfaaGreatDoor
