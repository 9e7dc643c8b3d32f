/- Contract: l34Run of the reference, some commands. -/
import Derived.Test.YtiamignopfhkfaaGreatDoorZRunS0
namespace Go.Proofs.YtiamignopfhkfaaGreatDoor
open Go.RowKit
set_option linter.unusedVariables false
set_option linter.unusedSimpArgs false

set_option maxRecDepth 100000 in
set_option maxHeartbeats 4000000 in
theorem srun_sta (A1 A2 A3 : Option Addr) (c1 c2 c3 : Nat) (d : DeskD) (s : ByteArray) (w : World) (hgd : DGood d) (hrw : RowsW 0 d A1 A2 A3 c1 c2 c3 w) (hs : s.size ≤ 2000000) (qa qb qc : Int) (hm : cmOf s = some (.sta qa qb qc)) : Calls Tryz.prog 64 #[.agg #[.slice A1 d.H.length c1, .slice A2 d.K.length c2, .slice A3 d.M.length c3], .string s] w (RunPost d s w) := by
  have HRW := Lib.hid hrw
  have hl := line_cm hm
  have hw := (word_at hl hm).1
  have HPA := Lib.hid (fun W => parse_yes (s := s) W hs hl hm)
  have hcb := exec_cb d (.sta qa qb qc)
  have HXY := Lib.hid (fun h => lineD_ok (d := d) hm h)
  have HXN := Lib.hid (fun h => lineD_err (d := d) hm h)
  have HCT := Lib.hid (errT_cut' (exec d (.sta qa qb qc)).2.2)
  have HDC := Lib.hid (fun W => decN (n := (exec d (.sta qa qb qc)).2.2) ⟨hcb.1, by have := hcb.2; omega⟩ W)
  have hz6 := decI_sz (n := (exec d (.sta qa qb qc)).2.2) ⟨hcb.1, by have := hcb.2; omega⟩
  have HSET := Lib.hid (fun (W : World) (A : Option Addr) (c : Nat) (hb : Below w.heap.size w W) (hN : Rd W W.heap.size A (numsC (.sta qa qb qc)).length ((numsC (.sta qa qb qc)).map (Value.int .i64))) (hc : (numsC (.sta qa qb qc)).length ≤ c) => set_sta A1 A2 A3 c1 c2 c3 d A c W hgd (HRW.out.below hb) qa qb qc hN hc)
  unfold SetPost at HSET
  have hot : (exec d (.sta qa qb qc)).2.1 = okT := (by simp only [exec]; split <;> rfl)
  have hwc : wordC (.sta qa qb qc) = { data := #[115, 101, 116] } := rfl
  generalize exec d (.sta qa qb qc) = R at *
  obtain ⟨dd, o, q⟩ := R
  simp only at hot HXY HXN HCT HDC hz6 HSET
  subst hot
  unfold okT at HXY
  rw [hwc] at hw
  clear hwc
  have hNN : (numsC (.sta qa qb qc)).length = 3 := rfl
  rw [hNN] at HPA HSET
  generalize (numsC (.sta qa qb qc)).map (Value.int .i64) = NN at *
  generalize wordsB s = D at *
  clear hrw hgd hl hm hcb hNN
  by_cases hq : q = 0
  · have HX := Lib.hid (HXY.out hq)
    clear HXY HXN HCT HDC hz6
    subst hq
    go_enter Tryz.func64, Tryz.ntmps64
    go_wp2_with fail
    generalize hW0 : (w.alloc (.cells #[.slice A1 d.H.length c1, .slice A2 d.K.length c2, .slice A3 d.M.length c3] 34)).alloc (.cells #[.slice none 0 0, .slice none 0 0, .slice none 0 0] 34) = W0
    have hbW0 : Below w.heap.size w W0 := by subst hW0; exact ((Below.refl _ _).alloc (Nat.le_refl _) _).alloc (by simp) _
    have HX2 := Lib.hid (show BD W0 w.heap.size (.slice A1 d.H.length c1) (.slice A2 d.K.length c2) (.slice A3 d.M.length c3) by subst hW0; exact (BD.new w _ _ _).below ((Below.refl _ _).alloc (Nat.le_refl _) _))
    have HX4 := Lib.hid (show BD W0 (w.heap.size + 1) (.slice none 0 0) (.slice none 0 0) (.slice none 0 0) by subst hW0; have h := BD.new (w.alloc (.cells #[.slice A1 d.H.length c1, .slice A2 d.K.length c2, .slice A3 d.M.length c3] 34)) (.slice none 0 0) (.slice none 0 0) (.slice none 0 0); simpa using h)
    clear hW0
    refine (HPA.out W0).mono ?_
    rintro e w1 ⟨A, c, A2', c2', rfl, hb1, hcD, hDp, hRD, hcN, hRN⟩
    have hB1 := bt hbW0 hb1
    replace HX2 := Lib.hid (HX2.out.below hb1)
    replace HX4 := Lib.hid (HX4.out.below hb1)
    have hz1 := HX4.out.lt
    obtain ⟨bD, oD, rfl, hbD, hcl⟩ := Rd.strs hRD hDp
    have hc0 : w1.cell? ⟨bD, oD, none⟩ = some (.string { data := #[115, 101, 116] }) := by
      have h := hcl 0 hDp
      rw [← getD_at hDp, hw] at h
      exact h
    have e0 := HX2.out.c0
    have e1 := HX2.out.c1
    have e2 := HX2.out.c2
    go_wp2_with fail
    generalize hW4 : w1.alloc (.cells #[.slice A1 d.H.length c1, .slice A2 d.K.length c2, .slice A3 d.M.length c3] 34) = W4
    have hbW4 : Below w1.heap.size w1 W4 := by subst hW4; exact (Below.refl _ _).alloc (Nat.le_refl _) _
    have HX9 := Lib.hid (show BD W4 w1.heap.size (.slice A1 d.H.length c1) (.slice A2 d.K.length c2) (.slice A3 d.M.length c3) by subst hW4; exact BD.new _ _ _ _)
    clear hW4
    have hB4 := bt hB1 hbW4
    replace HX2 := Lib.hid (HX2.out.below hbW4)
    replace HX4 := Lib.hid (HX4.out.below hbW4)
    replace hc0 := (hbW4.cell (p := ⟨bD, oD, none⟩) hbD).trans hc0
    replace e0 := HX2.out.c0
    replace e1 := HX2.out.c1
    replace e2 := HX2.out.c2
    have hz4 := HX9.out.lt
    have HK5 : Hid (∀ W1 : World, Below W4.drew.heap.size W4.drew W1 → (BD W1 w1.heap.size (.slice A1 d.H.length c1) (.slice A2 d.K.length c2) (.slice A3 d.M.length c3) ∧ BD W1 (w.heap.size + 1) (.slice none 0 0) (.slice none 0 0) (.slice none 0 0) ∧ BD W1 w.heap.size (.slice A1 d.H.length c1) (.slice A2 d.K.length c2) (.slice A3 d.M.length c3) ∧ Below w.heap.size w W1)) := fun W1 hb => ⟨HX9.out.drew.below hb, HX4.out.drew.below hb, HX2.out.drew.below hb, bt hB4 (bt ((Below.refl _ _).drew) hb)⟩
    go_region_with (first | (go_at_call 87; refine (HSET.out W4.drew _ c2' (bt hB4 ((Below.refl _ _).drew)) (rdW (bt hbW4 ((Below.refl _ _).drew)) hRN) hcN).mono ?_; rintro e w5 ⟨v, rfl, ⟨A4, A5, A6, c4, c5, c6, rfl, hr5⟩, hb5⟩; obtain ⟨b9, b4, b2, hB5⟩ := HK5.out w5 hb5; have f0 := b9.c0; have f1 := b9.c1; have f2 := b9.c2; have zf := b9.frozen))
    all_goals
      have HR5 := Lib.hid (hr5.put b9 (.slice A4 dd.H.length c4) (.slice A5 dd.K.length c5) (.slice A6 dd.M.length c6))
      have HX9n := Lib.hid (b9.put (.slice A4 dd.H.length c4) (.slice A5 dd.K.length c5) (.slice A6 dd.M.length c6))
      have HX4n := Lib.hid (b4.other3 (c := w1.heap.size) (x := .slice A4 dd.H.length c4) (y := .slice A5 dd.K.length c5) (z := .slice A6 dd.M.length c6) (by omega))
      have HX2n := Lib.hid (b2.other3 (c := w1.heap.size) (x := .slice A4 dd.H.length c4) (y := .slice A5 dd.K.length c5) (z := .slice A6 dd.M.length c6) (by omega))
      have hB6 := bel3 hB5 (b := w1.heap.size) (by omega) (.slice A4 dd.H.length c4) (.slice A5 dd.K.length c5) (.slice A6 dd.M.length c6)
      generalize (((w5.setCell ⟨w1.heap.size, 0, none⟩ (.slice A4 dd.H.length c4)).setCell ⟨w1.heap.size, 1, none⟩ (.slice A5 dd.K.length c5)).setCell ⟨w1.heap.size, 2, none⟩ (.slice A6 dd.M.length c6)) = W6 at *
      clear f0 f1 f2 zf hr5 b9 b4 b2 hB5 hb5 HK5 HX9 HX2 HX4 e0 e1 e2
      have HX9 := HX9n; have HX4 := HX4n; have HX2 := HX2n
      clear HX9n HX4n HX2n
      have hB5 := hB6
      have f0 := HX9.out.c0
      have f1 := HX9.out.c1
      have f2 := HX9.out.c2
      have r0 := HX4.out.c0
      have r1 := HX4.out.c1
      have r2 := HX4.out.c2
      have zr := HX4.out.frozen
      go_wp2
      have hBZ := bel3 hB5 (b := w.heap.size + 1) (by omega) (.slice A4 dd.H.length c4) (.slice A5 dd.K.length c5) (.slice A6 dd.M.length c6)
      refine bodyPost_ret (v := .tuple #[.agg #[.slice A4 dd.H.length c4, .slice A5 dd.K.length c5, .slice A6 dd.M.length c6], .string { data := #[111, 107] }]) (by simp [results, Tryz.results64, go_sem, r0, r1, r2]) rfl ?_
      exact ⟨_, by rw [HX.out], by rw [HX.out]; exact ⟨A4, A5, A6, c4, c5, c6, rfl, HR5.out.put HX4.out _ _ _⟩, hBZ⟩
  · have HX := Lib.hid (HXN.out hq)
    have hqb : (q != 0) = true := bne_iff_ne.2 hq
    clear HXY HXN hq
    generalize decI q = t6 at *
    generalize errT q = e6 at *
    go_enter Tryz.func64, Tryz.ntmps64
    go_wp2_with fail
    generalize hW0 : (w.alloc (.cells #[.slice A1 d.H.length c1, .slice A2 d.K.length c2, .slice A3 d.M.length c3] 34)).alloc (.cells #[.slice none 0 0, .slice none 0 0, .slice none 0 0] 34) = W0
    have hbW0 : Below w.heap.size w W0 := by subst hW0; exact ((Below.refl _ _).alloc (Nat.le_refl _) _).alloc (by simp) _
    have HX2 := Lib.hid (show BD W0 w.heap.size (.slice A1 d.H.length c1) (.slice A2 d.K.length c2) (.slice A3 d.M.length c3) by subst hW0; exact (BD.new w _ _ _).below ((Below.refl _ _).alloc (Nat.le_refl _) _))
    have HX4 := Lib.hid (show BD W0 (w.heap.size + 1) (.slice none 0 0) (.slice none 0 0) (.slice none 0 0) by subst hW0; have h := BD.new (w.alloc (.cells #[.slice A1 d.H.length c1, .slice A2 d.K.length c2, .slice A3 d.M.length c3] 34)) (.slice none 0 0) (.slice none 0 0) (.slice none 0 0); simpa using h)
    clear hW0
    refine (HPA.out W0).mono ?_
    rintro e w1 ⟨A, c, A2', c2', rfl, hb1, hcD, hDp, hRD, hcN, hRN⟩
    have hB1 := bt hbW0 hb1
    replace HX2 := Lib.hid (HX2.out.below hb1)
    replace HX4 := Lib.hid (HX4.out.below hb1)
    have hz1 := HX4.out.lt
    obtain ⟨bD, oD, rfl, hbD, hcl⟩ := Rd.strs hRD hDp
    have hc0 : w1.cell? ⟨bD, oD, none⟩ = some (.string { data := #[115, 101, 116] }) := by
      have h := hcl 0 hDp
      rw [← getD_at hDp, hw] at h
      exact h
    have e0 := HX2.out.c0
    have e1 := HX2.out.c1
    have e2 := HX2.out.c2
    go_wp2_with fail
    generalize hW4 : w1.alloc (.cells #[.slice A1 d.H.length c1, .slice A2 d.K.length c2, .slice A3 d.M.length c3] 34) = W4
    have hbW4 : Below w1.heap.size w1 W4 := by subst hW4; exact (Below.refl _ _).alloc (Nat.le_refl _) _
    have HX9 := Lib.hid (show BD W4 w1.heap.size (.slice A1 d.H.length c1) (.slice A2 d.K.length c2) (.slice A3 d.M.length c3) by subst hW4; exact BD.new _ _ _ _)
    clear hW4
    have hB4 := bt hB1 hbW4
    replace HX2 := Lib.hid (HX2.out.below hbW4)
    replace HX4 := Lib.hid (HX4.out.below hbW4)
    replace hc0 := (hbW4.cell (p := ⟨bD, oD, none⟩) hbD).trans hc0
    replace e0 := HX2.out.c0
    replace e1 := HX2.out.c1
    replace e2 := HX2.out.c2
    have hz4 := HX9.out.lt
    have HK5 : Hid (∀ W1 : World, Below W4.drew.heap.size W4.drew W1 → (BD W1 w1.heap.size (.slice A1 d.H.length c1) (.slice A2 d.K.length c2) (.slice A3 d.M.length c3) ∧ BD W1 (w.heap.size + 1) (.slice none 0 0) (.slice none 0 0) (.slice none 0 0) ∧ BD W1 w.heap.size (.slice A1 d.H.length c1) (.slice A2 d.K.length c2) (.slice A3 d.M.length c3) ∧ Below w.heap.size w W1)) := fun W1 hb => ⟨HX9.out.drew.below hb, HX4.out.drew.below hb, HX2.out.drew.below hb, bt hB4 (bt ((Below.refl _ _).drew) hb)⟩
    go_region_with (first | (go_at_call 87; refine (HSET.out W4.drew _ c2' (bt hB4 ((Below.refl _ _).drew)) (rdW (bt hbW4 ((Below.refl _ _).drew)) hRN) hcN).mono ?_; rintro e w5 ⟨v, rfl, ⟨A4, A5, A6, c4, c5, c6, rfl, hr5⟩, hb5⟩; obtain ⟨b9, b4, b2, hB5⟩ := HK5.out w5 hb5; have f0 := b9.c0; have f1 := b9.c1; have f2 := b9.c2; have zf := b9.frozen))
    all_goals
      have HR5 := Lib.hid (hr5.put b9 (.slice A4 dd.H.length c4) (.slice A5 dd.K.length c5) (.slice A6 dd.M.length c6))
      have HX9n := Lib.hid (b9.put (.slice A4 dd.H.length c4) (.slice A5 dd.K.length c5) (.slice A6 dd.M.length c6))
      have HX4n := Lib.hid (b4.other3 (c := w1.heap.size) (x := .slice A4 dd.H.length c4) (y := .slice A5 dd.K.length c5) (z := .slice A6 dd.M.length c6) (by omega))
      have HX2n := Lib.hid (b2.other3 (c := w1.heap.size) (x := .slice A4 dd.H.length c4) (y := .slice A5 dd.K.length c5) (z := .slice A6 dd.M.length c6) (by omega))
      have hB6 := bel3 hB5 (b := w1.heap.size) (by omega) (.slice A4 dd.H.length c4) (.slice A5 dd.K.length c5) (.slice A6 dd.M.length c6)
      generalize (((w5.setCell ⟨w1.heap.size, 0, none⟩ (.slice A4 dd.H.length c4)).setCell ⟨w1.heap.size, 1, none⟩ (.slice A5 dd.K.length c5)).setCell ⟨w1.heap.size, 2, none⟩ (.slice A6 dd.M.length c6)) = W6 at *
      clear f0 f1 f2 zf hr5 b9 b4 b2 hB5 hb5 HK5 HX9 HX2 HX4 e0 e1 e2
      have HX9 := HX9n; have HX4 := HX4n; have HX2 := HX2n
      clear HX9n HX4n HX2n
      replace hB1 := hB6
      go_wp2_with fail
      have HK1 : Hid (∀ W1 : World, Below W6.drew.heap.size W6.drew W1 → (BD W1 w.heap.size (.slice A1 d.H.length c1) (.slice A2 d.K.length c2) (.slice A3 d.M.length c3) ∧ BD W1 (w.heap.size + 1) (.slice none 0 0) (.slice none 0 0) (.slice none 0 0) ∧ Below w.heap.size w W1)) := fun W1 hb => ⟨HX2.out.drew.below hb, HX4.out.drew.below hb, bt hB1 (bt ((Below.refl _ _).drew) hb)⟩
      have e0 := HX2.out.c0
      have e1 := HX2.out.c1
      have e2 := HX2.out.c2
      go_region_with (first | (go_at_call 66; refine (HDC.out _).mono ?_; rintro e w9 ⟨rfl, hb9⟩; obtain ⟨b2, b4, hB9⟩ := HK1.out w9 hb9; have f0 := b2.c0; have f1 := b2.c1; have f2 := b2.c2; have r0 := b4.c0; have r1 := b4.c1; have r2 := b4.c2; have zr := b4.frozen))
      all_goals
        have HB9 := Lib.hid hB9
        clear hB9 hb9
        go_wp2
        have hBZ := bel3 HB9.out (b := w.heap.size + 1) (by omega) (.slice A1 d.H.length c1) (.slice A2 d.K.length c2) (.slice A3 d.M.length c3)
        refine bodyPost_ret (v := .tuple #[.agg #[.slice A1 d.H.length c1, .slice A2 d.K.length c2, .slice A3 d.M.length c3], .string _]) (by simp [results, Tryz.results64, go_sem, r0, r1, r2]; rfl) rfl ?_
        exact ⟨_, by rw [HX.out, ← HCT.out], by rw [HX.out]; exact ⟨A1, A2, A3, c1, c2, c3, rfl, HRW.out.below hBZ⟩, hBZ⟩
end Go.Proofs.YtiamignopfhkfaaGreatDoor
