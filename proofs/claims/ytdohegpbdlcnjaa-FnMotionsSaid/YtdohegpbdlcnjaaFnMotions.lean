/- The walk of the law FnMotions: it returns true, and nothing that was there is changed. -/
import Derived.Test.YtdohegpbdlcnjaaMotLaw
import Derived.Test.YtdohegpbdlcnjaaDrawM5
import Derived.Test.YtdohegpbdlcnjaaMotNext2
import Derived.Test.YtdohegpbdlcnjaaLikeM
namespace Go.Proofs.Ytdohegpbdlcnjaa
open Go.RowKit
set_option linter.unusedVariables false
theorem big_c (A : Option Addr) (n c : Nat) (b : Bool) (w : World) (hn : n ≤ 9223372036854775807) (h : decide (4096 < n) = b) : Calls Try.prog 7 #[.slice A n c] w fun e w' => e = .returned (.bool b) ∧ w = w' := by
  subst h
  by_cases h : 4096 < n
  · have h2 : (4096 : Int) < (n : Int) := by omega
    go_enter Try.func7, Try.ntmps7
    go_wp2
    go_ret
    exact ⟨by simp [h], rfl⟩
  · have h2 : ¬ (4096 : Int) < (n : Int) := by omega
    go_enter Try.func7, Try.ntmps7
    go_wp2
    go_ret
    exact ⟨by simp, rfl⟩
theorem codeEq {a b : Int} : (a = b) → (b = a) := Eq.symm
set_option maxRecDepth 100000 in
set_option maxHeartbeats 8000000 in
theorem law_FnMotions (A : Option Addr) (c : Nat) (L : List Int) (w : World) (hr : Rd w w.heap.size A L.length (L.map (Value.int .u8))) (hl : L.length ≤ maxLen) (hx : ∀ x ∈ L, 0 ≤ x ∧ x ≤ 255) (hc : L.length ≤ c) :
    Calls Try.prog 4 #[.slice A L.length c] w fun e w' => e = .returned (.bool true) ∧ Below w.heap.size w w' := by
  unfold maxLen at hl
  have HRB := Lib.hid hr; have HXB := Lib.hid hx; clear hr hx
  by_cases hbig : 4096 < L.length
  · go_enter Try.func4, Try.ntmps4
    go_wp2_with fail
    refine (big_c A L.length c true w (by omega) (by simp [hbig])).mono ?_
    rintro e w' ⟨rfl, rfl⟩
    go_wp2
    go_ret
    exact ⟨rfl, Below.refl _ _⟩
  go_enter Try.func4, Try.ntmps4
  go_wp2_with fail
  refine (big_c A L.length c false w (by omega) (by simp; omega)).mono ?_
  rintro e w0 ⟨rfl, rfl⟩
  have HB := Lib.hid (Below.refl w.heap.size w)
  go_wp2_with fail
  refine (DrawNextStates_c A c L w HRB.out HXB.out (by omega) hc).mono ?_
  rintro e x1 ⟨A1, c1, M, n, day, rfl, ⟨ho1, hl1, hW1⟩, hwf1, hbx1⟩
  have hzx1 := hbx1.size
  replace HB := Lib.hid (bt HB.out hbx1)
  have HR1 := Lib.hid (Rd.of_own ho1)
  have hcpHR1 := own_cap ho1; clear ho1
  have HW1 := Lib.hid hW1; clear hW1 hwf1
  obtain ⟨V, hV⟩ : ∃ x, nextFor M n day = x := ⟨_, rfl⟩
  obtain ⟨vc, hvc⟩ : ∃ x, codeM M n day = x := ⟨_, rfl⟩
  have HEV := Lib.hid (show ∀ (e : Ending) (w1 w2 : World), RowPost2 2 1 (nextFor M n day).length ((nextFor M n day).map (Value.int .i64)) (codeM M n day) w1 e w2 → RowPost2 2 1 V.length (V.map (Value.int .i64)) vc w1 e w2 from fun e w1 w2 h => by rw [hV, hvc] at h; exact h)
  have fV := nextFor_len M n day; rw [hV] at fV
  have F1 := Lib.hid (fun h (s : Int) => law_next (L := M) (n := n) (day := day) h (s := s)); have F2 := Lib.hid (fun h => law_open (L := M) (n := n) (day := day) h)
  rw [hvc, hV] at F1 F2; clear hV hvc
  go_wp2_with fail
  refine (impl_NextStates A1 c1 M n day x1 HR1.out (by omega) hcpHR1.1 HW1.out).mono ?_
  intro e x2 he
  obtain ⟨A2, c2, rfl, ho2, hb2, hn2, hm2⟩ := HEV.out _ _ _ he
  clear he
  have hzx2 := hb2.size
  replace HR1 := Lib.hid (rdW hb2 HR1.out)
  replace HB := Lib.hid (bt HB.out hb2)
  have HR2 := Lib.hid (Rd.of_own1 ho2); clear ho2
  go_wp2_with fail
  refine (spec_NextStates A1 c1 M n day x2 HR1.out (by omega) hcpHR1.1 HW1.out).mono ?_
  intro e x3 he
  obtain ⟨A3, c3, rfl, ho3, hb3, hn3, hm3⟩ := HEV.out _ _ _ he
  clear he
  have hzx3 := hb3.size
  replace HR1 := Lib.hid (rdW hb3 HR1.out)
  replace HR2 := Lib.hid (rdW hb3 HR2.out)
  replace HB := Lib.hid (bt HB.out hb3)
  have HR3 := Lib.hid (Rd.of_own1 ho3); clear ho3
  go_wp2_with fail
  refine (DrawChangeMotion_c A c L x3 (rdW HB.out HRB.out) HXB.out (by omega) hc).mono ?_
  rintro e x4 ⟨A4, c4, M4, n4, s4, day4, rfl, ⟨ho4, hl4, hW4⟩, hbx4⟩
  have hzx4 := hbx4.size
  replace HR1 := Lib.hid (rdW hbx4 HR1.out)
  replace HR2 := Lib.hid (rdW hbx4 HR2.out)
  replace HR3 := Lib.hid (rdW hbx4 HR3.out)
  replace HB := Lib.hid (bt HB.out hbx4)
  have HR4 := Lib.hid (Rd.of_own ho4)
  have hcpHR4 := own_cap ho4; clear ho4
  have HW4 := Lib.hid hW4; clear hW4
  obtain ⟨C, hC⟩ : ∃ x, (chgM M4 n4 s4 day4).1 = x := ⟨_, rfl⟩
  obtain ⟨cc, hcc⟩ : ∃ x, (chgM M4 n4 s4 day4).2 = x := ⟨_, rfl⟩
  have HEC := Lib.hid (show ∀ (e : Ending) (w1 w2 : World), RowPost2 46 6 ((chgM M4 n4 s4 day4).1).length (((chgM M4 n4 s4 day4).1).flatMap motionC) ((chgM M4 n4 s4 day4).2) w1 e w2 → RowPost2 46 6 C.length (C.flatMap motionC) cc w1 e w2 from fun e w1 w2 h => by rw [hC, hcc] at h; exact h)
  have fC := chgM_len M4 n4 s4 day4; rw [hC] at fC
  have F3 := Lib.hid (fun h => chgM_good (L := M4) (n := n4) (s := s4) (day := day4) h); have FW := Lib.hid (fun h => mots_W (L := C) h)
  rw [hcc, hC] at F3; clear hC hcc
  go_wp2_with fail
  refine (impl_ChangeMotion A4 c4 M4 n4 s4 day4 x4 HR4.out (by omega) hcpHR4.1 HW4.out).mono ?_
  intro e x5 he
  obtain ⟨A5, c5, rfl, ho5, hb5, hn5, hm5⟩ := HEC.out _ _ _ he
  clear he
  have hzx5 := hb5.size
  replace HR1 := Lib.hid (rdW hb5 HR1.out)
  replace HR2 := Lib.hid (rdW hb5 HR2.out)
  replace HR3 := Lib.hid (rdW hb5 HR3.out)
  replace HR4 := Lib.hid (rdW hb5 HR4.out)
  replace HB := Lib.hid (bt HB.out hb5)
  have HR5 := Lib.hid (Rd.of_own ho5); clear ho5
  go_wp2_with fail
  refine (spec_ChangeMotion A4 c4 M4 n4 s4 day4 x5 HR4.out (by omega) hcpHR4.1 HW4.out).mono ?_
  intro e x6 he
  obtain ⟨A6, c6, rfl, ho6, hb6, hn6, hm6⟩ := HEC.out _ _ _ he
  clear he
  have hzx6 := hb6.size
  replace HR1 := Lib.hid (rdW hb6 HR1.out)
  replace HR2 := Lib.hid (rdW hb6 HR2.out)
  replace HR3 := Lib.hid (rdW hb6 HR3.out)
  replace HR4 := Lib.hid (rdW hb6 HR4.out)
  replace HR5 := Lib.hid (rdW hb6 HR5.out)
  replace HB := Lib.hid (bt HB.out hb6)
  have HR6 := Lib.hid (Rd.of_own ho6); clear ho6
  go_wp2_with fail
  refine (DrawFileMotion_c A c L x6 (rdW HB.out HRB.out) HXB.out (by omega) hc).mono ?_
  rintro e x7 ⟨A7, c7, M7, p7, day7, af7, rfl, ⟨ho7, hl7, hW7⟩, hp7, hwf7, hbx7⟩
  have hzx7 := hbx7.size
  replace HR1 := Lib.hid (rdW hbx7 HR1.out)
  replace HR2 := Lib.hid (rdW hbx7 HR2.out)
  replace HR3 := Lib.hid (rdW hbx7 HR3.out)
  replace HR4 := Lib.hid (rdW hbx7 HR4.out)
  replace HR5 := Lib.hid (rdW hbx7 HR5.out)
  replace HR6 := Lib.hid (rdW hbx7 HR6.out)
  replace HB := Lib.hid (bt HB.out hbx7)
  have HR7 := Lib.hid (Rd.of_own ho7)
  have hcpHR7 := own_cap ho7; clear ho7
  have HW7 := Lib.hid hW7; clear hW7
  obtain ⟨F, hF⟩ : ∃ x, (fileM M7 p7 day7 af7).1 = x := ⟨_, rfl⟩
  obtain ⟨fc, hfc⟩ : ∃ x, (fileM M7 p7 day7 af7).2 = x := ⟨_, rfl⟩
  have HEF := Lib.hid (show ∀ (e : Ending) (w1 w2 : World), RowPost2 46 6 ((fileM M7 p7 day7 af7).1).length (((fileM M7 p7 day7 af7).1).flatMap motionC) ((fileM M7 p7 day7 af7).2) w1 e w2 → RowPost2 46 6 F.length (F.flatMap motionC) fc w1 e w2 from fun e w1 w2 h => by rw [hF, hfc] at h; exact h)
  have fF := fileM_len M7 p7 day7 af7; rw [hF] at fF
  have F4 := Lib.hid (fun h => law_file (L := M7) (p := p7) (day := day7) (after := af7) h); have F5 := Lib.hid (fun h => fileM_good (L := M7) (p := p7) (day := day7) (after := af7) h); have FW2 := Lib.hid (fun h => mots_W (L := F) h)
  rw [hfc, hF] at F4 F5; clear hF hfc
  go_wp2_with fail
  refine (impl_FileMotion A7 c7 M7 p7 day7 af7 x7 HR7.out (by omega) hcpHR7.1 HW7.out (by omega) hwf7).mono ?_
  intro e x8 he
  obtain ⟨A8, c8, rfl, ho8, hb8, hn8, hm8⟩ := HEF.out _ _ _ he
  clear he
  have hzx8 := hb8.size
  replace HR1 := Lib.hid (rdW hb8 HR1.out)
  replace HR2 := Lib.hid (rdW hb8 HR2.out)
  replace HR3 := Lib.hid (rdW hb8 HR3.out)
  replace HR4 := Lib.hid (rdW hb8 HR4.out)
  replace HR5 := Lib.hid (rdW hb8 HR5.out)
  replace HR6 := Lib.hid (rdW hb8 HR6.out)
  replace HR7 := Lib.hid (rdW hb8 HR7.out)
  replace HB := Lib.hid (bt HB.out hb8)
  have HR8 := Lib.hid (Rd.of_own ho8); clear ho8
  go_wp2_with fail
  refine (spec_FileMotion A7 c7 M7 p7 day7 af7 x8 HR7.out (by omega) hcpHR7.1 HW7.out (by omega) hwf7).mono ?_
  intro e x9 he
  obtain ⟨A9, c9, rfl, ho9, hb9, hn9, hm9⟩ := HEF.out _ _ _ he
  clear he
  have hzx9 := hb9.size
  replace HR1 := Lib.hid (rdW hb9 HR1.out)
  replace HR2 := Lib.hid (rdW hb9 HR2.out)
  replace HR3 := Lib.hid (rdW hb9 HR3.out)
  replace HR4 := Lib.hid (rdW hb9 HR4.out)
  replace HR5 := Lib.hid (rdW hb9 HR5.out)
  replace HR6 := Lib.hid (rdW hb9 HR6.out)
  replace HR7 := Lib.hid (rdW hb9 HR7.out)
  replace HR8 := Lib.hid (rdW hb9 HR8.out)
  replace HB := Lib.hid (bt HB.out hb9)
  have HR9 := Lib.hid (Rd.of_own ho9); clear ho9
  clear hwf7 hp7
  go_wp2_with fail
  refine (likeInts_c A2 A3 V.length c2 c3 V x9 rfl HR2.out HR3.out (by omega) hn2 hn3).mono ?_
  rintro e y1 ⟨rfl, hby1⟩
  have hzy1 := hby1.size
  replace HR1 := Lib.hid (rdW hby1 HR1.out)
  replace HR2 := Lib.hid (rdW hby1 HR2.out)
  replace HR3 := Lib.hid (rdW hby1 HR3.out)
  replace HR4 := Lib.hid (rdW hby1 HR4.out)
  replace HR5 := Lib.hid (rdW hby1 HR5.out)
  replace HR6 := Lib.hid (rdW hby1 HR6.out)
  replace HR7 := Lib.hid (rdW hby1 HR7.out)
  replace HR8 := Lib.hid (rdW hby1 HR8.out)
  replace HR9 := Lib.hid (rdW hby1 HR9.out)
  replace HB := Lib.hid (bt HB.out hby1)
  go_wp2_with fail
  refine (likeMotions_c A5 A6 C.length c5 c6 C y1 rfl HR5.out HR6.out (by omega)).mono ?_
  rintro e y2 ⟨rfl, hby2⟩
  have hzy2 := hby2.size
  replace HR1 := Lib.hid (rdW hby2 HR1.out)
  replace HR2 := Lib.hid (rdW hby2 HR2.out)
  replace HR3 := Lib.hid (rdW hby2 HR3.out)
  replace HR4 := Lib.hid (rdW hby2 HR4.out)
  replace HR5 := Lib.hid (rdW hby2 HR5.out)
  replace HR6 := Lib.hid (rdW hby2 HR6.out)
  replace HR7 := Lib.hid (rdW hby2 HR7.out)
  replace HR8 := Lib.hid (rdW hby2 HR8.out)
  replace HR9 := Lib.hid (rdW hby2 HR9.out)
  replace HB := Lib.hid (bt HB.out hby2)
  go_wp2_with fail
  refine (likeMotions_c A8 A9 F.length c8 c9 F y2 rfl HR8.out HR9.out (by omega)).mono ?_
  rintro e y3 ⟨rfl, hby3⟩
  have hzy3 := hby3.size
  replace HR1 := Lib.hid (rdW hby3 HR1.out)
  replace HR2 := Lib.hid (rdW hby3 HR2.out)
  replace HR3 := Lib.hid (rdW hby3 HR3.out)
  replace HR4 := Lib.hid (rdW hby3 HR4.out)
  replace HR5 := Lib.hid (rdW hby3 HR5.out)
  replace HR6 := Lib.hid (rdW hby3 HR6.out)
  replace HR7 := Lib.hid (rdW hby3 HR7.out)
  replace HR8 := Lib.hid (rdW hby3 HR8.out)
  replace HR9 := Lib.hid (rdW hby3 HR9.out)
  replace HB := Lib.hid (bt HB.out hby3)
  obtain ⟨b4, hb4⟩ : ∃ b, motsOk M4 = b := ⟨_, rfl⟩
  go_wp2_with fail
  refine (impl_AreMotions A4 c4 M4 b4 y3 HR4.out (by omega) hcpHR4.1 HW4.out hb4).mono ?_
  rintro e y4 ⟨rfl, hby4⟩
  have hzy4 := hby4.size
  replace HR1 := Lib.hid (rdW hby4 HR1.out)
  replace HR2 := Lib.hid (rdW hby4 HR2.out)
  replace HR3 := Lib.hid (rdW hby4 HR3.out)
  replace HR4 := Lib.hid (rdW hby4 HR4.out)
  replace HR5 := Lib.hid (rdW hby4 HR5.out)
  replace HR6 := Lib.hid (rdW hby4 HR6.out)
  replace HR7 := Lib.hid (rdW hby4 HR7.out)
  replace HR8 := Lib.hid (rdW hby4 HR8.out)
  replace HR9 := Lib.hid (rdW hby4 HR9.out)
  replace HB := Lib.hid (bt HB.out hby4)
  go_wp2_with fail
  refine (spec_AreMotions A4 c4 M4 b4 y4 HR4.out (by omega) hcpHR4.1 HW4.out hb4).mono ?_
  rintro e y5 ⟨rfl, hby5⟩
  have hzy5 := hby5.size
  replace HR1 := Lib.hid (rdW hby5 HR1.out)
  replace HR2 := Lib.hid (rdW hby5 HR2.out)
  replace HR3 := Lib.hid (rdW hby5 HR3.out)
  replace HR4 := Lib.hid (rdW hby5 HR4.out)
  replace HR5 := Lib.hid (rdW hby5 HR5.out)
  replace HR6 := Lib.hid (rdW hby5 HR6.out)
  replace HR7 := Lib.hid (rdW hby5 HR7.out)
  replace HR8 := Lib.hid (rdW hby5 HR8.out)
  replace HR9 := Lib.hid (rdW hby5 HR9.out)
  replace HB := Lib.hid (bt HB.out hby5)
  clear hb4
  clear HR3
  clear HR4
  clear HR6
  clear HR7
  clear HR9
  clear HW4 HW7 HEC HEF HEV
  by_cases hc0 : cc = 0
  · have hgood := F3.out hc0
    subst hc0
    have HWC := Lib.hid (FW.out hgood)
    go_wp2_with fail
    refine (impl_AreMotions A5 c5 C true y5 HR5.out (by omega) hn5 HWC.out hgood).mono ?_
    rintro e y6 ⟨rfl, hby6⟩
    have hzy6 := hby6.size
    replace HR1 := Lib.hid (rdW hby6 HR1.out)
    replace HR2 := Lib.hid (rdW hby6 HR2.out)
    replace HR5 := Lib.hid (rdW hby6 HR5.out)
    replace HR8 := Lib.hid (rdW hby6 HR8.out)
    replace HB := Lib.hid (bt HB.out hby6)
    clear hgood HWC FW F3
    by_cases hf : fc = 0
    · obtain ⟨q1, q2, kk, hkk, q3, q4⟩ := F4.out hf
      have FF := Lib.hid (F5.out hf)
      subst hf
      obtain ⟨P, hP⟩ : ∃ P, openFor F = P := ⟨_, rfl⟩
      have fP := openFor_len F
      have HEP := Lib.hid (show ∀ (e : Ending) (w1 w2 : World), RowPost2 2 1 (openFor F).length ((openFor F).map (Value.int .i64)) (openCode F) w1 e w2 → RowPost2 2 1 P.length (P.map (Value.int .i64)) 0 w1 e w2 from fun e w1 w2 h => by rw [hP, q1] at h; exact h)
      rw [hP] at q4 fP
      have Q2 : Hid (F.length = M7.length + 1) := q2
      have hq2 : (F.length : Int) ≤ (M7.length : Int) + 1 ∧ (M7.length : Int) + 1 ≤ (F.length : Int) := by omega
      have Q3 := Lib.hid q3
      have hq3 : (F.length : Int) ≤ (kk : Int) + 1 ∧ (kk : Int) + 1 ≤ (F.length : Int) := by omega
      clear hP q1 F4 F5 q2 q3
      go_wp2_with fail
      refine (impl_OpenMotions A8 c8 F y6 HR8.out (by omega) hn8 (FW2.out FF.out)).mono ?_
      intro e z1 he
      obtain ⟨A20, c20, rfl, ho20, hb20, hn20, hm20⟩ := HEP.out _ _ _ he
      clear he
      have hzz1 := hb20.size
      replace HR1 := Lib.hid (rdW hb20 HR1.out)
      replace HR2 := Lib.hid (rdW hb20 HR2.out)
      replace HR5 := Lib.hid (rdW hb20 HR5.out)
      replace HR8 := Lib.hid (rdW hb20 HR8.out)
      replace HB := Lib.hid (bt HB.out hb20)
      have HR20 := Lib.hid (Rd.of_own1 ho20); clear ho20
      obtain ⟨b, off, rfl, hb, hcell⟩ := Rd.elem motionC 6 (fun _ => rfl) HR8.out (by omega) hkk
      have g0 : z1.cell? ⟨b, off + kk * 6, none⟩ = some (.int .i64 F[kk].number) := hcell kk hkk 0 _ rfl
      have HM0 : Hid (F[kk].number ∈ P) := q4
      clear hcell q4
      generalize F[kk].number = xn at *
      have hdn : decide (xn ∈ P) = true := decide_eq_true HM0.out
      have hwk : IntKind.i64.wrap ((F.length : Int) - 1) = (kk : Int) := by rw [IntWalk.i64_in _ (by omega)]; omega
      have hkk0 : (0 : Int) ≤ (kk : Int) := by omega
      have hkk1 : (kk : Int) < (F.length : Int) := by omega
      have hwl : IntKind.i64.wrap ((M7.length : Int) + 1) = (F.length : Int) := by rw [IntWalk.i64_in _ (by omega)]; omega
      have hsub : (F.length : Int) - 1 = (kk : Int) := by omega
      have hadd : (M7.length : Int) + 1 = (F.length : Int) := by omega
      clear hq2 hq3
      go_wp2_with fail
      refine (hasInt_b A20 P.length c20 P xn true z1 rfl HR20.out (by omega) hn20 hdn).mono ?_
      rintro e z2 ⟨rfl, hb2⟩
      have hzz2 := hb2.size
      replace HR1 := Lib.hid (rdW hb2 HR1.out)
      replace HR2 := Lib.hid (rdW hb2 HR2.out)
      replace HB := Lib.hid (bt HB.out hb2)
      clear g0 hdn HR20 HEP hwk hsub hadd hwl
      by_cases hv : vc = 0
      · subst hv
        obtain ⟨o1, o2⟩ := F2.out rfl
        have O1 := Lib.hid o1; have O2 := Lib.hid o2
        have F1' := Lib.hid (fun (s : Int) => F1.out rfl s)
        clear o1 o2 F1 F2
        go_wp2
        go_loopw [28] (fun i wr => ∃ k : Nat, k ≤ 6 ∧ i = .int .i64 k ∧ Below z2.heap.size z2 wr) (fun i _ => 6 - (intOf i).toNat)
        case atStart => exact ⟨0, by omega, rfl, Below.refl _ _⟩
        case round =>
          obtain ⟨v0, rfl⟩ : ∃ v0, v0 = wr := ⟨_, rfl⟩
          obtain ⟨k, hk, rfl, hBr⟩ := hrel
          have hzv := hBr.size
          by_cases hlt : k < 6
          · have hk0 : (0 : Int) ≤ (k : Int) := by omega
            have hk6 : (k : Int) < 6 := by omega
            have hd := F1'.out (k : Int) hk0 hk6
            obtain ⟨q, hq⟩ : ∃ q, (chgM M n (k : Int) day).2 = q := ⟨_, rfl⟩
            rw [hq] at hd
            have HEK := Lib.hid (show ∀ (e : Ending) (w1 w2 : World), RowPost2 46 6 (chgM M n (k : Int) day).1.length ((chgM M n (k : Int) day).1.flatMap motionC) (chgM M n (k : Int) day).2 w1 e w2 → ∃ (v : Value), e = .returned (.tuple #[v, .int .i64 q]) ∧ Below w1.heap.size w1 w2 from fun e w1 w2 h => by rw [hq] at h; obtain ⟨A2, c2, h1, _, h2, _⟩ := h; exact ⟨_, h1, h2⟩)
            clear hq
            go_wp2_with fail
            refine (impl_ChangeMotion A1 c1 M n (k : Int) day v0 (rdW hBr HR1.out) (by omega) hcpHR1.1 HW1.out).mono ?_
            intro e v1 he
            obtain ⟨vv, rfl, hb1⟩ := HEK.out _ _ _ he
            clear he
            have hB1 := bt hBr hb1
            by_cases hq0 : q = 0
            · have hdt : decide ((k : Int) ∈ V) = true := by rw [hd, hq0]; rfl
              subst hq0
              go_wp2_with fail
              refine (hasInt_b A2 V.length c2 V (k : Int) true v1 rfl (rdW hB1 HR2.out) (by omega) hn2 hdt).mono ?_
              rintro e v2 ⟨rfl, hb2⟩
              go_wp2
              go_roundw
              case rel => exact ⟨k + 1, by omega, by go_num, bt hB1 hb2⟩
              case measure => simp [intOf]; omega
            · have hdt : decide ((k : Int) ∈ V) = false := by rw [hd]; exact decide_eq_false hq0
              go_wp2_with fail
              refine (hasInt_b A2 V.length c2 V (k : Int) false v1 rfl (rdW hB1 HR2.out) (by omega) hn2 hdt).mono ?_
              rintro e v2 ⟨rfl, hb2⟩
              go_wp2
              go_roundw
              case rel => exact ⟨k + 1, by omega, by go_num, bt hB1 hb2⟩
              case measure => simp [intOf]; omega
          · obtain rfl : k = 6 := by omega
            have hBw := bt HB.out hBr
            obtain ⟨P, hP⟩ : ∃ P, openFor M = P := ⟨_, rfl⟩
            have fP := openFor_len M
            have HEP := Lib.hid (show ∀ (e : Ending) (w1 w2 : World), RowPost2 2 1 (openFor M).length ((openFor M).map (Value.int .i64)) (openCode M) w1 e w2 → RowPost2 2 1 P.length (P.map (Value.int .i64)) 0 w1 e w2 from fun e w1 w2 h => by rw [hP, O1.out] at h; exact h)
            have o2 := O2.out
            rw [hP] at o2 fP
            have O3 := Lib.hid o2
            clear hP O2 o2
            go_wp2_with fail
            refine (impl_OpenMotions A1 c1 M v0 (rdW hBr HR1.out) (by omega) hcpHR1.1 HW1.out).mono ?_
            intro e v1 he
            obtain ⟨A20, c20, rfl, ho20, hb20, hn20, hm20⟩ := HEP.out _ _ _ he
            clear he
            have HR20 := Lib.hid (Rd.of_own1 ho20); clear ho20
            have hBw2 := bt hBw hb20
            by_cases hV0 : V.length = 0
            · obtain rfl : V = [] := List.length_eq_zero_iff.1 hV0
              clear hV0
              go_wp2
              go_ret
              exact ⟨ret_bool (by simp), hBw2⟩
            · have hdn : decide (n ∈ P) = true := decide_eq_true (O3.out.resolve_left hV0)
              have hVi : ¬ V = [] := fun e => hV0 (by rw [e]; rfl)
              have hVj : ¬ (V.length : Int) = 0 := by omega
              have hVk : (0 : Int) < (V.length : Int) := by omega
              go_wp2_with fail
              refine (hasInt_b A20 P.length c20 P n true v1 rfl HR20.out (by omega) hn20 hdn).mono ?_
              rintro e v2 ⟨rfl, hb2⟩
              go_wp2
              go_ret
              exact ⟨ret_bool (by simp), bt hBw2 hb2⟩
      · go_wp2
        go_ret
        exact ⟨rfl, HB.out⟩
    · clear F4 F5
      have hfb : (fc == 0) = false := beq_eq_false_iff_ne.2 hf
      have hfn : (fc != 0) = true := bne_iff_ne.2 hf
      by_cases hv : vc = 0
      · subst hv
        obtain ⟨o1, o2⟩ := F2.out rfl
        have O1 := Lib.hid o1; have O2 := Lib.hid o2
        have F1' := Lib.hid (fun (s : Int) => F1.out rfl s)
        clear o1 o2 F1 F2
        go_wp2
        go_loopw [28] (fun i wr => ∃ k : Nat, k ≤ 6 ∧ i = .int .i64 k ∧ Below y6.heap.size y6 wr) (fun i _ => 6 - (intOf i).toNat)
        case atStart => exact ⟨0, by omega, rfl, Below.refl _ _⟩
        case round =>
          obtain ⟨v0, rfl⟩ : ∃ v0, v0 = wr := ⟨_, rfl⟩
          obtain ⟨k, hk, rfl, hBr⟩ := hrel
          have hzv := hBr.size
          by_cases hlt : k < 6
          · have hk0 : (0 : Int) ≤ (k : Int) := by omega
            have hk6 : (k : Int) < 6 := by omega
            have hd := F1'.out (k : Int) hk0 hk6
            obtain ⟨q, hq⟩ : ∃ q, (chgM M n (k : Int) day).2 = q := ⟨_, rfl⟩
            rw [hq] at hd
            have HEK := Lib.hid (show ∀ (e : Ending) (w1 w2 : World), RowPost2 46 6 (chgM M n (k : Int) day).1.length ((chgM M n (k : Int) day).1.flatMap motionC) (chgM M n (k : Int) day).2 w1 e w2 → ∃ (v : Value), e = .returned (.tuple #[v, .int .i64 q]) ∧ Below w1.heap.size w1 w2 from fun e w1 w2 h => by rw [hq] at h; obtain ⟨A2, c2, h1, _, h2, _⟩ := h; exact ⟨_, h1, h2⟩)
            clear hq
            go_wp2_with fail
            refine (impl_ChangeMotion A1 c1 M n (k : Int) day v0 (rdW hBr HR1.out) (by omega) hcpHR1.1 HW1.out).mono ?_
            intro e v1 he
            obtain ⟨vv, rfl, hb1⟩ := HEK.out _ _ _ he
            clear he
            have hB1 := bt hBr hb1
            by_cases hq0 : q = 0
            · have hdt : decide ((k : Int) ∈ V) = true := by rw [hd, hq0]; rfl
              subst hq0
              go_wp2_with fail
              refine (hasInt_b A2 V.length c2 V (k : Int) true v1 rfl (rdW hB1 HR2.out) (by omega) hn2 hdt).mono ?_
              rintro e v2 ⟨rfl, hb2⟩
              go_wp2
              go_roundw
              case rel => exact ⟨k + 1, by omega, by go_num, bt hB1 hb2⟩
              case measure => simp [intOf]; omega
            · have hdt : decide ((k : Int) ∈ V) = false := by rw [hd]; exact decide_eq_false hq0
              go_wp2_with fail
              refine (hasInt_b A2 V.length c2 V (k : Int) false v1 rfl (rdW hB1 HR2.out) (by omega) hn2 hdt).mono ?_
              rintro e v2 ⟨rfl, hb2⟩
              go_wp2
              go_roundw
              case rel => exact ⟨k + 1, by omega, by go_num, bt hB1 hb2⟩
              case measure => simp [intOf]; omega
          · obtain rfl : k = 6 := by omega
            have hBw := bt HB.out hBr
            obtain ⟨P, hP⟩ : ∃ P, openFor M = P := ⟨_, rfl⟩
            have fP := openFor_len M
            have HEP := Lib.hid (show ∀ (e : Ending) (w1 w2 : World), RowPost2 2 1 (openFor M).length ((openFor M).map (Value.int .i64)) (openCode M) w1 e w2 → RowPost2 2 1 P.length (P.map (Value.int .i64)) 0 w1 e w2 from fun e w1 w2 h => by rw [hP, O1.out] at h; exact h)
            have o2 := O2.out
            rw [hP] at o2 fP
            have O3 := Lib.hid o2
            clear hP O2 o2
            go_wp2_with fail
            refine (impl_OpenMotions A1 c1 M v0 (rdW hBr HR1.out) (by omega) hcpHR1.1 HW1.out).mono ?_
            intro e v1 he
            obtain ⟨A20, c20, rfl, ho20, hb20, hn20, hm20⟩ := HEP.out _ _ _ he
            clear he
            have HR20 := Lib.hid (Rd.of_own1 ho20); clear ho20
            have hBw2 := bt hBw hb20
            by_cases hV0 : V.length = 0
            · obtain rfl : V = [] := List.length_eq_zero_iff.1 hV0
              clear hV0
              go_wp2
              go_ret
              exact ⟨ret_bool (by simp), hBw2⟩
            · have hdn : decide (n ∈ P) = true := decide_eq_true (O3.out.resolve_left hV0)
              have hVi : ¬ V = [] := fun e => hV0 (by rw [e]; rfl)
              have hVj : ¬ (V.length : Int) = 0 := by omega
              have hVk : (0 : Int) < (V.length : Int) := by omega
              go_wp2_with fail
              refine (hasInt_b A20 P.length c20 P n true v1 rfl HR20.out (by omega) hn20 hdn).mono ?_
              rintro e v2 ⟨rfl, hb2⟩
              go_wp2
              go_ret
              exact ⟨ret_bool (by simp), bt hBw2 hb2⟩
      · go_wp2
        go_ret
        exact ⟨rfl, HB.out⟩
  · clear FW F3
    have hcb : (cc == 0) = false := beq_eq_false_iff_ne.2 hc0
    have hcn : (cc != 0) = true := bne_iff_ne.2 hc0
    by_cases hf : fc = 0
    · obtain ⟨q1, q2, kk, hkk, q3, q4⟩ := F4.out hf
      have FF := Lib.hid (F5.out hf)
      subst hf
      obtain ⟨P, hP⟩ : ∃ P, openFor F = P := ⟨_, rfl⟩
      have fP := openFor_len F
      have HEP := Lib.hid (show ∀ (e : Ending) (w1 w2 : World), RowPost2 2 1 (openFor F).length ((openFor F).map (Value.int .i64)) (openCode F) w1 e w2 → RowPost2 2 1 P.length (P.map (Value.int .i64)) 0 w1 e w2 from fun e w1 w2 h => by rw [hP, q1] at h; exact h)
      rw [hP] at q4 fP
      have Q2 : Hid (F.length = M7.length + 1) := q2
      have hq2 : (F.length : Int) ≤ (M7.length : Int) + 1 ∧ (M7.length : Int) + 1 ≤ (F.length : Int) := by omega
      have Q3 := Lib.hid q3
      have hq3 : (F.length : Int) ≤ (kk : Int) + 1 ∧ (kk : Int) + 1 ≤ (F.length : Int) := by omega
      clear hP q1 F4 F5 q2 q3
      go_wp2_with fail
      refine (impl_OpenMotions A8 c8 F y5 HR8.out (by omega) hn8 (FW2.out FF.out)).mono ?_
      intro e z1 he
      obtain ⟨A20, c20, rfl, ho20, hb20, hn20, hm20⟩ := HEP.out _ _ _ he
      clear he
      have hzz1 := hb20.size
      replace HR1 := Lib.hid (rdW hb20 HR1.out)
      replace HR2 := Lib.hid (rdW hb20 HR2.out)
      replace HR5 := Lib.hid (rdW hb20 HR5.out)
      replace HR8 := Lib.hid (rdW hb20 HR8.out)
      replace HB := Lib.hid (bt HB.out hb20)
      have HR20 := Lib.hid (Rd.of_own1 ho20); clear ho20
      obtain ⟨b, off, rfl, hb, hcell⟩ := Rd.elem motionC 6 (fun _ => rfl) HR8.out (by omega) hkk
      have g0 : z1.cell? ⟨b, off + kk * 6, none⟩ = some (.int .i64 F[kk].number) := hcell kk hkk 0 _ rfl
      have HM0 : Hid (F[kk].number ∈ P) := q4
      clear hcell q4
      generalize F[kk].number = xn at *
      have hdn : decide (xn ∈ P) = true := decide_eq_true HM0.out
      have hwk : IntKind.i64.wrap ((F.length : Int) - 1) = (kk : Int) := by rw [IntWalk.i64_in _ (by omega)]; omega
      have hkk0 : (0 : Int) ≤ (kk : Int) := by omega
      have hkk1 : (kk : Int) < (F.length : Int) := by omega
      have hwl : IntKind.i64.wrap ((M7.length : Int) + 1) = (F.length : Int) := by rw [IntWalk.i64_in _ (by omega)]; omega
      have hsub : (F.length : Int) - 1 = (kk : Int) := by omega
      have hadd : (M7.length : Int) + 1 = (F.length : Int) := by omega
      clear hq2 hq3
      go_wp2_with fail
      refine (hasInt_b A20 P.length c20 P xn true z1 rfl HR20.out (by omega) hn20 hdn).mono ?_
      rintro e z2 ⟨rfl, hb2⟩
      have hzz2 := hb2.size
      replace HR1 := Lib.hid (rdW hb2 HR1.out)
      replace HR2 := Lib.hid (rdW hb2 HR2.out)
      replace HB := Lib.hid (bt HB.out hb2)
      clear g0 hdn HR20 HEP hwk hsub hadd hwl
      by_cases hv : vc = 0
      · subst hv
        obtain ⟨o1, o2⟩ := F2.out rfl
        have O1 := Lib.hid o1; have O2 := Lib.hid o2
        have F1' := Lib.hid (fun (s : Int) => F1.out rfl s)
        clear o1 o2 F1 F2
        go_wp2
        go_loopw [28] (fun i wr => ∃ k : Nat, k ≤ 6 ∧ i = .int .i64 k ∧ Below z2.heap.size z2 wr) (fun i _ => 6 - (intOf i).toNat)
        case atStart => exact ⟨0, by omega, rfl, Below.refl _ _⟩
        case round =>
          obtain ⟨v0, rfl⟩ : ∃ v0, v0 = wr := ⟨_, rfl⟩
          obtain ⟨k, hk, rfl, hBr⟩ := hrel
          have hzv := hBr.size
          by_cases hlt : k < 6
          · have hk0 : (0 : Int) ≤ (k : Int) := by omega
            have hk6 : (k : Int) < 6 := by omega
            have hd := F1'.out (k : Int) hk0 hk6
            obtain ⟨q, hq⟩ : ∃ q, (chgM M n (k : Int) day).2 = q := ⟨_, rfl⟩
            rw [hq] at hd
            have HEK := Lib.hid (show ∀ (e : Ending) (w1 w2 : World), RowPost2 46 6 (chgM M n (k : Int) day).1.length ((chgM M n (k : Int) day).1.flatMap motionC) (chgM M n (k : Int) day).2 w1 e w2 → ∃ (v : Value), e = .returned (.tuple #[v, .int .i64 q]) ∧ Below w1.heap.size w1 w2 from fun e w1 w2 h => by rw [hq] at h; obtain ⟨A2, c2, h1, _, h2, _⟩ := h; exact ⟨_, h1, h2⟩)
            clear hq
            go_wp2_with fail
            refine (impl_ChangeMotion A1 c1 M n (k : Int) day v0 (rdW hBr HR1.out) (by omega) hcpHR1.1 HW1.out).mono ?_
            intro e v1 he
            obtain ⟨vv, rfl, hb1⟩ := HEK.out _ _ _ he
            clear he
            have hB1 := bt hBr hb1
            by_cases hq0 : q = 0
            · have hdt : decide ((k : Int) ∈ V) = true := by rw [hd, hq0]; rfl
              subst hq0
              go_wp2_with fail
              refine (hasInt_b A2 V.length c2 V (k : Int) true v1 rfl (rdW hB1 HR2.out) (by omega) hn2 hdt).mono ?_
              rintro e v2 ⟨rfl, hb2⟩
              go_wp2
              go_roundw
              case rel => exact ⟨k + 1, by omega, by go_num, bt hB1 hb2⟩
              case measure => simp [intOf]; omega
            · have hdt : decide ((k : Int) ∈ V) = false := by rw [hd]; exact decide_eq_false hq0
              go_wp2_with fail
              refine (hasInt_b A2 V.length c2 V (k : Int) false v1 rfl (rdW hB1 HR2.out) (by omega) hn2 hdt).mono ?_
              rintro e v2 ⟨rfl, hb2⟩
              go_wp2
              go_roundw
              case rel => exact ⟨k + 1, by omega, by go_num, bt hB1 hb2⟩
              case measure => simp [intOf]; omega
          · obtain rfl : k = 6 := by omega
            have hBw := bt HB.out hBr
            obtain ⟨P, hP⟩ : ∃ P, openFor M = P := ⟨_, rfl⟩
            have fP := openFor_len M
            have HEP := Lib.hid (show ∀ (e : Ending) (w1 w2 : World), RowPost2 2 1 (openFor M).length ((openFor M).map (Value.int .i64)) (openCode M) w1 e w2 → RowPost2 2 1 P.length (P.map (Value.int .i64)) 0 w1 e w2 from fun e w1 w2 h => by rw [hP, O1.out] at h; exact h)
            have o2 := O2.out
            rw [hP] at o2 fP
            have O3 := Lib.hid o2
            clear hP O2 o2
            go_wp2_with fail
            refine (impl_OpenMotions A1 c1 M v0 (rdW hBr HR1.out) (by omega) hcpHR1.1 HW1.out).mono ?_
            intro e v1 he
            obtain ⟨A20, c20, rfl, ho20, hb20, hn20, hm20⟩ := HEP.out _ _ _ he
            clear he
            have HR20 := Lib.hid (Rd.of_own1 ho20); clear ho20
            have hBw2 := bt hBw hb20
            by_cases hV0 : V.length = 0
            · obtain rfl : V = [] := List.length_eq_zero_iff.1 hV0
              clear hV0
              go_wp2
              go_ret
              exact ⟨ret_bool (by simp), hBw2⟩
            · have hdn : decide (n ∈ P) = true := decide_eq_true (O3.out.resolve_left hV0)
              have hVi : ¬ V = [] := fun e => hV0 (by rw [e]; rfl)
              have hVj : ¬ (V.length : Int) = 0 := by omega
              have hVk : (0 : Int) < (V.length : Int) := by omega
              go_wp2_with fail
              refine (hasInt_b A20 P.length c20 P n true v1 rfl HR20.out (by omega) hn20 hdn).mono ?_
              rintro e v2 ⟨rfl, hb2⟩
              go_wp2
              go_ret
              exact ⟨ret_bool (by simp), bt hBw2 hb2⟩
      · go_wp2
        go_ret
        exact ⟨rfl, HB.out⟩
    · clear F4 F5
      have hfb : (fc == 0) = false := beq_eq_false_iff_ne.2 hf
      have hfn : (fc != 0) = true := bne_iff_ne.2 hf
      by_cases hv : vc = 0
      · subst hv
        obtain ⟨o1, o2⟩ := F2.out rfl
        have O1 := Lib.hid o1; have O2 := Lib.hid o2
        have F1' := Lib.hid (fun (s : Int) => F1.out rfl s)
        clear o1 o2 F1 F2
        go_wp2
        go_loopw [28] (fun i wr => ∃ k : Nat, k ≤ 6 ∧ i = .int .i64 k ∧ Below y5.heap.size y5 wr) (fun i _ => 6 - (intOf i).toNat)
        case atStart => exact ⟨0, by omega, rfl, Below.refl _ _⟩
        case round =>
          obtain ⟨v0, rfl⟩ : ∃ v0, v0 = wr := ⟨_, rfl⟩
          obtain ⟨k, hk, rfl, hBr⟩ := hrel
          have hzv := hBr.size
          by_cases hlt : k < 6
          · have hk0 : (0 : Int) ≤ (k : Int) := by omega
            have hk6 : (k : Int) < 6 := by omega
            have hd := F1'.out (k : Int) hk0 hk6
            obtain ⟨q, hq⟩ : ∃ q, (chgM M n (k : Int) day).2 = q := ⟨_, rfl⟩
            rw [hq] at hd
            have HEK := Lib.hid (show ∀ (e : Ending) (w1 w2 : World), RowPost2 46 6 (chgM M n (k : Int) day).1.length ((chgM M n (k : Int) day).1.flatMap motionC) (chgM M n (k : Int) day).2 w1 e w2 → ∃ (v : Value), e = .returned (.tuple #[v, .int .i64 q]) ∧ Below w1.heap.size w1 w2 from fun e w1 w2 h => by rw [hq] at h; obtain ⟨A2, c2, h1, _, h2, _⟩ := h; exact ⟨_, h1, h2⟩)
            clear hq
            go_wp2_with fail
            refine (impl_ChangeMotion A1 c1 M n (k : Int) day v0 (rdW hBr HR1.out) (by omega) hcpHR1.1 HW1.out).mono ?_
            intro e v1 he
            obtain ⟨vv, rfl, hb1⟩ := HEK.out _ _ _ he
            clear he
            have hB1 := bt hBr hb1
            by_cases hq0 : q = 0
            · have hdt : decide ((k : Int) ∈ V) = true := by rw [hd, hq0]; rfl
              subst hq0
              go_wp2_with fail
              refine (hasInt_b A2 V.length c2 V (k : Int) true v1 rfl (rdW hB1 HR2.out) (by omega) hn2 hdt).mono ?_
              rintro e v2 ⟨rfl, hb2⟩
              go_wp2
              go_roundw
              case rel => exact ⟨k + 1, by omega, by go_num, bt hB1 hb2⟩
              case measure => simp [intOf]; omega
            · have hdt : decide ((k : Int) ∈ V) = false := by rw [hd]; exact decide_eq_false hq0
              go_wp2_with fail
              refine (hasInt_b A2 V.length c2 V (k : Int) false v1 rfl (rdW hB1 HR2.out) (by omega) hn2 hdt).mono ?_
              rintro e v2 ⟨rfl, hb2⟩
              go_wp2
              go_roundw
              case rel => exact ⟨k + 1, by omega, by go_num, bt hB1 hb2⟩
              case measure => simp [intOf]; omega
          · obtain rfl : k = 6 := by omega
            have hBw := bt HB.out hBr
            obtain ⟨P, hP⟩ : ∃ P, openFor M = P := ⟨_, rfl⟩
            have fP := openFor_len M
            have HEP := Lib.hid (show ∀ (e : Ending) (w1 w2 : World), RowPost2 2 1 (openFor M).length ((openFor M).map (Value.int .i64)) (openCode M) w1 e w2 → RowPost2 2 1 P.length (P.map (Value.int .i64)) 0 w1 e w2 from fun e w1 w2 h => by rw [hP, O1.out] at h; exact h)
            have o2 := O2.out
            rw [hP] at o2 fP
            have O3 := Lib.hid o2
            clear hP O2 o2
            go_wp2_with fail
            refine (impl_OpenMotions A1 c1 M v0 (rdW hBr HR1.out) (by omega) hcpHR1.1 HW1.out).mono ?_
            intro e v1 he
            obtain ⟨A20, c20, rfl, ho20, hb20, hn20, hm20⟩ := HEP.out _ _ _ he
            clear he
            have HR20 := Lib.hid (Rd.of_own1 ho20); clear ho20
            have hBw2 := bt hBw hb20
            by_cases hV0 : V.length = 0
            · obtain rfl : V = [] := List.length_eq_zero_iff.1 hV0
              clear hV0
              go_wp2
              go_ret
              exact ⟨ret_bool (by simp), hBw2⟩
            · have hdn : decide (n ∈ P) = true := decide_eq_true (O3.out.resolve_left hV0)
              have hVi : ¬ V = [] := fun e => hV0 (by rw [e]; rfl)
              have hVj : ¬ (V.length : Int) = 0 := by omega
              have hVk : (0 : Int) < (V.length : Int) := by omega
              go_wp2_with fail
              refine (hasInt_b A20 P.length c20 P n true v1 rfl HR20.out (by omega) hn20 hdn).mono ?_
              rintro e v2 ⟨rfl, hb2⟩
              go_wp2
              go_ret
              exact ⟨ret_bool (by simp), bt hBw2 hb2⟩
      · go_wp2
        go_ret
        exact ⟨rfl, HB.out⟩
end Go.Proofs.Ytdohegpbdlcnjaa
