/- The walk of the law FnAppeals: it returns true, and nothing that was there is changed. -/
import Derived.Test.YtdohegpbdlcnjaaAppGood
import Derived.Test.YtdohegpbdlcnjaaLikeA
import Derived.Test.YtdohegpbdlcnjaaDrawA3
import Derived.Deep.DeepCutAuto
namespace Go.Proofs.Ytdohegpbdlcnjaa
open Go.RowKit
set_option linter.unusedVariables false
theorem big_c (A : Option Addr) (n c : Nat) (b : Bool) (w : World) (hn : n ≤ 9223372036854775807) (h : decide (4096 < n) = b) : Calls Try.prog 7 #[.slice A n c] w fun e w' => e = .returned (.bool b) ∧ w = w' := by
  subst h
  by_cases h : 4096 < n
  · have h2 : (4096 : Int) < (n : Int) := by omega
    go_enter Try.func7, Try.ntmps7
    go_wp2
    go_ret
    exact ⟨by simp [h], rfl⟩
  · have h2 : ¬ (4096 : Int) < (n : Int) := by omega
    go_enter Try.func7, Try.ntmps7
    go_wp2
    go_ret
    exact ⟨by simp, rfl⟩
set_option maxRecDepth 100000 in
set_option maxHeartbeats 8000000 in
theorem law_FnAppeals (A : Option Addr) (c : Nat) (L : List Int) (w : World) (hr : Rd w w.heap.size A L.length (L.map (Value.int .u8))) (hl : L.length ≤ maxLen) (hx : ∀ x ∈ L, 0 ≤ x ∧ x ≤ 255) (hc : L.length ≤ c) :
    Calls Try.prog 5 #[.slice A L.length c] w fun e w' => e = .returned (.bool true) ∧ Below w.heap.size w w' := by
  unfold maxLen at hl
  have HRB := Lib.hid hr; have HXB := Lib.hid hx; clear hr hx
  by_cases hbig : 4096 < L.length
  · go_enter Try.func5, Try.ntmps5
    go_wp2_with fail
    refine (big_c A L.length c true w (by omega) (by simp [hbig])).mono ?_
    rintro e w' ⟨rfl, rfl⟩
    go_wp2
    go_ret
    exact ⟨rfl, Below.refl _ _⟩
  go_enter Try.func5, Try.ntmps5
  go_wp2_with fail
  refine (big_c A L.length c false w (by omega) (by simp; omega)).mono ?_
  rintro e w0 ⟨rfl, rfl⟩
  have HB := Lib.hid (Below.refl w.heap.size w)
  go_wp2_with fail
  refine (DrawFileAppeal_c A c L w HRB.out HXB.out (by omega) hc).mono ?_
  rintro e x1 ⟨AH1, cH1, H1, J1, A1, c1, D1, day1, rfl, hoH, hoD, hlH1, hlD1, hBD, hbx1⟩
  have hzx1 := hbx1.size
  replace HB := Lib.hid (bt HB.out hbx1)
  have HH1 := Lib.hid (Rd.of_own1 hoH); have HD1 := Lib.hid (Rd.of_own hoD); have hcH1 := own_cap hoH; have hcD1 := own_cap hoD; clear hoH hoD hBD
  obtain ⟨F, hF⟩ : ∃ x, (fileR H1 J1 D1 day1).1 = x := ⟨_, rfl⟩
  obtain ⟨fc, hfc⟩ : ∃ x, (fileR H1 J1 D1 day1).2 = x := ⟨_, rfl⟩
  have HEF := Lib.hid (show ∀ (e : Ending) (w1 w2 : World), RowPost2 64 5 ((fileR H1 J1 D1 day1).1).length (((fileR H1 J1 D1 day1).1).flatMap appealC) ((fileR H1 J1 D1 day1).2) w1 e w2 → RowPost2 64 5 F.length (F.flatMap appealC) fc w1 e w2 from fun e w1 w2 h => by rw [hF, hfc] at h; exact h)
  obtain ⟨d, hd⟩ : ∃ x, (dlFor H1 J1 D1).1 = x := ⟨_, rfl⟩
  obtain ⟨one, hone⟩ : ∃ x, (dlFor H1 J1 D1).2 = x := ⟨_, rfl⟩
  have fF := fileR_len H1 J1 D1 day1
  have G3 := Lib.hid (fun h => fileR_good (H := H1) (J := J1) (L := D1) (day := day1) h)
  have G4 := Lib.hid (fun h h2 => file_late (H := H1) (J := J1) (L := D1) h h2)
  have G5 := Lib.hid (fun h => dead_last (H := H1) (J := J1) (L := D1) h)
  rw [hF] at fF; rw [hF, hfc, hd] at G3; rw [hd, hone] at G4 G5
  have HDI := Lib.hid (show ∀ (W : World) a b, Calls Try.prog 36 #[.slice AH1 H1.length cH1, .int .i64 J1, .slice A1 D1.length c1] W (fun e w2 => e = .returned (.tuple #[.int .i64 d, .int .i64 one]) ∧ Below W.heap.size W w2) from fun W a b => by rw [← hd, ← hone]; exact impl_DeadlineFor AH1 cH1 H1 J1 A1 c1 D1 W a (by omega) hcH1.1 b (by omega) hcD1.1)
  have HDS := Lib.hid (show ∀ (W : World) a b, Calls Try.prog 37 #[.slice AH1 H1.length cH1, .int .i64 J1, .slice A1 D1.length c1] W (fun e w2 => e = .returned (.tuple #[.int .i64 d, .int .i64 one]) ∧ Below W.heap.size W w2) from fun W a b => by rw [← hd, ← hone]; exact spec_DeadlineFor AH1 cH1 H1 J1 A1 c1 D1 W a (by omega) hcH1.1 b (by omega) hcD1.1)
  clear hF hfc hd hone
  go_wp2_with fail
  refine (impl_FileAppeal AH1 cH1 H1 J1 A1 c1 D1 day1 x1 HH1.out (by omega) hcH1.1 HD1.out (by omega) hcD1.1).mono ?_
  intro e x2 he
  obtain ⟨A2, c2, rfl, ho2, hb2, hn2, hm2⟩ := HEF.out _ _ _ he
  clear he
  have hzx2 := hb2.size
  replace HH1 := Lib.hid (rdW hb2 HH1.out)
  replace HD1 := Lib.hid (rdW hb2 HD1.out)
  replace HB := Lib.hid (bt HB.out hb2)
  have HR2 := Lib.hid (Rd.of_own ho2); clear ho2
  go_wp2_with fail
  refine (spec_FileAppeal AH1 cH1 H1 J1 A1 c1 D1 day1 x2 HH1.out (by omega) hcH1.1 HD1.out (by omega) hcD1.1).mono ?_
  intro e x3 he
  obtain ⟨A3, c3, rfl, ho3, hb3, hn3, hm3⟩ := HEF.out _ _ _ he
  clear he
  have hzx3 := hb3.size
  replace HH1 := Lib.hid (rdW hb3 HH1.out)
  replace HD1 := Lib.hid (rdW hb3 HD1.out)
  replace HR2 := Lib.hid (rdW hb3 HR2.out)
  replace HB := Lib.hid (bt HB.out hb3)
  have HR3 := Lib.hid (Rd.of_own ho3); clear ho3
  go_wp2_with fail
  refine (HDI.out x3 HH1.out HD1.out).mono ?_
  rintro e x4 ⟨rfl, hbx4⟩
  have hzx4 := hbx4.size
  replace HH1 := Lib.hid (rdW hbx4 HH1.out)
  replace HD1 := Lib.hid (rdW hbx4 HD1.out)
  replace HR2 := Lib.hid (rdW hbx4 HR2.out)
  replace HR3 := Lib.hid (rdW hbx4 HR3.out)
  replace HB := Lib.hid (bt HB.out hbx4)
  go_wp2_with fail
  refine (HDS.out x4 HH1.out HD1.out).mono ?_
  rintro e x5 ⟨rfl, hbx5⟩
  have hzx5 := hbx5.size
  replace HH1 := Lib.hid (rdW hbx5 HH1.out)
  replace HD1 := Lib.hid (rdW hbx5 HD1.out)
  replace HR2 := Lib.hid (rdW hbx5 HR2.out)
  replace HR3 := Lib.hid (rdW hbx5 HR3.out)
  replace HB := Lib.hid (bt HB.out hbx5)
  go_wp2_with fail
  refine (DrawReplyAppeal_c A c L x5 (rdW HB.out HRB.out) HXB.out (by omega) hc).mono ?_
  rintro e x6 ⟨AH6, cH6, H6, J6, A6, c6, D6, day6, rfl, hoH, hoD, hlH6, hlD6, hBD, hbx6⟩
  have hzx6 := hbx6.size
  replace HH1 := Lib.hid (rdW hbx6 HH1.out)
  replace HD1 := Lib.hid (rdW hbx6 HD1.out)
  replace HR2 := Lib.hid (rdW hbx6 HR2.out)
  replace HR3 := Lib.hid (rdW hbx6 HR3.out)
  replace HB := Lib.hid (bt HB.out hbx6)
  have HH6 := Lib.hid (Rd.of_own1 hoH); have HD6 := Lib.hid (Rd.of_own hoD); have hcH6 := own_cap hoH; have hcD6 := own_cap hoD; clear hoH hoD hBD
  obtain ⟨R, hR⟩ : ∃ x, (replyR H6 J6 D6 day6).1 = x := ⟨_, rfl⟩
  obtain ⟨rc, hrc⟩ : ∃ x, (replyR H6 J6 D6 day6).2 = x := ⟨_, rfl⟩
  have HER := Lib.hid (show ∀ (e : Ending) (w1 w2 : World), RowPost2 64 5 ((replyR H6 J6 D6 day6).1).length (((replyR H6 J6 D6 day6).1).flatMap appealC) ((replyR H6 J6 D6 day6).2) w1 e w2 → RowPost2 64 5 R.length (R.flatMap appealC) rc w1 e w2 from fun e w1 w2 h => by rw [hR, hrc] at h; exact h)
  have fR := replyR_len H6 J6 D6 day6
  have G1 := Lib.hid (fun h => replyR_good (H := H6) (J := J6) (L := D6) (day := day6) h)
  rw [hR] at fR; rw [hR, hrc] at G1; clear hR hrc
  go_wp2_with fail
  refine (impl_ReplyAppeal AH6 cH6 H6 J6 A6 c6 D6 day6 x6 HH6.out (by omega) hcH6.1 HD6.out (by omega) hcD6.1).mono ?_
  intro e x7 he
  obtain ⟨A7, c7, rfl, ho7, hb7, hn7, hm7⟩ := HER.out _ _ _ he
  clear he
  have hzx7 := hb7.size
  replace HH1 := Lib.hid (rdW hb7 HH1.out)
  replace HD1 := Lib.hid (rdW hb7 HD1.out)
  replace HR2 := Lib.hid (rdW hb7 HR2.out)
  replace HR3 := Lib.hid (rdW hb7 HR3.out)
  replace HH6 := Lib.hid (rdW hb7 HH6.out)
  replace HD6 := Lib.hid (rdW hb7 HD6.out)
  replace HB := Lib.hid (bt HB.out hb7)
  have HR7 := Lib.hid (Rd.of_own ho7); clear ho7
  go_wp2_with fail
  refine (spec_ReplyAppeal AH6 cH6 H6 J6 A6 c6 D6 day6 x7 HH6.out (by omega) hcH6.1 HD6.out (by omega) hcD6.1).mono ?_
  intro e x8 he
  obtain ⟨A8, c8, rfl, ho8, hb8, hn8, hm8⟩ := HER.out _ _ _ he
  clear he
  have hzx8 := hb8.size
  replace HH1 := Lib.hid (rdW hb8 HH1.out)
  replace HD1 := Lib.hid (rdW hb8 HD1.out)
  replace HR2 := Lib.hid (rdW hb8 HR2.out)
  replace HR3 := Lib.hid (rdW hb8 HR3.out)
  replace HH6 := Lib.hid (rdW hb8 HH6.out)
  replace HD6 := Lib.hid (rdW hb8 HD6.out)
  replace HR7 := Lib.hid (rdW hb8 HR7.out)
  replace HB := Lib.hid (bt HB.out hb8)
  have HR8 := Lib.hid (Rd.of_own ho8); clear ho8
  go_wp2_with fail
  refine (DrawDecideAppeal_c A c L x8 (rdW HB.out HRB.out) HXB.out (by omega) hc).mono ?_
  rintro e x9 ⟨AH9, cH9, H9, J9, A9, c9, D9, res9, day9, rfl, hoH, hoD, hlH9, hlD9, hBD, hbx9⟩
  have hzx9 := hbx9.size
  replace HH1 := Lib.hid (rdW hbx9 HH1.out)
  replace HD1 := Lib.hid (rdW hbx9 HD1.out)
  replace HR2 := Lib.hid (rdW hbx9 HR2.out)
  replace HR3 := Lib.hid (rdW hbx9 HR3.out)
  replace HH6 := Lib.hid (rdW hbx9 HH6.out)
  replace HD6 := Lib.hid (rdW hbx9 HD6.out)
  replace HR7 := Lib.hid (rdW hbx9 HR7.out)
  replace HR8 := Lib.hid (rdW hbx9 HR8.out)
  replace HB := Lib.hid (bt HB.out hbx9)
  have HH9 := Lib.hid (Rd.of_own1 hoH); have HD9 := Lib.hid (Rd.of_own hoD); have hcH9 := own_cap hoH; have hcD9 := own_cap hoD; clear hoH hoD hBD
  obtain ⟨E, hE⟩ : ∃ x, (decR H9 J9 D9 res9 day9).1 = x := ⟨_, rfl⟩
  obtain ⟨ec, hec⟩ : ∃ x, (decR H9 J9 D9 res9 day9).2 = x := ⟨_, rfl⟩
  have HEE := Lib.hid (show ∀ (e : Ending) (w1 w2 : World), RowPost2 64 5 ((decR H9 J9 D9 res9 day9).1).length (((decR H9 J9 D9 res9 day9).1).flatMap appealC) ((decR H9 J9 D9 res9 day9).2) w1 e w2 → RowPost2 64 5 E.length (E.flatMap appealC) ec w1 e w2 from fun e w1 w2 h => by rw [hE, hec] at h; exact h)
  have fE := decR_len H9 J9 D9 res9 day9
  have G2 := Lib.hid (fun h => decR_good (H := H9) (J := J9) (L := D9) (res := res9) (day := day9) h)
  rw [hE] at fE; rw [hE, hec] at G2; clear hE hec
  go_wp2_with fail
  refine (impl_DecideAppeal AH9 cH9 H9 J9 A9 c9 D9 res9 day9 x9 HH9.out (by omega) hcH9.1 HD9.out (by omega) hcD9.1).mono ?_
  intro e x10 he
  obtain ⟨A10, c10, rfl, ho10, hb10, hn10, hm10⟩ := HEE.out _ _ _ he
  clear he
  have hzx10 := hb10.size
  replace HH1 := Lib.hid (rdW hb10 HH1.out)
  replace HD1 := Lib.hid (rdW hb10 HD1.out)
  replace HR2 := Lib.hid (rdW hb10 HR2.out)
  replace HR3 := Lib.hid (rdW hb10 HR3.out)
  replace HH6 := Lib.hid (rdW hb10 HH6.out)
  replace HD6 := Lib.hid (rdW hb10 HD6.out)
  replace HR7 := Lib.hid (rdW hb10 HR7.out)
  replace HR8 := Lib.hid (rdW hb10 HR8.out)
  replace HH9 := Lib.hid (rdW hb10 HH9.out)
  replace HD9 := Lib.hid (rdW hb10 HD9.out)
  replace HB := Lib.hid (bt HB.out hb10)
  have HR10 := Lib.hid (Rd.of_own ho10); clear ho10
  go_wp2_with fail
  refine (spec_DecideAppeal AH9 cH9 H9 J9 A9 c9 D9 res9 day9 x10 HH9.out (by omega) hcH9.1 HD9.out (by omega) hcD9.1).mono ?_
  intro e x11 he
  obtain ⟨A11, c11, rfl, ho11, hb11, hn11, hm11⟩ := HEE.out _ _ _ he
  clear he
  have hzx11 := hb11.size
  replace HH1 := Lib.hid (rdW hb11 HH1.out)
  replace HD1 := Lib.hid (rdW hb11 HD1.out)
  replace HR2 := Lib.hid (rdW hb11 HR2.out)
  replace HR3 := Lib.hid (rdW hb11 HR3.out)
  replace HH6 := Lib.hid (rdW hb11 HH6.out)
  replace HD6 := Lib.hid (rdW hb11 HD6.out)
  replace HR7 := Lib.hid (rdW hb11 HR7.out)
  replace HR8 := Lib.hid (rdW hb11 HR8.out)
  replace HH9 := Lib.hid (rdW hb11 HH9.out)
  replace HD9 := Lib.hid (rdW hb11 HD9.out)
  replace HR10 := Lib.hid (rdW hb11 HR10.out)
  replace HB := Lib.hid (bt HB.out hb11)
  have HR11 := Lib.hid (Rd.of_own ho11); clear ho11
  go_wp2_with fail
  refine (likeAppeals_c A2 A3 F.length c2 c3 F x11 rfl HR2.out HR3.out (by omega)).mono ?_
  rintro e y1 ⟨rfl, hby1⟩
  have hzy1 := hby1.size
  replace HH1 := Lib.hid (rdW hby1 HH1.out)
  replace HD1 := Lib.hid (rdW hby1 HD1.out)
  replace HR2 := Lib.hid (rdW hby1 HR2.out)
  replace HR3 := Lib.hid (rdW hby1 HR3.out)
  replace HH6 := Lib.hid (rdW hby1 HH6.out)
  replace HD6 := Lib.hid (rdW hby1 HD6.out)
  replace HR7 := Lib.hid (rdW hby1 HR7.out)
  replace HR8 := Lib.hid (rdW hby1 HR8.out)
  replace HH9 := Lib.hid (rdW hby1 HH9.out)
  replace HD9 := Lib.hid (rdW hby1 HD9.out)
  replace HR10 := Lib.hid (rdW hby1 HR10.out)
  replace HR11 := Lib.hid (rdW hby1 HR11.out)
  replace HB := Lib.hid (bt HB.out hby1)
  go_wp2_with fail
  refine (likeAppeals_c A7 A8 R.length c7 c8 R y1 rfl HR7.out HR8.out (by omega)).mono ?_
  rintro e y2 ⟨rfl, hby2⟩
  have hzy2 := hby2.size
  replace HH1 := Lib.hid (rdW hby2 HH1.out)
  replace HD1 := Lib.hid (rdW hby2 HD1.out)
  replace HR2 := Lib.hid (rdW hby2 HR2.out)
  replace HR3 := Lib.hid (rdW hby2 HR3.out)
  replace HH6 := Lib.hid (rdW hby2 HH6.out)
  replace HD6 := Lib.hid (rdW hby2 HD6.out)
  replace HR7 := Lib.hid (rdW hby2 HR7.out)
  replace HR8 := Lib.hid (rdW hby2 HR8.out)
  replace HH9 := Lib.hid (rdW hby2 HH9.out)
  replace HD9 := Lib.hid (rdW hby2 HD9.out)
  replace HR10 := Lib.hid (rdW hby2 HR10.out)
  replace HR11 := Lib.hid (rdW hby2 HR11.out)
  replace HB := Lib.hid (bt HB.out hby2)
  go_wp2_with fail
  refine (likeAppeals_c A10 A11 E.length c10 c11 E y2 rfl HR10.out HR11.out (by omega)).mono ?_
  rintro e y3 ⟨rfl, hby3⟩
  have hzy3 := hby3.size
  replace HH1 := Lib.hid (rdW hby3 HH1.out)
  replace HD1 := Lib.hid (rdW hby3 HD1.out)
  replace HR2 := Lib.hid (rdW hby3 HR2.out)
  replace HR3 := Lib.hid (rdW hby3 HR3.out)
  replace HH6 := Lib.hid (rdW hby3 HH6.out)
  replace HD6 := Lib.hid (rdW hby3 HD6.out)
  replace HR7 := Lib.hid (rdW hby3 HR7.out)
  replace HR8 := Lib.hid (rdW hby3 HR8.out)
  replace HH9 := Lib.hid (rdW hby3 HH9.out)
  replace HD9 := Lib.hid (rdW hby3 HD9.out)
  replace HR10 := Lib.hid (rdW hby3 HR10.out)
  replace HR11 := Lib.hid (rdW hby3 HR11.out)
  replace HB := Lib.hid (bt HB.out hby3)
  obtain ⟨bA, hbA⟩ : ∃ b, appsOk H1 J1 D1 = b := ⟨_, rfl⟩
  go_wp2_with fail
  refine (impl_AreAppeals AH1 cH1 H1 J1 A1 c1 D1 bA y3 HH1.out (by omega) hcH1.1 HD1.out (by omega) hcD1.1 hbA).mono ?_
  rintro e y4 ⟨rfl, hby4⟩
  have hzy4 := hby4.size
  replace HH1 := Lib.hid (rdW hby4 HH1.out)
  replace HD1 := Lib.hid (rdW hby4 HD1.out)
  replace HR2 := Lib.hid (rdW hby4 HR2.out)
  replace HR3 := Lib.hid (rdW hby4 HR3.out)
  replace HH6 := Lib.hid (rdW hby4 HH6.out)
  replace HD6 := Lib.hid (rdW hby4 HD6.out)
  replace HR7 := Lib.hid (rdW hby4 HR7.out)
  replace HR8 := Lib.hid (rdW hby4 HR8.out)
  replace HH9 := Lib.hid (rdW hby4 HH9.out)
  replace HD9 := Lib.hid (rdW hby4 HD9.out)
  replace HR10 := Lib.hid (rdW hby4 HR10.out)
  replace HR11 := Lib.hid (rdW hby4 HR11.out)
  replace HB := Lib.hid (bt HB.out hby4)
  go_wp2_with fail
  refine (spec_AreAppeals AH1 cH1 H1 J1 A1 c1 D1 bA y4 HH1.out (by omega) hcH1.1 HD1.out (by omega) hcD1.1 hbA).mono ?_
  rintro e y5 ⟨rfl, hby5⟩
  have hzy5 := hby5.size
  replace HH1 := Lib.hid (rdW hby5 HH1.out)
  replace HD1 := Lib.hid (rdW hby5 HD1.out)
  replace HR2 := Lib.hid (rdW hby5 HR2.out)
  replace HR3 := Lib.hid (rdW hby5 HR3.out)
  replace HH6 := Lib.hid (rdW hby5 HH6.out)
  replace HD6 := Lib.hid (rdW hby5 HD6.out)
  replace HR7 := Lib.hid (rdW hby5 HR7.out)
  replace HR8 := Lib.hid (rdW hby5 HR8.out)
  replace HH9 := Lib.hid (rdW hby5 HH9.out)
  replace HD9 := Lib.hid (rdW hby5 HD9.out)
  replace HR10 := Lib.hid (rdW hby5 HR10.out)
  replace HR11 := Lib.hid (rdW hby5 HR11.out)
  replace HB := Lib.hid (bt HB.out hby5)
  clear hbA HEF HER HEE HDI HDS
  clear HR3
  clear HR8
  clear HR11
  clear HD6
  clear HD9
  go_upto_region 16 with fail
  go_cut [195] (fun s195 wc => s195 = .bool false ∧ Below y5.heap.size y5 wc)
  case first =>
    by_cases h1 : rc = 0
    · have g1 := G1.out h1
      subst h1
      go_wp2_with fail
      refine (impl_AreAppeals AH6 cH6 H6 J6 A7 c7 R true y5 HH6.out (by omega) hcH6.1 HR7.out (by omega) hn7 g1).mono ?_
      rintro e u1 ⟨rfl, hbu1⟩
      have hzu1 := hbu1.size
      replace HH1 := Lib.hid (rdW hbu1 HH1.out)
      replace HD1 := Lib.hid (rdW hbu1 HD1.out)
      replace HR2 := Lib.hid (rdW hbu1 HR2.out)
      replace HH6 := Lib.hid (rdW hbu1 HH6.out)
      replace HR7 := Lib.hid (rdW hbu1 HR7.out)
      replace HH9 := Lib.hid (rdW hbu1 HH9.out)
      replace HR10 := Lib.hid (rdW hbu1 HR10.out)
      replace HB := Lib.hid (bt HB.out hbu1)
      by_cases h2 : ec = 0
      · have g2 := G2.out h2
        subst h2
        go_wp2_with fail
        refine (impl_AreAppeals AH9 cH9 H9 J9 A10 c10 E true u1 HH9.out (by omega) hcH9.1 HR10.out (by omega) hn10 g2).mono ?_
        rintro e u2 ⟨rfl, hbu2⟩
        have hzu2 := hbu2.size
        replace HH1 := Lib.hid (rdW hbu2 HH1.out)
        replace HD1 := Lib.hid (rdW hbu2 HD1.out)
        replace HR2 := Lib.hid (rdW hbu2 HR2.out)
        replace HH6 := Lib.hid (rdW hbu2 HH6.out)
        replace HR7 := Lib.hid (rdW hbu2 HR7.out)
        replace HH9 := Lib.hid (rdW hbu2 HH9.out)
        replace HR10 := Lib.hid (rdW hbu2 HR10.out)
        replace HB := Lib.hid (bt HB.out hbu2)
        go_wp2
        go_meet
        case rel => exact ⟨rfl, bt hbu1 hbu2⟩
      · have h2b : (ec == 0) = false := beq_eq_false_iff_ne.2 h2
        go_wp2
        go_meet
        case rel => exact ⟨rfl, hbu1⟩
    · have h1b : (rc == 0) = false := beq_eq_false_iff_ne.2 h1
      by_cases h2 : ec = 0
      · have g2 := G2.out h2
        subst h2
        go_wp2_with fail
        refine (impl_AreAppeals AH9 cH9 H9 J9 A10 c10 E true y5 HH9.out (by omega) hcH9.1 HR10.out (by omega) hn10 g2).mono ?_
        rintro e u2 ⟨rfl, hbu2⟩
        have hzu2 := hbu2.size
        replace HH1 := Lib.hid (rdW hbu2 HH1.out)
        replace HD1 := Lib.hid (rdW hbu2 HD1.out)
        replace HR2 := Lib.hid (rdW hbu2 HR2.out)
        replace HH6 := Lib.hid (rdW hbu2 HH6.out)
        replace HR7 := Lib.hid (rdW hbu2 HR7.out)
        replace HH9 := Lib.hid (rdW hbu2 HH9.out)
        replace HR10 := Lib.hid (rdW hbu2 HR10.out)
        replace HB := Lib.hid (bt HB.out hbu2)
        go_wp2
        go_meet
        case rel => exact ⟨rfl, hbu2⟩
      · have h2b : (ec == 0) = false := beq_eq_false_iff_ne.2 h2
        go_wp2
        go_meet
        case rel => exact ⟨rfl, Below.refl _ _⟩
  case rest =>
    obtain ⟨rfl, hby6⟩ := hcut
    obtain ⟨y6, rfl⟩ : ∃ x, x = wc := ⟨_, rfl⟩
    have hzy6 := hby6.size
    replace HH1 := Lib.hid (rdW hby6 HH1.out)
    replace HD1 := Lib.hid (rdW hby6 HD1.out)
    replace HR2 := Lib.hid (rdW hby6 HR2.out)
    replace HH6 := Lib.hid (rdW hby6 HH6.out)
    replace HR7 := Lib.hid (rdW hby6 HR7.out)
    replace HH9 := Lib.hid (rdW hby6 HH9.out)
    replace HR10 := Lib.hid (rdW hby6 HR10.out)
    replace HB := Lib.hid (bt HB.out hby6)
    clear G1 G2
    go_upto_region 18 with fail
    go_cut [217] (fun s217 wc => s217 = .bool false ∧ Below y6.heap.size y6 wc)
    case first =>
      by_cases h1 : fc = 0
      · obtain ⟨g1, g2, g3⟩ := G3.out h1
        subst h1
        have hwl : IntKind.i64.wrap ((D1.length : Int) + 1) = (F.length : Int) := by rw [IntWalk.i64_in _ (by omega)]; omega
        have hadd : (D1.length : Int) + 1 = (F.length : Int) := by omega
        have hle : ¬ d < day1 := by omega
        clear g2 g3
        go_wp2_with fail
        refine (impl_AreAppeals AH1 cH1 H1 J1 A2 c2 F true y6 HH1.out (by omega) hcH1.1 HR2.out (by omega) hn2 g1).mono ?_
        rintro e u1 ⟨rfl, hbu1⟩
        have hzu1 := hbu1.size
        replace HH1 := Lib.hid (rdW hbu1 HH1.out)
        replace HD1 := Lib.hid (rdW hbu1 HD1.out)
        replace HR2 := Lib.hid (rdW hbu1 HR2.out)
        replace HH6 := Lib.hid (rdW hbu1 HH6.out)
        replace HR7 := Lib.hid (rdW hbu1 HR7.out)
        replace HH9 := Lib.hid (rdW hbu1 HH9.out)
        replace HR10 := Lib.hid (rdW hbu1 HR10.out)
        replace HB := Lib.hid (bt HB.out hbu1)
        go_wp2
        go_meet
        case rel => exact ⟨by simp; omega, hbu1⟩
      · have h1b : (fc == 0) = false := beq_eq_false_iff_ne.2 h1
        go_wp2
        go_meet
        case rel => exact ⟨rfl, Below.refl _ _⟩
    case rest =>
      obtain ⟨rfl, hby7⟩ := hcut
      obtain ⟨y7, rfl⟩ : ∃ x, x = wc := ⟨_, rfl⟩
      have hzy7 := hby7.size
      replace HH1 := Lib.hid (rdW hby7 HH1.out)
      replace HD1 := Lib.hid (rdW hby7 HD1.out)
      replace HR2 := Lib.hid (rdW hby7 HR2.out)
      replace HH6 := Lib.hid (rdW hby7 HH6.out)
      replace HR7 := Lib.hid (rdW hby7 HR7.out)
      replace HH9 := Lib.hid (rdW hby7 HH9.out)
      replace HR10 := Lib.hid (rdW hby7 HR10.out)
      replace HB := Lib.hid (bt HB.out hby7)
      clear G3
      by_cases ho : one = 0
      · have hdb := G5.out ho
        by_cases hm : d = 20000
        · subst ho; subst hm
          go_wp2
          go_ret
          exact ⟨rfl, HB.out⟩
        · obtain ⟨l1, l2⟩ := G4.out ho hm
          obtain ⟨_, l3, _⟩ := fileR_good l2
          have l4 := fileR_len H1 J1 D1 d
          subst ho
          have hmb : (d == 20000) = false := beq_eq_false_iff_ne.2 hm
          have HEL := Lib.hid (show ∀ (e : Ending) (w1 w2 : World), RowPost2 64 5 (fileR H1 J1 D1 (d + 1)).1.length ((fileR H1 J1 D1 (d + 1)).1.flatMap appealC) (fileR H1 J1 D1 (d + 1)).2 w1 e w2 → ∃ (A' : Option Addr) (c' : Nat), e = .returned (.tuple #[.slice A' 0 c', .int .i64 5]) ∧ Below w1.heap.size w1 w2 from fun e w1 w2 h => by rw [l1] at h; obtain ⟨A', c', h1, _, h2, _⟩ := h; exact ⟨A', c', h1, h2⟩)
          have HEM := Lib.hid (show ∀ (e : Ending) (w1 w2 : World), RowPost2 64 5 (fileR H1 J1 D1 d).1.length ((fileR H1 J1 D1 d).1.flatMap appealC) (fileR H1 J1 D1 d).2 w1 e w2 → ∃ (A' : Option Addr) (c' : Nat), e = .returned (.tuple #[.slice A' (D1.length + 1) c', .int .i64 0]) ∧ Below w1.heap.size w1 w2 from fun e w1 w2 h => by rw [l2, l3] at h; obtain ⟨A', c', h1, _, h2, _⟩ := h; exact ⟨A', c', h1, h2⟩)
          clear l1 l2 l3 l4
          go_wp2_with fail
          refine (impl_FileAppeal AH1 cH1 H1 J1 A1 c1 D1 (d + 1) y7 HH1.out (by omega) hcH1.1 HD1.out (by omega) hcD1.1).mono ?_
          intro e z1 he
          obtain ⟨A20, c20, rfl, hbz1⟩ := HEL.out _ _ _ he
          clear he
          have hzz1 := hbz1.size
          replace HH1 := Lib.hid (rdW hbz1 HH1.out)
          replace HD1 := Lib.hid (rdW hbz1 HD1.out)
          replace HR2 := Lib.hid (rdW hbz1 HR2.out)
          replace HH6 := Lib.hid (rdW hbz1 HH6.out)
          replace HR7 := Lib.hid (rdW hbz1 HR7.out)
          replace HH9 := Lib.hid (rdW hbz1 HH9.out)
          replace HR10 := Lib.hid (rdW hbz1 HR10.out)
          replace HB := Lib.hid (bt HB.out hbz1)
          go_wp2_with fail
          refine (impl_FileAppeal AH1 cH1 H1 J1 A1 c1 D1 d z1 HH1.out (by omega) hcH1.1 HD1.out (by omega) hcD1.1).mono ?_
          intro e z2 he
          obtain ⟨A21, c21, rfl, hbz2⟩ := HEM.out _ _ _ he
          clear he
          have hzz2 := hbz2.size
          replace HH1 := Lib.hid (rdW hbz2 HH1.out)
          replace HD1 := Lib.hid (rdW hbz2 HD1.out)
          replace HR2 := Lib.hid (rdW hbz2 HR2.out)
          replace HH6 := Lib.hid (rdW hbz2 HH6.out)
          replace HR7 := Lib.hid (rdW hbz2 HR7.out)
          replace HH9 := Lib.hid (rdW hbz2 HH9.out)
          replace HR10 := Lib.hid (rdW hbz2 HR10.out)
          replace HB := Lib.hid (bt HB.out hbz2)
          go_wp2
          go_ret
          exact ⟨ret_bool (by simp), HB.out⟩
      · have hob : (one != 0) = true := bne_iff_ne.2 ho
        go_wp2
        go_ret
        exact ⟨rfl, HB.out⟩
end Go.Proofs.Ytdohegpbdlcnjaa
