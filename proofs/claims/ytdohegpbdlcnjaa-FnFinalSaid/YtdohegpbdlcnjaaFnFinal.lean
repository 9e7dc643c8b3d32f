/- The walk of the law FnFinal: it returns true, and nothing that was there is changed. -/
import Derived.Test.YtdohegpbdlcnjaaAppGood
import Derived.Test.YtdohegpbdlcnjaaDrawA3
import Derived.Deep.DeepCutAuto
namespace Go.Proofs.Ytdohegpbdlcnjaa
open Go.RowKit
set_option linter.unusedVariables false
theorem big_c (A : Option Addr) (n c : Nat) (b : Bool) (w : World) (hn : n ≤ 9223372036854775807) (h : decide (4096 < n) = b) : Calls Try.prog 7 #[.slice A n c] w fun e w' => e = .returned (.bool b) ∧ w = w' := by
  subst h
  by_cases h : 4096 < n
  · have h2 : (4096 : Int) < (n : Int) := by omega
    go_enter Try.func7, Try.ntmps7
    go_wp2
    go_ret
    exact ⟨by simp [h], rfl⟩
  · have h2 : ¬ (4096 : Int) < (n : Int) := by omega
    go_enter Try.func7, Try.ntmps7
    go_wp2
    go_ret
    exact ⟨by simp, rfl⟩
set_option maxRecDepth 100000 in
set_option maxHeartbeats 8000000 in
theorem law_FnFinal (A : Option Addr) (c : Nat) (L : List Int) (w : World) (hr : Rd w w.heap.size A L.length (L.map (Value.int .u8))) (hl : L.length ≤ maxLen) (hx : ∀ x ∈ L, 0 ≤ x ∧ x ≤ 255) (hc : L.length ≤ c) :
    Calls Try.prog 6 #[.slice A L.length c] w fun e w' => e = .returned (.bool true) ∧ Below w.heap.size w w' := by
  unfold maxLen at hl
  have HRB := Lib.hid hr; have HXB := Lib.hid hx; clear hr hx
  by_cases hbig : 4096 < L.length
  · go_enter Try.func6, Try.ntmps6
    go_wp2_with fail
    refine (big_c A L.length c true w (by omega) (by simp [hbig])).mono ?_
    rintro e w' ⟨rfl, rfl⟩
    go_wp2
    go_ret
    exact ⟨rfl, Below.refl _ _⟩
  go_enter Try.func6, Try.ntmps6
  go_wp2_with fail
  refine (big_c A L.length c false w (by omega) (by simp; omega)).mono ?_
  rintro e w0 ⟨rfl, rfl⟩
  have HB := Lib.hid (Below.refl w.heap.size w)
  go_wp2_with fail
  refine (DrawIsFinalOn_c A c L w HRB.out HXB.out (by omega) hc).mono ?_
  rintro e x1 ⟨AH, cH, H, J, A1, c1, D, day, rfl, hoH, hoD, hlH, hlD, hBD, hbx1⟩
  have hzx1 := hbx1.size
  replace HB := Lib.hid (bt HB.out hbx1)
  have HH := Lib.hid (Rd.of_own1 hoH); have HD := Lib.hid (Rd.of_own hoD); have hcH := own_cap hoH; have hcD := own_cap hoD; have HBD := Lib.hid hBD; clear hoH hoD hBD
  obtain ⟨f, hf⟩ : ∃ x, (finF H J D day).1 = x := ⟨_, rfl⟩
  obtain ⟨bad, hbad⟩ : ∃ x, (finF H J D day).2 = x := ⟨_, rfl⟩
  obtain ⟨s, hs⟩ : ∃ x, (standF H J D).1 = x := ⟨_, rfl⟩
  obtain ⟨sc, hsc⟩ : ∃ x, (standF H J D).2 = x := ⟨_, rfl⟩
  obtain ⟨l, hlo⟩ : ∃ x, (longF H J D).1 = x := ⟨_, rfl⟩
  obtain ⟨n, hn⟩ : ∃ x, (longF H J D).2.1 = x := ⟨_, rfl⟩
  obtain ⟨three, h3⟩ : ∃ x, (longF H J D).2.2 = x := ⟨_, rfl⟩
  have HFI := Lib.hid (show ∀ (W : World) a b, Calls Try.prog 48 #[.slice AH H.length cH, .int .i64 J, .slice A1 D.length c1, .int .i64 day] W (fun e w2 => e = .returned (.tuple #[.bool f, .int .i64 bad]) ∧ Below W.heap.size W w2) from fun W a b => by rw [← hf, ← hbad]; exact impl_IsFinalOn AH cH H J A1 c1 D day W a (by omega) hcH.1 b (by omega) hcD.1)
  have HFS := Lib.hid (show ∀ (W : World) a b, Calls Try.prog 49 #[.slice AH H.length cH, .int .i64 J, .slice A1 D.length c1, .int .i64 day] W (fun e w2 => e = .returned (.tuple #[.bool f, .int .i64 bad]) ∧ Below W.heap.size W w2) from fun W a b => by rw [← hf, ← hbad]; exact spec_IsFinalOn AH cH H J A1 c1 D day W a (by omega) hcH.1 b (by omega) hcD.1)
  have HSI := Lib.hid (show ∀ (W : World) a b, Calls Try.prog 50 #[.slice AH H.length cH, .int .i64 J, .slice A1 D.length c1] W (fun e w2 => e = .returned (.tuple #[.int .i64 s, .int .i64 sc]) ∧ Below W.heap.size W w2) from fun W a b => by rw [← hs, ← hsc]; exact impl_StandsOn AH cH H J A1 c1 D W a (by omega) hcH.1 b (by omega) hcD.1)
  have HSS := Lib.hid (show ∀ (W : World) a b, Calls Try.prog 51 #[.slice AH H.length cH, .int .i64 J, .slice A1 D.length c1] W (fun e w2 => e = .returned (.tuple #[.int .i64 s, .int .i64 sc]) ∧ Below W.heap.size W w2) from fun W a b => by rw [← hs, ← hsc]; exact spec_StandsOn AH cH H J A1 c1 D W a (by omega) hcH.1 b (by omega) hcD.1)
  have HLI := Lib.hid (show ∀ (W : World) a b, Calls Try.prog 52 #[.slice AH H.length cH, .int .i64 J, .slice A1 D.length c1] W (fun e w2 => e = .returned (.tuple #[.int .i64 l, .int .i64 n, .int .i64 three]) ∧ Below W.heap.size W w2) from fun W a b => by rw [← hlo, ← hn, ← h3]; exact impl_LongestAppeal AH cH H J A1 c1 D W a (by omega) hcH.1 b (by omega) hcD.1)
  have HLS := Lib.hid (show ∀ (W : World) a b, Calls Try.prog 53 #[.slice AH H.length cH, .int .i64 J, .slice A1 D.length c1] W (fun e w2 => e = .returned (.tuple #[.int .i64 l, .int .i64 n, .int .i64 three]) ∧ Below W.heap.size W w2) from fun W a b => by rw [← hlo, ← hn, ← h3]; exact spec_LongestAppeal AH cH H J A1 c1 D W a (by omega) hcH.1 b (by omega) hcD.1)
  have G1 := Lib.hid (fun h => (long_ok (H := H) (J := J) (L := D) h).2)
  have G2 := Lib.hid (show bad = 0 → f = true → finF H J D day = (true, 0) from fun h1 h2 => by rw [← hbad] at h1; rw [← hf] at h2; exact Prod.ext h2 h1)
  have G3 := Lib.hid hs
  rw [h3, hlo, hn] at G1
  clear hf hbad hs hsc hlo hn h3
  go_wp2_with fail
  refine (HFI.out x1 HH.out HD.out).mono ?_
  rintro e x2 ⟨rfl, hbx2⟩
  have hzx2 := hbx2.size
  replace HH := Lib.hid (rdW hbx2 HH.out)
  replace HD := Lib.hid (rdW hbx2 HD.out)
  replace HB := Lib.hid (bt HB.out hbx2)
  go_wp2_with fail
  refine (HFS.out x2 HH.out HD.out).mono ?_
  rintro e x3 ⟨rfl, hbx3⟩
  have hzx3 := hbx3.size
  replace HH := Lib.hid (rdW hbx3 HH.out)
  replace HD := Lib.hid (rdW hbx3 HD.out)
  replace HB := Lib.hid (bt HB.out hbx3)
  go_wp2_with fail
  refine (HSI.out x3 HH.out HD.out).mono ?_
  rintro e x4 ⟨rfl, hbx4⟩
  have hzx4 := hbx4.size
  replace HH := Lib.hid (rdW hbx4 HH.out)
  replace HD := Lib.hid (rdW hbx4 HD.out)
  replace HB := Lib.hid (bt HB.out hbx4)
  go_wp2_with fail
  refine (HSS.out x4 HH.out HD.out).mono ?_
  rintro e x5 ⟨rfl, hbx5⟩
  have hzx5 := hbx5.size
  replace HH := Lib.hid (rdW hbx5 HH.out)
  replace HD := Lib.hid (rdW hbx5 HD.out)
  replace HB := Lib.hid (bt HB.out hbx5)
  go_wp2_with fail
  refine (HLI.out x5 HH.out HD.out).mono ?_
  rintro e x6 ⟨rfl, hbx6⟩
  have hzx6 := hbx6.size
  replace HH := Lib.hid (rdW hbx6 HH.out)
  replace HD := Lib.hid (rdW hbx6 HD.out)
  replace HB := Lib.hid (bt HB.out hbx6)
  go_wp2_with fail
  refine (HLS.out x6 HH.out HD.out).mono ?_
  rintro e x7 ⟨rfl, hbx7⟩
  have hzx7 := hbx7.size
  replace HH := Lib.hid (rdW hbx7 HH.out)
  replace HD := Lib.hid (rdW hbx7 HD.out)
  replace HB := Lib.hid (bt HB.out hbx7)
  clear HFI HFS HSI HSS HLI HLS
  go_upto_region 12 with fail
  go_cut [137] (fun s137 wc => s137 = .bool false ∧ Below x7.heap.size x7 wc)
  case first =>
    by_cases h1 : three = 0
    · obtain ⟨j, hj, e1, e2, e3⟩ := G1.out h1
      subst h1; subst e1
      obtain ⟨bf, offf, rfl, hbf, hcf⟩ := Rd.elem appealC 5 (fun _ => rfl) (HD.out) (by omega) hj
      have f0 : x7.cell? ⟨bf, offf + j * 5, none⟩ = some (.int .i64 D[j].level) := hcf j hj 0 _ rfl
      have f1 : x7.cell? ⟨bf, offf + j * 5 + 1, none⟩ = some (.int .i64 D[j].filed) := hcf j hj 1 _ rfl
      have f2 : x7.cell? ⟨bf, offf + j * 5 + 2, none⟩ = some (.int .i64 D[j].replied) := hcf j hj 2 _ rfl
      have f3 : x7.cell? ⟨bf, offf + j * 5 + 3, none⟩ = some (.int .i64 D[j].decided) := hcf j hj 3 _ rfl
      have f4 : x7.cell? ⟨bf, offf + j * 5 + 4, none⟩ = some (.int .i64 D[j].result) := hcf j hj 4 _ rfl
      clear hcf f0 f2
      have hbd := HBD.out _ (List.getElem_mem hj)
      have hbd1 := hbd.1; have hbd2 := hbd.2; clear hbd
      generalize D[j].filed = a1 at *
      generalize D[j].decided = a3 at *
      generalize D[j].result = a4 at *
      have h4b : (a4 == 0) = false := beq_eq_false_iff_ne.2 e2
      have hj0 : (0 : Int) ≤ (j : Int) := by omega
      have hj1 : (j : Int) < (D.length : Int) := by omega
      have hwr : IntKind.i64.wrap (a3 - a1) = n := by rw [IntWalk.i64_in _ (by omega)]; exact e3
      go_wp2_with fail
      have kf1 := cell_regrown f1
      have kf3 := cell_regrown f3
      have kf4 := cell_regrown f4
      refine wp_region_bel mixed (by kernel_rfl) ?_
      repeat (any_goals (first | go_big_quiet_step ((fail)) | quiet_step ((fail)) | (refine wpQuiet_step (fun K hK => ?_); go_simp; (split <;> first | (refine hK _ ?_; clear hK K) | (apply Exists.intro; refine ⟨fun _ => ?_, hK _ ?_⟩; ((fail)); clear hK K)))))
      all_goals (refine wpQuiet_nil ?_; intro w1 hw1)
      all_goals (clear kf1 kf3 kf4; replace f1 := (hw1.cell (by (try simp only); omega)).trans f1; replace f3 := (hw1.cell (by (try simp only); omega)).trans f3; replace f4 := (hw1.cell (by (try simp only); omega)).trans f4)
      all_goals
        go_wp2
        go_meet
        case rel => exact ⟨by simp_all, hw1⟩
    · have h1b : (three == 0) = false := beq_eq_false_iff_ne.2 h1
      go_wp2_with fail
      refine wp_region_bel mixed (by kernel_rfl) ?_
      repeat (any_goals (first | go_big_quiet_step ((fail)) | quiet_step ((fail)) | (refine wpQuiet_step (fun K hK => ?_); go_simp; (split <;> first | (refine hK _ ?_; clear hK K) | (apply Exists.intro; refine ⟨fun _ => ?_, hK _ ?_⟩; ((fail)); clear hK K)))))
      all_goals (refine wpQuiet_nil ?_; intro w1 hw1)
      all_goals
        go_wp2
        go_meet
        case rel => exact ⟨rfl, hw1⟩
  case rest =>
    obtain ⟨rfl, hby1⟩ := hcut
    obtain ⟨y1, rfl⟩ : ∃ x, x = wc := ⟨_, rfl⟩
    have hzy1 := hby1.size
    replace HH := Lib.hid (rdW hby1 HH.out)
    replace HD := Lib.hid (rdW hby1 HD.out)
    replace HB := Lib.hid (bt HB.out hby1)
    clear G1
    by_cases hb : bad = 0
    · cases hf : f
      · subst hb; subst hf
        go_wp2
        go_ret
        exact ⟨rfl, HB.out⟩
      · have hfin := G2.out hb hf
        obtain ⟨q1, q2, q3⟩ := fin_file hfin
        have hday := inB_iff.1 (fin_ok hfin).2.1
        rw [G3.out] at q3
        obtain ⟨fq, hfq⟩ : ∃ x, (fileR H J D day).2 = x := ⟨_, rfl⟩
        rw [hfq] at q2
        have HEL := Lib.hid (show ∀ (e : Ending) (w1 w2 : World), RowPost2 64 5 (fileR H J D day).1.length ((fileR H J D day).1.flatMap appealC) (fileR H J D day).2 w1 e w2 → ∃ (A' : Option Addr) (c' : Nat), e = .returned (.tuple #[.slice A' 0 c', .int .i64 fq]) ∧ Below w1.heap.size w1 w2 from fun e w1 w2 h => by rw [q1, hfq] at h; obtain ⟨A', c', h1, _, h2, _⟩ := h; exact ⟨A', c', h1, h2⟩)
        have hfb : (fq == 0) = false := beq_eq_false_iff_ne.2 q2
        have hsb : (s == 0) = false := beq_eq_false_iff_ne.2 q3
        have HFIN := Lib.hid hfin
        subst hb
        clear q1 hfq hfin hf
        go_wp2_with fail
        refine (impl_FileAppeal AH cH H J A1 c1 D day y1 HH.out (by omega) hcH.1 HD.out (by omega) hcD.1).mono ?_
        intro e z1 he
        obtain ⟨A20, c20, rfl, hbz1⟩ := HEL.out _ _ _ he
        clear he HEL
        have hzz1 := hbz1.size
        replace HH := Lib.hid (rdW hbz1 HH.out)
        replace HD := Lib.hid (rdW hbz1 HD.out)
        replace HB := Lib.hid (bt HB.out hbz1)
        by_cases hm : day = 20000
        · subst hm
          go_wp2
          go_ret
          exact ⟨rfl, HB.out⟩
        · have hmb : (day == 20000) = false := beq_eq_false_iff_ne.2 hm
          have HN := Lib.hid (fin_next HFIN.out hm)
          go_wp2_with fail
          refine (impl_IsFinalOn AH cH H J A1 c1 D (day + 1) z1 HH.out (by omega) hcH.1 HD.out (by omega) hcD.1).mono ?_
          rintro e z2 ⟨he, hbz2⟩
          rw [HN.out] at he
          subst he
          have hzz2 := hbz2.size
          replace HH := Lib.hid (rdW hbz2 HH.out)
          replace HD := Lib.hid (rdW hbz2 HD.out)
          replace HB := Lib.hid (bt HB.out hbz2)
          go_wp2
          go_ret
          exact ⟨rfl, HB.out⟩
    · have hbb : (bad != 0) = true := bne_iff_ne.2 hb
      go_wp2
      go_ret
      exact ⟨rfl, HB.out⟩
end Go.Proofs.Ytdohegpbdlcnjaa
