/- The walk of the law FnMotionLists: it returns true, and nothing that was there is changed. -/
import Derived.Test.YtdohegpbdlcnjaaMotLaw
import Derived.Test.YtdohegpbdlcnjaaMotWait2
import Derived.Test.YtdohegpbdlcnjaaDrawM4
namespace Go.Proofs.Ytdohegpbdlcnjaa
open Go.RowKit
set_option linter.unusedVariables false
theorem big_c (A : Option Addr) (n c : Nat) (b : Bool) (w : World) (hn : n ≤ 9223372036854775807) (h : decide (4096 < n) = b) : Calls Try.prog 7 #[.slice A n c] w fun e w' => e = .returned (.bool b) ∧ w = w' := by
  subst h
  by_cases h : 4096 < n
  · have h2 : (4096 : Int) < (n : Int) := by omega
    go_enter Try.func7, Try.ntmps7
    go_wp2
    go_ret
    exact ⟨by simp [h], rfl⟩
  · have h2 : ¬ (4096 : Int) < (n : Int) := by omega
    go_enter Try.func7, Try.ntmps7
    go_wp2
    go_ret
    exact ⟨by simp, rfl⟩
set_option maxRecDepth 100000 in
set_option maxHeartbeats 8000000 in
theorem law_FnMotionLists (A : Option Addr) (c : Nat) (L : List Int) (w : World) (hr : Rd w w.heap.size A L.length (L.map (Value.int .u8))) (hl : L.length ≤ maxLen) (hx : ∀ x ∈ L, 0 ≤ x ∧ x ≤ 255) (hc : L.length ≤ c) :
    Calls Try.prog 3 #[.slice A L.length c] w fun e w' => e = .returned (.bool true) ∧ Below w.heap.size w w' := by
  unfold maxLen at hl
  have HRB := Lib.hid hr; have HXB := Lib.hid hx; clear hr hx
  by_cases hbig : 4096 < L.length
  · go_enter Try.func3, Try.ntmps3
    go_wp2_with fail
    refine (big_c A L.length c true w (by omega) (by simp [hbig])).mono ?_
    rintro e w' ⟨rfl, rfl⟩
    go_wp2
    go_ret
    exact ⟨rfl, Below.refl _ _⟩
  go_enter Try.func3, Try.ntmps3
  go_wp2_with fail
  refine (big_c A L.length c false w (by omega) (by simp; omega)).mono ?_
  rintro e w0 ⟨rfl, rfl⟩
  have HB := Lib.hid (Below.refl w.heap.size w)
  go_wp2_with fail
  refine (DrawWaitingFor_c A c L w HRB.out HXB.out (by omega) hc).mono ?_
  rintro e x1 ⟨A1, c1, M, n, rfl, ⟨ho1, hl1, hW1⟩, hwf1, hbx1⟩
  have hzx1 := hbx1.size
  replace HB := Lib.hid (bt HB.out hbx1)
  have HR1 := Lib.hid (Rd.of_own ho1)
  have hcpHR1 := own_cap ho1; clear ho1
  have HW1 := Lib.hid hW1; clear hW1 hwf1
  obtain ⟨V, hV⟩ : ∃ x, waitFor M n = x := ⟨_, rfl⟩
  obtain ⟨vc, hvc⟩ : ∃ x, codeM M n 0 = x := ⟨_, rfl⟩
  have HEV := Lib.hid (show ∀ (e : Ending) (w1 w2 : World), RowPost2 2 1 (waitFor M n).length ((waitFor M n).map (Value.int .i64)) (codeM M n 0) w1 e w2 → RowPost2 2 1 V.length (V.map (Value.int .i64)) vc w1 e w2 from fun e w1 w2 h => by rw [hV, hvc] at h; exact h)
  obtain ⟨C, hC⟩ : ∃ x, countFor M = x := ⟨_, rfl⟩
  obtain ⟨oc, hoc⟩ : ∃ x, openCode M = x := ⟨_, rfl⟩
  have HEC := Lib.hid (show ∀ (e : Ending) (w1 w2 : World), RowPost2 2 1 (countFor M).length ((countFor M).map (Value.int .i64)) (openCode M) w1 e w2 → RowPost2 2 1 C.length (C.map (Value.int .i64)) oc w1 e w2 from fun e w1 w2 h => by rw [hC, hoc] at h; exact h)
  obtain ⟨O, hO⟩ : ∃ x, openFor M = x := ⟨_, rfl⟩
  have HEO := Lib.hid (show ∀ (e : Ending) (w1 w2 : World), RowPost2 2 1 (openFor M).length ((openFor M).map (Value.int .i64)) (openCode M) w1 e w2 → RowPost2 2 1 O.length (O.map (Value.int .i64)) oc w1 e w2 from fun e w1 w2 h => by rw [hO, hoc] at h; exact h)
  have fV := waitFor_len M n; have fC := countFor_len M; have fO := openFor_len M
  have F1 := Lib.hid (fun h => law_cnt (M := M) h); have F2 := Lib.hid (law_wait_mem M n); have F3 := Lib.hid (fun i x y => law_wait_fall M n (i := i) (x := x) (y := y)); have F4 := Lib.hid (fun h => law_wait_some (M := M) (n := n) h)
  rw [hV] at fV; rw [hC] at fC; rw [hO] at fO; rw [hoc, hC, hO] at F1; rw [hV, hO] at F2; rw [hV] at F3; rw [hvc, hV, hO] at F4
  clear hV hvc hC hoc hO
  go_wp2_with fail
  refine (impl_WaitingFor A1 c1 M n x1 HR1.out (by omega) hcpHR1.1 HW1.out).mono ?_
  intro e x2 he
  obtain ⟨A2, c2, rfl, ho2, hb2, hn2, hm2⟩ := HEV.out _ _ _ he
  clear he
  have hzx2 := hb2.size
  replace HR1 := Lib.hid (rdW hb2 HR1.out)
  replace HB := Lib.hid (bt HB.out hb2)
  have HR2 := Lib.hid (Rd.of_own1 ho2); clear ho2
  go_wp2_with fail
  refine (spec_WaitingFor A1 c1 M n x2 HR1.out (by omega) hcpHR1.1 HW1.out).mono ?_
  intro e x3 he
  obtain ⟨A3, c3, rfl, ho3, hb3, hn3, hm3⟩ := HEV.out _ _ _ he
  clear he
  have hzx3 := hb3.size
  replace HR1 := Lib.hid (rdW hb3 HR1.out)
  replace HR2 := Lib.hid (rdW hb3 HR2.out)
  replace HB := Lib.hid (bt HB.out hb3)
  have HR3 := Lib.hid (Rd.of_own1 ho3); clear ho3
  go_wp2_with fail
  refine (impl_CountStates A1 c1 M x3 HR1.out (by omega) hcpHR1.1 HW1.out).mono ?_
  intro e x4 he
  obtain ⟨A4, c4, rfl, ho4, hb4, hn4, hm4⟩ := HEC.out _ _ _ he
  clear he
  have hzx4 := hb4.size
  replace HR1 := Lib.hid (rdW hb4 HR1.out)
  replace HR2 := Lib.hid (rdW hb4 HR2.out)
  replace HR3 := Lib.hid (rdW hb4 HR3.out)
  replace HB := Lib.hid (bt HB.out hb4)
  have HR4 := Lib.hid (Rd.of_own1 ho4); clear ho4
  go_wp2_with fail
  refine (spec_CountStates A1 c1 M x4 HR1.out (by omega) hcpHR1.1 HW1.out).mono ?_
  intro e x5 he
  obtain ⟨A5, c5, rfl, ho5, hb5, hn5, hm5⟩ := HEC.out _ _ _ he
  clear he
  have hzx5 := hb5.size
  replace HR1 := Lib.hid (rdW hb5 HR1.out)
  replace HR2 := Lib.hid (rdW hb5 HR2.out)
  replace HR3 := Lib.hid (rdW hb5 HR3.out)
  replace HR4 := Lib.hid (rdW hb5 HR4.out)
  replace HB := Lib.hid (bt HB.out hb5)
  have HR5 := Lib.hid (Rd.of_own1 ho5); clear ho5
  go_wp2_with fail
  refine (impl_OpenMotions A1 c1 M x5 HR1.out (by omega) hcpHR1.1 HW1.out).mono ?_
  intro e x6 he
  obtain ⟨A6, c6, rfl, ho6, hb6, hn6, hm6⟩ := HEO.out _ _ _ he
  clear he
  have hzx6 := hb6.size
  replace HR1 := Lib.hid (rdW hb6 HR1.out)
  replace HR2 := Lib.hid (rdW hb6 HR2.out)
  replace HR3 := Lib.hid (rdW hb6 HR3.out)
  replace HR4 := Lib.hid (rdW hb6 HR4.out)
  replace HR5 := Lib.hid (rdW hb6 HR5.out)
  replace HB := Lib.hid (bt HB.out hb6)
  have HR6 := Lib.hid (Rd.of_own1 ho6); clear ho6
  go_wp2_with fail
  refine (spec_OpenMotions A1 c1 M x6 HR1.out (by omega) hcpHR1.1 HW1.out).mono ?_
  intro e x7 he
  obtain ⟨A7, c7, rfl, ho7, hb7, hn7, hm7⟩ := HEO.out _ _ _ he
  clear he
  have hzx7 := hb7.size
  replace HR1 := Lib.hid (rdW hb7 HR1.out)
  replace HR2 := Lib.hid (rdW hb7 HR2.out)
  replace HR3 := Lib.hid (rdW hb7 HR3.out)
  replace HR4 := Lib.hid (rdW hb7 HR4.out)
  replace HR5 := Lib.hid (rdW hb7 HR5.out)
  replace HR6 := Lib.hid (rdW hb7 HR6.out)
  replace HB := Lib.hid (bt HB.out hb7)
  have HR7 := Lib.hid (Rd.of_own1 ho7); clear ho7
  go_wp2_with fail
  refine (DrawDueOn_c A c L x7 (rdW HB.out HRB.out) HXB.out (by omega) hc).mono ?_
  rintro e x8 ⟨A8, c8, M8, day, rfl, ⟨ho8, hl8, hW8⟩, hbx8⟩
  have hzx8 := hbx8.size
  replace HR1 := Lib.hid (rdW hbx8 HR1.out)
  replace HR2 := Lib.hid (rdW hbx8 HR2.out)
  replace HR3 := Lib.hid (rdW hbx8 HR3.out)
  replace HR4 := Lib.hid (rdW hbx8 HR4.out)
  replace HR5 := Lib.hid (rdW hbx8 HR5.out)
  replace HR6 := Lib.hid (rdW hbx8 HR6.out)
  replace HR7 := Lib.hid (rdW hbx8 HR7.out)
  replace HB := Lib.hid (bt HB.out hbx8)
  have HR8 := Lib.hid (Rd.of_own ho8)
  have hcpHR8 := own_cap ho8; clear ho8
  have HW8 := Lib.hid hW8; clear hW8
  obtain ⟨D, hD⟩ : ∃ x, dueFor M8 day = x := ⟨_, rfl⟩
  obtain ⟨dc, hdc⟩ : ∃ x, dueCode M8 day = x := ⟨_, rfl⟩
  have HED := Lib.hid (show ∀ (e : Ending) (w1 w2 : World), RowPost2 2 1 (dueFor M8 day).length ((dueFor M8 day).map (Value.int .i64)) (dueCode M8 day) w1 e w2 → RowPost2 2 1 D.length (D.map (Value.int .i64)) dc w1 e w2 from fun e w1 w2 h => by rw [hD, hdc] at h; exact h)
  have fD := dueFor_len M8 day; rw [hD] at fD; clear hD hdc
  go_wp2_with fail
  refine (impl_DueOn A8 c8 M8 day x8 HR8.out (by omega) hcpHR8.1 HW8.out).mono ?_
  intro e x9 he
  obtain ⟨A9, c9, rfl, ho9, hb9, hn9, hm9⟩ := HED.out _ _ _ he
  clear he
  have hzx9 := hb9.size
  replace HR1 := Lib.hid (rdW hb9 HR1.out)
  replace HR2 := Lib.hid (rdW hb9 HR2.out)
  replace HR3 := Lib.hid (rdW hb9 HR3.out)
  replace HR4 := Lib.hid (rdW hb9 HR4.out)
  replace HR5 := Lib.hid (rdW hb9 HR5.out)
  replace HR6 := Lib.hid (rdW hb9 HR6.out)
  replace HR7 := Lib.hid (rdW hb9 HR7.out)
  replace HR8 := Lib.hid (rdW hb9 HR8.out)
  replace HB := Lib.hid (bt HB.out hb9)
  have HR9 := Lib.hid (Rd.of_own1 ho9); clear ho9
  go_wp2_with fail
  refine (spec_DueOn A8 c8 M8 day x9 HR8.out (by omega) hcpHR8.1 HW8.out).mono ?_
  intro e x10 he
  obtain ⟨A10, c10, rfl, ho10, hb10, hn10, hm10⟩ := HED.out _ _ _ he
  clear he
  have hzx10 := hb10.size
  replace HR1 := Lib.hid (rdW hb10 HR1.out)
  replace HR2 := Lib.hid (rdW hb10 HR2.out)
  replace HR3 := Lib.hid (rdW hb10 HR3.out)
  replace HR4 := Lib.hid (rdW hb10 HR4.out)
  replace HR5 := Lib.hid (rdW hb10 HR5.out)
  replace HR6 := Lib.hid (rdW hb10 HR6.out)
  replace HR7 := Lib.hid (rdW hb10 HR7.out)
  replace HR8 := Lib.hid (rdW hb10 HR8.out)
  replace HR9 := Lib.hid (rdW hb10 HR9.out)
  replace HB := Lib.hid (bt HB.out hb10)
  have HR10 := Lib.hid (Rd.of_own1 ho10); clear ho10
  go_wp2_with fail
  refine (likeInts_c A2 A3 V.length c2 c3 V x10 rfl HR2.out HR3.out (by omega) hn2 hn3).mono ?_
  rintro e x11 ⟨rfl, hbx11⟩
  have hzx11 := hbx11.size
  replace HR1 := Lib.hid (rdW hbx11 HR1.out)
  replace HR2 := Lib.hid (rdW hbx11 HR2.out)
  replace HR3 := Lib.hid (rdW hbx11 HR3.out)
  replace HR4 := Lib.hid (rdW hbx11 HR4.out)
  replace HR5 := Lib.hid (rdW hbx11 HR5.out)
  replace HR6 := Lib.hid (rdW hbx11 HR6.out)
  replace HR7 := Lib.hid (rdW hbx11 HR7.out)
  replace HR8 := Lib.hid (rdW hbx11 HR8.out)
  replace HR9 := Lib.hid (rdW hbx11 HR9.out)
  replace HR10 := Lib.hid (rdW hbx11 HR10.out)
  replace HB := Lib.hid (bt HB.out hbx11)
  go_wp2_with fail
  refine (likeInts_c A4 A5 C.length c4 c5 C x11 rfl HR4.out HR5.out (by omega) hn4 hn5).mono ?_
  rintro e x12 ⟨rfl, hbx12⟩
  have hzx12 := hbx12.size
  replace HR1 := Lib.hid (rdW hbx12 HR1.out)
  replace HR2 := Lib.hid (rdW hbx12 HR2.out)
  replace HR3 := Lib.hid (rdW hbx12 HR3.out)
  replace HR4 := Lib.hid (rdW hbx12 HR4.out)
  replace HR5 := Lib.hid (rdW hbx12 HR5.out)
  replace HR6 := Lib.hid (rdW hbx12 HR6.out)
  replace HR7 := Lib.hid (rdW hbx12 HR7.out)
  replace HR8 := Lib.hid (rdW hbx12 HR8.out)
  replace HR9 := Lib.hid (rdW hbx12 HR9.out)
  replace HR10 := Lib.hid (rdW hbx12 HR10.out)
  replace HB := Lib.hid (bt HB.out hbx12)
  go_wp2_with fail
  refine (likeInts_c A6 A7 O.length c6 c7 O x12 rfl HR6.out HR7.out (by omega) hn6 hn7).mono ?_
  rintro e x13 ⟨rfl, hbx13⟩
  have hzx13 := hbx13.size
  replace HR1 := Lib.hid (rdW hbx13 HR1.out)
  replace HR2 := Lib.hid (rdW hbx13 HR2.out)
  replace HR3 := Lib.hid (rdW hbx13 HR3.out)
  replace HR4 := Lib.hid (rdW hbx13 HR4.out)
  replace HR5 := Lib.hid (rdW hbx13 HR5.out)
  replace HR6 := Lib.hid (rdW hbx13 HR6.out)
  replace HR7 := Lib.hid (rdW hbx13 HR7.out)
  replace HR8 := Lib.hid (rdW hbx13 HR8.out)
  replace HR9 := Lib.hid (rdW hbx13 HR9.out)
  replace HR10 := Lib.hid (rdW hbx13 HR10.out)
  replace HB := Lib.hid (bt HB.out hbx13)
  go_wp2_with fail
  refine (likeInts_c A9 A10 D.length c9 c10 D x13 rfl HR9.out HR10.out (by omega) hn9 hn10).mono ?_
  rintro e x14 ⟨rfl, hbx14⟩
  have hzx14 := hbx14.size
  replace HR1 := Lib.hid (rdW hbx14 HR1.out)
  replace HR2 := Lib.hid (rdW hbx14 HR2.out)
  replace HR3 := Lib.hid (rdW hbx14 HR3.out)
  replace HR4 := Lib.hid (rdW hbx14 HR4.out)
  replace HR5 := Lib.hid (rdW hbx14 HR5.out)
  replace HR6 := Lib.hid (rdW hbx14 HR6.out)
  replace HR7 := Lib.hid (rdW hbx14 HR7.out)
  replace HR8 := Lib.hid (rdW hbx14 HR8.out)
  replace HR9 := Lib.hid (rdW hbx14 HR9.out)
  replace HR10 := Lib.hid (rdW hbx14 HR10.out)
  replace HB := Lib.hid (bt HB.out hbx14)
  clear HR1 HR3 HR5 HR7 HR8 HR9 HR10
  have HLOOP : ∀ (W0 : World), Below x14.heap.size x14 W0 → True := fun _ _ => trivial
  clear HLOOP
  by_cases hoc : oc = 0
  · obtain ⟨s0, s1, s2, s3, s4, s5, hC, f1, f2, b0, b1, b2, b3, b4, b5, f3⟩ := F1.out hoc
    subst hoc
    subst hC
    have F5 := Lib.hid f3
    have hs : ∀ x ∈ [s0, s1, s2, s3, s4, s5], 0 ≤ x ∧ x ≤ 2000000000000 := fun x hx => by have := F5.out x hx; omega
    have HS := Lib.hid hs
    clear f3 hs F1
    obtain ⟨b, off, rfl, hb, hcell⟩ := Rd.ints HR4.out (show 0 < [s0, s1, s2, s3, s4, s5].length by simp)
    have g0 : x14.cell? ⟨b, off, none⟩ = some (.int .i64 s0) := hcell 0 (by simp)
    have g1 : x14.cell? ⟨b, off + 1, none⟩ = some (.int .i64 s1) := hcell 1 (by simp)
    have g2 : x14.cell? ⟨b, off + 2, none⟩ = some (.int .i64 s2) := hcell 2 (by simp)
    clear hcell
    have hw1 : IntKind.i64.wrap (s0 + s1) = s0 + s1 := IntWalk.i64_in _ (by omega)
    have hw2 : IntKind.i64.wrap (s0 + s1 + s2) = (O.length : Int) := by rw [IntWalk.i64_in _ (by omega)]; exact f2
    go_wp2
    have kg0 := cell_regrown g0
    have kg1 := cell_regrown g1
    have kg2 := cell_regrown g2
    refine wp_region_bel mixed (by kernel_rfl) ?_
    repeat (any_goals (first | go_big_quiet_step ((first | exact rg_same (lawsum_s (some ⟨b, off, none⟩) 6 c4 [s0, s1, s2, s3, s4, s5] (M.length : Int) _ rfl (by exact rdW (below_regrown _ _ _) HR4.out) (by omega) hn4 HS.out f1))) | quiet_step ((first | exact rg_same (lawsum_s (some ⟨b, off, none⟩) 6 c4 [s0, s1, s2, s3, s4, s5] (M.length : Int) _ rfl (by exact rdW (below_regrown _ _ _) HR4.out) (by omega) hn4 HS.out f1))) | (refine wpQuiet_step (fun K hK => ?_); go_simp; (split <;> first | (refine hK _ ?_; clear hK K) | (apply Exists.intro; refine ⟨fun _ => ?_, hK _ ?_⟩; ((first | exact rg_same (lawsum_s (some ⟨b, off, none⟩) 6 c4 [s0, s1, s2, s3, s4, s5] (M.length : Int) _ rfl (by exact rdW (below_regrown _ _ _) HR4.out) (by omega) hn4 HS.out f1))); clear hK K)))))
    all_goals (refine wpQuiet_nil ?_; intro w1 hw1)
    all_goals (clear kg0 kg1 kg2; replace g0 := (hw1.cell (by (try simp only); omega)).trans g0; replace g1 := (hw1.cell (by (try simp only); omega)).trans g1; replace g2 := (hw1.cell (by (try simp only); omega)).trans g2)
    all_goals
      replace HR2 := Lib.hid (rdW hw1 HR2.out)
      replace HR6 := Lib.hid (rdW hw1 HR6.out)
      replace HB := Lib.hid (bt HB.out hw1)
      have hzw1 := hw1.size
      go_wp2
      go_loopw [23] (fun i wr => ∃ k : Nat, k ≤ V.length ∧ i = .int .i64 k ∧ Below w1.heap.size w1 wr) (fun i _ => V.length - (intOf i).toNat)
      case atStart => exact ⟨0, by omega, rfl, Below.refl _ _⟩
      case round =>
        obtain ⟨v0, rfl⟩ : ∃ v0, v0 = wr := ⟨_, rfl⟩
        obtain ⟨k, hk, rfl, hBr⟩ := hrel
        have hzv := hBr.size
        by_cases hlt : k < V.length
        · obtain ⟨b, off, rfl, hb, hcell⟩ := Rd.ints (HR2.out.below hBr) hlt
          have g0 := hcell k hlt
          have hm0 := F2.out _ (List.getElem_mem hlt)
          have hk1 : (k : Int) < (V.length : Int) := by omega
          have hk3 : (0 : Int) ≤ (k : Int) := by omega
          by_cases hk0 : k = 0
          · subst hk0
            clear hcell
            generalize V[0] = x at *
            have hmx : decide (x ∈ O) = true := decide_eq_true hm0
            simp only [Nat.add_zero] at g0
            go_wp2
            have kg0 := cell_regrown g0
            refine wp_region_bel mixed (by kernel_rfl) ?_
            repeat (any_goals (first | go_big_quiet_step ((first | exact rg_below (hasInt_b A6 O.length c6 O x true _ rfl (by exact rdW (below_regrown _ _ _) (rdW hBr HR6.out)) (by omega) hn6 hmx))) | quiet_step ((first | exact rg_below (hasInt_b A6 O.length c6 O x true _ rfl (by exact rdW (below_regrown _ _ _) (rdW hBr HR6.out)) (by omega) hn6 hmx))) | (refine wpQuiet_step (fun K hK => ?_); go_simp; (split <;> first | (refine hK _ ?_; clear hK K) | (apply Exists.intro; refine ⟨fun _ => ?_, hK _ ?_⟩; ((first | exact rg_below (hasInt_b A6 O.length c6 O x true _ rfl (by exact rdW (below_regrown _ _ _) (rdW hBr HR6.out)) (by omega) hn6 hmx))); clear hK K)))))
            all_goals (refine wpQuiet_nil ?_; intro w1 hw1)
            all_goals (clear kg0; replace g0 := (hw1.cell (by (try simp only); omega)).trans g0)
            all_goals
              go_wp2
              go_roundw
              case rel => exact ⟨1, by omega, by go_num, bt hBr hw1⟩
              case measure => simp [intOf]; omega
          · obtain ⟨m, hm⟩ : ∃ m, k = m + 1 := ⟨k - 1, by omega⟩
            have g1 := hcell m (by omega)
            have hfall := F3.out m _ _ (List.getElem?_eq_getElem (show m < V.length by omega)) (by rw [← hm]; exact List.getElem?_eq_getElem hlt)
            clear hcell
            generalize V[k] = x at *
            generalize V[m] = y at *
            have hmx : decide (x ∈ O) = true := decide_eq_true hm0
            have hkm : (0 : Int) < (k : Int) := by omega
            have hwk : IntKind.i64.wrap ((k : Int) - 1) = (m : Int) := by rw [IntWalk.i64_in _ (by omega)]; omega
            have hm3 : (0 : Int) ≤ (m : Int) := by omega
            have hm4 : (m : Int) < (V.length : Int) := by omega
            have hxy : ¬ (y ≤ x) := by omega
            have HM := Lib.hid hm
            clear hm
            go_wp2
            have kg0 := cell_regrown g0
            have kg1 := cell_regrown g1
            refine wp_region_bel mixed (by kernel_rfl) ?_
            repeat (any_goals (first | go_big_quiet_step ((first | exact rg_below (hasInt_b A6 O.length c6 O x true _ rfl (by exact rdW (below_regrown _ _ _) (rdW hBr HR6.out)) (by omega) hn6 hmx))) | quiet_step ((first | exact rg_below (hasInt_b A6 O.length c6 O x true _ rfl (by exact rdW (below_regrown _ _ _) (rdW hBr HR6.out)) (by omega) hn6 hmx))) | (refine wpQuiet_step (fun K hK => ?_); go_simp; (split <;> first | (refine hK _ ?_; clear hK K) | (apply Exists.intro; refine ⟨fun _ => ?_, hK _ ?_⟩; ((first | exact rg_below (hasInt_b A6 O.length c6 O x true _ rfl (by exact rdW (below_regrown _ _ _) (rdW hBr HR6.out)) (by omega) hn6 hmx))); clear hK K)))))
            all_goals (refine wpQuiet_nil ?_; intro w1 hw1)
            all_goals (clear kg0 kg1; replace g0 := (hw1.cell (by (try simp only); omega)).trans g0; replace g1 := (hw1.cell (by (try simp only); omega)).trans g1)
            all_goals
              go_wp2
              go_roundw
              case rel => exact ⟨k + 1, by omega, by go_num, bt hBr hw1⟩
              case measure => simp [intOf]; omega
        · obtain rfl : k = V.length := by omega
          have hBw := bt HB.out hBr
          by_cases hvc : vc = 0
          · have f4 := F4.out hvc
            subst hvc
            cases hno : decide (n ∈ O)
            · have hn0 : V.length = 0 := by
                have h1 : ¬ n ∈ O := of_decide_eq_false hno
                have h2 : ¬ 0 < V.length := fun h => h1 (f4.1 h)
                omega
              have hni : ¬ (0 : Int) < (V.length : Int) := by omega
              have HN0 := Lib.hid hn0; clear hn0 f4
              go_wp2_with fail
              refine (hasInt_b A6 O.length c6 O n false v0 rfl (rdW hBr HR6.out) (by omega) hn6 hno).mono ?_
              rintro e v1 ⟨rfl, hb1⟩
              go_wp2
              go_ret
              exact ⟨ret_bool (by simp; exact List.length_eq_zero_iff.1 HN0.out), bt hBw hb1⟩
            · have hni : (0 : Int) < (V.length : Int) := by
                have h2 : 0 < V.length := f4.2 (of_decide_eq_true hno)
                omega
              clear f4
              go_wp2_with fail
              refine (hasInt_b A6 O.length c6 O n true v0 rfl (rdW hBr HR6.out) (by omega) hn6 hno).mono ?_
              rintro e v1 ⟨rfl, hb1⟩
              go_wp2
              go_ret
              exact ⟨ret_bool (by simp; omega), bt hBw hb1⟩
          · go_wp2
            go_ret
            exact ⟨ret_bool (by simp), hBw⟩
  · go_wp2
    refine wp_region_bel mixed (by kernel_rfl) ?_
    repeat (any_goals (first | go_big_quiet_step ((fail)) | quiet_step ((fail)) | (refine wpQuiet_step (fun K hK => ?_); go_simp; (split <;> first | (refine hK _ ?_; clear hK K) | (apply Exists.intro; refine ⟨fun _ => ?_, hK _ ?_⟩; ((fail)); clear hK K)))))
    all_goals (refine wpQuiet_nil ?_; intro w1 hw1)
    all_goals
      replace HR2 := Lib.hid (rdW hw1 HR2.out)
      replace HR6 := Lib.hid (rdW hw1 HR6.out)
      replace HB := Lib.hid (bt HB.out hw1)
      have hzw1 := hw1.size
      go_wp2
      go_loopw [23] (fun i wr => ∃ k : Nat, k ≤ V.length ∧ i = .int .i64 k ∧ Below w1.heap.size w1 wr) (fun i _ => V.length - (intOf i).toNat)
      case atStart => exact ⟨0, by omega, rfl, Below.refl _ _⟩
      case round =>
        obtain ⟨v0, rfl⟩ : ∃ v0, v0 = wr := ⟨_, rfl⟩
        obtain ⟨k, hk, rfl, hBr⟩ := hrel
        have hzv := hBr.size
        by_cases hlt : k < V.length
        · obtain ⟨b, off, rfl, hb, hcell⟩ := Rd.ints (HR2.out.below hBr) hlt
          have g0 := hcell k hlt
          have hm0 := F2.out _ (List.getElem_mem hlt)
          have hk1 : (k : Int) < (V.length : Int) := by omega
          have hk3 : (0 : Int) ≤ (k : Int) := by omega
          by_cases hk0 : k = 0
          · subst hk0
            clear hcell
            generalize V[0] = x at *
            have hmx : decide (x ∈ O) = true := decide_eq_true hm0
            simp only [Nat.add_zero] at g0
            go_wp2
            have kg0 := cell_regrown g0
            refine wp_region_bel mixed (by kernel_rfl) ?_
            repeat (any_goals (first | go_big_quiet_step ((first | exact rg_below (hasInt_b A6 O.length c6 O x true _ rfl (by exact rdW (below_regrown _ _ _) (rdW hBr HR6.out)) (by omega) hn6 hmx))) | quiet_step ((first | exact rg_below (hasInt_b A6 O.length c6 O x true _ rfl (by exact rdW (below_regrown _ _ _) (rdW hBr HR6.out)) (by omega) hn6 hmx))) | (refine wpQuiet_step (fun K hK => ?_); go_simp; (split <;> first | (refine hK _ ?_; clear hK K) | (apply Exists.intro; refine ⟨fun _ => ?_, hK _ ?_⟩; ((first | exact rg_below (hasInt_b A6 O.length c6 O x true _ rfl (by exact rdW (below_regrown _ _ _) (rdW hBr HR6.out)) (by omega) hn6 hmx))); clear hK K)))))
            all_goals (refine wpQuiet_nil ?_; intro w1 hw1)
            all_goals (clear kg0; replace g0 := (hw1.cell (by (try simp only); omega)).trans g0)
            all_goals
              go_wp2
              go_roundw
              case rel => exact ⟨1, by omega, by go_num, bt hBr hw1⟩
              case measure => simp [intOf]; omega
          · obtain ⟨m, hm⟩ : ∃ m, k = m + 1 := ⟨k - 1, by omega⟩
            have g1 := hcell m (by omega)
            have hfall := F3.out m _ _ (List.getElem?_eq_getElem (show m < V.length by omega)) (by rw [← hm]; exact List.getElem?_eq_getElem hlt)
            clear hcell
            generalize V[k] = x at *
            generalize V[m] = y at *
            have hmx : decide (x ∈ O) = true := decide_eq_true hm0
            have hkm : (0 : Int) < (k : Int) := by omega
            have hwk : IntKind.i64.wrap ((k : Int) - 1) = (m : Int) := by rw [IntWalk.i64_in _ (by omega)]; omega
            have hm3 : (0 : Int) ≤ (m : Int) := by omega
            have hm4 : (m : Int) < (V.length : Int) := by omega
            have hxy : ¬ (y ≤ x) := by omega
            have HM := Lib.hid hm
            clear hm
            go_wp2
            have kg0 := cell_regrown g0
            have kg1 := cell_regrown g1
            refine wp_region_bel mixed (by kernel_rfl) ?_
            repeat (any_goals (first | go_big_quiet_step ((first | exact rg_below (hasInt_b A6 O.length c6 O x true _ rfl (by exact rdW (below_regrown _ _ _) (rdW hBr HR6.out)) (by omega) hn6 hmx))) | quiet_step ((first | exact rg_below (hasInt_b A6 O.length c6 O x true _ rfl (by exact rdW (below_regrown _ _ _) (rdW hBr HR6.out)) (by omega) hn6 hmx))) | (refine wpQuiet_step (fun K hK => ?_); go_simp; (split <;> first | (refine hK _ ?_; clear hK K) | (apply Exists.intro; refine ⟨fun _ => ?_, hK _ ?_⟩; ((first | exact rg_below (hasInt_b A6 O.length c6 O x true _ rfl (by exact rdW (below_regrown _ _ _) (rdW hBr HR6.out)) (by omega) hn6 hmx))); clear hK K)))))
            all_goals (refine wpQuiet_nil ?_; intro w1 hw1)
            all_goals (clear kg0 kg1; replace g0 := (hw1.cell (by (try simp only); omega)).trans g0; replace g1 := (hw1.cell (by (try simp only); omega)).trans g1)
            all_goals
              go_wp2
              go_roundw
              case rel => exact ⟨k + 1, by omega, by go_num, bt hBr hw1⟩
              case measure => simp [intOf]; omega
        · obtain rfl : k = V.length := by omega
          have hBw := bt HB.out hBr
          by_cases hvc : vc = 0
          · have f4 := F4.out hvc
            subst hvc
            cases hno : decide (n ∈ O)
            · have hn0 : V.length = 0 := by
                have h1 : ¬ n ∈ O := of_decide_eq_false hno
                have h2 : ¬ 0 < V.length := fun h => h1 (f4.1 h)
                omega
              have hni : ¬ (0 : Int) < (V.length : Int) := by omega
              have HN0 := Lib.hid hn0; clear hn0 f4
              go_wp2_with fail
              refine (hasInt_b A6 O.length c6 O n false v0 rfl (rdW hBr HR6.out) (by omega) hn6 hno).mono ?_
              rintro e v1 ⟨rfl, hb1⟩
              go_wp2
              go_ret
              exact ⟨ret_bool (by simp; exact List.length_eq_zero_iff.1 HN0.out), bt hBw hb1⟩
            · have hni : (0 : Int) < (V.length : Int) := by
                have h2 : 0 < V.length := f4.2 (of_decide_eq_true hno)
                omega
              clear f4
              go_wp2_with fail
              refine (hasInt_b A6 O.length c6 O n true v0 rfl (rdW hBr HR6.out) (by omega) hn6 hno).mono ?_
              rintro e v1 ⟨rfl, hb1⟩
              go_wp2
              go_ret
              exact ⟨ret_bool (by simp; omega), bt hBw hb1⟩
          · go_wp2
            go_ret
            exact ⟨ret_bool (by simp), hBw⟩
end Go.Proofs.Ytdohegpbdlcnjaa
