/- Contract: impl.ShareCosts, the walk. -/
import Derived.Test.YthkobjadfeidmaaShareI
namespace Go.Proofs.Ythkobjadfeidmaa
open Go.RowKit
set_option linter.unusedVariables false
theorem quo_mem_bd {cents T : Int} {D : List Int} (hc : 0 ≤ cents ∧ cents ≤ 1000000000) (hT : 0 < T) (hx : ∀ x ∈ D, 0 ≤ x ∧ x ≤ 1000) : ∀ x ∈ quoD cents T D, 0 ≤ x ∧ x ≤ 1000000000000 := by
  intro x hx2
  obtain ⟨d, hd, rfl⟩ := List.mem_map.1 hx2
  exact (quo_bd hc (hx d hd) hT).2.1
theorem getD_all {D : List Int} (h : ∀ j, j < D.length → inB (D.getD j 0) 0 1000 = true) : ∀ x ∈ D, 0 ≤ x ∧ x ≤ 1000 := by
  intro x hx
  obtain ⟨j, hj, rfl⟩ := List.getElem_of_mem hx
  have := h j hj
  rw [List.getD_eq_getElem?_getD, List.getElem?_eq_getElem hj] at this
  exact inB_iff.1 this
theorem own_setOther {W : World} {base : Nat} {e : TypeId} {size n : Nat} {v : Value} {xs : List Value} (h : W.ownsRow base e size v n xs) {b : Nat} (hne : v.ownBlock ≠ some b) (j : Nat) (u : Value) : (W.setCell ⟨b, j, none⟩ u).ownsRow base e size v n xs :=
  h.kept (grown_set (World.grownBy.refl _ _)) (.inr hne)
theorem getD_bd {P : List Int} {B : Int} (hB : 0 ≤ B) (h : ∀ x ∈ P, 0 ≤ x ∧ x ≤ B) (j : Nat) : 0 ≤ P.getD j 0 ∧ P.getD j 0 ≤ B := by
  rw [List.getD_eq_getElem?_getD]
  rcases hx : P[j]? with _ | x
  · simp; exact hB
  · exact h x (List.mem_of_getElem? hx)
theorem remD_at {c T : Int} {D : List Int} {k : Nat} (hk : k < D.length) : remD c T D k = c * D[k] % T := by
  rw [remD, List.getD_eq_getElem?_getD, List.getElem?_eq_getElem hk]; rfl
theorem best_true {R : Nat → Int} {G : Nat → Bool} {k : Nat} (h : G k = true) : bestN R G (k + 1) = bestN R G k := by rw [bestN_succ, if_neg (by rw [h]; simp)]
theorem best_first {R : Nat → Int} {G : Nat → Bool} {k : Nat} (h : G k = false) (h2 : bestN R G k < 0) : bestN R G (k + 1) = k := by rw [bestN_succ, if_pos ⟨h, .inl h2⟩]
theorem best_more {R : Nat → Int} {G : Nat → Bool} {k b : Nat} (h : G k = false) (hb : bestN R G k = b) (h2 : R b < R k) : bestN R G (k + 1) = k := by rw [bestN_succ, if_pos ⟨h, .inr (by rw [hb]; exact h2)⟩]
theorem best_less {R : Nat → Int} {G : Nat → Bool} {k b : Nat} (hb : bestN R G k = b) (h2 : ¬ R b < R k) : bestN R G (k + 1) = b := by
  rw [bestN_succ, if_neg (fun h => by
    rcases h.2 with h3 | h3
    · omega
    · rw [hb] at h3; exact h2 h3), hb]
theorem own_drewN {W : World} {base : Nat} {e : TypeId} {size n : Nat} {v : Value} {xs : List Value} (h : W.ownsRow base e size v n xs) (d : Nat) : (W.drewN d).ownsRow base e size v n xs := h
set_option maxRecDepth 100000 in
set_option maxHeartbeats 8000000 in
theorem impl_ShareCosts (cents : Int) (A : Option Addr) (c : Nat) (D : List Int) (w : World) (hr : Rd w w.heap.size A D.length (D.map (Value.int .i64))) (hl : D.length ≤ 140737488355328) (hcap : D.length ≤ c) :
    Calls Try.prog 9 #[.int .i64 cents, .slice A D.length c] w (RowPost2 2 1 (shareF cents D).length ((shareF cents D).map (Value.int .i64)) (shareC cents D) w) := by
  cases hC : inB cents 0 1000000000
  · obtain ⟨e1, e2⟩ := share_bad (c := cents) (D := D) (by simp [shareOk, hC])
    rw [e1, e2]
    go_enter Try.func9, Try.ntmps9
    go_wp2_with fail
    refine (within_b _ _ _ _ w hC).mono ?_
    rintro e w' ⟨rfl, rfl⟩
    go_wp2
    go_ret2
    exact rowPost2_nil (Below.refl _ _)
  cases hN : inB D.length 1 60
  · obtain ⟨e1, e2⟩ := share_bad (c := cents) (D := D) (by simp [shareOk, hN])
    rw [e1, e2]
    go_enter Try.func9, Try.ntmps9
    go_wp2_with fail
    refine (within_b _ _ _ _ w hC).mono ?_
    rintro e w' ⟨rfl, rfl⟩
    go_wp2_with fail
    refine (within_b _ _ _ _ w hN).mono ?_
    rintro e w' ⟨rfl, rfl⟩
    go_wp2
    go_ret2
    exact rowPost2_nil (Below.refl _ _)
  have hn := inB_iff.1 hN
  have hcc := inB_iff.1 hC
  obtain ⟨i0, hi, hz0, hz1, hz2⟩ := info_parts int_info
  obtain ⟨j0, hj, hy0, hy1, hy2⟩ := info_parts bool_info
  go_enter Try.func9, Try.ntmps9
  go_wp2_with fail
  refine (within_b _ _ _ _ w hC).mono ?_
  rintro e w' ⟨rfl, rfl⟩
  go_wp2_with fail
  refine (within_b _ _ _ _ w hN).mono ?_
  rintro e w' ⟨rfl, rfl⟩
  have HC := Lib.hid hC; have HN := Lib.hid hN; clear hC hN
  go_wp2
  go_loop [27] (fun i => ∃ k : Nat, k ≤ D.length ∧ i = .int .i64 k ∧ Hid (∀ j, j < k → inB (D.getD j 0) 0 1000 = true)) (fun i => D.length - (intOf i).toNat)
  case atStart => exact ⟨0, by omega, rfl, fun j hj => absurd hj (by omega)⟩
  case round =>
    obtain ⟨k, hk, rfl, HA⟩ := hrel
    by_cases hlt : k < D.length
    · obtain ⟨b, off, rfl, hb, hcell⟩ := Rd.ints hr hlt
      have f0 := hcell k hlt
      clear hcell
      have HX : Hid (D.getD k 0 = D[k]) := by rw [Hid, List.getD_eq_getElem?_getD, List.getElem?_eq_getElem hlt]; rfl
      cases hx : inB D[k] 0 1000
      · have HB := Lib.hid (share_bad (c := cents) (share_bad_at hlt hx))
        generalize D[k] = x at *
        go_wp2_with fail
        refine (isServiceDays_b _ _ w hx).mono ?_
        rintro e w' ⟨rfl, rfl⟩
        go_wp2
        go_ret2
        rw [HB.out.1, HB.out.2]
        exact rowPost2_nil (Below.refl _ _)
      · generalize D[k] = x at *
        go_wp2_with fail
        refine (isServiceDays_b _ _ w hx).mono ?_
        rintro e w' ⟨rfl, rfl⟩
        go_wp2
        go_round
        case rel => exact ⟨k + 1, by omega, by go_num, fun j hj => by
          by_cases e : j = k
          · subst e; rw [HX.out]; exact hx
          · exact HA.out j (by omega)⟩
        case measure => simp [intOf]; omega
    · obtain rfl : k = D.length := by omega
      have HALL := HA
      have HX := Lib.hid (getD_all HA.out)
      clear HA hlt
      go_wp2_with fail
      obtain ⟨T, hT⟩ : ∃ T, sumI D = T := ⟨_, rfl⟩
      have hTb := sumI_le D HX.out
      rw [hT] at hTb
      have HT := Lib.hid hT
      refine (sum_c A D.length c D w rfl hr (by omega) hcap (fun x hx => by have := HX.out x hx; omega)).mono ?_
      rintro e w' ⟨he, rfl⟩
      rw [hT] at he; subst he
      clear hT
      by_cases h0 : T = 0
      · have HB := Lib.hid (share_bad (c := cents) (D := D) (by simp [shareOk, HT.out, h0]))
        subst h0
        go_wp2
        go_ret2
        rw [HB.out.1, HB.out.2]
        exact rowPost2_nil (Below.refl _ _)
      have hTp : 0 < T := by omega
      have hb0 : (T == 0) = false := by simp; omega
      have HOK := Lib.hid (share_all HC.out HN.out HALL.out (by rw [HT.out]; exact h0))
      go_wp2
      have hown0 := World.ownsRow_lit (base := w.heap.size) (e := 2) (size := 1) w #[] 0 (Nat.le_refl _) (by unfold maxLen; omega) rfl
      go_loopw [9, 42] (fun v i wr => ∃ (k : Nat) (A2 : Option Addr) (c2 : Nat), k ≤ D.length ∧ i = .int .i64 k ∧ v = .slice A2 k c2 ∧ Below w.heap.size w wr ∧ Hid (wr.ownsRow w.heap.size 2 1 (.slice A2 k c2) k ((quoD cents T (D.take k)).map (Value.int .i64)))) (fun _ i _ => D.length - (intOf i).toNat)
      case atStart => exact ⟨0, _, _, by omega, rfl, rfl, (Below.refl _ _).alloc (Nat.le_refl _) _, hown0⟩
      case round =>
        obtain ⟨k, A2, c2, hk, rfl, rfl, hB, HO⟩ := hrel
        clear hown0
        by_cases hlt : k < D.length
        · obtain ⟨b, off, rfl, hb, hcell⟩ := Rd.ints (hr.below hB) hlt
          have f0 := hcell k hlt
          clear hcell
          have hqb := quo_bd hcc (HX.out _ (List.getElem_mem hlt)) hTp
          have HS := Lib.hid (quo_snoc (c := cents) (T := T) hlt)
          generalize D[k] = x at *
          obtain ⟨hm, hq, htd, _, _, _⟩ := hqb
          have hwm : IntKind.i64.wrap (cents * x) = cents * x := IntWalk.i64_in _ (by omega)
          generalize cents * x / T = q at *
          have hwq : IntKind.i64.wrap q = q := IntWalk.i64_in _ (by omega)
          have hsw := hB.size
          go_wp2_with (first | (at_builtin; refine wpList_push wr rfl _ _ 22 rfl w.heap.size 2 i0 _ 1 8 Try.underlying22 hi hz0 hz1 hz2 rfl (by decide) (.slice A2 k c2) (k) ((quoD cents T (D.take k)).map (Value.int .i64)) (by rfl) HO.out [.int .i64 q] 2 (by rfl) rfl (by simp [Value.oneCell']) (by unfold maxLen; omega) (by omega) hsw ?_; intro A4 c4 w4 ho4 hg4))
          go_roundw
          case rel => exact ⟨k + 1, A4, c4, by omega, by go_num, rfl, below_grown hB hg4 (Nat.le_refl _) (fun j hj => (HO.out.lt j hj).1), by rw [HS.out]; exact ho4⟩
          case measure => simp [intOf]; omega
        · obtain rfl : k = D.length := by omega
          obtain ⟨w2, rfl⟩ : ∃ w2, w2 = wr := ⟨_, rfl⟩
          have hpl : (quoD cents T D).length = D.length := quoD_len _ _ _
          have HPL := Lib.hid hpl; clear hpl
          have HO2 : Hid (w2.ownsRow w.heap.size 2 1 (.slice A2 D.length c2) D.length ((quoD cents T D).map (Value.int .i64))) := by have := HO.out; rw [List.take_of_length_le (Nat.le_refl _)] at this; exact this
          have hQ := quo_mem_bd hcc hTp HX.out
          have HQ := Lib.hid hQ; clear hQ HO hb0
          have hcap2 := own_cap HO2.out
          obtain ⟨gp, rfl, hgp1, hgp2⟩ := own_head HO2.out (by omega)
          go_wp2_with (first | (at_make; refine wpList_make_full _ rfl _ _ 58 rfl w2.heap.size 4 j0 _ 1 Try.underlying58 hj hy0 hy1 _ _ _ _ D.length rfl rfl rfl rfl (by rw [hy2]; omega) (by unfold maxLen; omega) (Nat.le_refl _) ?_; intro w3 hownG hgG))
          have HG0 : Hid (w3.ownsRow w2.heap.size 4 1 (.slice (some ⟨w2.heap.size, 0, none⟩) D.length D.length) D.length ((List.replicate D.length false).map Value.bool)) := by
            have := hownG; rw [show (Value.bool false).cells = #[.bool false] from rfl, Nat.mul_one, toList_madeCells_one] at this; rw [List.map_replicate]; exact this
          have HP0 := Lib.hid (HO2.out.kept hgG (.inr (by simp [Value.ownBlock])))
          have hB3 := below_grown hB hgG (Nat.le_refl _) (fun k hk => by cases hk)
          have hz3 : w2.heap.size < w3.heap.size := (hownG.lt _ rfl).2
          clear hownG hgG hj hy0 hy1 hy2
          refine (sum_c (some ⟨gp, 0, none⟩) D.length c2 (quoD cents T D) w3 HPL.out (Rd.of_own1 HP0.out) (by omega) (by omega) HQ.out).mono ?_
          rintro e w' ⟨rfl, rfl⟩
          have hleft := left_bd (c := cents) (D := D) HT.out.symm hTp (by omega)
          have HLF : Hid (leftOf cents D = cents - sumI (quoD cents T D)) := by rw [Hid, leftOf, HT.out]
          have hsb := sumI_le _ HQ.out
          rw [HPL.out] at hsb
          have hws : IntKind.i64.wrap (cents - sumI (quoD cents T D)) = cents - sumI (quoD cents T D) := IntWalk.i64_in _ (by omega)
          obtain ⟨l, hle⟩ := Int.eq_ofNat_of_zero_le hleft.1
          rw [hle] at hws hleft HLF
          have hll : l < D.length := by omega
          clear hsb
          go_wp2
          go_loopw [62] (fun i wo => ∃ t : Nat, t ≤ l ∧ i = .int .i64 t ∧ Below w.heap.size w wo ∧ w2.heap.size < wo.heap.size ∧ Hid (wo.ownsRow w2.heap.size 4 1 (.slice (some ⟨w2.heap.size, 0, none⟩) D.length D.length) D.length ((shareN (remD cents T D) D.length (quoD cents T D) t).1.map Value.bool)) ∧ Hid (wo.ownsRow w.heap.size 2 1 (.slice (some ⟨gp, 0, none⟩) D.length c2) D.length ((shareN (remD cents T D) D.length (quoD cents T D) t).2.map (Value.int .i64)))) (fun i _ => l - (intOf i).toNat)
          case atStart => exact ⟨0, by omega, rfl, hB3, hz3, HG0.out, HP0.out⟩
          case round =>
            obtain ⟨wo, rfl⟩ : ∃ wo, wo = wr := ⟨_, rfl⟩
            obtain ⟨t, ht, rfl, hB4, hz4, HG, HP⟩ := hrel
            clear HG0 HP0
            by_cases hlt2 : t < l
            · have hbo := best_ok (remD cents T D) D.length (quoD cents T D) (show t < D.length by omega)
              have hlen := shareN_len (remD cents T D) D.length (quoD cents T D) t
              have hpb := shareN_bd (R := (remD cents T D)) (n := D.length) (P0 := (quoD cents T D)) (B := 1000000000000) (by omega) (getD_bd (by omega) HQ.out) t
              have HST : Hid (shareN (remD cents T D) D.length (quoD cents T D) (t + 1) = ((shareN (remD cents T D) D.length (quoD cents T D) t).1.set (bestN (remD cents T D) (gOf (shareN (remD cents T D) D.length (quoD cents T D) t).1) D.length).toNat true, (shareN (remD cents T D) D.length (quoD cents T D) t).2.set (bestN (remD cents T D) (gOf (shareN (remD cents T D) D.length (quoD cents T D) t).1) D.length).toNat ((shareN (remD cents T D) D.length (quoD cents T D) t).2.getD (bestN (remD cents T D) (gOf (shareN (remD cents T D) D.length (quoD cents T D) t).1) D.length).toNat 0 + 1))) := rfl
              rw [HPL.out] at hlen
              generalize (shareN (remD cents T D) D.length (quoD cents T D) t) = S at *
              obtain ⟨G, P⟩ := S
              replace HG : Hid (wo.ownsRow w2.heap.size 4 1 (.slice (some ⟨w2.heap.size, 0, none⟩) D.length D.length) D.length (G.map Value.bool)) := HG
              replace HP : Hid (wo.ownsRow w.heap.size 2 1 (.slice (some ⟨gp, 0, none⟩) D.length c2) D.length (P.map (Value.int .i64))) := HP
              replace HST : Hid (shareN (remD cents T D) D.length (quoD cents T D) (t + 1) = (G.set (bestN (remD cents T D) (gOf G) D.length).toNat true, P.set (bestN (remD cents T D) (gOf G) D.length).toNat (P.getD (bestN (remD cents T D) (gOf G) D.length).toNat 0 + 1))) := HST
              have HBO : Hid (0 ≤ bestN (remD cents T D) (gOf G) D.length ∧ bestN (remD cents T D) (gOf G) D.length < D.length ∧ gOf G (bestN (remD cents T D) (gOf G) D.length).toNat = false) := hbo
              have hgl : G.length = D.length := hlen.1
              have hpl : P.length = D.length := hlen.2
              have HPB : Hid (∀ j, 0 ≤ P.getD j 0 ∧ P.getD j 0 ≤ 1000000000000 + t) := hpb
              have HGL := Lib.hid hgl; have HPL2 := Lib.hid hpl
              clear hbo hlen hpb hgl hpl
              go_wp2
              go_loopw [13, 66] (fun bv i w5 => ∃ (k dd : Nat), k ≤ D.length ∧ i = .int .i64 k ∧ bv = .int .i64 (bestN (remD cents T D) (gOf G) k) ∧ w5 = wo.drewN dd) (fun _ i _ => D.length - (intOf i).toNat)
              case atStart => exact ⟨0, 0, by omega, rfl, rfl, rfl⟩
              case round =>
                obtain ⟨k, dd, hk2, rfl, rfl, rfl⟩ := hrel
                by_cases hlt3 : k < D.length
                · obtain ⟨b, off, rfl, hb, hcell⟩ := Rd.ints (hr.below hB4) hlt3
                  have f0 : wo.cell? ⟨b, off + k, none⟩ = some (.int .i64 D[k]) := hcell k hlt3
                  have fg : wo.cell? ⟨w2.heap.size, k, none⟩ = some (.bool (gOf G k)) := by
                    rw [HG.out.cellAt k (by omega), List.getElem?_map, List.getElem?_eq_getElem (by rw [HGL.out]; exact hlt3)]
                    simp [gOf, List.getD_eq_getElem?_getD, HGL.out, hlt3]
                  have hk0 : (0 : Int) ≤ (k : Int) := by omega
                  have hkl : (k : Int) < (D.length : Int) := by omega
                  have hkc : (k : Int) ≤ (c : Int) := by omega
                  cases hg : gOf G k
                  · rw [hg] at fg
                    by_cases hneg : bestN (remD cents T D) (gOf G) k < 0
                    · have HBF := Lib.hid (best_first hg hneg)
                      clear hcell
                      generalize D[k] = x at *
                      generalize bestN (remD cents T D) (gOf G) k = bv at *
                      go_wp2
                      go_quiet (fail)
                      go_wp2
                      go_roundw
                      case rel => exact ⟨k + 1, _, by omega, by go_num, by rw [HBF.out], rfl⟩
                      case measure => simp [intOf]; omega
                    · obtain ⟨bb, hbb⟩ := Int.eq_ofNat_of_zero_le (show 0 ≤ bestN (remD cents T D) (gOf G) k by omega)
                      have hbk := bestN_bd (remD cents T D) (gOf G) k
                      have hbl : bb < k := by omega
                      have fb : wo.cell? ⟨b, off + bb, none⟩ = some (.int .i64 D[bb]) := hcell bb (by omega)
                      have r0 := remD_at (c := cents) (T := T) hlt3
                      have rb := remD_at (c := cents) (T := T) (show bb < D.length by omega)
                      have q0 := quo_bd hcc (HX.out _ (List.getElem_mem hlt3)) hTp
                      have qb := quo_bd hcc (HX.out _ (List.getElem_mem (show bb < D.length by omega))) hTp
                      have HBM := Lib.hid (fun h => best_more (R := (remD cents T D)) hg hbb h)
                      have HBL := Lib.hid (fun h => best_less (R := (remD cents T D)) (G := gOf G) (k := k) hbb h)
                      clear hcell
                      generalize (remD cents T D) k = rk at *
                      generalize (remD cents T D) bb = rl at *
                      generalize D[k] = x at *
                      generalize D[bb] = y at *
                      obtain ⟨m0, _, _, t0, n0, p0⟩ := q0
                      obtain ⟨mb, _, _, tb, nb, pb⟩ := qb
                      have hw1 : IntKind.i64.wrap (cents * x) = cents * x := IntWalk.i64_in _ (by omega)
                      have hw2 : IntKind.i64.wrap (cents * y) = cents * y := IntWalk.i64_in _ (by omega)
                      generalize cents * x % T = rx at *
                      generalize cents * y % T = ry at *
                      subst r0 rb
                      have hTi : T ≤ 60000 := by omega
                      have hw3 : IntKind.i64.wrap rk = rk := IntWalk.i64_in _ (by omega)
                      have hw4 : IntKind.i64.wrap rl = rl := IntWalk.i64_in _ (by omega)
                      have hbb0 : (0 : Int) ≤ (bb : Int) := by omega
                      have hbbl : (bb : Int) < (D.length : Int) := by omega
                      have hbbc : (bb : Int) ≤ (c : Int) := by omega
                      generalize bestN (remD cents T D) (gOf G) k = bv at *
                      subst hbb
                      by_cases hgt : rl < rk
                      · have HBQ := Lib.hid (HBM.out hgt)
                        clear HBM HBL
                        go_wp2
                        go_quiet (fail)
                        go_wp2
                        go_roundw
                        case rel => exact ⟨k + 1, _, by omega, by go_num, by rw [HBQ.out], rfl⟩
                        case measure => simp [intOf]; omega
                      · have HBQ := Lib.hid (HBL.out hgt)
                        clear HBM HBL
                        go_wp2
                        go_quiet (fail)
                        go_wp2
                        go_roundw
                        case rel => exact ⟨k + 1, _, by omega, by go_num, by rw [HBQ.out], rfl⟩
                        case measure => simp [intOf]; omega
                  · rw [hg] at fg
                    have HBQ := Lib.hid (best_true (R := (remD cents T D)) hg)
                    clear hcell
                    generalize D[k] = x at *
                    generalize bestN (remD cents T D) (gOf G) k = bv at *
                    go_wp2
                    go_quiet (fail)
                    go_wp2
                    go_roundw
                    case rel => exact ⟨k + 1, _, by omega, by go_num, by rw [HBQ.out], rfl⟩
                    case measure => simp [intOf]; omega
                · obtain rfl : k = D.length := by omega
                  obtain ⟨hb0, hb1, hb2⟩ := HBO.out
                  obtain ⟨bb, hbb⟩ := Int.eq_ofNat_of_zero_le hb0
                  have HST2 : Hid (shareN (remD cents T D) D.length (quoD cents T D) (t + 1) = (G.set bb true, P.set bb (P.getD bb 0 + 1))) := by have := HST.out; rw [hbb, Int.toNat_natCast] at this; exact this
                  clear HST HBO hb2
                  generalize bestN (remD cents T D) (gOf G) D.length = bv at *
                  subst hbb
                  have hbl : bb < D.length := by omega
                  obtain ⟨u0, hu0⟩ := own_cell HG.out (j := bb) (by omega)
                  have hz0' := HG.out.frozenAt bb
                  have hp0 : wo.cell? ⟨gp, bb, none⟩ = some (.int .i64 (P.getD bb 0)) := by
                    rw [HP.out.cellAt bb (by omega), List.getElem?_map, List.getElem?_eq_getElem (by rw [HPL2.out]; exact hbl)]
                    simp [List.getD_eq_getElem?_getD, HPL2.out, hbl]
                  have hz1' := HP.out.frozenAt bb
                  have hpb := HPB.out bb
                  generalize P.getD bb 0 = z at *
                  have hne : w2.heap.size ≠ gp := by omega
                  have hne' : gp ≠ w2.heap.size := by omega
                  have hwz : IntKind.i64.wrap (z + 1) = z + 1 := IntWalk.i64_in _ (by omega)
                  have hbb0 : (0 : Int) ≤ (bb : Int) := by omega
                  have hbbl : (bb : Int) < (D.length : Int) := by omega
                  have hdc : (D.length : Int) ≤ (c2 : Int) := by omega
                  go_wp2
                  go_roundw
                  case rel =>
                    refine ⟨t + 1, by omega, by go_num, ?_, ?_, ?_, ?_⟩
                    · exact ((below_drewN hB4 _).setCell (by (try simp only); omega) _).setCell (by (try simp only); omega) _
                    · simpa [World.setCell] using hz4
                    · rw [HST2.out]
                      have := own_setOther ((own_drewN HG.out dd).stored bb (.bool true)).1 (b := gp) (by simp [Value.ownBlock]; omega) bb (.int .i64 (z + 1))
                      rw [← List.map_set] at this
                      exact this
                    · rw [HST2.out]
                      have := ((own_setOther (own_drewN HP.out dd) (b := w2.heap.size) (by simp [Value.ownBlock]; omega) bb (.bool true)).stored bb (.int .i64 (z + 1))).1
                      rw [← List.map_set] at this
                      exact this
                  case measure => simp [intOf]; omega
            · obtain rfl : t = l := by omega
              have HF : Hid (shareF cents D = (shareN (remD cents T D) D.length (quoD cents T D) t).2) := by
                rw [Hid, shareF, if_pos HOK.out, HLF.out, shareOf, HT.out, Int.toNat_natCast]
              have HF2 : Hid (shareC cents D = 0) := by rw [Hid, shareC, if_pos HOK.out]
              have hlen := shareN_len (remD cents T D) D.length (quoD cents T D) t
              rw [HPL.out] at hlen
              have HLN := Lib.hid hlen.2; clear hlen
              go_wp2
              go_ret2
              rw [HF.out, HF2.out, HLN.out]
              exact rowPost2_mk HP.out hB4
end Go.Proofs.Ythkobjadfeidmaa
