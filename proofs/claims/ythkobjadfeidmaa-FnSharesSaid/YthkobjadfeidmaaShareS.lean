/- Contract: spec.ShareCosts, the walk. -/
import Derived.Test.YthkobjadfeidmaaShareW
namespace Go.Proofs.Ythkobjadfeidmaa
open Go.RowKit
set_option linter.unusedVariables false
theorem take_bd {D : List Int} {k : Nat} (h : ∀ j, j < k → inB (D.getD j 0) 0 1000 = true) (hk : k ≤ 60) : 0 ≤ sumI (D.take k) ∧ sumI (D.take k) ≤ 60000 := by
  have h1 := sumI_le (B := 1000) (D.take k) (fun x hx => by
    obtain ⟨j, hj, rfl⟩ := List.getElem_of_mem hx
    rw [List.length_take] at hj
    have := h j (by omega)
    rw [List.getD_eq_getElem?_getD, List.getElem?_eq_getElem (show j < D.length by omega)] at this
    rw [List.getElem_take]
    exact inB_iff.1 this)
  rw [List.length_take] at h1; omega
theorem left_step {c T : Int} {D : List Int} {k : Nat} (hk : k < D.length) : sumI (quoD c T (D.take (k + 1))) = sumI (quoD c T (D.take k)) + c * D[k] / T := by
  have h1 : (quoD c T D).take (k + 1) = quoD c T (D.take (k + 1)) := by simp [quoD, List.map_take]
  have h2 : (quoD c T D).take k = quoD c T (D.take k) := by simp [quoD, List.map_take]
  have h3 := sumI_snoc (D := quoD c T D) (k := k) (by rw [quoD_len]; exact hk)
  rw [h1, h2] at h3
  rw [h3]; simp [quoD]
theorem left_bds {c T : Int} {D : List Int} (h : ∀ x ∈ quoD c T D, 0 ≤ x ∧ x ≤ 1000000000000) (k : Nat) : 0 ≤ sumI (quoD c T (D.take k)) ∧ sumI (quoD c T (D.take k)) ≤ 1000000000000 * (D.length : Int) := by
  have h2 : (quoD c T D).take k = quoD c T (D.take k) := by simp [quoD, List.map_take]
  have := sumI_take_bd (B := 1000000000000) (by omega) h k
  rw [h2, quoD_len] at this; exact this
set_option maxRecDepth 100000 in
set_option maxHeartbeats 8000000 in
theorem spec_ShareCosts (cents : Int) (A : Option Addr) (c : Nat) (D : List Int) (w : World) (hr : Rd w w.heap.size A D.length (D.map (Value.int .i64))) (hl : D.length ≤ 140737488355328) (hcap : D.length ≤ c) :
    Calls Try.prog 7 #[.int .i64 cents, .slice A D.length c] w (RowPost2 2 1 (shareF cents D).length ((shareF cents D).map (Value.int .i64)) (shareC cents D) w) := by
  obtain ⟨i0, hi, hz0, hz1, hz2⟩ := info_parts int_info
  obtain ⟨j0, hj, hy0, hy1, hy2⟩ := info_parts bool_info
  go_enter Try.func7, Try.ntmps7
  go_wp2
  go_loop [6, 7] (fun v i => ∃ k : Nat, k ≤ D.length ∧ k ≤ 60 ∧ i = .int .i64 k ∧ v = .int .i64 (sumI (D.take k)) ∧ Hid (∀ j, j < k → inB (D.getD j 0) 0 1000 = true)) (fun _ i => D.length - (intOf i).toNat)
  case atStart => exact ⟨0, by omega, by omega, rfl, rfl, fun j hj => absurd hj (by omega)⟩
  case round =>
    obtain ⟨k, hk, hk60, rfl, rfl, HA⟩ := hrel
    by_cases hgo : k < D.length ∧ k < 60
    · obtain ⟨hlt, hlt60⟩ := hgo
      obtain ⟨b, off, rfl, hb, hcell⟩ := Rd.ints hr hlt
      have f0 := hcell k hlt
      clear hcell
      have HX : Hid (D.getD k 0 = D[k]) := by rw [Hid, List.getD_eq_getElem?_getD, List.getElem?_eq_getElem hlt]; rfl
      have HS := Lib.hid (sumI_snoc hlt)
      have hbd := take_bd HA.out (by omega)
      have hkl : (k : Int) < (D.length : Int) := by omega
      have hk0 : (0 : Int) ≤ (k : Int) := by omega
      have hk6 : (k : Int) < 60 := by omega
      have hkc : (k : Int) ≤ (c : Int) := by omega
      cases hx : inB D[k] 0 1000
      · have HB := Lib.hid (share_bad (c := cents) (share_bad_at hlt hx))
        generalize D[k] = x at *
        go_wp2_with fail
        refine (l01In_b _ _ _ _ w hx).mono ?_
        rintro e w' ⟨rfl, rfl⟩
        go_wp2
        go_ret2
        rw [HB.out.1, HB.out.2]
        exact rowPost2_nil (Below.refl _ _)
      · generalize D[k] = x at *
        have hxb := inB_iff.1 hx
        generalize sumI (D.take k) = sk at *
        go_wp2_with fail
        refine (l01In_b _ _ _ _ w hx).mono ?_
        rintro e w' ⟨rfl, rfl⟩
        go_wp2
        go_round
        case rel => exact ⟨k + 1, by omega, by omega, by go_num, by rw [HS.out], fun j hj => by
          by_cases e : j = k
          · subst e; rw [HX.out]; exact hx
          · exact HA.out j (by omega)⟩
        case measure => simp [intOf]; omega
    · have hki : (k : Int) < (D.length : Int) → (60 : Int) ≤ (k : Int) := by intro h; omega
      cases hC : inB cents 0 1000000000
      · obtain ⟨e1, e2⟩ := share_bad (c := cents) (D := D) (by simp [shareOk, hC])
        have HB := Lib.hid (And.intro e1 e2)
        clear e1 e2
        by_cases hkk : k < D.length
        · have h60 : k = 60 := by omega
          subst h60
          go_wp2_with fail
          refine (l01In_b _ _ _ _ w hC).mono ?_
          rintro e w' ⟨rfl, rfl⟩
          go_wp2
          go_ret2
          rw [HB.out.1, HB.out.2]
          exact rowPost2_nil (Below.refl _ _)
        · go_wp2_with fail
          refine (l01In_b _ _ _ _ w hC).mono ?_
          rintro e w' ⟨rfl, rfl⟩
          go_wp2
          go_ret2
          rw [HB.out.1, HB.out.2]
          exact rowPost2_nil (Below.refl _ _)
      cases hN : inB D.length 1 60
      · obtain ⟨e1, e2⟩ := share_bad (c := cents) (D := D) (by simp [shareOk, hN])
        have HB := Lib.hid (And.intro e1 e2)
        clear e1 e2
        by_cases hkk : k < D.length
        · have h60 : k = 60 := by omega
          subst h60
          go_wp2_with fail
          refine (l01In_b _ _ _ _ w hC).mono ?_
          rintro e w' ⟨rfl, rfl⟩
          go_wp2_with fail
          refine (l01In_b _ _ _ _ w hN).mono ?_
          rintro e w' ⟨rfl, rfl⟩
          go_wp2
          go_ret2
          rw [HB.out.1, HB.out.2]
          exact rowPost2_nil (Below.refl _ _)
        · go_wp2_with fail
          refine (l01In_b _ _ _ _ w hC).mono ?_
          rintro e w' ⟨rfl, rfl⟩
          go_wp2_with fail
          refine (l01In_b _ _ _ _ w hN).mono ?_
          rintro e w' ⟨rfl, rfl⟩
          go_wp2
          go_ret2
          rw [HB.out.1, HB.out.2]
          exact rowPost2_nil (Below.refl _ _)
      have hn := inB_iff.1 hN
      have hcc := inB_iff.1 hC
      have HC := Lib.hid hC; have HN := Lib.hid hN
      obtain rfl : k = D.length := by omega
      have HALL := HA
      have HX := Lib.hid (getD_all HA.out)
      have HTK : Hid (sumI (D.take D.length) = sumI D) := by rw [Hid, List.take_of_length_le (Nat.le_refl _)]
      clear HA hki hgo
      obtain ⟨T, hT⟩ : ∃ T, sumI D = T := ⟨_, rfl⟩
      have hTb := sumI_le D HX.out
      rw [hT] at hTb
      have HT := Lib.hid hT
      rw [HTK.out, hT]
      clear hT HTK
      go_wp2_with fail
      refine (l01In_b _ _ _ _ w hC).mono ?_
      rintro e w' ⟨rfl, rfl⟩
      go_wp2_with fail
      refine (l01In_b _ _ _ _ w hN).mono ?_
      rintro e w' ⟨rfl, rfl⟩
      clear hC hN
      by_cases h0 : T = 0
      · have HB := Lib.hid (share_bad (c := cents) (D := D) (by simp [shareOk, HT.out, h0]))
        subst h0
        go_wp2
        go_ret2
        rw [HB.out.1, HB.out.2]
        exact rowPost2_nil (Below.refl _ _)
      have hTp : 0 < T := by omega
      have hb0 : (T == 0) = false := by simp; omega
      have HOK := Lib.hid (share_all HC.out HN.out HALL.out (by rw [HT.out]; exact h0))
      have HQ := Lib.hid (quo_mem_bd hcc hTp HX.out)
      go_wp2
      have hown0 := World.ownsRow_lit (base := w.heap.size) (e := 2) (size := 1) w #[] 0 (Nat.le_refl _) (by unfold maxLen; omega) rfl
      go_loopw [8, 9, 10] (fun v lv i wr => ∃ (k : Nat) (A2 : Option Addr) (c2 : Nat), k ≤ D.length ∧ i = .int .i64 k ∧ v = .slice A2 k c2 ∧ lv = .int .i64 (cents - sumI (quoD cents T (D.take k))) ∧ Below w.heap.size w wr ∧ Hid (wr.ownsRow w.heap.size 2 1 (.slice A2 k c2) k ((quoD cents T (D.take k)).map (Value.int .i64)))) (fun _ _ i _ => D.length - (intOf i).toNat)
      case atStart => exact ⟨0, _, _, by omega, rfl, rfl, by simp [quoD, sumI_nil], (Below.refl _ _).alloc (Nat.le_refl _) _, hown0⟩
      case round =>
        obtain ⟨k, A2, c2, hk, rfl, rfl, rfl, hB, HO⟩ := hrel
        clear hown0
        by_cases hlt : k < D.length
        · obtain ⟨b, off, rfl, hb, hcell⟩ := Rd.ints (hr.below hB) hlt
          have f0 := hcell k hlt
          clear hcell
          have hqb := quo_bd hcc (HX.out _ (List.getElem_mem hlt)) hTp
          have HS := Lib.hid (quo_snoc (c := cents) (T := T) hlt)
          have HS2 := Lib.hid (left_step (c := cents) (T := T) hlt)
          have hlb := left_bds HQ.out k
          generalize D[k] = x at *
          obtain ⟨hm, hq, htd, _, _, _⟩ := hqb
          have hwm : IntKind.i64.wrap (cents * x) = cents * x := IntWalk.i64_in _ (by omega)
          generalize cents * x / T = q at *
          have hwq : IntKind.i64.wrap q = q := IntWalk.i64_in _ (by omega)
          have hsw := hB.size
          have HXL : Hid (((quoD cents T (D.take k)).map (Value.int .i64)).length = k) := by rw [Hid, List.length_map, quoD_len, List.length_take]; omega
          generalize sumI (quoD cents T (D.take k)) = sk at *
          have hkl : (k : Int) < (D.length : Int) := by omega
          have hk0 : (0 : Int) ≤ (k : Int) := by omega
          go_wp2_with (first | (at_builtin; refine wpList_push wr rfl _ _ 22 rfl w.heap.size 2 i0 _ 1 8 Try.underlying22 hi hz0 hz1 hz2 rfl (by decide) (.slice A2 k c2) (k) ((quoD cents T (D.take k)).map (Value.int .i64)) (by rfl) HO.out [.int .i64 q] 2 (by rfl) rfl (by simp [Value.oneCell']) (by unfold maxLen; omega) (by omega) hsw ?_; intro A4 c4 w4 ho4 hg4; obtain ⟨g4, rfl, hg41, hg42⟩ := own_head ho4 (by omega); have fq : w4.cell? ⟨g4, k, none⟩ = some (.int .i64 q) := (by rw [ho4.cellAt k (by omega), List.getElem?_append_right (by rw [HXL.out]; exact Nat.le_refl _), HXL.out]; simp); have hcp4 := own_cap ho4; have hkc4 : (k : Int) < (c4 : Int) := (by omega); have HO4 := Lib.hid ho4; have HG4 := Lib.hid hg4; clear ho4 hg4))
          go_roundw
          case rel => exact ⟨k + 1, _, c4, by omega, by go_num, rfl, by rw [HS2.out]; congr 1; omega, below_grown hB HG4.out (Nat.le_refl _) (fun j hj => (HO.out.lt j hj).1), by rw [HS.out]; exact HO4.out⟩
          case measure => simp [intOf]; omega
        · obtain rfl : k = D.length := by omega
          obtain ⟨w2, rfl⟩ : ∃ w2, w2 = wr := ⟨_, rfl⟩
          have hpl : (quoD cents T D).length = D.length := quoD_len _ _ _
          have HPL := Lib.hid hpl; clear hpl
          have HO2 : Hid (w2.ownsRow w.heap.size 2 1 (.slice A2 D.length c2) D.length ((quoD cents T D).map (Value.int .i64))) := by have := HO.out; rw [List.take_of_length_le (Nat.le_refl _)] at this; exact this
          have HTK : Hid (D.take D.length = D) := by rw [Hid, List.take_of_length_le (Nat.le_refl _)]
          rw [HTK.out]
          clear HO hb0
          have hcap2 := own_cap HO2.out
          obtain ⟨gp, rfl, hgp1, hgp2⟩ := own_head HO2.out (by omega)
          have hleft := left_bd (c := cents) (D := D) HT.out.symm hTp (by omega)
          have HLF : Hid (leftOf cents D = cents - sumI (quoD cents T D)) := by rw [Hid, leftOf, HT.out]
          obtain ⟨l, hle⟩ := Int.eq_ofNat_of_zero_le hleft.1
          rw [hle] at hleft HLF
          rw [hle]
          have hll : l < D.length := by omega
          go_wp2_with (first | (at_make; refine wpList_make_full _ rfl _ _ 58 rfl w2.heap.size 4 j0 _ 1 Try.underlying58 hj hy0 hy1 _ _ _ _ D.length rfl rfl rfl rfl (by rw [hy2]; omega) (by unfold maxLen; omega) (Nat.le_refl _) ?_; intro w3 hownG hgG))
          have HG0 : Hid (w3.ownsRow w2.heap.size 4 1 (.slice (some ⟨w2.heap.size, 0, none⟩) D.length D.length) D.length ((List.replicate D.length false).map Value.bool)) := by
            have := hownG; rw [show (Value.bool false).cells = #[.bool false] from rfl, Nat.mul_one, toList_madeCells_one] at this; rw [List.map_replicate]; exact this
          have HP0 := Lib.hid (HO2.out.kept hgG (.inr (by simp [Value.ownBlock])))
          have hB3 := below_grown hB hgG (Nat.le_refl _) (fun k hk => by cases hk)
          have hz3 : w2.heap.size < w3.heap.size := (hownG.lt _ rfl).2
          clear hownG hgG hj hy0 hy1 hy2
          go_loopw [9] (fun lv wo => ∃ t : Nat, t ≤ l ∧ lv = .int .i64 ((l : Int) - t) ∧ Below w.heap.size w wo ∧ w2.heap.size < wo.heap.size ∧ Hid (wo.ownsRow w2.heap.size 4 1 (.slice (some ⟨w2.heap.size, 0, none⟩) D.length D.length) D.length ((shareN (remD cents T D) D.length (quoD cents T D) t).1.map Value.bool)) ∧ Hid (wo.ownsRow w.heap.size 2 1 (.slice (some ⟨gp, 0, none⟩) D.length c2) D.length ((shareN (remD cents T D) D.length (quoD cents T D) t).2.map (Value.int .i64)))) (fun lv _ => (intOf lv).toNat)
          case atStart => exact ⟨0, by omega, by simp, hB3, hz3, HG0.out, HP0.out⟩
          case round =>
            obtain ⟨wo, rfl⟩ : ∃ wo, wo = wr := ⟨_, rfl⟩
            obtain ⟨t, ht, rfl, hB4, hz4, HG, HP⟩ := hrel
            clear HG0 HP0
            by_cases hlt2 : t < l
            · have hbo := best_ok (remD cents T D) D.length (quoD cents T D) (show t < D.length by omega)
              have hlen := shareN_len (remD cents T D) D.length (quoD cents T D) t
              have hpb := shareN_bd (R := (remD cents T D)) (n := D.length) (P0 := (quoD cents T D)) (B := 1000000000000) (by omega) (getD_bd (by omega) HQ.out) t
              have HST : Hid (shareN (remD cents T D) D.length (quoD cents T D) (t + 1) = ((shareN (remD cents T D) D.length (quoD cents T D) t).1.set (bestN (remD cents T D) (gOf (shareN (remD cents T D) D.length (quoD cents T D) t).1) D.length).toNat true, (shareN (remD cents T D) D.length (quoD cents T D) t).2.set (bestN (remD cents T D) (gOf (shareN (remD cents T D) D.length (quoD cents T D) t).1) D.length).toNat ((shareN (remD cents T D) D.length (quoD cents T D) t).2.getD (bestN (remD cents T D) (gOf (shareN (remD cents T D) D.length (quoD cents T D) t).1) D.length).toNat 0 + 1))) := rfl
              rw [HPL.out] at hlen
              generalize (shareN (remD cents T D) D.length (quoD cents T D) t) = S at *
              obtain ⟨G, P⟩ := S
              replace HG : Hid (wo.ownsRow w2.heap.size 4 1 (.slice (some ⟨w2.heap.size, 0, none⟩) D.length D.length) D.length (G.map Value.bool)) := HG
              replace HP : Hid (wo.ownsRow w.heap.size 2 1 (.slice (some ⟨gp, 0, none⟩) D.length c2) D.length (P.map (Value.int .i64))) := HP
              replace HST : Hid (shareN (remD cents T D) D.length (quoD cents T D) (t + 1) = (G.set (bestN (remD cents T D) (gOf G) D.length).toNat true, P.set (bestN (remD cents T D) (gOf G) D.length).toNat (P.getD (bestN (remD cents T D) (gOf G) D.length).toNat 0 + 1))) := HST
              have HBO : Hid (0 ≤ bestN (remD cents T D) (gOf G) D.length ∧ bestN (remD cents T D) (gOf G) D.length < D.length ∧ gOf G (bestN (remD cents T D) (gOf G) D.length).toNat = false) := hbo
              have hgl : G.length = D.length := hlen.1
              have hpl : P.length = D.length := hlen.2
              have HPB : Hid (∀ j, 0 ≤ P.getD j 0 ∧ P.getD j 0 ≤ 1000000000000 + t) := hpb
              have HGL := Lib.hid hgl; have HPL2 := Lib.hid hpl
              clear hbo hlen hpb hgl hpl
              go_wp2
              go_loopw [12, 13] (fun bv i w5 => ∃ (k dd : Nat), k ≤ D.length ∧ i = .int .i64 k ∧ bv = .int .i64 (bestN (remD cents T D) (gOf G) k) ∧ w5 = wo.drewN dd) (fun _ i _ => D.length - (intOf i).toNat)
              case atStart => exact ⟨0, 0, by omega, rfl, rfl, rfl⟩
              case round =>
                obtain ⟨k, dd, hk2, rfl, rfl, rfl⟩ := hrel
                by_cases hlt3 : k < D.length
                · obtain ⟨b, off, rfl, hb, hcell⟩ := Rd.ints (hr.below hB4) hlt3
                  have f0 : wo.cell? ⟨b, off + k, none⟩ = some (.int .i64 D[k]) := hcell k hlt3
                  have fg : wo.cell? ⟨w2.heap.size, k, none⟩ = some (.bool (gOf G k)) := by
                    rw [HG.out.cellAt k (by omega), List.getElem?_map, List.getElem?_eq_getElem (by rw [HGL.out]; exact hlt3)]
                    simp [gOf, List.getD_eq_getElem?_getD, HGL.out, hlt3]
                  have hk0 : (0 : Int) ≤ (k : Int) := by omega
                  have hkl : (k : Int) < (D.length : Int) := by omega
                  have hkc : (k : Int) ≤ (c : Int) := by omega
                  cases hg : gOf G k
                  · rw [hg] at fg
                    by_cases hneg : bestN (remD cents T D) (gOf G) k < 0
                    · have HBF := Lib.hid (best_first hg hneg)
                      clear hcell
                      generalize D[k] = x at *
                      generalize bestN (remD cents T D) (gOf G) k = bv at *
                      go_wp2
                      go_quiet (fail)
                      go_wp2
                      go_roundw
                      case rel => exact ⟨k + 1, _, by omega, by go_num, by rw [HBF.out], rfl⟩
                      case measure => simp [intOf]; omega
                    · obtain ⟨bb, hbb⟩ := Int.eq_ofNat_of_zero_le (show 0 ≤ bestN (remD cents T D) (gOf G) k by omega)
                      have hbk := bestN_bd (remD cents T D) (gOf G) k
                      have hbl : bb < k := by omega
                      have fb : wo.cell? ⟨b, off + bb, none⟩ = some (.int .i64 D[bb]) := hcell bb (by omega)
                      have r0 := remD_at (c := cents) (T := T) hlt3
                      have rb := remD_at (c := cents) (T := T) (show bb < D.length by omega)
                      have q0 := quo_bd hcc (HX.out _ (List.getElem_mem hlt3)) hTp
                      have qb := quo_bd hcc (HX.out _ (List.getElem_mem (show bb < D.length by omega))) hTp
                      have HBM := Lib.hid (fun h => best_more (R := (remD cents T D)) hg hbb h)
                      have HBL := Lib.hid (fun h => best_less (R := (remD cents T D)) (G := gOf G) (k := k) hbb h)
                      clear hcell
                      generalize (remD cents T D) k = rk at *
                      generalize (remD cents T D) bb = rl at *
                      generalize D[k] = x at *
                      generalize D[bb] = y at *
                      obtain ⟨m0, _, _, t0, n0, p0⟩ := q0
                      obtain ⟨mb, _, _, tb, nb, pb⟩ := qb
                      have hw1 : IntKind.i64.wrap (cents * x) = cents * x := IntWalk.i64_in _ (by omega)
                      have hw2 : IntKind.i64.wrap (cents * y) = cents * y := IntWalk.i64_in _ (by omega)
                      generalize cents * x % T = rx at *
                      generalize cents * y % T = ry at *
                      subst r0 rb
                      have hTi : T ≤ 60000 := by omega
                      have hw3 : IntKind.i64.wrap rk = rk := IntWalk.i64_in _ (by omega)
                      have hw4 : IntKind.i64.wrap rl = rl := IntWalk.i64_in _ (by omega)
                      have hbb0 : (0 : Int) ≤ (bb : Int) := by omega
                      have hbbl : (bb : Int) < (D.length : Int) := by omega
                      have hbbc : (bb : Int) ≤ (c : Int) := by omega
                      generalize bestN (remD cents T D) (gOf G) k = bv at *
                      subst hbb
                      by_cases hgt : rl < rk
                      · have HBQ := Lib.hid (HBM.out hgt)
                        clear HBM HBL
                        go_wp2
                        go_quiet (fail)
                        go_wp2
                        go_roundw
                        case rel => exact ⟨k + 1, _, by omega, by go_num, by rw [HBQ.out], rfl⟩
                        case measure => simp [intOf]; omega
                      · have HBQ := Lib.hid (HBL.out hgt)
                        clear HBM HBL
                        go_wp2
                        go_quiet (fail)
                        go_wp2
                        go_roundw
                        case rel => exact ⟨k + 1, _, by omega, by go_num, by rw [HBQ.out], rfl⟩
                        case measure => simp [intOf]; omega
                  · rw [hg] at fg
                    have HBQ := Lib.hid (best_true (R := (remD cents T D)) hg)
                    clear hcell
                    generalize D[k] = x at *
                    generalize bestN (remD cents T D) (gOf G) k = bv at *
                    go_wp2
                    go_quiet (fail)
                    go_wp2
                    go_roundw
                    case rel => exact ⟨k + 1, _, by omega, by go_num, by rw [HBQ.out], rfl⟩
                    case measure => simp [intOf]; omega
                · obtain rfl : k = D.length := by omega
                  obtain ⟨hb0, hb1, hb2⟩ := HBO.out
                  obtain ⟨bb, hbb⟩ := Int.eq_ofNat_of_zero_le hb0
                  have HST2 : Hid (shareN (remD cents T D) D.length (quoD cents T D) (t + 1) = (G.set bb true, P.set bb (P.getD bb 0 + 1))) := by have := HST.out; rw [hbb, Int.toNat_natCast] at this; exact this
                  clear HST HBO hb2
                  generalize bestN (remD cents T D) (gOf G) D.length = bv at *
                  subst hbb
                  have hbl : bb < D.length := by omega
                  obtain ⟨u0, hu0⟩ := own_cell HG.out (j := bb) (by omega)
                  have hz0' := HG.out.frozenAt bb
                  have hp0 : wo.cell? ⟨gp, bb, none⟩ = some (.int .i64 (P.getD bb 0)) := by
                    rw [HP.out.cellAt bb (by omega), List.getElem?_map, List.getElem?_eq_getElem (by rw [HPL2.out]; exact hbl)]
                    simp [List.getD_eq_getElem?_getD, HPL2.out, hbl]
                  have hz1' := HP.out.frozenAt bb
                  have hpb := HPB.out bb
                  generalize P.getD bb 0 = z at *
                  have hne : w2.heap.size ≠ gp := by omega
                  have hne' : gp ≠ w2.heap.size := by omega
                  have hwz : IntKind.i64.wrap (z + 1) = z + 1 := IntWalk.i64_in _ (by omega)
                  have hbb0 : (0 : Int) ≤ (bb : Int) := by omega
                  have hbbl : (bb : Int) < (D.length : Int) := by omega
                  have hdc : (D.length : Int) ≤ (c2 : Int) := by omega
                  go_wp2
                  go_roundw
                  case rel =>
                    refine ⟨t + 1, by omega, by congr 1; omega, ?_, ?_, ?_, ?_⟩
                    · exact ((below_drewN hB4 _).setCell (by (try simp only); omega) _).setCell (by (try simp only); omega) _
                    · simpa [World.setCell] using hz4
                    · rw [HST2.out]
                      have := own_setOther ((own_drewN HG.out dd).stored bb (.bool true)).1 (b := gp) (by simp [Value.ownBlock]; omega) bb (.int .i64 (z + 1))
                      rw [← List.map_set] at this
                      exact this
                    · rw [HST2.out]
                      have := ((own_setOther (own_drewN HP.out dd) (b := w2.heap.size) (by simp [Value.ownBlock]; omega) bb (.bool true)).stored bb (.int .i64 (z + 1))).1
                      rw [← List.map_set] at this
                      exact this
                  case measure => simp [intOf]; omega
            · obtain rfl : t = l := by omega
              have HF : Hid (shareF cents D = (shareN (remD cents T D) D.length (quoD cents T D) t).2) := by
                rw [Hid, shareF, if_pos HOK.out, HLF.out, shareOf, HT.out, Int.toNat_natCast]
              have HF2 : Hid (shareC cents D = 0) := by rw [Hid, shareC, if_pos HOK.out]
              have hlen := shareN_len (remD cents T D) D.length (quoD cents T D) t
              rw [HPL.out] at hlen
              have HLN := Lib.hid hlen.2; clear hlen
              go_wp2
              go_ret2
              rw [HF.out, HF2.out, HLN.out]
              exact rowPost2_mk HP.out hB4
end Go.Proofs.Ythkobjadfeidmaa
