/- The walk of the law FnShares: it returns true, and nothing that was there is changed. -/
import Derived.Test.YthkobjadfeidmaaShareS
import Derived.Test.YthkobjadfeidmaaShare2
import Derived.Test.YthkobjadfeidmaaLike
import Derived.Test.YthkobjadfeidmaaDrawSh
namespace Go.Proofs.Ythkobjadfeidmaa
open Go.RowKit
set_option linter.unusedVariables false
theorem big_c (A : Option Addr) (n c : Nat) (b : Bool) (w : World) (hn : n ≤ 9223372036854775807) (h : decide (4096 < n) = b) : Calls Try.prog 20 #[.slice A n c] w fun e w' => e = .returned (.bool b) ∧ w = w' := by
  subst h
  by_cases h : 4096 < n
  · have h2 : (4096 : Int) < (n : Int) := by omega
    go_enter Try.func20, Try.ntmps20
    go_wp2
    go_ret
    exact ⟨by simp [h], rfl⟩
  · have h2 : ¬ (4096 : Int) < (n : Int) := by omega
    go_enter Try.func20, Try.ntmps20
    go_wp2
    go_ret
    exact ⟨by simp, rfl⟩
theorem shareF_len' (cents : Int) (D : List Int) : (shareF cents D).length ≤ D.length := by
  unfold shareF; split
  · rw [shareOf, (shareN_len _ _ _ _).2, quoD_len]; exact Nat.le_refl _
  · simp
theorem mem_getD {P : List Int} {B : Int} (h : ∀ j, 0 ≤ P.getD j 0 ∧ P.getD j 0 ≤ B) : ∀ x ∈ P, 0 ≤ x ∧ x ≤ B := by
  intro x hx
  obtain ⟨j, hj, rfl⟩ := List.getElem_of_mem hx
  have := h j
  rwa [List.getD_eq_getElem?_getD, List.getElem?_eq_getElem hj] at this
theorem getD_at {P : List Int} {j : Nat} (h : j < P.length) : P.getD j 0 = P[j] := by rw [List.getD_eq_getElem?_getD, List.getElem?_eq_getElem h]; rfl
set_option maxRecDepth 100000 in
set_option maxHeartbeats 8000000 in
theorem law_FnShares (A : Option Addr) (c : Nat) (L : List Int) (w : World) (hr : Rd w w.heap.size A L.length (L.map (Value.int .u8))) (hl : L.length ≤ maxLen) (hx : ∀ x ∈ L, 0 ≤ x ∧ x ≤ 255) (hc : L.length ≤ c) :
    Calls Try.prog 5 #[.slice A L.length c] w fun e w' => e = .returned (.bool true) ∧ Below w.heap.size w w' := by
  unfold maxLen at hl
  have HRB := Lib.hid hr; have HXB := Lib.hid hx; clear hr hx
  by_cases hbig : 4096 < L.length
  · go_enter Try.func5, Try.ntmps5
    go_wp2_with fail
    refine (big_c A L.length c true w (by omega) (by simp [hbig])).mono ?_
    rintro e w' ⟨rfl, rfl⟩
    go_wp2
    go_ret
    exact ⟨rfl, Below.refl _ _⟩
  go_enter Try.func5, Try.ntmps5
  go_wp2_with fail
  refine (big_c A L.length c false w (by omega) (by simp; omega)).mono ?_
  rintro e w0 ⟨rfl, rfl⟩
  go_wp2_with fail
  refine (DrawShareCosts_c A c L w HRB.out HXB.out (by omega) hc).mono ?_
  rintro e y1 ⟨x, A1, c1, D, rfl, ho1, hl1, hb1⟩
  have HR1 := Lib.hid (Rd.of_own1 ho1); have hz1 := hb1.size; have HB := Lib.hid hb1; have hcp1 := own_cap ho1; clear ho1 hb1
  obtain ⟨S, hS⟩ : ∃ S, shareF x D = S := ⟨_, rfl⟩
  obtain ⟨sc, hsc⟩ : ∃ sc, shareC x D = sc := ⟨_, rfl⟩
  have hSl := shareF_len' x D
  rw [hS] at hSl
  have HS := Lib.hid hS; have HSC := Lib.hid hsc; clear hS hsc
  have HEQ := Lib.hid (show ∀ (e : Ending) (w1 w2 : World), RowPost2 2 1 (shareF x D).length ((shareF x D).map (Value.int .i64)) (shareC x D) w1 e w2 → RowPost2 2 1 S.length (S.map (Value.int .i64)) sc w1 e w2 from fun e w1 w2 h => by rw [HS.out, HSC.out] at h; exact h)
  go_wp2_with fail
  refine (impl_ShareCosts x A1 c1 D y1 HR1.out (by omega) hcp1.1).mono ?_
  intro e w3 he
  obtain ⟨A3, c3, rfl, ho3, hb3, hn3, hm3⟩ := HEQ.out _ _ _ he
  clear he
  have hzw3 := hb3.size
  replace HR1 := Lib.hid (rdW hb3 HR1.out)
  replace HB := Lib.hid (bt HB.out hb3)
  have HR3 := Lib.hid (Rd.of_own1 ho3); clear ho3
  go_wp2_with fail
  refine (spec_ShareCosts x A1 c1 D w3 HR1.out (by omega) hcp1.1).mono ?_
  intro e w4 he
  obtain ⟨A4, c4, rfl, ho4, hb4, hn4, hm4⟩ := HEQ.out _ _ _ he
  clear he
  have hzw4 := hb4.size
  replace HR1 := Lib.hid (rdW hb4 HR1.out)
  replace HR3 := Lib.hid (rdW hb4 HR3.out)
  replace HB := Lib.hid (bt HB.out hb4)
  have HR4 := Lib.hid (Rd.of_own1 ho4); clear ho4
  go_wp2_with fail
  refine (DrawRaiseTariff_c A c L w4 (rdW HB.out HRB.out) HXB.out (by omega) hc).mono ?_
  rintro e w5 ⟨A5, c5, L5, me, mi, mo, q, rfl, ho5, hl5, hb5⟩
  have hzw5 := hb5.size
  replace HR1 := Lib.hid (rdW hb5 HR1.out)
  replace HR3 := Lib.hid (rdW hb5 HR3.out)
  replace HR4 := Lib.hid (rdW hb5 HR4.out)
  replace HB := Lib.hid (bt HB.out hb5)
  have HR5 := Lib.hid (Rd.of_own ho5); clear ho5
  go_wp2_with fail
  generalize hW6 : w5.alloc _ = W6
  have hbW6 : Below w5.heap.size w5 W6 := by subst hW6; exact (Below.refl _ _).alloc (Nat.le_refl _) _
  have hsW6 : W6.heap.size = w5.heap.size + 1 := by subst hW6; simp
  have cxW6_0 : ∀ i, W6.cell? ⟨w5.heap.size, i, none⟩ = (#[.slice A5 L5.length c5, .int .i64 me, .int .i64 mi, .int .i64 mo] : Array Value)[i]? := by intro i; subst hW6; simp [go_sem]
  have HSW6 := Lib.hid hsW6; clear hW6 hsW6
  have hzW6 : w5.heap.size + 1 ≤ W6.heap.size := by have := HSW6.out; omega
  clear HSW6
  replace HR1 := Lib.hid (rdW hbW6 HR1.out)
  replace HR3 := Lib.hid (rdW hbW6 HR3.out)
  replace HR4 := Lib.hid (rdW hbW6 HR4.out)
  replace HR5 := Lib.hid (rdW hbW6 HR5.out)
  replace HB := Lib.hid (bt HB.out hbW6)
  obtain ⟨R, hR⟩ : ∃ R, rL L5 me mi mo q = R := ⟨_, rfl⟩
  obtain ⟨rc, hrc⟩ : ∃ rc, rCode L5 me mi mo q = rc := ⟨_, rfl⟩
  obtain ⟨r1, hr1⟩ : ∃ r, rN (rOk L5 me mi mo q) (raiseC me q 10000) = r := ⟨_, rfl⟩
  obtain ⟨r2, hr2⟩ : ∃ r, rN (rOk L5 me mi mo q) (raiseC mi q 10000) = r := ⟨_, rfl⟩
  obtain ⟨r3, hr3⟩ : ∃ r, rN (rOk L5 me mi mo q) (raiseC mo q 100000) = r := ⟨_, rfl⟩
  have hRl := rL_len L5 me mi mo q
  rw [hR] at hRl
  have hrok : rOk L5 me mi mo q = true → tarOk R r1 r2 r3 = true ∧ me ≤ r1 ∧ mi ≤ r2 ∧ mo ≤ r3 := fun h => by have := raised_tar h; rw [hR, hr1, hr2, hr3] at this; exact this
  have hrc2 : rc = 0 → rOk L5 me mi mo q = true := fun h => by
    rw [← hrc, rCode] at h
    cases hk : rOk L5 me mi mo q
    · rw [hk] at h; simp at h; split at h <;> omega
    · rfl
  have HROK := Lib.hid (fun h => hrok (hrc2 h))
  have HEQ2 := Lib.hid (show ∀ (e : Ending) (w1 w2 : World), RaiseR L5 me mi mo q w1 e w2 → ∃ A' c', e = .returned (.tuple #[.agg #[.slice A' R.length c', .int .i64 r1, .int .i64 r2, .int .i64 r3], .int .i64 rc]) ∧ w2.ownsRow w1.heap.size 63 2 (.slice A' R.length c') R.length (R.flatMap tierC) ∧ Below w1.heap.size w1 w2 from fun e w1 w2 h => by
    obtain ⟨A', c', h1, h2, h3, _, _⟩ := h
    rw [hR, hr1, hr2, hr3, hrc] at h1
    rw [hR] at h2
    exact ⟨A', c', h1, h2, h3⟩)
  clear hR hrc hr1 hr2 hr3 hrok hrc2
  refine (impl_RaiseR A5 c5 L5 me mi mo q W6 HR5.out (by omega)).mono ?_
  intro e w7 he
  obtain ⟨A7, c7, rfl, ho7, hb7⟩ := HEQ2.out _ _ _ he
  clear he
  have hzw7 := hb7.size
  replace HR1 := Lib.hid (rdW hb7 HR1.out)
  replace HR3 := Lib.hid (rdW hb7 HR3.out)
  replace HR4 := Lib.hid (rdW hb7 HR4.out)
  replace HR5 := Lib.hid (rdW hb7 HR5.out)
  replace HB := Lib.hid (bt HB.out hb7)
  replace cxW6_0 := fun i => (hb7.cell (by (try simp only); omega)).trans (cxW6_0 i)
  have HR7 := Lib.hid (Rd.of_own ho7); clear ho7
  have cacxW6_0 := fun (o : Obj) (i : Nat) => (((Below.refl _ w7).alloc (Nat.le_refl _) o).cell (p := ⟨w5.heap.size, i, none⟩) (by (try simp only); omega)).trans (cxW6_0 i)
  go_wp2_with fail
  generalize hW8 : w7.alloc _ = W8
  have hbW8 : Below w7.heap.size w7 W8 := by subst hW8; exact (Below.refl _ _).alloc (Nat.le_refl _) _
  have hsW8 : W8.heap.size = w7.heap.size + 1 := by subst hW8; simp
  have cxW8_0 : ∀ i, W8.cell? ⟨w7.heap.size, i, none⟩ = (#[.slice A7 R.length c7, .int .i64 r1, .int .i64 r2, .int .i64 r3] : Array Value)[i]? := by intro i; subst hW8; simp [go_sem]
  have HSW8 := Lib.hid hsW8; clear hW8 hsW8
  clear cacxW6_0
  have hzW8 : w7.heap.size + 1 ≤ W8.heap.size := by have := HSW8.out; omega
  clear HSW8
  replace HR1 := Lib.hid (rdW hbW8 HR1.out)
  replace HR3 := Lib.hid (rdW hbW8 HR3.out)
  replace HR4 := Lib.hid (rdW hbW8 HR4.out)
  replace HR5 := Lib.hid (rdW hbW8 HR5.out)
  replace HR7 := Lib.hid (rdW hbW8 HR7.out)
  replace HB := Lib.hid (bt HB.out hbW8)
  replace cxW6_0 := fun i => (hbW8.cell (by (try simp only); omega)).trans (cxW6_0 i)
  refine (spec_RaiseR A5 c5 L5 me mi mo q W8 HR5.out (by omega)).mono ?_
  intro e w9 he
  obtain ⟨A9, c9, rfl, ho9, hb9⟩ := HEQ2.out _ _ _ he
  clear he
  have hzw9 := hb9.size
  replace HR1 := Lib.hid (rdW hb9 HR1.out)
  replace HR3 := Lib.hid (rdW hb9 HR3.out)
  replace HR4 := Lib.hid (rdW hb9 HR4.out)
  replace HR5 := Lib.hid (rdW hb9 HR5.out)
  replace HR7 := Lib.hid (rdW hb9 HR7.out)
  replace HB := Lib.hid (bt HB.out hb9)
  replace cxW6_0 := fun i => (hb9.cell (by (try simp only); omega)).trans (cxW6_0 i)
  replace cxW8_0 := fun i => (hb9.cell (by (try simp only); omega)).trans (cxW8_0 i)
  have HR9 := Lib.hid (Rd.of_own ho9); clear ho9
  have cacxW6_0 := fun (o : Obj) (i : Nat) => (((Below.refl _ w9).alloc (Nat.le_refl _) o).cell (p := ⟨w5.heap.size, i, none⟩) (by (try simp only); omega)).trans (cxW6_0 i)
  have cacxW8_0 := fun (o : Obj) (i : Nat) => (((Below.refl _ w9).alloc (Nat.le_refl _) o).cell (p := ⟨w7.heap.size, i, none⟩) (by (try simp only); omega)).trans (cxW8_0 i)
  go_wp2_with fail
  generalize hW10 : w9.alloc _ = W10
  have hbW10 : Below w9.heap.size w9 W10 := by subst hW10; exact (Below.refl _ _).alloc (Nat.le_refl _) _
  have hsW10 : W10.heap.size = w9.heap.size + 1 := by subst hW10; simp
  have cxW10_0 : ∀ i, W10.cell? ⟨w9.heap.size, i, none⟩ = (#[.slice A9 R.length c9, .int .i64 r1, .int .i64 r2, .int .i64 r3] : Array Value)[i]? := by intro i; subst hW10; simp [go_sem]
  have HSW10 := Lib.hid hsW10; clear hW10 hsW10
  clear cacxW6_0 cacxW8_0
  have hzW10 : w9.heap.size + 1 ≤ W10.heap.size := by have := HSW10.out; omega
  clear HSW10
  replace HR1 := Lib.hid (rdW hbW10 HR1.out)
  replace HR3 := Lib.hid (rdW hbW10 HR3.out)
  replace HR4 := Lib.hid (rdW hbW10 HR4.out)
  replace HR5 := Lib.hid (rdW hbW10 HR5.out)
  replace HR7 := Lib.hid (rdW hbW10 HR7.out)
  replace HR9 := Lib.hid (rdW hbW10 HR9.out)
  replace HB := Lib.hid (bt HB.out hbW10)
  replace cxW6_0 := fun i => (hbW10.cell (by (try simp only); omega)).trans (cxW6_0 i)
  replace cxW8_0 := fun i => (hbW10.cell (by (try simp only); omega)).trans (cxW8_0 i)
  refine (likeInts_c A3 A4 S.length c3 c4 S W10 rfl HR3.out HR4.out (by omega) hn3 hn4).mono ?_
  rintro e w11 ⟨rfl, hbw11⟩
  have hzw11 := hbw11.size
  replace HR1 := Lib.hid (rdW hbw11 HR1.out)
  replace HR3 := Lib.hid (rdW hbw11 HR3.out)
  replace HR4 := Lib.hid (rdW hbw11 HR4.out)
  replace HR5 := Lib.hid (rdW hbw11 HR5.out)
  replace HR7 := Lib.hid (rdW hbw11 HR7.out)
  replace HR9 := Lib.hid (rdW hbw11 HR9.out)
  replace HB := Lib.hid (bt HB.out hbw11)
  replace cxW6_0 := fun i => (hbw11.cell (by (try simp only); omega)).trans (cxW6_0 i)
  replace cxW8_0 := fun i => (hbw11.cell (by (try simp only); omega)).trans (cxW8_0 i)
  replace cxW10_0 := fun i => (hbw11.cell (by (try simp only); omega)).trans (cxW10_0 i)
  go_wp2_with fail
  refine (likeTariff_c A7 A9 c7 c9 R r1 r2 r3 w11 HR7.out HR9.out (by omega)).mono ?_
  rintro e w12 ⟨rfl, hbw12⟩
  have hzw12 := hbw12.size
  replace HR1 := Lib.hid (rdW hbw12 HR1.out)
  replace HR3 := Lib.hid (rdW hbw12 HR3.out)
  replace HR4 := Lib.hid (rdW hbw12 HR4.out)
  replace HR5 := Lib.hid (rdW hbw12 HR5.out)
  replace HR7 := Lib.hid (rdW hbw12 HR7.out)
  replace HR9 := Lib.hid (rdW hbw12 HR9.out)
  replace HB := Lib.hid (bt HB.out hbw12)
  replace cxW6_0 := fun i => (hbw12.cell (by (try simp only); omega)).trans (cxW6_0 i)
  replace cxW8_0 := fun i => (hbw12.cell (by (try simp only); omega)).trans (cxW8_0 i)
  replace cxW10_0 := fun i => (hbw12.cell (by (try simp only); omega)).trans (cxW10_0 i)
  by_cases hrc : rc = 0
  · obtain ⟨t0, t1, t2, t3⟩ := HROK.out hrc
    subst hrc
    go_wp2_with fail
    refine (impl_IsTariff A7 c7 R r1 r2 r3 true w12 HR7.out (by omega) t0).mono ?_
    rintro e w13 ⟨rfl, hb13⟩
    have hz13 := hb13.size
    replace HR1 := Lib.hid (rdW hb13 HR1.out)
    replace HR3 := Lib.hid (rdW hb13 HR3.out)
    replace HR4 := Lib.hid (rdW hb13 HR4.out)
    replace HR5 := Lib.hid (rdW hb13 HR5.out)
    replace HR7 := Lib.hid (rdW hb13 HR7.out)
    replace HR9 := Lib.hid (rdW hb13 HR9.out)
    replace HB := Lib.hid (bt HB.out hb13)
    replace cxW6_0 := fun i => (hb13.cell (by (try simp only); omega)).trans (cxW6_0 i)
    replace cxW8_0 := fun i => (hb13.cell (by (try simp only); omega)).trans (cxW8_0 i)
    replace cxW10_0 := fun i => (hb13.cell (by (try simp only); omega)).trans (cxW10_0 i)
    by_cases hsc : sc = 0
    · have hok : shareOk x D = true := by
        have h := HSC.out
        rw [hsc, shareC] at h
        cases hk : shareOk x D
        · rw [hk] at h; simp at h
        · rfl
      have hf := share_facts hok
      rw [HS.out] at hf
      obtain ⟨f1, f2, f3, f4, f5, f6, f7, f8⟩ := hf
      have HF1 := Lib.hid f1; have hSD : S.length ≤ D.length ∧ D.length ≤ S.length := by omega
      clear f1
      have F6 := Lib.hid f6; have F7 := Lib.hid f7; have F8 := Lib.hid f8; have F2 := Lib.hid f2
      clear f6 f7 f8 f2 hok HS HSC HEQ
      subst hsc
      obtain ⟨T, hT⟩ : ∃ T, sumI D = T := ⟨_, rfl⟩
      rw [hT] at f3
      have HT := Lib.hid hT
      have F8T : Hid (∀ j, j < D.length → S.getD j 0 * T - x * D.getD j 0 < T ∧ -T < S.getD j 0 * T - x * D.getD j 0) := by have := F8.out; rw [hT] at this; exact this
      clear F8
      go_wp2_with fail
      refine (lawsum_c A1 D.length c1 D w13 rfl HR1.out (by omega) hcp1.1 (fun y hy => by have := F6.out y hy; omega)).mono ?_
      rintro e w' ⟨he, rfl⟩
      rw [hT] at he; subst he
      clear hT
      go_wp2
      go_loopw [16] (fun i wr => ∃ k : Nat, k ≤ S.length ∧ i = .int .i64 k ∧ Below w13.heap.size w13 wr) (fun i _ => S.length - (intOf i).toNat)
      case atStart => exact ⟨0, by omega, rfl, Below.refl _ _⟩
      case round =>
        obtain ⟨k, hk, rfl, hBr⟩ := hrel
        by_cases hlt : k < S.length
        · have hltD : k < D.length := by omega
          obtain ⟨b, off, rfl, hb, hcell⟩ := Rd.ints (HR3.out.below hBr) hlt
          obtain ⟨b', off', rfl, hb', hcell'⟩ := Rd.ints (HR1.out.below hBr) hltD
          have g0 := hcell k hlt
          have g1 := hcell' k hltD
          clear hcell hcell'
          have a1 := F7.out k; rw [getD_at hlt] at a1
          have a2 := F6.out _ (List.getElem_mem hltD)
          have a3 := F8T.out k hltD; rw [getD_at hlt, getD_at hltD] at a3
          generalize S[k] = s at *
          generalize D[k] = d at *
          have m1 : 0 ≤ s * T ∧ s * T ≤ 2000000000000 * 60000 := mul_bd a1 (by omega)
          have m2 : 0 ≤ x * d ∧ x * d ≤ 1000000000 * 1000 := mul_bd f4 a2
          have hw1 : IntKind.i64.wrap (s * T) = s * T := IntWalk.i64_in _ (by omega)
          have hw2 : IntKind.i64.wrap (x * d) = x * d := IntWalk.i64_in _ (by omega)
          have hw3 : IntKind.i64.wrap (s * T - x * d) = s * T - x * d := IntWalk.i64_in _ (by omega)
          have hk0 : (0 : Int) ≤ (k : Int) := by omega
          have hk1 : (k : Int) < (S.length : Int) := by omega
          have hk2 : (k : Int) < (D.length : Int) := by omega
          go_wp2
          go_quiet (fail)
          generalize s * T - x * d = aw at *
          go_wp2
          go_roundw
          case rel => exact ⟨k + 1, by omega, by go_num, by first | exact below_drewN hBr _ | exact hBr⟩
          case measure => simp [intOf]; omega
        · obtain rfl : k = S.length := by omega
          have hBw := bt HB.out hBr
          have hzr := hBr.size
          go_wp2_with fail
          refine (lawsum_c A3 S.length c3 S wr rfl (rdW hBr HR3.out) (by omega) hn3 (mem_getD F7.out)).mono ?_
          rintro e w' ⟨he, rfl⟩
          rw [F2.out] at he; subst he
          have hlen : (S.length : Int) = (D.length : Int) := by omega
          go_wp2
          go_ret
          exact ⟨ret_bool (by simp), hBw⟩
    · go_wp2
      go_ret
      exact ⟨rfl, HB.out⟩
  · by_cases hsc : sc = 0
    · have hok : shareOk x D = true := by
        have h := HSC.out
        rw [hsc, shareC] at h
        cases hk : shareOk x D
        · rw [hk] at h; simp at h
        · rfl
      have hf := share_facts hok
      rw [HS.out] at hf
      obtain ⟨f1, f2, f3, f4, f5, f6, f7, f8⟩ := hf
      have HF1 := Lib.hid f1; have hSD : S.length ≤ D.length ∧ D.length ≤ S.length := by omega
      clear f1
      have F6 := Lib.hid f6; have F7 := Lib.hid f7; have F8 := Lib.hid f8; have F2 := Lib.hid f2
      clear f6 f7 f8 f2 hok HS HSC HEQ
      subst hsc
      obtain ⟨T, hT⟩ : ∃ T, sumI D = T := ⟨_, rfl⟩
      rw [hT] at f3
      have HT := Lib.hid hT
      have F8T : Hid (∀ j, j < D.length → S.getD j 0 * T - x * D.getD j 0 < T ∧ -T < S.getD j 0 * T - x * D.getD j 0) := by have := F8.out; rw [hT] at this; exact this
      clear F8
      go_wp2_with fail
      refine (lawsum_c A1 D.length c1 D w12 rfl HR1.out (by omega) hcp1.1 (fun y hy => by have := F6.out y hy; omega)).mono ?_
      rintro e w' ⟨he, rfl⟩
      rw [hT] at he; subst he
      clear hT
      go_wp2
      go_loopw [16] (fun i wr => ∃ k : Nat, k ≤ S.length ∧ i = .int .i64 k ∧ Below w12.heap.size w12 wr) (fun i _ => S.length - (intOf i).toNat)
      case atStart => exact ⟨0, by omega, rfl, Below.refl _ _⟩
      case round =>
        obtain ⟨k, hk, rfl, hBr⟩ := hrel
        by_cases hlt : k < S.length
        · have hltD : k < D.length := by omega
          obtain ⟨b, off, rfl, hb, hcell⟩ := Rd.ints (HR3.out.below hBr) hlt
          obtain ⟨b', off', rfl, hb', hcell'⟩ := Rd.ints (HR1.out.below hBr) hltD
          have g0 := hcell k hlt
          have g1 := hcell' k hltD
          clear hcell hcell'
          have a1 := F7.out k; rw [getD_at hlt] at a1
          have a2 := F6.out _ (List.getElem_mem hltD)
          have a3 := F8T.out k hltD; rw [getD_at hlt, getD_at hltD] at a3
          generalize S[k] = s at *
          generalize D[k] = d at *
          have m1 : 0 ≤ s * T ∧ s * T ≤ 2000000000000 * 60000 := mul_bd a1 (by omega)
          have m2 : 0 ≤ x * d ∧ x * d ≤ 1000000000 * 1000 := mul_bd f4 a2
          have hw1 : IntKind.i64.wrap (s * T) = s * T := IntWalk.i64_in _ (by omega)
          have hw2 : IntKind.i64.wrap (x * d) = x * d := IntWalk.i64_in _ (by omega)
          have hw3 : IntKind.i64.wrap (s * T - x * d) = s * T - x * d := IntWalk.i64_in _ (by omega)
          have hk0 : (0 : Int) ≤ (k : Int) := by omega
          have hk1 : (k : Int) < (S.length : Int) := by omega
          have hk2 : (k : Int) < (D.length : Int) := by omega
          go_wp2
          go_quiet (fail)
          generalize s * T - x * d = aw at *
          go_wp2
          go_roundw
          case rel => exact ⟨k + 1, by omega, by go_num, by first | exact below_drewN hBr _ | exact hBr⟩
          case measure => simp [intOf]; omega
        · obtain rfl : k = S.length := by omega
          have hBw := bt HB.out hBr
          have hzr := hBr.size
          go_wp2_with fail
          refine (lawsum_c A3 S.length c3 S wr rfl (rdW hBr HR3.out) (by omega) hn3 (mem_getD F7.out)).mono ?_
          rintro e w' ⟨he, rfl⟩
          rw [F2.out] at he; subst he
          have hlen : (S.length : Int) = (D.length : Int) := by omega
          go_wp2
          go_ret
          exact ⟨ret_bool (by simp), hBw⟩
    · go_wp2
      go_ret
      exact ⟨rfl, HB.out⟩
end Go.Proofs.Ythkobjadfeidmaa
