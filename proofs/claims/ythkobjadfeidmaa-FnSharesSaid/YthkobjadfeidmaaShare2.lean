/- Plain law: the parts add up, none is off by a whole cent; a raised tariff is one. -/
import Derived.Test.YthkobjadfeidmaaShareI
import Derived.Test.YthkobjadfeidmaaRaiseR
namespace Go.Proofs.Ythkobjadfeidmaa
open Go.RowKit
set_option linter.unusedVariables false
theorem sumI_set : ∀ {P : List Int} {b : Nat} (_ : b < P.length) (x : Int), sumI (P.set b (P.getD b 0 + x)) = sumI P + x
  | [], b, h, _ => by simp at h
  | y :: P, 0, _, x => by simp [sumI_cons]; omega
  | y :: P, b + 1, h, x => by
    have ih := sumI_set (P := P) (b := b) (by simpa using h) x
    simp only [List.set_cons_succ, List.getD_cons_succ, sumI_cons]
    omega
theorem share_sum_n (R : Nat → Int) {n : Nat} {P0 : List Int} (hp : P0.length = n) : ∀ t, t ≤ n → sumI (shareN R n P0 t).2 = sumI P0 + t
  | 0, _ => by simp [shareN]
  | t + 1, h => by
    have ih := share_sum_n R hp t (by omega)
    have hb := best_ok R n P0 (t := t) (by omega)
    have hl := (shareN_len R n P0 t).2
    simp only [shareN]
    rw [sumI_set (by omega), ih]; omega
def oneB (b : Bool) : Int := if b then 1 else 0
theorem share_val (R : Nat → Int) {n : Nat} {P0 : List Int} (hp : P0.length = n) : ∀ t, t ≤ n → ∀ j, (shareN R n P0 t).2.getD j 0 = P0.getD j 0 + oneB (gOf (shareN R n P0 t).1 j)
  | 0, _, j => by
    have : gOf (List.replicate n false) j = false := by
      unfold gOf; rw [List.getD_eq_getElem?_getD, List.getElem?_replicate]; split <;> rfl
    simp [shareN, this, oneB]
  | t + 1, h, j => by
    have ih := share_val R hp t (by omega)
    have hb := best_ok R n P0 (t := t) (by omega)
    have hl := shareN_len R n P0 t
    have hbl : (bestN R (gOf (shareN R n P0 t).1) n).toNat < (shareN R n P0 t).1.length := by omega
    simp only [shareN]
    rw [gOf_set hbl, List.getD_eq_getElem?_getD, List.getElem?_set]
    by_cases e : (bestN R (gOf (shareN R n P0 t).1) n).toNat = j
    · rw [if_pos e, if_pos e.symm, if_pos (by omega), Option.getD_some, ih, hb.2.2, e]; simp [oneB]
    · rw [if_neg e, if_neg (fun h => e h.symm), ← List.getD_eq_getElem?_getD, ih]
theorem cnt_ex {G H : Nat → Bool} : ∀ n : Nat, cntT G n < cntT H n → ∃ j, j < n ∧ H j = true ∧ G j = false
  | 0, h => by simp [cntT] at h
  | n + 1, h => by
    by_cases hlt : cntT G n < cntT H n
    · obtain ⟨j, h1, h2⟩ := cnt_ex n hlt
      exact ⟨j, by omega, h2⟩
    · rw [cntT, cntT] at h
      refine ⟨n, by omega, ?_⟩
      cases hH : H n <;> cases hG : G n <;> simp [hH, hG] at h ⊢ <;> omega
theorem cnt_le (G : Nat → Bool) : ∀ n : Nat, cntT G n ≤ n
  | 0 => Nat.le_refl _
  | n + 1 => by have := cnt_le G n; rw [cntT]; split <;> omega
def posR (R : Nat → Int) (j : Nat) : Bool := decide (0 < R j)
theorem given_pos (R : Nat → Int) (n : Nat) (P0 : List Int) : ∀ t, t ≤ cntT (posR R) n → ∀ j, j < n → gOf (shareN R n P0 t).1 j = true → 0 < R j
  | 0, _, j, hj, h => by
    have : gOf (List.replicate n false) j = false := by
      unfold gOf; rw [List.getD_eq_getElem?_getD, List.getElem?_replicate]; split <;> rfl
    simp [shareN, this] at h
  | t + 1, ht, j, hj, h => by
    have ih := given_pos R n P0 t (by omega)
    have hn := cnt_le (posR R) n
    have hb := best_ok R n P0 (t := t) (by omega)
    have hs := (bestN_spec R (gOf (shareN R n P0 t).1) n).2 hb.1
    have hl := (shareN_len R n P0 t).1
    have hc := shareN_cnt R n P0 t (by omega)
    obtain ⟨i, hi, h1, h2⟩ := cnt_ex n (show cntT (gOf (shareN R n P0 t).1) n < cntT (posR R) n by omega)
    have hpos : 0 < R i := by simpa [posR] using h1
    have := hs.2 i hi h2
    have hbl : (bestN R (gOf (shareN R n P0 t).1) n).toNat < (shareN R n P0 t).1.length := by omega
    simp only [shareN] at h
    rw [gOf_set hbl] at h
    split at h
    · rename_i e; rw [e]; omega
    · exact ih j hj h
theorem rem_sum {c T : Int} {D : List Int} (hT : 0 < T) : ∀ k, k ≤ D.length → sumI ((D.take k).map fun d => c * d % T) ≤ (T - 1) * cntT (posR (remD c T D)) k
  | 0, _ => by simp [sumI_nil, cntT]
  | k + 1, h => by
    have ih := rem_sum (c := c) (D := D) hT k (by omega)
    have hk : k < D.length := by omega
    have h1 : sumI ((D.take (k + 1)).map fun d => c * d % T) = sumI ((D.take k).map fun d => c * d % T) + c * D[k] % T := by
      rw [List.take_succ_eq_append_getElem hk, List.map_append]
      rw [sumI, List.foldl_append]; rfl
    have h2 : remD c T D k = c * D[k] % T := by rw [remD, List.getD_eq_getElem?_getD, List.getElem?_eq_getElem hk]; rfl
    have h3 := Int.emod_nonneg (c * D[k]) (show T ≠ 0 by omega)
    have h4 := Int.emod_lt_of_pos (c * D[k]) hT
    rw [h1, cntT]
    by_cases hp : 0 < c * D[k] % T
    · have : posR (remD c T D) k = true := by simp [posR, h2, hp]
      rw [this, if_pos rfl]
      have : (T - 1) * ((cntT (posR (remD c T D)) k + 1 : Nat) : Int) = (T - 1) * (cntT (posR (remD c T D)) k : Int) + (T - 1) := by rw [Int.natCast_add, Int.mul_add]; simp
      omega
    · have : posR (remD c T D) k = false := by simp [posR, h2]; omega
      rw [this]
      simp only [Bool.false_eq_true, if_false, Nat.add_zero]
      omega
theorem left_le {c T : Int} {D : List Int} (hT : T = sumI D) (h0 : 0 < T) {l : Nat} (hl : c - sumI (quoD c T D) = l) : l ≤ cntT (posR (remD c T D)) D.length := by
  have h1 := quo_rem (c := c) (T := T) D
  have h2 := rem_sum (c := c) (T := T) (D := D) h0 D.length (Nat.le_refl _)
  rw [List.take_of_length_le (Nat.le_refl _)] at h2
  rw [← hT] at h1
  have h3 : T * (l : Int) = sumI (D.map fun d => c * d % T) := by rw [← hl, Int.mul_sub, Int.mul_comm T c]; omega
  have h4 : (T - 1) * (cntT (posR (remD c T D)) D.length : Int) = T * (cntT (posR (remD c T D)) D.length : Int) - (cntT (posR (remD c T D)) D.length : Int) := by rw [Int.sub_mul]; omega
  by_cases hle : l ≤ cntT (posR (remD c T D)) D.length
  · exact hle
  · have : T * ((cntT (posR (remD c T D)) D.length : Int) + 1) ≤ T * (l : Int) := Int.mul_le_mul_of_nonneg_left (by omega) (by omega)
    rw [Int.mul_add, Int.mul_one] at this
    omega
theorem share_facts {c : Int} {D : List Int} (h : shareOk c D = true) : (shareF c D).length = D.length ∧ sumI (shareF c D) = c ∧ (0 < sumI D ∧ sumI D ≤ 60000) ∧ (0 ≤ c ∧ c ≤ 1000000000) ∧ D.length ≤ 60 ∧ (∀ x ∈ D, 0 ≤ x ∧ x ≤ 1000) ∧ (∀ j, 0 ≤ (shareF c D).getD j 0 ∧ (shareF c D).getD j 0 ≤ 2000000000000) ∧
    (∀ j, j < D.length → (shareF c D).getD j 0 * sumI D - c * D.getD j 0 < sumI D ∧ -(sumI D) < (shareF c D).getD j 0 * sumI D - c * D.getD j 0) := by
  have hF : shareF c D = (shareOf c D (leftOf c D).toNat).2 := by rw [shareF, if_pos h]
  simp only [shareOk, Bool.and_eq_true, decide_eq_true_eq] at h
  obtain ⟨⟨⟨h1, h2⟩, h3⟩, h4⟩ := h
  have hc := inB_iff.1 h1
  have hn := inB_iff.1 h2
  have hx : ∀ x ∈ D, 0 ≤ x ∧ x ≤ 1000 := fun x hx => inB_iff.1 (List.all_eq_true.1 h3 x hx)
  have hT := sumI_le D hx
  have hT0 : 0 < sumI D := by omega
  have hleft := left_bd (c := c) (D := D) rfl hT0 (by omega)
  obtain ⟨l, hl⟩ := Int.eq_ofNat_of_zero_le hleft.1
  have hle : (leftOf c D).toNat = l := by rw [leftOf, hl]; rfl
  rw [hle, shareOf] at hF
  have hq : (quoD c (sumI D) D).length = D.length := quoD_len _ _ _
  have hll : l ≤ D.length := by omega
  have hpos := given_pos (remD c (sumI D) D) D.length (quoD c (sumI D) D) l (left_le rfl hT0 hl)
  have hval := share_val (remD c (sumI D) D) hq l hll
  have hbd := shareN_bd (R := remD c (sumI D) D) (n := D.length) (P0 := quoD c (sumI D) D) (B := 1000000000000) (by omega) (fun j => by
    rw [List.getD_eq_getElem?_getD]
    rcases hx2 : (quoD c (sumI D) D)[j]? with _ | y
    · simp
    · have hm := List.mem_of_getElem? hx2
      obtain ⟨d, hd, rfl⟩ := List.mem_map.1 hm
      exact (quo_bd hc (hx d hd) hT0).2.1) l
  rw [hF]
  refine ⟨by rw [(shareN_len _ _ _ _).2, hq], by rw [share_sum_n _ hq l hll]; omega, ⟨hT0, by omega⟩, hc, by omega, hx, fun j => by have := hbd j; omega, fun j hj => ?_⟩
  have hd : D.getD j 0 = D[j] := by rw [List.getD_eq_getElem?_getD, List.getElem?_eq_getElem hj]; rfl
  have hqj : (quoD c (sumI D) D).getD j 0 = c * D[j] / sumI D := by rw [List.getD_eq_getElem?_getD, quoD, List.getElem?_map, List.getElem?_eq_getElem hj]; rfl
  have hrj : remD c (sumI D) D j = c * D[j] % sumI D := by rw [remD, hd]
  have hdm := Int.mul_ediv_add_emod (c * D[j]) (sumI D)
  have h5 := Int.emod_nonneg (c * D[j]) (show sumI D ≠ 0 by omega)
  have h6 := Int.emod_lt_of_pos (c * D[j]) hT0
  rw [hval j, hqj, hd, Int.add_mul, Int.mul_comm (c * D[j] / sumI D)]
  cases hg : gOf (shareN (remD c (sumI D) D) D.length (quoD c (sumI D) D) l).1 j
  · simp only [oneB, Bool.false_eq_true, if_false]; omega
  · have := hpos j hj hg
    rw [hrj] at this
    simp only [oneB, if_true]; omega

theorem raise_bd {c p m : Int} (hc : 0 ≤ c ∧ c ≤ m) (hp : 0 ≤ p) : c ≤ raiseC c p m ∧ raiseC c p m ≤ m := by
  have h1 : 0 ≤ c * p := Int.mul_nonneg hc.1 hp
  have h2 : c * (100 + p) = 100 * c + c * p := by rw [Int.mul_add]; omega
  unfold raiseC
  rw [h2]; omega
theorem raised_tar {L : List TierD} {me mi mo p : Int} (h : rOk L me mi mo p = true) : tarOk (rL L me mi mo p) (rN (rOk L me mi mo p) (raiseC me p 10000)) (rN (rOk L me mi mo p) (raiseC mi p 10000)) (rN (rOk L me mi mo p) (raiseC mo p 100000)) = true ∧
    me ≤ rN (rOk L me mi mo p) (raiseC me p 10000) ∧ mi ≤ rN (rOk L me mi mo p) (raiseC mi p 10000) ∧ mo ≤ rN (rOk L me mi mo p) (raiseC mo p 100000) := by
  have h2 := h
  rw [rOk, Bool.and_eq_true] at h2
  have hp := inB_iff.1 h2.2
  have hT := h2.1
  obtain ⟨k1, k2, k3⟩ := tar_bds hT
  have a1 := raise_bd (m := 10000) k1 hp.1
  have a2 := raise_bd (m := 10000) k2 hp.1
  have a3 := raise_bd (m := 100000) k3 hp.1
  have hL : rL L me mi mo p = raiseL L p := by simp [rL, h]
  have hlen := tar_len hT
  have htier : ∀ j, j < L.length → tierOk L j = true := by
    intro j hj
    rcases hh : tierOk L j with _ | _
    · rw [tar_false me mi mo hj hh] at hT; cases hT
    · rfl
  rw [hL, h]
  simp only [rN, if_true]
  refine ⟨?_, by omega, by omega, by omega⟩
  rw [tar_all]
  · rw [raise_len, inB_true (by omega) (by omega), inB_true (by omega) (by omega), inB_true (by omega) (by omega), inB_true (by omega) (by omega)]; rfl
  · intro j hj
    rw [raise_len] at hj
    have hj2 : j < (raiseL L p).length := by rw [raise_len]; exact hj
    have ht := htier j hj
    rw [tierOk_eq hj] at ht
    rw [tierOk_eq hj2]
    have e1 : (raiseL L p)[j] = ⟨L[j].days, raiseC L[j].cents p 100000⟩ := by simp [raiseL]
    rw [e1]
    simp only [Bool.and_eq_true] at ht ⊢
    have hcb := inB_iff.1 ht.1.2
    have hr := raise_bd (m := 100000) hcb hp.1
    refine ⟨⟨ht.1.1, inB_true (by omega) (by omega)⟩, ?_⟩
    by_cases h0 : j = 0
    · rw [if_pos h0]; have := ht.2; rw [if_pos h0] at this; exact this
    · rw [if_neg h0]; have := ht.2; rw [if_neg h0] at this
      have e2 : ((raiseL L p).getD (j - 1) default).days = (L.getD (j - 1) default).days := by
        have hj3 : j - 1 < L.length := by omega
        rw [List.getD_eq_getElem?_getD, List.getD_eq_getElem?_getD, List.getElem?_eq_getElem (show j - 1 < (raiseL L p).length by rw [raise_len]; exact hj3), List.getElem?_eq_getElem hj3]
        simp [raiseL]
      rw [e2]; exact this
end Go.Proofs.Ythkobjadfeidmaa
