/- Plain law: costs shared by quotients, the rest going to the greatest remainders. -/
import Derived.Test.YtgckkocndhfbnaaBase
namespace Go.Proofs.Ytgckkocndhfbnaa
def sumI (D : List Int) : Int := D.foldl (· + ·) 0
theorem foldl_add (D : List Int) (a : Int) : D.foldl (· + ·) a = a + sumI D := by
  unfold sumI
  induction D generalizing a with
  | nil => simp
  | cons x D ih => rw [List.foldl_cons, List.foldl_cons, ih (a + x), ih (0 + x)]; omega
theorem sumI_cons (x : Int) (D : List Int) : sumI (x :: D) = x + sumI D := by
  rw [sumI, List.foldl_cons, foldl_add]; omega
theorem sumI_nil : sumI [] = 0 := rfl
theorem sumI_snoc {D : List Int} {k : Nat} (hk : k < D.length) : sumI (D.take (k + 1)) = sumI (D.take k) + D[k] := by
  rw [List.take_succ_eq_append_getElem hk, sumI, List.foldl_append]; rfl
theorem sumI_le {B : Int} : ∀ (D : List Int), (∀ x ∈ D, 0 ≤ x ∧ x ≤ B) → 0 ≤ sumI D ∧ sumI D ≤ B * D.length
  | [], _ => by simp [sumI_nil]
  | x :: D, h => by
    have h1 := sumI_le D (fun y hy => h y (List.mem_cons_of_mem _ hy))
    have h2 := h x (List.mem_cons_self ..)
    rw [sumI_cons, List.length_cons]
    have : B * ((D.length + 1 : Nat) : Int) = B * D.length + B := by rw [Int.natCast_add, Int.mul_add]; simp
    omega
theorem sumI_take_bd {B : Int} {D : List Int} (hB : 0 ≤ B) (h : ∀ x ∈ D, 0 ≤ x ∧ x ≤ B) (k : Nat) : 0 ≤ sumI (D.take k) ∧ sumI (D.take k) ≤ B * D.length := by
  have h1 := sumI_le (D.take k) (fun x hx => h x (List.mem_of_mem_take hx))
  have h2 : B * ((D.take k).length : Int) ≤ B * (D.length : Int) := Int.mul_le_mul_of_nonneg_left (by rw [List.length_take]; omega) hB
  omega

/-! ### Quotients and remainders -/
def quoD (c T : Int) (D : List Int) : List Int := D.map fun d => c * d / T
def remD (c T : Int) (D : List Int) (j : Nat) : Int := c * D.getD j 0 % T
theorem quo_rem {c T : Int} : ∀ D : List Int, T * sumI (quoD c T D) + sumI (D.map fun d => c * d % T) = c * sumI D
  | [] => by simp [quoD, sumI_nil]
  | d :: D => by
    have ih := quo_rem (c := c) (T := T) D
    simp only [quoD, List.map_cons, sumI_cons] at ih ⊢
    rw [Int.mul_add, Int.mul_add]
    have := Int.mul_ediv_add_emod (c * d) T
    omega
theorem left_bd {c T : Int} {D : List Int} (hT : T = sumI D) (h0 : 0 < T) (hn : 1 ≤ D.length) : 0 ≤ c - sumI (quoD c T D) ∧ c - sumI (quoD c T D) < D.length := by
  have h1 := quo_rem (c := c) (T := T) D
  have h2 := sumI_le (B := T - 1) (D.map fun d => c * d % T) (by
    intro x hx
    obtain ⟨d, _, rfl⟩ := List.mem_map.1 hx
    have := Int.emod_nonneg (c * d) (show T ≠ 0 by omega)
    have := Int.emod_lt_of_pos (c * d) h0
    omega)
  rw [List.length_map] at h2
  rw [← hT] at h1
  have h3 : T * (c - sumI (quoD c T D)) = sumI (D.map fun d => c * d % T) := by rw [Int.mul_sub, Int.mul_comm T c]; omega
  have h4 : (T - 1) * (D.length : Int) = T * D.length - D.length := by rw [Int.sub_mul]; omega
  constructor
  · by_cases h : 0 ≤ c - sumI (quoD c T D)
    · exact h
    · have : T * (c - sumI (quoD c T D)) ≤ T * (-1) := Int.mul_le_mul_of_nonneg_left (by omega) (by omega)
      omega
  · by_cases h : c - sumI (quoD c T D) < D.length
    · exact h
    · have : T * (D.length : Int) ≤ T * (c - sumI (quoD c T D)) := Int.mul_le_mul_of_nonneg_left (by omega) (by omega)
      omega

/-! ### The best one -/
def bestN (R : Nat → Int) (G : Nat → Bool) : Nat → Int
  | 0 => -1
  | k + 1 => if G k = false ∧ (bestN R G k < 0 ∨ R (bestN R G k).toNat < R k) then k else bestN R G k
theorem bestN_zero (R : Nat → Int) (G : Nat → Bool) : bestN R G 0 = -1 := rfl
theorem bestN_succ (R : Nat → Int) (G : Nat → Bool) (k : Nat) : bestN R G (k + 1) = if G k = false ∧ (bestN R G k < 0 ∨ R (bestN R G k).toNat < R k) then (k : Int) else bestN R G k := rfl
theorem bestN_bd (R : Nat → Int) (G : Nat → Bool) : ∀ k : Nat, -1 ≤ bestN R G k ∧ bestN R G k < k
  | 0 => by rw [bestN_zero]; simp
  | k + 1 => by
    have := bestN_bd R G k
    rw [bestN_succ]; split <;> omega
theorem bestN_spec (R : Nat → Int) (G : Nat → Bool) : ∀ k : Nat, (bestN R G k < 0 → ∀ j, j < k → G j = true) ∧ (0 ≤ bestN R G k → G (bestN R G k).toNat = false ∧ ∀ j, j < k → G j = false → R j ≤ R (bestN R G k).toNat)
  | 0 => by rw [bestN_zero]; exact ⟨fun _ j hj => by omega, fun h => by omega⟩
  | k + 1 => by
    have ih := bestN_spec R G k
    have hb := bestN_bd R G k
    rw [bestN_succ]
    split
    · rename_i h
      refine ⟨fun h => by omega, fun _ => ⟨by simpa using h.1, fun j hj hg => ?_⟩⟩
      by_cases e : j = k
      · subst e; simp
      · rcases h.2 with h2 | h2
        · have := ih.1 h2 j (by omega); rw [hg] at this; cases this
        · have hn : 0 ≤ bestN R G k ∨ bestN R G k < 0 := by omega
          rcases hn with hn | hn
          · have := (ih.2 hn).2 j (by omega) hg; simp; omega
          · have := ih.1 hn j (by omega); rw [hg] at this; cases this
    · rename_i h
      refine ⟨fun h1 j hj => ?_, fun h1 => ⟨(ih.2 h1).1, fun j hj hg => ?_⟩⟩
      · by_cases e : j = k
        · subst e
          cases hg : G j
          · exact absurd ⟨hg, .inl h1⟩ h
          · rfl
        · exact ih.1 h1 j (by omega)
      · by_cases e : j = k
        · subst e
          by_cases hr : R (bestN R G j).toNat < R j
          · exact absurd ⟨hg, .inr hr⟩ h
          · omega
        · exact (ih.2 h1).2 j (by omega) hg
def cntT (G : Nat → Bool) : Nat → Nat
  | 0 => 0
  | k + 1 => cntT G k + if G k then 1 else 0
theorem cnt_all {G : Nat → Bool} : ∀ n : Nat, (∀ j, j < n → G j = true) → cntT G n = n
  | 0, _ => rfl
  | n + 1, h => by
    rw [cntT, cnt_all n (fun j hj => h j (by omega)), h n (by omega)]; rfl
theorem cnt_none {G : Nat → Bool} : ∀ n : Nat, (∀ j, j < n → G j = false) → cntT G n = 0
  | 0, _ => rfl
  | n + 1, h => by
    rw [cntT, cnt_none n (fun j hj => h j (by omega)), h n (by omega)]; rfl
theorem cnt_set {G G' : Nat → Bool} {b : Nat} (hb : G b = false) (hb' : G' b = true) (h : ∀ j, j ≠ b → G' j = G j) : ∀ n : Nat, cntT G' n = cntT G n + if b < n then 1 else 0
  | 0 => rfl
  | n + 1 => by
    have ih := cnt_set hb hb' h n
    rw [cntT, cntT, ih]
    by_cases e : n = b
    · subst e; rw [hb, hb']; simp
    · rw [h n e]
      by_cases hlt : b < n
      · rw [if_pos hlt, if_pos (show b < n + 1 by omega)]; omega
      · rw [if_neg hlt, if_neg (show ¬ b < n + 1 by omega)]; omega
def gOf (L : List Bool) (j : Nat) : Bool := L.getD j false
/-- The rounds: which have been given one more, and the parts. -/
def shareN (R : Nat → Int) (n : Nat) (P0 : List Int) : Nat → List Bool × List Int
  | 0 => (List.replicate n false, P0)
  | t + 1 =>
    let s := shareN R n P0 t
    let b := (bestN R (gOf s.1) n).toNat
    (s.1.set b true, s.2.set b (s.2.getD b 0 + 1))
theorem shareN_len (R : Nat → Int) (n : Nat) (P0 : List Int) : ∀ t, (shareN R n P0 t).1.length = n ∧ (shareN R n P0 t).2.length = P0.length
  | 0 => by simp [shareN]
  | t + 1 => by
    have := shareN_len R n P0 t
    simp [shareN, this]
theorem gOf_set {L : List Bool} {b j : Nat} (hb : b < L.length) : gOf (L.set b true) j = if j = b then true else gOf L j := by
  unfold gOf
  rw [List.getD_eq_getElem?_getD, List.getD_eq_getElem?_getD, List.getElem?_set]
  by_cases e : b = j
  · subst e; simp [hb]
  · rw [if_neg e, if_neg (fun h => e h.symm)]
theorem shareN_cnt (R : Nat → Int) (n : Nat) (P0 : List Int) : ∀ t, t ≤ n → cntT (gOf (shareN R n P0 t).1) n = t
  | 0, _ => cnt_none n (fun j hj => by simp [shareN, gOf, List.getD_eq_getElem?_getD, hj])
  | t + 1, h => by
    have ih := shareN_cnt R n P0 t (by omega)
    have hl := (shareN_len R n P0 t).1
    have hs := bestN_spec R (gOf (shareN R n P0 t).1) n
    have hb := bestN_bd R (gOf (shareN R n P0 t).1) n
    have h0 : 0 ≤ bestN R (gOf (shareN R n P0 t).1) n := by
      by_cases h0 : 0 ≤ bestN R (gOf (shareN R n P0 t).1) n
      · exact h0
      · have := cnt_all n (hs.1 (by omega)); omega
    have hf := (hs.2 h0).1
    have hset := cnt_set (G := gOf (shareN R n P0 t).1) (G' := gOf (shareN R n P0 (t + 1)).1) (b := (bestN R (gOf (shareN R n P0 t).1) n).toNat) hf
      (by simp only [shareN]; rw [gOf_set (by omega)]; simp) (fun j hj => by simp only [shareN]; rw [gOf_set (by omega), if_neg hj]) n
    rw [hset, ih, if_pos (by omega)]
theorem best_ok (R : Nat → Int) (n : Nat) (P0 : List Int) {t : Nat} (h : t < n) :
    0 ≤ bestN R (gOf (shareN R n P0 t).1) n ∧ bestN R (gOf (shareN R n P0 t).1) n < n ∧ gOf (shareN R n P0 t).1 (bestN R (gOf (shareN R n P0 t).1) n).toNat = false := by
  have hb := bestN_bd R (gOf (shareN R n P0 t).1) n
  have hs := bestN_spec R (gOf (shareN R n P0 t).1) n
  have hc := shareN_cnt R n P0 t (by omega)
  have h0 : 0 ≤ bestN R (gOf (shareN R n P0 t).1) n := by
    by_cases h0 : 0 ≤ bestN R (gOf (shareN R n P0 t).1) n
    · exact h0
    · have := cnt_all n (hs.1 (by omega)); omega
  exact ⟨h0, hb.2, (hs.2 h0).1⟩
end Go.Proofs.Ytgckkocndhfbnaa
