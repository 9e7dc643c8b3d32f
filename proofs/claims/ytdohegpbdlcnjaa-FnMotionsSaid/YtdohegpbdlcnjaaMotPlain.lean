/- Plain law: states count all motions; what waits is open, and numbers fall. -/
import Derived.Test.YtdohegpbdlcnjaaMotWait
import Derived.Test.YtdohegpbdlcnjaaCount
import Derived.Test.YtdohegpbdlcnjaaShare
namespace Go.Proofs.Ytdohegpbdlcnjaa
open Go.RowKit
set_option linter.unusedVariables false
theorem mot_states {L : List MotionD} (h : motsOk L = true) : ∀ m ∈ L, 0 ≤ m.state ∧ m.state ≤ 5 := by
  intro m hm
  obtain ⟨k, hk, rfl⟩ := List.getElem_of_mem hm
  exact (mots_bds h hk).2.2.2
theorem cntS_cons (m : MotionD) (L : List MotionD) (s : Nat) : cntS (m :: L) s = cntS L s + if m.state = (s : Int) then 1 else 0 := by
  unfold cntS
  rw [List.filter_cons]
  by_cases h : m.state = (s : Int) <;> simp [h]
theorem cnt_sums : ∀ {L : List MotionD}, (∀ m ∈ L, 0 ≤ m.state ∧ m.state ≤ 5) → cntS L 0 + cntS L 1 + cntS L 2 + cntS L 3 + cntS L 4 + cntS L 5 = L.length ∧ cntS L 0 + cntS L 1 + cntS L 2 = (selM openP L).length
  | [], _ => by simp [cntS, selM]
  | m :: L, h => by
    have ih := cnt_sums (L := L) (fun x hx => h x (List.mem_cons_of_mem _ hx))
    have hm := h m (List.mem_cons_self ..)
    have hs : ((selM openP (m :: L)).length : Int) = (selM openP L).length + if m.state < 3 then 1 else 0 := by
      unfold selM openP closedB
      rw [List.filter_cons]
      by_cases h3 : 3 ≤ m.state
      · simp [h3, show ¬ m.state < 3 by omega]
      · simp [h3, show m.state < 3 by omega]
    rw [hs]
    simp only [cntS_cons, List.length_cons]
    have c : m.state = 0 ∨ m.state = 1 ∨ m.state = 2 ∨ m.state = 3 ∨ m.state = 4 ∨ m.state = 5 := by omega
    rcases c with e | e | e | e | e | e <;> rw [e] <;> simp <;> omega
theorem cnt_sum {L : List MotionD} (h : motsOk L = true) : sumI (cntL L) = L.length := by
  have := (cnt_sums (mot_states h)).1
  have e : cntL L = [cntS L 0, cntS L 1, cntS L 2, cntS L 3, cntS L 4, cntS L 5] := rfl
  rw [e]; simp only [sumI_cons, sumI_nil]; omega
theorem num_next {L : List MotionD} (h : motsOk L = true) {k : Nat} (hk : k + 1 < L.length) : L[k].number < L[k + 1].number := by
  have := mots_ok h hk
  rw [motAt_eq hk, Bool.and_eq_true, Bool.and_eq_true, Bool.or_eq_true, decide_eq_true_eq, decide_eq_true_eq] at this
  rcases this.1.2 with h1 | h1
  · omega
  · rw [Nat.add_sub_cancel, List.getD_eq_getElem?_getD, List.getElem?_eq_getElem (show k < L.length by omega)] at h1
    exact h1
theorem num_lt {L : List MotionD} (h : motsOk L = true) {i : Nat} : ∀ {k : Nat} (hk : k < L.length) (hik : i < k), L[i].number < L[k].number
  | 0, hk, hik => by omega
  | k + 1, hk, hik => by
    have h1 := num_next h hk
    by_cases e : i = k
    · subst e; exact h1
    · have := num_lt h (i := i) (k := k) (by omega) (by omega)
      omega
theorem mem_open {L : List MotionD} {x : Int} : x ∈ selM openP L ↔ ∃ j, ∃ hj : j < L.length, L[j].number = x ∧ L[j].state < 3 := by
  unfold selM
  rw [List.mem_map]
  constructor
  · rintro ⟨m, hm, rfl⟩
    rw [List.mem_filter] at hm
    obtain ⟨j, hj, rfl⟩ := List.getElem_of_mem hm.1
    refine ⟨j, hj, rfl, ?_⟩
    have := hm.2
    simp [openP, closedB] at this; omega
  · rintro ⟨j, hj, rfl, h3⟩
    refine ⟨L[j], ?_, rfl⟩
    rw [List.mem_filter]
    exact ⟨List.getElem_mem hj, by simp [openP, closedB]; omega⟩
theorem waitL_cases (L : List MotionD) (f : Nat) (q : Int) : waitL L (f + 1) q = [] ∨ ∃ j, ∃ hj : j < L.length, findM q L 0 = (j : Int) ∧ L[j].number = q ∧ L[j].state < 3 ∧ waitL L (f + 1) q = q :: waitL L f L[j].after := by
  by_cases h : findM q L 0 < 0
  · left; exact waitL_neg h _
  · obtain ⟨j, hj, hjl⟩ := findM_idx h
    cases hc : decide (3 ≤ L[j].state)
    · right
      refine ⟨j, hjl, hj, find_num hj hjl, ?_, waitL_go hj hjl hc⟩
      simpa using hc
    · left; exact waitL_shut hj hjl hc
theorem waitL_open {L : List MotionD} : ∀ (f : Nat) (q : Int), ∀ x ∈ waitL L f q, x ∈ selM openP L
  | 0, q, x, hx => by simp [waitL] at hx
  | f + 1, q, x, hx => by
    rcases waitL_cases L f q with h | ⟨j, hj, _, h2, h3, h4⟩
    · rw [h] at hx; simp at hx
    · rw [h4] at hx
      rcases List.mem_cons.1 hx with e | e
      · subst e; exact mem_open.2 ⟨j, hj, h2, h3⟩
      · exact waitL_open f _ x e
theorem waitL_head {L : List MotionD} {f : Nat} {q x : Int} {M : List Int} (h : waitL L f q = x :: M) : x = q := by
  cases f with
  | zero => simp [waitL] at h
  | succ f =>
    rcases waitL_cases L f q with h1 | ⟨j, hj, _, _, _, h4⟩
    · rw [h1] at h; simp at h
    · rw [h4] at h; injection h with h _; exact h.symm
theorem waitL_falls {L : List MotionD} (hok : motsOk L = true) : ∀ (f : Nat) (q : Int) (i : Nat) (x y : Int), (waitL L f q)[i]? = some x → (waitL L f q)[i + 1]? = some y → y < x
  | 0, q, i, x, y, hx, hy => by simp [waitL] at hx
  | f + 1, q, i, x, y, hx, hy => by
    rcases waitL_cases L f q with h | ⟨j, hj, h1, h2, h3, h4⟩
    · rw [h] at hx; simp at hx
    · rw [h4] at hx hy
      rw [List.getElem?_cons_succ] at hy
      cases i with
      | zero =>
        rw [List.getElem?_cons_zero] at hx
        injection hx with hx
        rcases hM : waitL L f L[j].after with _ | ⟨z, M⟩
        · rw [hM] at hy; simp at hy
        · have hz := waitL_head hM
          have hfa := find_after hok hj
          cases f with
          | zero => simp [waitL] at hM
          | succ f =>
            rcases waitL_cases L f L[j].after with h5 | ⟨j2, hj2, h6, h7, _, _⟩
            · rw [h5] at hM; simp at hM
            · have hlt : j2 < j := by omega
              have := num_lt hok hj hlt
              rw [hM, List.getElem?_cons_zero] at hy
              injection hy with hy
              omega
      | succ i =>
        rw [List.getElem?_cons_succ] at hx
        exact waitL_falls hok f _ i x y hx hy
theorem wait_some {L : List MotionD} (hok : motsOk L = true) {q : Int} (hf : ¬ findM q L 0 < 0) : (0 < (waitL L L.length q).length) ↔ q ∈ selM openP L := by
  obtain ⟨j, hj, hjl⟩ := findM_idx hf
  obtain ⟨f, hlen⟩ : ∃ f, L.length = f + 1 := ⟨L.length - 1, by omega⟩
  rw [hlen]
  have hq := find_num hj hjl
  rcases waitL_cases L f q with h | ⟨j2, hj2, h1, h2, h3, h4⟩
  · rw [h]
    constructor
    · intro h; simp at h
    · intro hm
      obtain ⟨i, hi, hin, his⟩ := mem_open.1 hm
      have hij : i = j := by
        rcases Nat.lt_trichotomy i j with h5 | h5 | h5
        · have := num_lt hok hjl h5; omega
        · exact h5
        · have := num_lt hok hi h5; omega
      subst hij
      rw [waitL_go hj hjl (by simpa using his)] at h
      simp at h
  · rw [h4]
    constructor
    · intro _; exact mem_open.2 ⟨j2, hj2, h2, h3⟩
    · intro _; simp
end Go.Proofs.Ytdohegpbdlcnjaa
