/- Plain law: a higher level hides nothing more; a public text does not depend on hidden bytes. -/
import Derived.Test.YtgckkocndhfbnaaMarkQ
namespace Go.Proofs.Ytgckkocndhfbnaa
open Go.RowKit
set_option linter.unusedVariables false
/-- s' is s but for the byte at p, which is 'q'. -/
def Swapped (s s' : ByteArray) (p : Nat) : Prop := s'.data.size = s.data.size ∧ (∀ i, i ≠ p → s'.data[i]? = s.data[i]?) ∧ s'.data[p]? = some 113
theorem extract_sw {s s' : ByteArray} {p : Nat} (h : Swapped s s' p) {a b : Nat} (hp : p < a ∨ b ≤ p) : s.extract a b = s'.extract a b := by
  apply ByteArray.ext
  rw [ByteArray.data_extract, ByteArray.data_extract]
  apply Array.ext_getElem?
  intro i
  rw [Array.getElem?_extract, Array.getElem?_extract, h.1]
  split
  · rename_i h1
    exact (h.2.1 (a + i) (by omega)).symm
  · rfl
theorem from_le {n : Int} {L : List MarkD} (hn : 0 ≤ n) (h : marksOkB n L = true) {j : Nat} (hj : j < L.length) : ∀ {k : Nat} (hk : k < L.length), j < k → L[j].to ≤ L[k].from_
  | 0, hk, h0 => by omega
  | k + 1, hk, hjk => by
    have e := marks_elem hn h hk
    rw [endAt_succ (show k < L.length by omega)] at e
    by_cases hc : j = k
    · subst hc; exact e.1.2
    · have h1 := from_le hn h hj (k := k) (by omega) (by omega)
      have h2 := (marks_elem hn h (show k < L.length by omega)).2.1
      omega
theorem at_ge {n : Int} {s : ByteArray} {L : List MarkD} {lv : Int} (hn : 0 ≤ n) (h : marksOkB n L = true) {j : Nat} (hj : j < L.length) (hlv : lv < L[j].level) : ∀ (k : Nat), k ≤ L.length → j < k → L[j].to.toNat ≤ (pubAt s L lv k).2
  | 0, _, h0 => by omega
  | k + 1, hk, hjk => by
    rw [pubAt_succ (by omega)]
    by_cases hc : j = k
    · subst hc; rw [if_pos hlv]; exact Nat.le_refl _
    · have ih := at_ge (s := s) hn h hj hlv k (by omega) (by omega)
      split
      · have h1 := from_le hn h hj (show k < L.length by omega) (by omega)
        have h2 := (marks_elem hn h (show k < L.length by omega)).2.1
        show L[j].to.toNat ≤ L[k].to.toNat
        omega
      · exact ih
theorem pubAt_sw {s s' : ByteArray} {p : Nat} (hs : Swapped s s' p) {L : List MarkD} {lv : Int} (h : marksOkB s.size L = true) {j : Nat} (hj : j < L.length) (hlv : lv < L[j].level) (hp : L[j].from_ ≤ (p : Int) ∧ (p : Int) < L[j].to) : ∀ (k : Nat), k ≤ L.length → pubAt s L lv k = pubAt s' L lv k
  | 0, _ => rfl
  | k + 1, hk => by
    have ih := pubAt_sw hs h hj hlv hp k (by omega)
    have hn : (0 : Int) ≤ (s.size : Int) := by omega
    rw [pubAt_succ (by omega), pubAt_succ (by omega), ← ih]
    have he : s.extract (pubAt s L lv k).2 L[k].from_.toNat = s'.extract (pubAt s L lv k).2 L[k].from_.toNat := by
      apply extract_sw hs
      by_cases hkj : j < k
      · left
        have := at_ge (s := s) hn h hj hlv k (by omega) hkj
        omega
      · right
        by_cases e : k = j
        · subst e; omega
        · have h1 := from_le hn h (show k < L.length by omega) hj (by omega)
          have h2 := (marks_elem hn h (show k < L.length by omega)).2.1
          omega
    rw [he]
theorem pubT_sw {s s' : ByteArray} {p : Nat} (hs : Swapped s s' p) {L : List MarkD} {lv : Int} (h : marksOkB s.size L = true) {j : Nat} (hj : j < L.length) (hlv : lv < L[j].level) (hp : L[j].from_ ≤ (p : Int) ∧ (p : Int) < L[j].to) : pubT s L lv = pubT s' L lv := by
  have hn : (0 : Int) ≤ (s.size : Int) := by omega
  unfold pubT
  rw [pubAt_sw hs h hj hlv hp L.length (Nat.le_refl _)]
  have h1 := at_ge (s := s') hn h hj hlv L.length (Nat.le_refl _) hj
  have hsz : s'.size = s.size := hs.1
  rw [hsz, extract_sw hs (by omega)]
theorem text_sw {s s' : ByteArray} {p : Nat} (hs : Swapped s s' p) (h : isTextB s = true) : isTextB s' = true := by
  rw [text_eq, Bool.and_eq_true, List.all_eq_true] at h
  have hsz : s'.size = s.size := hs.1
  rw [text_eq, hsz, h.2, Bool.and_true, List.all_eq_true]
  intro c hc
  obtain ⟨i, hi, rfl⟩ := List.getElem_of_mem hc
  have hi2 : i < s'.data.size := by simpa using hi
  by_cases hp : i = p
  · subst hp
    have := hs.2.2
    rw [Array.getElem?_eq_getElem hi2] at this
    injection this with this
    rw [Array.getElem_toList, this]; decide
  · have h1 := hs.2.1 i hp
    rw [Array.getElem?_eq_getElem hi2, Array.getElem?_eq_getElem (by rw [← hs.1]; exact hi2)] at h1
    injection h1 with h1
    rw [Array.getElem_toList, h1]
    exact h.1 _ (by simp)
theorem lv_hit {L : List MarkD} {p : Int} (h : 0 < lvAt L p) : ∃ j, ∃ hj : j < L.length, lvAt L p = L[j].level ∧ L[j].from_ ≤ p ∧ p < L[j].to := by
  unfold lvAt at h ⊢
  cases hf : L.find? (fun m => inB p m.from_ (m.to - 1)) with
  | none => rw [hf] at h; simp at h
  | some m =>
    obtain ⟨j, hj, rfl⟩ := List.getElem_of_mem (List.mem_of_find?_eq_some hf)
    have h1 := List.find?_some hf
    rw [inB_iff] at h1
    exact ⟨j, hj, rfl, by omega, by omega⟩
/-- The level at a byte: under a lower one it is hidden. -/
theorem law_hide {s s' : ByteArray} {L : List MarkD} {p : Int} (h : (levR s L p).2 = 0) (hl : 0 < (levR s L p).1) : 0 ≤ p ∧ p < s.size ∧ 1 ≤ (levR s L p).1 ∧ (levR s L p).1 ≤ 9 ∧ (Swapped s s' p.toNat → codeL s L ((levR s L p).1 - 1) = 0 ∧ codeL s' L ((levR s L p).1 - 1) = 0 ∧ pubT s L ((levR s L p).1 - 1) = pubT s' L ((levR s L p).1 - 1)) := by
  unfold levR at h hl ⊢
  split at h <;> rename_i h1
  · rw [if_pos h1] at hl ⊢
    split at h <;> rename_i h2
    · rw [if_pos h2] at hl ⊢
      simp only at hl ⊢
      obtain ⟨ht, hm⟩ := codeK_0 h1
      obtain ⟨j, hj, e1, e2, e3⟩ := lv_hit hl
      have hb := marks_elem (n := (s.size : Int)) (by omega) hm hj
      have hp := inB_iff.1 h2
      refine ⟨by omega, by omega, by omega, by omega, fun hs => ?_⟩
      have hin : inB (lvAt L p - 1) 0 9 = true := inB_true (by omega) (by omega)
      have hsz : s'.size = s.size := hs.1
      refine ⟨by rw [codeL_in hin]; exact h1, ?_, pubT_sw hs hm hj (by omega) (by omega)⟩
      rw [codeL, text_sw hs ht, hsz, hm, hin]; rfl
    · simp at h
  · exact absurd h h1
theorem pubAt_none {s : ByteArray} {L : List MarkD} {lv : Int} (h : ∀ j (hj : j < L.length), L[j].level ≤ lv) : ∀ k, k ≤ L.length → pubAt s L lv k = (ByteArray.empty, 0)
  | 0, _ => rfl
  | k + 1, hk => by
    have := h k (by omega)
    rw [pubAt_succ (by omega), if_neg (by omega)]
    exact pubAt_none h k (by omega)
theorem pubT_none {s : ByteArray} {L : List MarkD} {lv : Int} (h : ∀ j (hj : j < L.length), L[j].level ≤ lv) : pubT s L lv = s := by
  unfold pubT
  rw [pubAt_none h L.length (Nat.le_refl _)]
  apply ByteArray.ext
  simp
theorem law_nine {s : ByteArray} {L : List MarkD} (h : (pubR s L 9).2 = 0) : (pubR s L 9).1 = s := by
  unfold pubR at h ⊢
  split at h <;> rename_i h1
  · rw [if_pos h1]
    obtain ⟨h2, _⟩ := codeL_0 h1
    obtain ⟨ht, hm⟩ := codeK_0 h2
    exact pubT_none fun j hj => (marks_elem (n := (s.size : Int)) (by omega) hm hj).2.2.2.2
  · exact absurd h h1
theorem sec_zero {n : Int} {L : List MarkD} {lv : Int} (hn : 0 ≤ n ∧ n ≤ 400) (h : marksOkB n L = true) : ∀ (k : Nat), k ≤ L.length → secAt L lv k = 0 → ∀ j (hj : j < L.length), j < k → L[j].level ≤ lv
  | 0, _, _, j, _, hjk => by omega
  | k + 1, hk, h0, j, hj, hjk => by
    have hb := (secAt_bd (lv := lv) hn h k (by omega)).1
    have he := (marks_elem hn.1 h (show k < L.length by omega)).2.1
    rw [secAt_succ (by omega)] at h0
    split at h0 <;> rename_i h1
    · omega
    · by_cases e : j = k
      · subst e; omega
      · exact sec_zero hn h k (by omega) h0 j hj (by omega)
theorem sec_mono {n : Int} {L : List MarkD} {lv : Int} (hn : 0 ≤ n ∧ n ≤ 400) (h : marksOkB n L = true) : ∀ (k : Nat), k ≤ L.length → secAt L (lv + 1) k ≤ secAt L lv k
  | 0, _ => by simp [secAt]
  | k + 1, hk => by
    have ih := sec_mono (lv := lv) hn h k (by omega)
    have he := (marks_elem hn.1 h (show k < L.length by omega)).2.1
    rw [secAt_succ (by omega), secAt_succ (by omega)]
    split <;> split <;> omega
theorem law_count {s : ByteArray} {L : List MarkD} {lv : Int} (h : (cntR s L lv).2 = 0) (h9 : lv ≠ 9) : (0 ≤ lv ∧ lv < 9) ∧ (cntR s L (lv + 1)).2 = 0 ∧ (cntR s L (lv + 1)).1 ≤ (cntR s L lv).1 ∧ 0 ≤ (cntR s L lv).1 ∧ ((cntR s L lv).1 = 0 → (pubR s L lv).1 = s) := by
  unfold cntR at h
  split at h <;> rename_i h1
  · obtain ⟨h2, h3⟩ := codeL_0 h1
    obtain ⟨ht, hm⟩ := codeK_0 h2
    have hb := inB_iff.1 h3
    have hsz := text_len ht
    have hin : inB (lv + 1) 0 9 = true := inB_true (by omega) (by omega)
    have h4 : codeL s L (lv + 1) = 0 := by rw [codeL_in hin]; exact h2
    rw [cntR_ok h1, cntR_ok h4, pubR_ok h1]
    refine ⟨by omega, rfl, sec_mono ⟨by omega, by omega⟩ hm _ (Nat.le_refl _), (secAt_bd ⟨by omega, by omega⟩ hm _ (Nat.le_refl _)).1, fun h0 => ?_⟩
    exact pubT_none fun j hj => sec_zero ⟨by omega, by omega⟩ hm L.length (Nat.le_refl _) h0 j hj hj
  · exact absurd h h1
theorem law_codes (s : ByteArray) (L : List MarkD) (lv : Int) : (cntR s L lv).2 = (pubR s L lv).2 := by
  unfold cntR pubR; split <;> rfl
end Go.Proofs.Ytgckkocndhfbnaa
