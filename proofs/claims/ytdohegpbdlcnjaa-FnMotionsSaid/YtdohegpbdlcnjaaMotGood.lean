/- Plain law: filed and changed motions are motions again; what may follow can be reached; a new motion is open. -/
import Derived.Test.YtdohegpbdlcnjaaMotFile
import Derived.Test.YtdohegpbdlcnjaaMotChg
import Derived.Test.YtdohegpbdlcnjaaMotPlain
namespace Go.Proofs.Ytdohegpbdlcnjaa
open Go.RowKit
set_option linter.unusedVariables false
theorem fileM_good {L : List MotionD} {p : ByteArray} {day after : Int} (h : (fileM L p day after).2 = 0) : motsOk (fileM L p day after).1 = true := by
  unfold fileM at h ⊢
  split at h <;> rename_i h1
  · split at h <;> rename_i h2
    · split at h <;> rename_i h3
      · simp at h
      · split at h <;> rename_i h4
        · rw [if_pos h1, if_pos h2, if_neg h3, if_pos h4]; exact h4
        · simp at h
    · simp at h
  · simp at h
theorem fileM_is {L : List MotionD} {p : ByteArray} {day after : Int} (h : (fileM L p day after).2 = 0) : (fileM L p day after).1 = L ++ [newM L p day after] ∧ motsOk (L ++ [newM L p day after]) = true := by
  unfold fileM at h ⊢
  split at h <;> rename_i h1
  · split at h <;> rename_i h2
    · split at h <;> rename_i h3
      · simp at h
      · split at h <;> rename_i h4
        · rw [if_pos h1, if_pos h2, if_neg h3, if_pos h4]; exact ⟨rfl, h4⟩
        · simp at h
    · simp at h
  · simp at h
theorem findM_nums {q : Int} : ∀ {L M : List MotionD} (i : Int), L.map MotionD.number = M.map MotionD.number → findM q L i = findM q M i
  | [], [], _, _ => rfl
  | [], _ :: _, _, h => by simp at h
  | _ :: _, [], _, h => by simp at h
  | a :: L, b :: M, i, h => by
    simp only [List.map_cons, List.cons.injEq] at h
    rw [findM, findM, h.1, findM_nums (i + 1) h.2]
theorem set_nums {L : List MotionD} {j : Nat} (hj : j < L.length) {x : MotionD} (hx : x.number = L[j].number) : (L.set j x).map MotionD.number = L.map MotionD.number := by
  apply List.ext_getElem (by simp)
  intro n h1 h2
  rw [List.getElem_map, List.getElem_map, List.getElem_set]
  split
  · rename_i e; subst e; exact hx
  · rfl
theorem getD_num (L : List MotionD) (i : Nat) : (L.getD i default).number = (L.map MotionD.number).getD i 0 := by
  rw [List.getD_eq_getElem?_getD, List.getD_eq_getElem?_getD, List.getElem?_map]
  cases L[i]? <;> rfl
theorem mots_of {L : List MotionD} (h : ∀ k, k < L.length → motAt L k = true) (hl : L.length ≤ 12) : motsOk L = true := by
  unfold motsOk
  rw [Bool.and_eq_true, List.all_eq_true, decide_eq_true_eq]
  exact ⟨fun k hk => h k (by simpa using hk), hl⟩
theorem may_facts {L : List MotionD} {m : MotionD} {s day : Int} (h : mayM L m s day = true) : m.changed ≤ day ∧ 1 ≤ s ∧ s ≤ 5 ∧ m.state < 3 := by
  unfold mayM at h
  split at h
  · simp at h
  · rename_i h1
    have hc : m.state < 3 := by
      by_cases h3 : 3 ≤ m.state
      · exact absurd (.inr (by simp [closedB, h3])) h1
      · omega
    have hd : m.changed ≤ day := by
      by_cases h3 : day < m.changed
      · exact absurd (.inl h3) h1
      · omega
    refine ⟨hd, ?_, ?_, hc⟩
    all_goals
      split at h
      · omega
      · split at h
        · omega
        · split at h
          · omega
          · have : s = 5 := by simpa using h
            omega
theorem chg_ok {L : List MotionD} (h : motsOk L = true) {j : Nat} (hj : j < L.length) {s day : Int} (hm : mayM L L[j] s day = true) (hd : inB day 0 20000 = true) : motsOk (L.set j (upM L[j] s day)) = true := by
  obtain ⟨h1, h2, h3, h4⟩ := may_facts hm
  have hd2 := inB_iff.1 hd
  apply mots_of
  · intro k hk
    rw [List.length_set] at hk
    have ho := mots_ok h hk
    rw [motAt_eq hk] at ho
    rw [motAt_eq (by simpa using hk)]
    have hn := set_nums hj (x := upM L[j] s day) rfl
    have hf : ∀ q, findM q ((L.set j (upM L[j] s day)).take k) 0 = findM q (L.take k) 0 := fun q => findM_nums 0 (by rw [List.map_take, List.map_take, hn])
    have hp : ((L.set j (upM L[j] s day)).getD (k-1) default).number = (L.getD (k-1) default).number := by rw [getD_num, getD_num, hn]
    rw [hp, hf]
    simp only [Bool.and_eq_true] at ho ⊢
    obtain ⟨⟨ho1, ho2⟩, ho3⟩ := ho
    by_cases e : j = k
    · subst e
      rw [List.getElem_set_self]
      refine ⟨⟨?_, ho2⟩, ho3⟩
      simp only [motOk, Bool.and_eq_true] at ho1 ⊢
      obtain ⟨⟨⟨⟨⟨a1, a2⟩, a3⟩, a4⟩, a5⟩, a6⟩ := ho1
      have a4' := inB_iff.1 a4
      refine ⟨⟨⟨⟨⟨a1, a2⟩, a3⟩, ?_⟩, ?_⟩, ?_⟩
      · exact inB_iff.2 (by show L[j].filed ≤ day ∧ day ≤ 20000; omega)
      · exact inB_iff.2 (by show 0 ≤ s ∧ s ≤ 5; omega)
      · show (s != 0 || _) = true
        rw [show (s != 0) = true from by simp; omega]; rfl
    · rw [List.getElem_set_ne e]
      exact ⟨⟨ho1, ho2⟩, ho3⟩
  · rw [List.length_set]; exact mots_len h
theorem chgM_is {L : List MotionD} {n s day : Int} (h : (chgM L n s day).2 = 0) : codeM L n day = 0 ∧ ∃ j, ∃ hj : j < L.length, findM n L 0 = (j : Int) ∧ mayM L L[j] s day = true ∧ (chgM L n s day).1 = L.set j (upM L[j] s day) := by
  unfold chgM at h ⊢
  split at h <;> rename_i h1
  · simp at h
  · rw [if_neg h1]
    split at h <;> rename_i h2
    · rw [if_pos h2]
      obtain ⟨hok, hd, j, hj, hjl⟩ := codeM_0 h2
      rw [getM_at hj hjl] at h ⊢
      split at h <;> rename_i h3
      · rw [if_pos h3, hj]
        exact ⟨h2, j, hjl, rfl, h3, rfl⟩
      · simp at h
    · exact absurd h h2
theorem chgM_good {L : List MotionD} {n s day : Int} (h : (chgM L n s day).2 = 0) : motsOk (chgM L n s day).1 = true := by
  obtain ⟨h1, j, hj, _, h2, h3⟩ := chgM_is h
  obtain ⟨hok, hd, _⟩ := codeM_0 h1
  rw [h3]
  exact chg_ok hok hj h2 hd
/-- A motion that is filed is open. -/
theorem file_open {L : List MotionD} {p : ByteArray} {day after : Int} : (newM L p day after).number ∈ selM openP (L ++ [newM L p day after]) :=
  mem_open.2 ⟨L.length, by simp, by simp, by simp [newM]⟩
theorem mem_sts (f : Int → Bool) (k : Nat) (s : Int) : s ∈ stsL f k ↔ 0 ≤ s ∧ s < k ∧ f s = true := by
  unfold stsL
  rw [List.mem_map]
  constructor
  · rintro ⟨a, ha, rfl⟩
    rw [List.mem_filter] at ha
    have := ha.1
    rw [List.mem_range] at this
    exact ⟨by omega, by omega, ha.2⟩
  · rintro ⟨h0, h1, h2⟩
    refine ⟨s.toNat, ?_, by omega⟩
    rw [List.mem_filter, List.mem_range]
    refine ⟨by omega, ?_⟩
    rw [show ((s.toNat : Nat) : Int) = s by omega]; exact h2
theorem next_chg {L : List MotionD} {n day : Int} (h : codeM L n day = 0) {s : Int} (h0 : 0 ≤ s) (h5 : s < 6) : s ∈ nextFor L n day ↔ (chgM L n s day).2 = 0 := by
  unfold nextFor
  rw [if_pos h, mem_sts]
  obtain ⟨hok, hd, j, hj, hjl⟩ := codeM_0 h
  have hs : inB s 0 5 = true := inB_iff.2 ⟨h0, by omega⟩
  rw [getM_at hj hjl]
  by_cases hm : mayM L L[j] s day = true
  · rw [chgM_0 hs h hj hjl hm]; simp [hm]; omega
  · have hm2 : mayM L L[j] s day = false := by simpa using hm
    rw [chgM_5 hs h hj hjl hm2]; simp [hm2]
theorem next_open {L : List MotionD} {n day : Int} (h : codeM L n day = 0) : (nextFor L n day).length = 0 ∨ n ∈ selM openP L := by
  rcases hN : nextFor L n day with _ | ⟨s, M⟩
  · left; rfl
  · right
    have hs : s ∈ nextFor L n day := by rw [hN]; simp
    unfold nextFor at hs
    rw [if_pos h, mem_sts] at hs
    obtain ⟨hok, hd, j, hj, hjl⟩ := codeM_0 h
    rw [getM_at hj hjl] at hs
    have := may_facts hs.2.2
    exact mem_open.2 ⟨j, hjl, find_num hj hjl, this.2.2.2⟩
end Go.Proofs.Ytdohegpbdlcnjaa
