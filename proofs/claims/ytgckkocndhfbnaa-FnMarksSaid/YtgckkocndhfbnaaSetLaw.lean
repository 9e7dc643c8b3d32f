/- Plain law: sorting and striking doubles gives what inserting one by one gives. -/
import Derived.Test.YtgckkocndhfbnaaSorted
import Derived.Test.YtgckkocndhfbnaaL07
namespace Go.Proofs.Ytgckkocndhfbnaa
open Go.RowKit
set_option linter.unusedVariables false
theorem sorted_ext : ∀ {A B : List Int}, A.Pairwise (fun x y => x < y) → B.Pairwise (fun x y => x < y) → (∀ x, x ∈ A ↔ x ∈ B) → A = B
  | [], [], _, _, _ => rfl
  | [], b :: B, _, _, h => absurd ((h b).2 (List.mem_cons_self ..)) (by simp)
  | a :: A, [], _, _, h => absurd ((h a).1 (List.mem_cons_self ..)) (by simp)
  | a :: A, b :: B, hA, hB, h => by
    rw [List.pairwise_cons] at hA hB
    have hab : a = b := by
      rcases List.mem_cons.1 ((h a).1 (List.mem_cons_self ..)) with e | e
      · exact e
      · rcases List.mem_cons.1 ((h b).2 (List.mem_cons_self ..)) with e2 | e2
        · exact e2.symm
        · have := hB.1 a e; have := hA.1 b e2; omega
    subst hab
    congr 1
    refine sorted_ext hA.2 hB.2 fun x => ⟨fun hx => ?_, fun hx => ?_⟩
    · rcases List.mem_cons.1 ((h x).1 (List.mem_cons_of_mem _ hx)) with e | e
      · have := hA.1 x hx; omega
      · exact e
    · rcases List.mem_cons.1 ((h x).2 (List.mem_cons_of_mem _ hx)) with e | e
      · have := hB.1 x hx; omega
      · exact e
theorem ins_split (n : Int) : ∀ D : List Int, D.Pairwise (fun x y => x < y) → ∃ T R, D = T ++ R ∧ T.length = atN D n ∧ (∀ x ∈ T, x < n) ∧ (∀ x ∈ R, n ≤ x)
  | [], _ => ⟨[], [], rfl, rfl, by simp, by simp⟩
  | a :: D, h => by
    rw [List.pairwise_cons] at h
    by_cases ha : a < n
    · obtain ⟨T, R, e, hl, h1, h2⟩ := ins_split n D h.2
      refine ⟨a :: T, R, by rw [e]; rfl, ?_, ?_, h2⟩
      · unfold atN at hl ⊢
        rw [List.takeWhile_cons, decide_eq_true ha]
        simp [hl]
      · intro x hx
        rcases List.mem_cons.1 hx with e2 | e2
        · omega
        · exact h1 x e2
    · refine ⟨[], a :: D, rfl, by simp [atN, ha], by simp, fun x hx => ?_⟩
      rcases List.mem_cons.1 hx with e2 | e2
      · omega
      · have := h.1 x e2; omega
theorem insN_props {D : List Int} (h : D.Pairwise (fun x y => x < y)) (n : Int) : (insN D n).Pairwise (fun x y => x < y) ∧ ∀ x, x ∈ insN D n ↔ x ∈ D ∨ x = n := by
  obtain ⟨T, R, e, hl, h1, h2⟩ := ins_split n D h
  have hg : D[atN D n]? = R[0]? := by
    rw [← hl]
    conv => lhs; rw [e]
    rw [List.getElem?_append_right (Nat.le_refl _), Nat.sub_self]
  have ht : D.take (atN D n) = T := by rw [← hl]; conv => lhs; rw [e]
                                       simp
  have hd : D.drop (atN D n) = R := by rw [← hl]; conv => lhs; rw [e]
                                       simp
  have hp := h
  rw [e, List.pairwise_append] at hp
  obtain ⟨p1, p2, p3⟩ := hp
  unfold insN
  rw [hg, ht, hd]
  split
  · rename_i hh
    refine ⟨h, fun x => ⟨.inl, fun hx => ?_⟩⟩
    rcases hx with hx | hx
    · exact hx
    · subst hx
      rw [e]
      exact List.mem_append.2 (.inr (List.mem_of_getElem? hh))
  · rename_i hh
    have hR : ∀ x ∈ R, n < x := by
      cases R with
      | nil => intro x hx; simp at hx
      | cons r R =>
        have hr : r ≠ n := fun er => hh (by rw [er]; rfl)
        have := h2 r (List.mem_cons_self ..)
        rw [List.pairwise_cons] at p2
        intro x hx
        rcases List.mem_cons.1 hx with e2 | e2
        · omega
        · have := p2.1 x e2; omega
    refine ⟨?_, fun x => ?_⟩
    · rw [List.pairwise_append, List.pairwise_cons]
      refine ⟨p1, ⟨hR, p2⟩, fun a ha b hb => ?_⟩
      rcases List.mem_cons.1 hb with e2 | e2
      · have := h1 a ha; omega
      · exact p3 a ha b e2
    · rw [List.mem_append, List.mem_cons]
      conv => rhs; rw [e, List.mem_append]
      constructor
      · rintro (a | a | a)
        · exact .inl (.inl a)
        · exact .inr a
        · exact .inl (.inr a)
      · rintro ((a | a) | a)
        · exact .inl a
        · exact .inr (.inr a)
        · exact .inr (.inl a)
theorem comp_props (d : Array Int) (hs : ∀ i j, i ≤ j → j < d.size → d[i]! ≤ d[j]!) : ∀ m, m ≤ d.size → (Lib.compactUpTo d m).Pairwise (fun x y => x < y) ∧ ∀ x, x ∈ Lib.compactUpTo d m ↔ ∃ i, i < m ∧ d[i]! = x
  | 0, _ => by simp [Lib.compactUpTo]
  | m + 1, hm => by
    obtain ⟨h1, h2⟩ := comp_props d hs m (by omega)
    rw [Lib.compactUpTo_succ]
    by_cases hk : Lib.keeps d m = true
    · rw [if_pos hk]
      have hlt : ∀ x ∈ Lib.compactUpTo d m, x < d[m]! := by
        intro x hx
        obtain ⟨i, hi, rfl⟩ := (h2 x).1 hx
        have ha := hs i (m - 1) (by omega) (by omega)
        have hb := hs (m - 1) m (by omega) (by omega)
        have hc : d[m]! ≠ d[m - 1]! := by
          unfold Lib.keeps at hk
          simp at hk
          omega
        omega
      refine ⟨?_, fun x => ?_⟩
      · rw [List.pairwise_append]
        refine ⟨h1, by simp, fun a ha b hb => ?_⟩
        rw [List.mem_singleton.1 hb]; exact hlt a ha
      · rw [List.mem_append, List.mem_singleton, h2]
        constructor
        · rintro (⟨i, hi, rfl⟩ | rfl)
          · exact ⟨i, by omega, rfl⟩
          · exact ⟨m, by omega, rfl⟩
        · rintro ⟨i, hi, rfl⟩
          by_cases e : i = m
          · subst e; exact .inr rfl
          · exact .inl ⟨i, by omega, rfl⟩
    · rw [if_neg hk, List.append_nil]
      have hc : 0 < m ∧ d[m]! = d[m - 1]! := by
        unfold Lib.keeps at hk
        simp at hk
        omega
      refine ⟨h1, fun x => ?_⟩
      rw [h2]
      constructor
      · rintro ⟨i, hi, rfl⟩; exact ⟨i, by omega, rfl⟩
      · rintro ⟨i, hi, rfl⟩
        by_cases e : i = m
        · subst e; exact ⟨i - 1, by omega, hc.2.symm⟩
        · exact ⟨i, by omega, rfl⟩
theorem setS_props (zs : List Int) : (setS zs).Pairwise (fun x y => x < y) ∧ ∀ x, x ∈ setS zs ↔ x ∈ zs := by
  have hp := List.mergeSort_perm zs (fun x y => decide (x ≤ y))
  have hso : (zs.mergeSort fun x y => decide (x ≤ y)).Pairwise (fun x y => decide (x ≤ y) = true) := by
    first
      | exact List.sorted_mergeSort (fun a b c h1 h2 => by simp at *; omega) (fun a b => by simp; omega) zs
      | exact List.pairwise_mergeSort (fun a b c h1 h2 => by simp at *; omega) (fun a b => by simp; omega) zs
  unfold setS Lib.compact
  generalize zs.mergeSort (fun x y => decide (x ≤ y)) = Z at *
  have hs : ∀ i j, i ≤ j → j < Z.toArray.size → Z.toArray[i]! ≤ Z.toArray[j]! := by
    intro i j hij hj
    have hj2 : j < Z.length := by simpa using hj
    have hi2 : i < Z.length := by omega
    by_cases e : i = j
    · subst e; exact Int.le_refl _
    · have := List.pairwise_iff_getElem.1 hso i j hi2 hj2 (by omega)
      simpa [hi2, hj2] using this
  have hc := comp_props Z.toArray hs Z.length (by simp)
  refine ⟨hc.1, fun x => ?_⟩
  rw [hc.2, ← hp.mem_iff, List.mem_iff_getElem]
  constructor
  · rintro ⟨i, hi, rfl⟩; exact ⟨i, hi, by simp [hi]⟩
  · rintro ⟨i, hi, rfl⟩; exact ⟨i, hi, by simp [hi]⟩
def insAll (zs : List Int) : List Int := zs.foldl insN []
theorem insAll_go : ∀ (zs acc : List Int), acc.Pairwise (fun x y => x < y) → (zs.foldl insN acc).Pairwise (fun x y => x < y) ∧ ∀ x, x ∈ zs.foldl insN acc ↔ x ∈ acc ∨ x ∈ zs
  | [], acc, h => ⟨h, by simp⟩
  | n :: zs, acc, h => by
    obtain ⟨h1, h2⟩ := insN_props h n
    obtain ⟨h3, h4⟩ := insAll_go zs (insN acc n) h1
    refine ⟨h3, fun x => ?_⟩
    rw [List.foldl_cons, h4, h2, List.mem_cons, or_assoc]
theorem set_ins (zs : List Int) : insAll zs = setS zs := by
  obtain ⟨h1, h2⟩ := insAll_go zs [] List.Pairwise.nil
  obtain ⟨h3, h4⟩ := setS_props zs
  exact sorted_ext h1 h3 fun x => by rw [show insAll zs = zs.foldl insN [] from rfl, h2, h4]; simp
theorem insAll_snoc (zs : List Int) (n : Int) : insAll (zs ++ [n]) = insN (insAll zs) n := by unfold insAll; rw [List.foldl_append]; rfl
theorem insN_len (D : List Int) (n : Int) : (insN D n).length ≤ D.length + 1 := by
  unfold insN
  split
  · omega
  · rw [List.length_append, List.length_cons, List.length_take, List.length_drop]; omega
theorem insAll_len : ∀ (zs acc : List Int), (zs.foldl insN acc).length ≤ acc.length + zs.length
  | [], acc => by simp
  | n :: zs, acc => by
    have h1 := insAll_len zs (insN acc n)
    have h2 := insN_len acc n
    rw [List.foldl_cons, List.length_cons]; omega
end Go.Proofs.Ytgckkocndhfbnaa
