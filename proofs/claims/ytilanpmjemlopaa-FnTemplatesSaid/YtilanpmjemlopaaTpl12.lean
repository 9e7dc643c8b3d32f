/- Plain: texts in the order of their bytes; sorting and striking doubles gives what inserting one by one gives. -/
import Derived.Test.YtilanpmjemlopaaIns13
import Derived.Test.YtilanpmjemlopaaTpl2
import Derived.Lib.SlicesCompact
import Derived.Lib.RowBridge
namespace Go.Proofs.Ytilanpmjemlopaa
open Go.RowKit
set_option linter.unusedVariables false
def dl (x : ByteArray) : List UInt8 := x.data.toList
theorem dl_inj {x y : ByteArray} (h : dl x = dl y) : x = y := ba_ext h
theorem mkB_dl (x : ByteArray) : mkB (dl x) = x := ba_ext rfl
theorem dl_mkB (l : List UInt8) : dl (mkB l) = l := rfl
theorem bLt_dl (a b : ByteArray) : bLt a b ↔ dl a < dl b := by
  unfold bLt dl
  rw [Go.Proofs.bytesLess_eq, Go.ByteArray.toList_eq, Go.ByteArray.toList_eq, decide_eq_true_eq]
theorem dl_tri (a b : List UInt8) : a < b ∨ a = b ∨ b < a := by
  by_cases h : a < b
  · exact .inl h
  · by_cases h2 : b < a
    · exact .inr (.inr h2)
    · exact .inr (.inl (List.le_antisymm (List.not_lt.1 h2) (List.not_lt.1 h)))
theorem bLt_irr (a : ByteArray) : ¬ bLt a a := by rw [bLt_dl]; exact List.lt_irrefl _
theorem bLt_tr {a b c : ByteArray} (h : bLt a b) (k : bLt b c) : bLt a c := by rw [bLt_dl] at *; exact List.lt_trans h k
theorem bLt_tri (a b : ByteArray) : bLt a b ∨ a = b ∨ bLt b a := by
  rw [bLt_dl, bLt_dl]
  rcases dl_tri (dl a) (dl b) with h | h | h
  · exact .inl h
  · exact .inr (.inl (dl_inj h))
  · exact .inr (.inr h)
theorem sortedT_ext : ∀ {A B : List ByteArray}, A.Pairwise bLt → B.Pairwise bLt → (∀ x, x ∈ A ↔ x ∈ B) → A = B
  | [], [], _, _, _ => rfl
  | [], b :: B, _, _, h => absurd ((h b).2 (List.mem_cons_self ..)) (by simp)
  | a :: A, [], _, _, h => absurd ((h a).1 (List.mem_cons_self ..)) (by simp)
  | a :: A, b :: B, hA, hB, h => by
    rw [List.pairwise_cons] at hA hB
    have hab : a = b := by
      rcases List.mem_cons.1 ((h a).1 (List.mem_cons_self ..)) with e | e
      · exact e
      · rcases List.mem_cons.1 ((h b).2 (List.mem_cons_self ..)) with e2 | e2
        · exact e2.symm
        · exact absurd (bLt_tr (hB.1 a e) (hA.1 b e2)) (bLt_irr _)
    subst hab
    congr 1
    refine sortedT_ext hA.2 hB.2 fun x => ⟨fun hx => ?_, fun hx => ?_⟩
    · rcases List.mem_cons.1 ((h x).1 (List.mem_cons_of_mem _ hx)) with e | e
      · subst e; exact absurd (hA.1 _ hx) (bLt_irr _)
      · exact e
    · rcases List.mem_cons.1 ((h x).2 (List.mem_cons_of_mem _ hx)) with e | e
      · subst e; exact absurd (hB.1 _ hx) (bLt_irr _)
      · exact e
theorem insT_split (n : ByteArray) : ∀ D : List ByteArray, D.Pairwise bLt → ∃ T R, D = T ++ R ∧ T.length = atS D n ∧ (∀ x ∈ T, bLt x n) ∧ (∀ x ∈ R, ¬ bLt x n)
  | [], _ => ⟨[], [], rfl, rfl, by simp, by simp⟩
  | a :: D, h => by
    rw [List.pairwise_cons] at h
    by_cases ha : bLt a n
    · obtain ⟨T, R, e, hl, h1, h2⟩ := insT_split n D h.2
      refine ⟨a :: T, R, by rw [e]; rfl, ?_, ?_, h2⟩
      · unfold atS at hl ⊢
        rw [List.takeWhile_cons, decide_eq_true ha]
        simp [hl]
      · intro x hx
        rcases List.mem_cons.1 hx with e2 | e2
        · subst e2; exact ha
        · exact h1 x e2
    · refine ⟨[], a :: D, rfl, by simp [atS, ha], by simp, fun x hx => ?_⟩
      rcases List.mem_cons.1 hx with e2 | e2
      · subst e2; exact ha
      · exact fun hh => ha (bLt_tr (h.1 x e2) hh)
theorem insT_props {D : List ByteArray} (h : D.Pairwise bLt) (n : ByteArray) : (insS D n).Pairwise bLt ∧ ∀ x, x ∈ insS D n ↔ x ∈ D ∨ x = n := by
  obtain ⟨T, R, e, hl, h1, h2⟩ := insT_split n D h
  have hg : D[atS D n]? = R[0]? := by
    rw [← hl]
    conv => lhs; rw [e]
    rw [List.getElem?_append_right (Nat.le_refl _), Nat.sub_self]
  have ht : D.take (atS D n) = T := by rw [← hl]; conv => lhs; rw [e]
                                       simp
  have hd : D.drop (atS D n) = R := by rw [← hl]; conv => lhs; rw [e]
                                       simp
  have hp := h
  rw [e, List.pairwise_append] at hp
  obtain ⟨p1, p2, p3⟩ := hp
  unfold insS
  rw [hg, ht, hd]
  split
  · rename_i hh
    refine ⟨h, fun x => ⟨.inl, fun hx => ?_⟩⟩
    rcases hx with hx | hx
    · exact hx
    · subst hx
      rw [e]
      exact List.mem_append.2 (.inr (List.mem_of_getElem? hh))
  · rename_i hh
    have hR : ∀ x ∈ R, bLt n x := by
      cases R with
      | nil => intro x hx; simp at hx
      | cons r R =>
        have hr : r ≠ n := fun er => hh (by rw [er]; rfl)
        have hrn : bLt n r := by
          rcases bLt_tri r n with q | q | q
          · exact absurd q (h2 r (List.mem_cons_self ..))
          · exact absurd q hr
          · exact q
        rw [List.pairwise_cons] at p2
        intro x hx
        rcases List.mem_cons.1 hx with e2 | e2
        · subst e2; exact hrn
        · exact bLt_tr hrn (p2.1 x e2)
    refine ⟨?_, fun x => ?_⟩
    · rw [List.pairwise_append, List.pairwise_cons]
      refine ⟨p1, ⟨hR, p2⟩, fun a ha b hb => ?_⟩
      rcases List.mem_cons.1 hb with e2 | e2
      · subst e2; exact h1 a ha
      · exact p3 a ha b e2
    · rw [List.mem_append, List.mem_cons]
      conv => rhs; rw [e, List.mem_append]
      constructor
      · rintro (a | a | a)
        · exact .inl (.inl a)
        · exact .inr a
        · exact .inl (.inr a)
      · rintro ((a | a) | a)
        · exact .inl a
        · exact .inr (.inr a)
        · exact .inr (.inl a)
theorem compT_props (d : Array (List UInt8)) (hs : ∀ i j, i ≤ j → j < d.size → d[i]! ≤ d[j]!) : ∀ m, m ≤ d.size → (Lib.compactUpTo d m).Pairwise (fun x y => x < y) ∧ ∀ x, x ∈ Lib.compactUpTo d m ↔ ∃ i, i < m ∧ d[i]! = x
  | 0, _ => by simp [Lib.compactUpTo]
  | m + 1, hm => by
    obtain ⟨h1, h2⟩ := compT_props d hs m (by omega)
    rw [Lib.compactUpTo_succ]
    by_cases hk : Lib.keeps d m = true
    · rw [if_pos hk]
      have hlt : ∀ x ∈ Lib.compactUpTo d m, x < d[m]! := by
        intro x hx
        obtain ⟨i, hi, rfl⟩ := (h2 x).1 hx
        have ha := hs i (m - 1) (by omega) (by omega)
        have hb := hs (m - 1) m (by omega) (by omega)
        have hc : d[m]! ≠ d[m - 1]! := by
          unfold Lib.keeps at hk
          simp at hk
          rcases hk with hk | hk
          · omega
          · exact hk
        have hd : d[m - 1]! < d[m]! := by
          rcases dl_tri d[m - 1]! d[m]! with q | q | q
          · exact q
          · exact absurd q.symm hc
          · exact absurd q (List.not_lt.2 hb)
        rcases dl_tri d[i]! d[m - 1]! with q | q | q
        · exact List.lt_trans q hd
        · rw [q]; exact hd
        · exact absurd q (List.not_lt.2 ha)
      refine ⟨?_, fun x => ?_⟩
      · rw [List.pairwise_append]
        refine ⟨h1, by simp, fun a ha b hb => ?_⟩
        rw [List.mem_singleton.1 hb]; exact hlt a ha
      · rw [List.mem_append, List.mem_singleton, h2]
        constructor
        · rintro (⟨i, hi, rfl⟩ | rfl)
          · exact ⟨i, by omega, rfl⟩
          · exact ⟨m, by omega, rfl⟩
        · rintro ⟨i, hi, rfl⟩
          by_cases e : i = m
          · subst e; exact .inr rfl
          · exact .inl ⟨i, by omega, rfl⟩
    · rw [if_neg hk, List.append_nil]
      have hc : 0 < m ∧ d[m]! = d[m - 1]! := by
        unfold Lib.keeps at hk
        simp at hk
        exact ⟨by omega, hk.2⟩
      refine ⟨h1, fun x => ?_⟩
      rw [h2]
      constructor
      · rintro ⟨i, hi, rfl⟩; exact ⟨i, by omega, rfl⟩
      · rintro ⟨i, hi, rfl⟩
        by_cases e : i = m
        · subst e; exact ⟨i - 1, by omega, hc.2.symm⟩
        · exact ⟨i, by omega, rfl⟩
/-- What sorting and striking doubles makes of names. -/
def setZ (L : List ByteArray) : List (List UInt8) := (L.map dl).mergeSort fun x y => decide (x ≤ y)
def setT (L : List ByteArray) : List ByteArray := (Lib.compact (setZ L)).map mkB
theorem setZ_props (zs : List (List UInt8)) : (Lib.compact (zs.mergeSort fun x y => decide (x ≤ y))).Pairwise (fun x y => x < y) ∧ ∀ x, x ∈ Lib.compact (zs.mergeSort fun x y => decide (x ≤ y)) ↔ x ∈ zs := by
  have hp := List.mergeSort_perm zs (fun x y => decide (x ≤ y))
  have hso : (zs.mergeSort fun x y => decide (x ≤ y)).Pairwise (fun x y => decide (x ≤ y) = true) := by
    exact List.pairwise_mergeSort (fun a b c h1 h2 => by rw [decide_eq_true_eq] at *; exact List.le_trans h1 h2) (fun a b => by rw [Bool.or_eq_true, decide_eq_true_eq, decide_eq_true_eq]; exact List.le_total a b) zs
  unfold Lib.compact
  generalize zs.mergeSort (fun x y => decide (x ≤ y)) = Z at *
  have hs : ∀ i j, i ≤ j → j < Z.toArray.size → Z.toArray[i]! ≤ Z.toArray[j]! := by
    intro i j hij hj
    have hj2 : j < Z.length := by simpa using hj
    have hi2 : i < Z.length := by omega
    by_cases e : i = j
    · subst e; exact List.le_refl _
    · have := List.pairwise_iff_getElem.1 hso i j hi2 hj2 (by omega)
      simpa [hi2, hj2] using this
  have hc := compT_props Z.toArray hs Z.length (by simp)
  refine ⟨hc.1, fun x => ?_⟩
  rw [hc.2, ← hp.mem_iff, List.mem_iff_getElem]
  constructor
  · rintro ⟨i, hi, rfl⟩; exact ⟨i, hi, by simp [hi]⟩
  · rintro ⟨i, hi, rfl⟩; exact ⟨i, hi, by simp [hi]⟩
theorem setT_props (L : List ByteArray) : (setT L).Pairwise bLt ∧ ∀ x, x ∈ setT L ↔ x ∈ L := by
  obtain ⟨h1, h2⟩ := setZ_props (L.map dl)
  refine ⟨?_, fun x => ?_⟩
  · unfold setT setZ
    rw [List.pairwise_map]
    exact h1.imp (fun {a b} h => (bLt_dl _ _).2 h)
  · unfold setT setZ
    rw [List.mem_map]
    constructor
    · rintro ⟨y, hy, rfl⟩
      obtain ⟨z, hz, rfl⟩ := List.mem_map.1 ((h2 y).1 hy)
      rw [mkB_dl]; exact hz
    · intro hx
      exact ⟨dl x, (h2 _).2 (List.mem_map.2 ⟨x, hx, rfl⟩), mkB_dl x⟩
theorem setT_eq {A B : List ByteArray} (h : ∀ x, x ∈ A ↔ x ∈ B) : setT A = setT B :=
  sortedT_ext (setT_props A).1 (setT_props B).1 fun x => by rw [(setT_props A).2, (setT_props B).2, h]
theorem setT_nil : setT [] = [] := by
  have h := (setT_props []).2
  cases hs : setT [] with
  | nil => rfl
  | cons a L => rw [hs] at h; exact absurd ((h a).1 (List.mem_cons_self ..)) (by simp)
/-- Inserting one into what has been sorted. -/
theorem insS_setT (L : List ByteArray) (n : ByteArray) : insS (setT L) n = setT (L ++ [n]) := by
  obtain ⟨h1, h2⟩ := setT_props L
  obtain ⟨h3, h4⟩ := insT_props h1 n
  exact sortedT_ext h3 (setT_props _).1 fun x => by rw [h4, h2, (setT_props _).2]; simp
theorem setT_len (L : List ByteArray) : (setT L).length ≤ L.length := by
  unfold setT setZ
  rw [List.length_map]
  refine Nat.le_trans (Lib.compact_length_le _) ?_
  rw [List.length_mergeSort, List.length_map]; exact Nat.le_refl _
end Go.Proofs.Ytilanpmjemlopaa
