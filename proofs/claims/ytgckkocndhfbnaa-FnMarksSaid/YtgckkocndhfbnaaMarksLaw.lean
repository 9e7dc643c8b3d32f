/- Plain law: joined marks hide the same bytes; marked words are marks. -/
import Derived.Test.YtgckkocndhfbnaaMarkJ
import Derived.Test.YtgckkocndhfbnaaMarkQ
import Derived.Test.YtgckkocndhfbnaaMarkWord1
namespace Go.Proofs.Ytgckkocndhfbnaa
open Go.RowKit
set_option linter.unusedVariables false
def endC (e : Int) : List MarkD → Int
  | [] => e
  | m :: L => endC m.to L
def okC (n : Int) : Int → List MarkD → Prop
  | _, [] => True
  | e, m :: L => markOk n e m = true ∧ okC n m.to L
def secC (lv : Int) : List MarkD → Int
  | [] => 0
  | m :: L => (if lv < m.level then m.to - m.from_ else 0) + secC lv L
theorem endC_app (R : List MarkD) : ∀ (T : List MarkD) (e : Int), endC e (T ++ R) = endC (endC e T) R
  | [], e => rfl
  | m :: T, e => endC_app R T m.to
theorem okC_app {n : Int} (R : List MarkD) : ∀ (T : List MarkD) (e : Int), okC n e (T ++ R) ↔ okC n e T ∧ okC n (endC e T) R
  | [], e => by simp [okC, endC]
  | m :: T, e => by
    show (markOk n e m = true ∧ okC n m.to (T ++ R)) ↔ (markOk n e m = true ∧ okC n m.to T) ∧ okC n (endC m.to T) R
    rw [okC_app R T m.to, and_assoc]
theorem secC_app (lv : Int) (R : List MarkD) : ∀ T : List MarkD, secC lv (T ++ R) = secC lv T + secC lv R
  | [] => by simp [secC]
  | m :: T => by
    show (if lv < m.level then m.to - m.from_ else 0) + secC lv (T ++ R) = (if lv < m.level then m.to - m.from_ else 0) + secC lv T + secC lv R
    rw [secC_app lv R T]; omega
theorem okC_drop {n : Int} {L : List MarkD} : ∀ (d j : Nat), j + d = L.length → (okC n (endAt L j) (L.drop j) ↔ ∀ i, j ≤ i → i < L.length → markAt n L i = true)
  | 0, j, h => by
    rw [List.drop_of_length_le (by omega)]
    exact ⟨fun _ i h1 h2 => by omega, fun _ => trivial⟩
  | d + 1, j, h => by
    have hj : j < L.length := by omega
    have ih := okC_drop (n := n) (L := L) d (j + 1) (by omega)
    rw [List.drop_eq_getElem_cons hj]
    show (markOk n (endAt L j) L[j] = true ∧ okC n L[j].to (L.drop (j + 1))) ↔ _
    rw [← endAt_succ hj, ih, ← markAt_eq hj]
    constructor
    · rintro ⟨h1, h2⟩ i hi hil
      by_cases e : i = j
      · subst e; exact h1
      · exact h2 i (by omega) hil
    · intro hh
      exact ⟨hh j (Nat.le_refl _) hj, fun i hi hil => hh i (by omega) hil⟩
theorem okC_iff {n : Int} {L : List MarkD} : marksOkB n L = true ↔ okC n 0 L ∧ L.length ≤ 12 := by
  have h := okC_drop (n := n) (L := L) L.length 0 (by omega)
  rw [List.drop_zero, show endAt L 0 = 0 from rfl] at h
  rw [h]
  constructor
  · intro hh
    have := marks_parts hh
    exact ⟨fun i _ hi => this.2 i hi, this.1⟩
  · rintro ⟨h1, h2⟩
    rw [marks_all (fun j hj => h1 j (Nat.zero_le _) hj)]; exact decide_eq_true h2
theorem secAt_take {L : List MarkD} {lv : Int} : ∀ k, k ≤ L.length → secAt L lv k = secC lv (L.take k)
  | 0, _ => by simp [secAt, secC]
  | k + 1, hk => by
    rw [secAt_succ (by omega), List.take_succ_eq_append_getElem (by omega), secC_app, secAt_take k (by omega)]
    show _ = secC lv (L.take k) + ((if lv < L[k].level then L[k].to - L[k].from_ else 0) + 0)
    split <;> omega
theorem secAt_all (L : List MarkD) (lv : Int) : secAt L lv L.length = secC lv L := by rw [secAt_take _ (Nat.le_refl _), List.take_of_length_le (Nat.le_refl _)]
theorem join_step {n e : Int} {o : List MarkD} {x : MarkD} (h : okC n e (o ++ [x])) : okC n e (joinStep o x) ∧ endC e (joinStep o x) = x.to ∧ ∀ lv, secC lv (joinStep o x) = secC lv (o ++ [x]) := by
  unfold joinStep
  split
  · rename_i hc
    obtain ⟨h0, h1, h2⟩ := hc
    have hs := snoc_ofG (L := o) h0
    generalize hy : o.getD (o.length - 1) default = y at *
    generalize o.take (o.length - 1) = T at *
    rw [hs, okC_app, okC_app, endC_app] at h
    obtain ⟨⟨p1, p2⟩, p3⟩ := h
    have q2 := markOk_iff.1 p2.1
    have q3 := markOk_iff.1 p3.1
    refine ⟨?_, ?_, fun lv => ?_⟩
    · rw [okC_app]
      refine ⟨p1, markOk_iff.2 ?_, trivial⟩
      simp only [endC] at q3
      show endC e T ≤ y.from_ ∧ y.from_ < x.to ∧ x.to ≤ n ∧ (1 ≤ y.level ∧ y.level ≤ 9)
      omega
    · rw [endC_app]; rfl
    · rw [secC_app, hs, secC_app, secC_app]
      simp only [secC]
      rw [h2]
      split <;> omega
  · refine ⟨h, by rw [endC_app]; rfl, fun lv => rfl⟩
theorem join_all {n : Int} {L : List MarkD} (h : okC n 0 L) : ∀ k, k ≤ L.length → okC n 0 (joinAt L k) ∧ endC 0 (joinAt L k) = endC 0 (L.take k) ∧ ∀ lv, secC lv (joinAt L k) = secC lv (L.take k)
  | 0, _ => by simp [joinAt, okC, endC]
  | k + 1, hk => by
    obtain ⟨h1, h2, h3⟩ := join_all h k (by omega)
    rw [joinAt_succ (by omega), List.take_succ_eq_append_getElem (by omega)]
    have hx : okC n 0 (joinAt L k ++ [L[k]]) := by
      rw [okC_app, h2]
      refine ⟨h1, ?_⟩
      have e : L = L.take k ++ (L[k] :: L.drop (k + 1)) := by rw [List.getElem_cons_drop, List.take_append_drop]
      rw [e, okC_app] at h
      exact ⟨h.2.1, trivial⟩
    obtain ⟨q1, q2, q3⟩ := join_step hx
    refine ⟨q1, by rw [q2, endC_app]; rfl, fun lv => by rw [q3, secC_app, secC_app, h3]⟩
theorem law_join {s : ByteArray} {L : List MarkD} (h : (joinR s L).2 = 0) {k : Int} (hk : 0 ≤ k ∧ k ≤ 9) : ∃ n, cntR s L k = (n, 0) ∧ cntR s (joinR s L).1 k = (n, 0) := by
  unfold joinR at h ⊢
  split at h <;> rename_i h1
  · rw [if_pos h1]
    obtain ⟨ht, hm⟩ := codeK_0 h1
    obtain ⟨hc, h12⟩ := okC_iff.1 hm
    obtain ⟨j1, j2, j3⟩ := join_all hc L.length (Nat.le_refl _)
    rw [List.take_of_length_le (Nat.le_refl _)] at j3
    have hin : inB k 0 9 = true := inB_true hk.1 hk.2
    have hj : marksOkB s.size (joinAt L L.length) = true := okC_iff.2 ⟨j1, by have := joinAt_len L L.length; omega⟩
    have c1 : codeL s L k = 0 := by rw [codeL_in hin]; exact h1
    have c2 : codeL s (joinAt L L.length) k = 0 := by rw [codeL_in hin, codeK, ht, hj]; rfl
    refine ⟨secAt L k L.length, cntR_ok c1, ?_⟩
    show cntR s (joinAt L L.length) k = _
    rw [cntR_ok c2, secAt_all, secAt_all, j3]
  · exact absurd h h1
theorem endC_le {T : List MarkD} {a : Int} : ∀ {e : Int}, e ≤ a → (∀ x ∈ T, x.to ≤ a) → endC e T ≤ a := by
  induction T with
  | nil => intro e he _; exact he
  | cons m T ih =>
    intro e he h
    exact ih (h m (List.mem_cons_self ..)) (fun x hx => h x (List.mem_cons_of_mem _ hx))
theorem okC_mono {n : Int} {R : List MarkD} {e e' : Int} (h : okC n e R) (hh : ∀ x ∈ R, e' ≤ x.from_) : okC n e' R := by
  cases R with
  | nil => trivial
  | cons r R =>
    have := markOk_iff.1 h.1
    exact ⟨markOk_iff.2 ⟨hh r (List.mem_cons_self ..), this.2⟩, h.2⟩
theorem okC_mem {n : Int} : ∀ {R : List MarkD} {e : Int}, okC n e R → ∀ x ∈ R, e ≤ x.from_ ∧ x.from_ < x.to
  | [], _, _, x, hx => by simp at hx
  | r :: R, e, h, x, hx => by
    have h1 := markOk_iff.1 h.1
    rcases List.mem_cons.1 hx with h2 | h2
    · subst h2; omega
    · have := okC_mem h.2 x h2; omega
theorem split_at (m : MarkD) : ∀ {D : List MarkD}, ∃ T R, D = T ++ R ∧ T.length = idxBy (befI m) D ∧ (∀ x ∈ T, x.from_ < m.from_) ∧ (∀ r R', R = r :: R' → m.from_ ≤ r.from_)
  | [] => ⟨[], [], rfl, rfl, by simp, by simp⟩
  | a :: D => by
    by_cases ha : a.from_ < m.from_
    · obtain ⟨T, R, e, hl, h1, h2⟩ := split_at m (D := D)
      refine ⟨a :: T, R, by rw [e]; rfl, ?_, ?_, h2⟩
      · unfold idxBy at hl ⊢
        rw [List.takeWhile_cons, show befI m a = true from decide_eq_true ha]
        simp [hl]
      · intro x hx
        rcases List.mem_cons.1 hx with e2 | e2
        · subst e2; exact ha
        · exact h1 x e2
    · refine ⟨[], a :: D, rfl, ?_, by simp, fun r R' h => ?_⟩
      · unfold idxBy
        rw [List.takeWhile_cons, show befI m a = false from decide_eq_false ha]; rfl
      · injection h with h _; subst h; omega
theorem ins_ok {n : Int} {D : List MarkD} {m : MarkD} (h : okC n 0 D) (h0 : 0 ≤ m.from_) (hft : m.from_ < m.to) (hn : m.to ≤ n) (hlv : 1 ≤ m.level ∧ m.level ≤ 9) (hd : ∀ x ∈ D, x.to ≤ m.from_ ∨ m.to ≤ x.from_) : okC n 0 (insI D m) := by
  obtain ⟨T, R, e, hl, h1, h2⟩ := split_at m (D := D)
  have hi : insI D m = T ++ (m :: R) := by
    unfold insI insAt
    rw [← hl]
    conv => lhs; rw [e]
    simp
  rw [e, okC_app] at h
  have hT : ∀ x ∈ T, x.to ≤ m.from_ := fun x hx => by
    have a1 := h1 x hx
    rcases hd x (by rw [e]; exact List.mem_append.2 (.inl hx)) with h3 | h3
    · exact h3
    · omega
  have hR : ∀ x ∈ R, m.to ≤ x.from_ := by
    cases R with
    | nil => intro x hx; simp at hx
    | cons r R =>
      have a1 := h2 r R rfl
      have a2 := (markOk_iff.1 h.2.1).2.1
      have a3 : m.to ≤ r.from_ := by
        rcases hd r (by rw [e]; exact List.mem_append.2 (.inr (List.mem_cons_self ..))) with h3 | h3
        · omega
        · exact h3
      intro x hx
      rcases List.mem_cons.1 hx with e2 | e2
      · subst e2; exact a3
      · have := okC_mem h.2.2 x e2; omega
  rw [hi, okC_app]
  exact ⟨h.1, markOk_iff.2 ⟨endC_le h0 hT, hft, hn, hlv⟩, okC_mono h.2 hR⟩
theorem mw_ok {s t : ByteArray} {L : List MarkD} {lv : Int} (hlv : 1 ≤ lv ∧ lv ≤ 9) (ht : 1 ≤ t.size) : ∀ (f a : Nat) (D : List MarkD), okC s.size 0 D → (∀ x ∈ D, x ∈ L ∨ x.to ≤ (a : Int)) → okC s.size 0 (mwGo insI s t L lv f a D) ∧ D.length ≤ (mwGo insI s t L lv f a D).length
  | 0, _, D, h, _ => ⟨h, Nat.le_refl _⟩
  | f + 1, a, D, h, hD => by
    by_cases h1 : a + t.size ≤ s.size
    · cases hq : eqAt s t a (a + t.size)
      · rw [mw_miss rfl h1 hq]
        exact mw_ok hlv ht f (a + 1) D h fun x hx => by rcases hD x hx with h | h; exact .inl h; exact .inr (by omega)
      · cases hh : hitB (a : Int) ((a + t.size : Nat) : Int) L
        · rw [mw_ins rfl h1 hq hh]
          have hins := ins_ok (m := ⟨(a : Int), ((a + t.size : Nat) : Int), lv⟩) h (by show (0 : Int) ≤ (a : Int); omega) (by show (a : Int) < ((a + t.size : Nat) : Int); omega) (by show ((a + t.size : Nat) : Int) ≤ (s.size : Int); omega) hlv (fun x hx => by
            show x.to ≤ (a : Int) ∨ ((a + t.size : Nat) : Int) ≤ x.from_
            rcases hD x hx with h3 | h3
            · unfold hitB at hh
              rw [List.any_eq_false] at hh
              have h4 := hh x h3
              unfold hit1 at h4
              rw [Bool.and_eq_true, decide_eq_true_eq, decide_eq_true_eq] at h4
              omega
            · exact .inl h3)
          obtain ⟨q1, q2⟩ := mw_ok hlv ht f (a + t.size) (insI D ⟨(a : Int), ((a + t.size : Nat) : Int), lv⟩) hins (fun x hx => by
            rcases mem_ins hx with h3 | h3
            · rcases hD x h3 with h | h
              · exact .inl h
              · exact .inr (by omega)
            · right; rw [h3]; exact Int.le_refl _)
          rw [insI_len] at q2
          exact ⟨q1, by omega⟩
        · rw [mw_hit rfl h1 hq hh]
          exact mw_ok hlv ht f _ D h fun x hx => by rcases hD x hx with h | h; exact .inl h; exact .inr (by omega)
    · rw [mw_end (by omega)]; exact ⟨h, Nat.le_refl _⟩
theorem law_word {s : ByteArray} {L : List MarkD} {t : ByteArray} {lv : Int} (h : (mwR s L t lv).2 = 0) : (isTextB s && marksOkB s.size (mwR s L t lv).1) = true ∧ L.length ≤ (mwR s L t lv).1.length := by
  unfold mwR at h ⊢
  split at h <;> rename_i h1
  · rw [if_pos h1]
    split at h <;> rename_i h2
    · rw [if_pos h2]
      obtain ⟨ht, hm⟩ := codeK_0 h1
      obtain ⟨hc, h12⟩ := okC_iff.1 hm
      rw [Bool.and_eq_true] at h2
      have hw := word_len h2.2
      obtain ⟨q1, q2⟩ := mw_ok (s := s) (t := t) (L := L) (inB_iff.1 h2.1) hw.1 (s.size + 1) 0 L hc (fun x hx => .inl hx)
      unfold mwFin at h ⊢
      split at h <;> rename_i h3
      · rw [if_pos h3, ht]
        exact ⟨by rw [Bool.true_and]; exact okC_iff.2 ⟨q1, h3⟩, q2⟩
      · simp at h
    · simp at h
  · exact absurd h h1
theorem law_add {s : ByteArray} {L : List MarkD} {m : MarkD} (h : (addR s L m).2 = 0) : (isTextB s && marksOkB s.size (addR s L m).1) = true ∧ (addR s L m).1.length = L.length + 1 := by
  unfold addR at h ⊢
  split at h <;> rename_i h1
  · rw [if_pos h1]
    split at h <;> rename_i h2
    · rw [if_pos h2]
      exact ⟨by rw [(codeK_0 h1).1, Bool.true_and]; exact h2, insI_len _ _⟩
    · simp at h
  · exact absurd h h1
end Go.Proofs.Ytgckkocndhfbnaa
