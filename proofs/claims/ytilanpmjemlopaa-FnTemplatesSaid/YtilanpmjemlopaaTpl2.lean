/- Plain: what the program's search and the reference's say of a text's cuts; the parts of a text without sections. -/
import Derived.Test.YtilanpmjemlopaaTpl1
import Derived.Test.YtilanpmjemlopaaVal4
import Derived.Lib.SplitLaws
import Derived.Lib.IndexBytes
namespace Go.Proofs.Ytilanpmjemlopaa
open Go.RowKit
set_option linter.unusedVariables false
theorem cutP_parts {p : UInt8 → Bool} : ∀ {l : List UInt8} {a r : List UInt8} {b : UInt8}, cutP p l = some (a, b, r) → l = a ++ b :: r ∧ p b = true ∧ ∀ x ∈ a, p x = false
  | [], a, r, b, h => by cases h
  | x :: t, a, r, b, h => by
    rw [cutP] at h
    by_cases hx : p x = true
    · rw [if_pos hx] at h
      injection h with h; injection h with h1 h2; injection h2 with h2 h3
      subst h1; subst h2; subst h3
      exact ⟨rfl, hx, by simp⟩
    · rw [if_neg hx] at h
      cases hc : cutP p t with
      | none => rw [hc] at h; cases h
      | some y =>
        obtain ⟨a2, b2, r2⟩ := y
        rw [hc] at h
        injection h with h; injection h with h1 h2; injection h2 with h2 h3
        subst h1; subst h2; subst h3
        obtain ⟨e1, e2, e3⟩ := cutP_parts hc
        refine ⟨by rw [e1]; rfl, e2, fun z hz => ?_⟩
        rcases List.mem_cons.1 hz with h4 | h4
        · rw [h4]; simpa using hx
        · exact e3 z h4
theorem cutP_miss {p : UInt8 → Bool} : ∀ {l : List UInt8}, cutP p l = none → ∀ b ∈ l, p b = false
  | [], _ => by simp
  | x :: t, h => by
    rw [cutP] at h
    by_cases hx : p x = true
    · rw [if_pos hx] at h; cases h
    · rw [if_neg hx] at h
      have ht : cutP p t = none := by
        cases hc : cutP p t with
        | none => rfl
        | some y => rw [hc] at h; cases h
      intro b hb
      rcases List.mem_cons.1 hb with h4 | h4
      · rw [h4]; simpa using hx
      · exact cutP_miss ht b h4
theorem cutP_congr {p q : UInt8 → Bool} : ∀ {l : List UInt8}, (∀ b ∈ l, p b = q b) → cutP p l = cutP q l
  | [], _ => rfl
  | x :: t, h => by
    rw [cutP, cutP, h x (by simp), cutP_congr (fun b hb => h b (by simp [hb]))]
theorem idx_hit (c : UInt8) (r : List UInt8) : ∀ a : List UInt8, (∀ x ∈ a, isC c x = false) → Lib.indexByte (a ++ c :: r) c = (a.length : Int)
  | [], _ => by simp [Lib.indexByte]
  | x :: a, h => by
    have hx := h x (by simp)
    have ih := idx_hit c r a (fun y hy => h y (by simp [hy]))
    unfold isC at hx
    rw [List.cons_append, Lib.indexByte, if_neg (by rw [hx]; simp), ih, if_neg (by simp <;> omega)]
    simp
theorem idx_none (c : UInt8) : ∀ l : List UInt8, (∀ x ∈ l, isC c x = false) → Lib.indexByte l c = -1
  | [], _ => rfl
  | x :: l, h => by
    have hx := h x (by simp)
    have ih := idx_none c l (fun y hy => h y (by simp [hy]))
    unfold isC at hx
    rw [Lib.indexByte, if_neg (by rw [hx]; simp), ih]; rfl
theorem cut_rel (l : List UInt8) (c : UInt8) : Lib.cut l [c] = match cutP (isC c) l with
    | none => (l, [], false)
    | some x => (x.1, x.2.2, true) := by
  unfold Lib.cut
  rw [Lib.index_one]
  cases h : cutP (isC c) l with
  | none =>
    rw [idx_none c l (cutP_miss h)]
    rfl
  | some y =>
    obtain ⟨a, b, r⟩ := y
    obtain ⟨e1, e2, e3⟩ := cutP_parts h
    have hb : b = c := by unfold isC at e2; simpa using e2
    subst hb
    subst e1
    rw [idx_hit b r a e3, if_pos (by omega)]
    simp
theorem any_rel : ∀ l : List UInt8, Lib.indexAny l spec5 = match cutP specC l with
    | none => -1
    | some x => (x.1.length : Int)
  | [] => rfl
  | b :: l => by
    have ih := any_rel l
    rw [Lib.indexAny, spec_in]
    cases hb : specC b with
    | true =>
      rw [if_pos rfl]
      have hc1 : cutP specC (b :: l) = some ([], b, l) := by rw [cutP, if_pos hb]
      rw [hc1]; rfl
    | false =>
      rw [if_neg (by simp)]
      have hc1 : cutP specC (b :: l) = (cutP specC l).map (fun x => (b :: x.1, x.2.1, x.2.2)) := by rw [cutP, if_neg (by rw [hb]; simp)]
      rw [hc1]
      cases hc : cutP specC l with
      | none =>
        rw [hc] at ih
        simp only [] at ih
        rw [ih]; rfl
      | some y =>
        rw [hc] at ih
        simp only [] at ih
        rw [ih]
        show (if ((y.1.length : Int) == -1) = true then (-1 : Int) else (y.1.length : Int) + 1) = ((b :: y.1).length : Int)
        rw [if_neg (by simp <;> omega)]
        simp
/-- A part of a text without sections: a text, or a place with a name. -/
structure PlD where
  text : ByteArray
  name : ByteArray
instance : Inhabited PlD := ⟨⟨ByteArray.empty, ByteArray.empty⟩⟩
/-- The parts of a text without sections ('f': at least its length and one more). -/
def rpl : Nat → List UInt8 → Option (List PlD)
  | 0, _ => none
  | f + 1, s => if s = [] then some [] else match cutP specC s with
    | none => some [⟨mkB s, ⟨#[]⟩⟩]
    | some x => if x.2.1 = 123 then (match cutP (isC 125) x.2.2 with
        | none => none
        | some y => if isWordB (mkB y.1) = true then (rpl f y.2.2).map ([⟨mkB x.1, ⟨#[]⟩⟩, ⟨⟨#[]⟩, mkB y.1⟩] ++ ·) else none) else none
theorem cutP_len {p : UInt8 → Bool} {l a r : List UInt8} {b : UInt8} (h : cutP p l = some (a, b, r)) : l.length = a.length + 1 + r.length := by
  rw [(cutP_parts h).1]; simp; omega
/-- More fuel changes nothing. -/
theorem rpl_more : ∀ (f g : Nat) (s : List UInt8), s.length < f → s.length < g → rpl f s = rpl g s
  | 0, _, s, h, _ => by omega
  | _, 0, s, _, h => by omega
  | f + 1, g + 1, s, h1, h2 => by
    unfold rpl
    by_cases hs : s = []
    · rw [if_pos hs, if_pos hs]
    · rw [if_neg hs, if_neg hs]
      cases hc : cutP specC s with
      | none => rfl
      | some x =>
        obtain ⟨a, b, r⟩ := x
        have hl := cutP_len hc
        simp only []
        by_cases hb : b = 123
        · rw [if_pos hb, if_pos hb]
          cases hd : cutP (isC 125) r with
          | none => rfl
          | some y =>
            obtain ⟨n, b2, r2⟩ := y
            have hl2 := cutP_len hd
            simp only []
            rw [rpl_more f g r2 (by omega) (by omega)]
        · rw [if_neg hb, if_neg hb]
end Go.Proofs.Ytilanpmjemlopaa
