/- Plain: the parts of a template; what is read from them. -/
import Derived.Test.YtilanpmjemlopaaTpl3
namespace Go.Proofs.Ytilanpmjemlopaa
open Go.RowKit
set_option linter.unusedVariables false
/-- 'rpl' with the special bytes as a parameter. -/
def rplQ (q : UInt8 → Bool) : Nat → List UInt8 → Option (List PlD)
  | 0, _ => none
  | f + 1, s => if s = [] then some [] else match cutP q s with
    | none => some [⟨mkB s, ⟨#[]⟩⟩]
    | some x => if x.2.1 = 123 then (match cutP (isC 125) x.2.2 with
        | none => none
        | some y => if isWordB (mkB y.1) = true then (rplQ q f y.2.2).map ([⟨mkB x.1, ⟨#[]⟩⟩, ⟨⟨#[]⟩, mkB y.1⟩] ++ ·) else none) else none
theorem rplQ_spec : ∀ (f : Nat) (s : List UInt8), rplQ specC f s = rpl f s
  | 0, _ => rfl
  | f + 1, s => by
    unfold rplQ rpl
    by_cases hs : s = []
    · rw [if_pos hs, if_pos hs]
    · rw [if_neg hs, if_neg hs]
      cases cutP specC s with
      | none => rfl
      | some x =>
        simp only []
        by_cases hb : x.2.1 = 123
        · rw [if_pos hb, if_pos hb]
          cases cutP (isC 125) x.2.2 with
          | none => rfl
          | some y => simp only []; rw [rplQ_spec f]
        · rw [if_neg hb, if_neg hb]
theorem rplQ_more (q : UInt8 → Bool) : ∀ (f g : Nat) (s : List UInt8), s.length < f → s.length < g → rplQ q f s = rplQ q g s
  | 0, _, s, h, _ => by omega
  | _, 0, s, _, h => by omega
  | f + 1, g + 1, s, h1, h2 => by
    unfold rplQ
    by_cases hs : s = []
    · rw [if_pos hs, if_pos hs]
    · rw [if_neg hs, if_neg hs]
      cases hc : cutP q s with
      | none => rfl
      | some x =>
        obtain ⟨a, b, r⟩ := x
        have hl := cutP_len hc
        simp only []
        by_cases hb : b = 123
        · rw [if_pos hb, if_pos hb]
          cases hd : cutP (isC 125) r with
          | none => rfl
          | some y =>
            obtain ⟨n, b2, r2⟩ := y
            have hl2 := cutP_len hd
            simp only []
            rw [rplQ_more q f g r2 (by omega) (by omega)]
        · rw [if_neg hb, if_neg hb]
theorem cut_sub1 {p : UInt8 → Bool} {l a r : List UInt8} {b : UInt8} (h : cutP p l = some (a, b, r)) : ∀ x ∈ a, x ∈ l := fun x hx => by rw [(cutP_parts h).1]; simp [hx]
theorem cut_sub2 {p : UInt8 → Bool} {l a r : List UInt8} {b : UInt8} (h : cutP p l = some (a, b, r)) : ∀ x ∈ r, x ∈ l := fun x hx => by rw [(cutP_parts h).1]; simp [hx]
theorem rplQ_congr {p q : UInt8 → Bool} : ∀ (f : Nat) (s : List UInt8), (∀ b ∈ s, p b = q b) → rplQ p f s = rplQ q f s
  | 0, _, _ => rfl
  | f + 1, s, h => by
    unfold rplQ
    rw [cutP_congr h]
    by_cases hs : s = []
    · rw [if_pos hs, if_pos hs]
    · rw [if_neg hs, if_neg hs]
      cases hc : cutP q s with
      | none => rfl
      | some x =>
        obtain ⟨a, b, r⟩ := x
        simp only []
        by_cases hb : b = 123
        · rw [if_pos hb, if_pos hb]
          cases hd : cutP (isC 125) r with
          | none => rfl
          | some y =>
            obtain ⟨n, b2, r2⟩ := y
            simp only []
            rw [rplQ_congr f r2 (fun b hb => h b (cut_sub2 hc b (cut_sub2 hd b hb)))]
        · rw [if_neg hb, if_neg hb]
def rpQ (q : UInt8 → Bool) (s : List UInt8) : Option (List PlD) := rplQ q (s.length + 1) s
theorem rpQ_rplS (s : ByteArray) : rpQ specC s.data.toList = rplS s := by
  unfold rpQ rplS
  rw [rplQ_spec, len_data]
/-- One step of the reading. -/
theorem rpQ_eq (q : UInt8 → Bool) (s : List UInt8) : rpQ q s = if s = [] then some [] else match cutP q s with
    | none => some [⟨mkB s, ⟨#[]⟩⟩]
    | some x => if x.2.1 = 123 then (match cutP (isC 125) x.2.2 with
        | none => none
        | some y => if isWordB (mkB y.1) = true then (rpQ q y.2.2).map ([⟨mkB x.1, ⟨#[]⟩⟩, ⟨⟨#[]⟩, mkB y.1⟩] ++ ·) else none) else none := by
  conv => lhs; unfold rpQ rplQ
  by_cases hs : s = []
  · rw [if_pos hs, if_pos hs]
  · rw [if_neg hs, if_neg hs]
    cases hc : cutP q s with
    | none => rfl
    | some x =>
      obtain ⟨a, b, r⟩ := x
      have hl := cutP_len hc
      simp only []
      by_cases hb : b = 123
      · rw [if_pos hb, if_pos hb]
        cases hd : cutP (isC 125) r with
        | none => rfl
        | some y =>
          obtain ⟨n, b2, r2⟩ := y
          have hl2 := cutP_len hd
          simp only []
          rw [rplQ_more q s.length (r2.length + 1) r2 (by omega) (by omega)]
          rfl
      · rw [if_neg hb, if_neg hb]
theorem rpQ_len (q : UInt8 → Bool) : ∀ (n : Nat) (s : List UInt8) (D : List PlD), s.length ≤ n → rpQ q s = some D → D.length ≤ 2 * s.length
  | n, s, D, hn, h => by
    rw [rpQ_eq] at h
    by_cases hs : s = []
    · rw [if_pos hs] at h; cases h; simp
    · rw [if_neg hs] at h
      have hpos : 0 < s.length := List.length_pos_iff.2 hs
      cases hc : cutP q s with
      | none => rw [hc] at h; cases h; simp; omega
      | some x =>
        obtain ⟨a, b, r⟩ := x
        have hl := cutP_len hc
        rw [hc] at h
        simp only [] at h
        by_cases hb : b = 123
        · rw [if_pos hb] at h
          cases hd : cutP (isC 125) r with
          | none => rw [hd] at h; cases h
          | some y =>
            obtain ⟨m, b2, r2⟩ := y
            have hl2 := cutP_len hd
            rw [hd] at h
            simp only [] at h
            by_cases hw : isWordB (mkB m) = true
            · rw [if_pos hw] at h
              cases hr : rpQ q r2 with
              | none => rw [hr] at h; cases h
              | some E =>
                rw [hr] at h; cases h
                cases n with
                | zero => omega
                | succ n =>
                  have := rpQ_len q n r2 E (by omega) hr
                  simp; omega
            · rw [if_neg hw] at h; cases h
        · rw [if_neg hb] at h; cases h
/-- A part: a text or a place, or a section with a name and parts. -/
structure PtD where
  pl : PlD
  sec : Bool
  inner : List PlD
def ptOf (x : PlD) : PtD := ⟨x, false, []⟩
def secOf (n : List UInt8) (I : List PlD) : PtD := ⟨⟨⟨#[]⟩, mkB n⟩, true, I⟩
def rtmQ (q : UInt8 → Bool) : Nat → List UInt8 → Option (List PtD)
  | 0, _ => none
  | f + 1, s => match cutP (isC 91) s with
    | none => (rpQ q s).map (fun P => P.map ptOf)
    | some x => match rpQ q x.1 with
      | none => none
      | some P => match cutP (isC 93) x.2.2 with
        | none => none
        | some y => match cutP (isC 124) y.1 with
          | none => none
          | some z => match rpQ q z.2.2 with
            | none => none
            | some I => if isWordB (mkB z.1) = true then (rtmQ q f y.2.2).map ((P.map ptOf ++ [secOf z.1 I]) ++ ·) else none
theorem rtmQ_more (q : UInt8 → Bool) : ∀ (f g : Nat) (s : List UInt8), s.length < f → s.length < g → rtmQ q f s = rtmQ q g s
  | 0, _, s, h, _ => by omega
  | _, 0, s, _, h => by omega
  | f + 1, g + 1, s, h1, h2 => by
    unfold rtmQ
    cases hc : cutP (isC 91) s with
    | none => rfl
    | some x =>
      obtain ⟨a, b, r⟩ := x
      have hl := cutP_len hc
      simp only []
      cases rpQ q a with
      | none => rfl
      | some P =>
        simp only []
        cases hd : cutP (isC 93) r with
        | none => rfl
        | some y =>
          obtain ⟨m, b2, r2⟩ := y
          have hl2 := cutP_len hd
          simp only []
          rw [rtmQ_more q f g r2 (by omega) (by omega)]
theorem rtmQ_congr {p q : UInt8 → Bool} : ∀ (f : Nat) (s : List UInt8), (∀ b ∈ s, p b = q b) → rtmQ p f s = rtmQ q f s
  | 0, _, _ => rfl
  | f + 1, s, h => by
    unfold rtmQ
    cases hc : cutP (isC 91) s with
    | none => simp only []; unfold rpQ; rw [rplQ_congr _ s h]
    | some x =>
      obtain ⟨a, b, r⟩ := x
      simp only []
      have e1 : rpQ p a = rpQ q a := rplQ_congr _ a (fun b hb => h b (cut_sub1 hc b hb))
      rw [e1]
      cases rpQ q a with
      | none => rfl
      | some P =>
        simp only []
        cases hd : cutP (isC 93) r with
        | none => rfl
        | some y =>
          obtain ⟨m, b2, r2⟩ := y
          simp only []
          cases he : cutP (isC 124) m with
          | none => rfl
          | some z =>
            obtain ⟨n, b3, t⟩ := z
            simp only []
            have e2 : rpQ p t = rpQ q t := rplQ_congr _ t (fun b hb => h b (cut_sub2 hc b (cut_sub1 hd b (cut_sub2 he b hb))))
            rw [e2, rtmQ_congr f r2 (fun b hb => h b (cut_sub2 hc b (cut_sub2 hd b hb)))]
def rtQ (q : UInt8 → Bool) (s : List UInt8) : Option (List PtD) := rtmQ q (s.length + 1) s
theorem rtQ_congr {p q : UInt8 → Bool} {s : List UInt8} (h : ∀ b ∈ s, p b = q b) : rtQ p s = rtQ q s := rtmQ_congr _ s h
/-- One step of the reading of a template. -/
theorem rtQ_eq (q : UInt8 → Bool) (s : List UInt8) : rtQ q s = match cutP (isC 91) s with
    | none => (rpQ q s).map (fun P => P.map ptOf)
    | some x => match rpQ q x.1 with
      | none => none
      | some P => match cutP (isC 93) x.2.2 with
        | none => none
        | some y => match cutP (isC 124) y.1 with
          | none => none
          | some z => match rpQ q z.2.2 with
            | none => none
            | some I => if isWordB (mkB z.1) = true then (rtQ q y.2.2).map ((P.map ptOf ++ [secOf z.1 I]) ++ ·) else none := by
  conv => lhs; unfold rtQ rtmQ
  cases hc : cutP (isC 91) s with
  | none => rfl
  | some x =>
    obtain ⟨a, b, r⟩ := x
    have hl := cutP_len hc
    simp only []
    cases rpQ q a with
    | none => rfl
    | some P =>
      simp only []
      cases hd : cutP (isC 93) r with
      | none => rfl
      | some y =>
        obtain ⟨m, b2, r2⟩ := y
        have hl2 := cutP_len hd
        simp only []
        rw [rtmQ_more q s.length (r2.length + 1) r2 (by omega) (by omega)]
        rfl
/-- The weight of parts: what bounds all rows that are made of them. -/
def wtT : List PtD → Nat
  | [] => 0
  | p :: L => 1 + p.inner.length + wtT L
theorem wtT_app : ∀ A B : List PtD, wtT (A ++ B) = wtT A + wtT B
  | [], B => by simp [wtT]
  | p :: A, B => by rw [List.cons_append, wtT, wtT, wtT_app A B]; omega
theorem wtT_pt : ∀ P : List PlD, wtT (P.map ptOf) = P.length
  | [] => rfl
  | p :: P => by rw [List.map_cons, wtT, wtT_pt P]; simp [ptOf]; omega
theorem wt_len : ∀ L : List PtD, L.length ≤ wtT L
  | [] => Nat.le_refl _
  | p :: L => by have := wt_len L; rw [wtT, List.length_cons]; omega
/-- The state of the reading: what has been read, what is left. -/
structure RT (q : UInt8 → Bool) (s : ByteArray) (L : List PtD) (cur : ByteArray) : Prop where
  eq : rtQ q s.data.toList = (rtQ q cur.data.toList).map (L ++ ·)
  sub : ∀ b ∈ cur.data.toList, b ∈ s.data.toList
  le : cur.size ≤ s.size
  wt : wtT L + 2 * cur.size ≤ 2 * s.size
theorem RT.start (q : UInt8 → Bool) (s : ByteArray) : RT q s [] s := ⟨by cases rtQ q s.data.toList <;> rfl, fun _ h => h, Nat.le_refl _, by simp [wtT]⟩
section
variable {q : UInt8 → Bool} {s cur : ByteArray} {L : List PtD}
theorem RT.end_ (h : RT q s L cur) (hc : cutP (isC 91) cur.data.toList = none) : rtQ q s.data.toList = (rpQ q cur.data.toList).map (fun P => L ++ P.map ptOf) := by
  rw [h.eq, rtQ_eq, hc]
  cases rpQ q cur.data.toList <;> rfl
variable {a r : List UInt8} {b : UInt8}
theorem RT.bad0 (h : RT q s L cur) (hc : cutP (isC 91) cur.data.toList = some (a, b, r)) (hp : rpQ q a = none) : rtQ q s.data.toList = none := by
  rw [h.eq, rtQ_eq, hc]
  simp only []
  rw [hp]; rfl
variable {P : List PlD}
theorem RT.bad1 (h : RT q s L cur) (hc : cutP (isC 91) cur.data.toList = some (a, b, r)) (hd : cutP (isC 93) r = none) : rtQ q s.data.toList = none := by
  rw [h.eq, rtQ_eq, hc]
  simp only []
  cases rpQ q a <;> simp only [hd] <;> rfl
variable {m r2 : List UInt8} {b2 : UInt8}
theorem RT.bad2 (h : RT q s L cur) (hc : cutP (isC 91) cur.data.toList = some (a, b, r)) (hd : cutP (isC 93) r = some (m, b2, r2)) (he : cutP (isC 124) m = none) : rtQ q s.data.toList = none := by
  rw [h.eq, rtQ_eq, hc]
  simp only []
  cases rpQ q a <;> simp only [hd, he] <;> rfl
variable {n t : List UInt8} {b3 : UInt8}
theorem RT.bad3 (h : RT q s L cur) (hc : cutP (isC 91) cur.data.toList = some (a, b, r)) (hd : cutP (isC 93) r = some (m, b2, r2)) (he : cutP (isC 124) m = some (n, b3, t)) (hi : rpQ q t = none) : rtQ q s.data.toList = none := by
  rw [h.eq, rtQ_eq, hc]
  simp only []
  cases rpQ q a <;> simp only [hd, he, hi] <;> rfl
theorem RT.bad4 (h : RT q s L cur) (hc : cutP (isC 91) cur.data.toList = some (a, b, r)) (hd : cutP (isC 93) r = some (m, b2, r2)) (he : cutP (isC 124) m = some (n, b3, t)) (hw : isWordB (mkB n) = false) : rtQ q s.data.toList = none := by
  rw [h.eq, rtQ_eq, hc]
  simp only []
  cases rpQ q a with
  | none => rfl
  | some P =>
    simp only [hd, he]
    cases rpQ q t with
    | none => rfl
    | some I => simp only []; rw [if_neg (by rw [hw]; simp)]; rfl
theorem RT.next (h : RT q s L cur) (hc : cutP (isC 91) cur.data.toList = some (a, b, r)) (hp : rpQ q a = some P) (hd : cutP (isC 93) r = some (m, b2, r2)) (he : cutP (isC 124) m = some (n, b3, t)) {I : List PlD} (hi : rpQ q t = some I) (hw : isWordB (mkB n) = true) :
    RT q s (L ++ P.map ptOf ++ [secOf n I]) (mkB r2) ∧ (mkB r2).size < cur.size := by
  have l1 := cutP_len hc
  have l2 := cutP_len hd
  have l3 := cutP_len he
  have lp := rpQ_len q _ a P (Nat.le_refl _) hp
  have li := rpQ_len q _ t I (Nat.le_refl _) hi
  rw [len_data] at l1
  have hz := mkB_size r2
  obtain ⟨h1, h2, h3, h4⟩ := h
  refine ⟨⟨?_, fun x hx => h2 x (cut_sub2 hc x (cut_sub2 hd x hx)), by omega, ?_⟩, by omega⟩
  · rw [h1]
    conv => lhs; arg 2; rw [rtQ_eq, hc]
    simp only [hp, hd, he, hi]
    rw [if_pos hw]
    show Option.map _ (Option.map _ (rtQ q r2)) = Option.map _ (rtQ q r2)
    cases rtQ q r2 with
    | none => rfl
    | some X => simp
  · rw [wtT_app, wtT_app, wtT_pt]
    simp only [wtT, secOf]
    omega
end
end Go.Proofs.Ytilanpmjemlopaa
