/- Plain: what the reference reads of a template. -/
import Derived.Test.YtilanpmjemlopaaTpl15
namespace Go.Proofs.Ytilanpmjemlopaa
open Go.RowKit
set_option linter.unusedVariables false
def getV (V : List ValueD) (n : ByteArray) : List UInt8 := ((txtOf V n).getD ⟨#[]⟩).data.toList
structure FD where
  text : List UInt8
  names : List ByteArray
def FD.app (a b : FD) : FD := ⟨a.text ++ b.text, a.names ++ b.names⟩
theorem FD.assoc (a b c : FD) : (a.app b).app c = a.app (b.app c) := by unfold FD.app; simp
def fQ (V : List ValueD) : Nat → List UInt8 → Option FD
  | 0, _ => none
  | f + 1, s => match cutP badC s with
    | none => some ⟨s, []⟩
    | some x => if x.2.1 = 0 then some ⟨x.1, []⟩ else if x.2.1 = 123 then (match cutP (isC 125) x.2.2 with
        | none => none
        | some y => if isWordB (mkB y.1) = true then (fQ V f y.2.2).map (FD.app ⟨x.1 ++ getV V (mkB y.1), [mkB y.1]⟩) else none) else none
theorem fQ_more (V : List ValueD) : ∀ (f g : Nat) (s : List UInt8), s.length < f → s.length < g → fQ V f s = fQ V g s
  | 0, _, s, h, _ => by omega
  | _, 0, s, _, h => by omega
  | f + 1, g + 1, s, h1, h2 => by
    unfold fQ
    cases hc : cutP badC s with
    | none => rfl
    | some x =>
      obtain ⟨a, b, r⟩ := x
      have hl := cutP_len hc
      simp only []
      by_cases h0 : b = 0
      · rw [if_pos h0, if_pos h0]
      · rw [if_neg h0, if_neg h0]
        by_cases hb : b = 123
        · rw [if_pos hb, if_pos hb]
          cases hd : cutP (isC 125) r with
          | none => rfl
          | some y =>
            obtain ⟨n, b2, r2⟩ := y
            have hl2 := cutP_len hd
            simp only []
            rw [fQ_more V f g r2 (by omega) (by omega)]
        · rw [if_neg hb, if_neg hb]
def fS (V : List ValueD) (s : List UInt8) : Option FD := fQ V (s.length + 1) s
theorem fS_eq (V : List ValueD) (s : List UInt8) : fS V s = match cutP badC s with
    | none => some ⟨s, []⟩
    | some x => if x.2.1 = 0 then some ⟨x.1, []⟩ else if x.2.1 = 123 then (match cutP (isC 125) x.2.2 with
        | none => none
        | some y => if isWordB (mkB y.1) = true then (fS V y.2.2).map (FD.app ⟨x.1 ++ getV V (mkB y.1), [mkB y.1]⟩) else none) else none := by
  conv => lhs; unfold fS fQ
  cases hc : cutP badC s with
  | none => rfl
  | some x =>
    obtain ⟨a, b, r⟩ := x
    have hl := cutP_len hc
    simp only []
    by_cases h0 : b = 0
    · rw [if_pos h0, if_pos h0]
    · rw [if_neg h0, if_neg h0]
      by_cases hb : b = 123
      · rw [if_pos hb, if_pos hb]
        cases hd : cutP (isC 125) r with
        | none => rfl
        | some y =>
          obtain ⟨n, b2, r2⟩ := y
          have hl2 := cutP_len hd
          simp only []
          rw [fQ_more V s.length (r2.length + 1) r2 (by omega) (by omega)]
          rfl
      · rw [if_neg hb, if_neg hb]
/-- The values' texts are bounded. -/
def ValB (V : List ValueD) : Prop := ∀ x ∈ V, x.text.size ≤ 2000000
theorem txt_mem : ∀ {V : List ValueD} {n t : ByteArray}, txtOf V n = some t → ∃ x ∈ V, x.text = t
  | [], n, t, h => by cases h
  | x :: V, n, t, h => by
    rw [txtOf] at h
    split at h
    · cases h; exact ⟨x, by simp, rfl⟩
    · obtain ⟨y, hy, e⟩ := txt_mem h
      exact ⟨y, by simp [hy], e⟩
theorem getV_len {V : List ValueD} (hV : ValB V) (n : ByteArray) : (getV V n).length ≤ 2000000 := by
  unfold getV
  cases h : txtOf V n with
  | none => simp
  | some t =>
    obtain ⟨x, hx, rfl⟩ := txt_mem h
    have := hV x hx
    rw [Option.getD_some, len_data]; exact this
theorem getV_some {V : List ValueD} {n t : ByteArray} (h : txtOf V n = some t) : getV V n = t.data.toList := by unfold getV; rw [h]; rfl
theorem getV_none {V : List ValueD} {n : ByteArray} (h : txtOf V n = none) : getV V n = [] := by unfold getV; rw [h]; rfl
/-- The state of the reference's filling: what has been read, what is left. -/
structure RF (V : List ValueD) (s : ByteArray) (D : FD) (cur : ByteArray) : Prop where
  eq : fS V s.data.toList = (fS V cur.data.toList).map D.app
  le : cur.size ≤ s.size
  nm : D.names.length + cur.size ≤ s.size
  tx : D.text.length + cur.size * 2000001 ≤ s.size * 2000001
section
variable {V : List ValueD} {s cur : ByteArray} {D : FD} {a r : List UInt8} {b : UInt8}
theorem RF.start (V : List ValueD) (s : ByteArray) : RF V s ⟨[], []⟩ s := ⟨by cases fS V s.data.toList <;> rfl, Nat.le_refl _, by simp, by simp⟩
theorem RF.end_ (h : RF V s D cur) (hc : cutP badC cur.data.toList = none) : fS V s.data.toList = some (D.app ⟨cur.data.toList, []⟩) := by
  rw [h.eq, fS_eq, hc]; rfl
theorem RF.zero (h : RF V s D cur) (hc : cutP badC cur.data.toList = some (a, 0, r)) : fS V s.data.toList = some (D.app ⟨a, []⟩) := by
  rw [h.eq, fS_eq, hc]; rfl
theorem RF.bad1 (h : RF V s D cur) (hc : cutP badC cur.data.toList = some (a, b, r)) (h0 : b ≠ 0) (hb : b ≠ 123) : fS V s.data.toList = none := by
  rw [h.eq, fS_eq, hc]
  simp only []
  rw [if_neg h0, if_neg hb]; rfl
theorem RF.bad2 (h : RF V s D cur) (hc : cutP badC cur.data.toList = some (a, 123, r)) (hd : cutP (isC 125) r = none) : fS V s.data.toList = none := by
  rw [h.eq, fS_eq, hc]
  simp only []
  rw [if_neg (by decide), if_pos True.intro, hd]; rfl
variable {n r2 : List UInt8} {b2 : UInt8}
theorem RF.bad3 (h : RF V s D cur) (hc : cutP badC cur.data.toList = some (a, 123, r)) (hd : cutP (isC 125) r = some (n, b2, r2)) (hw : isWordB (mkB n) = false) : fS V s.data.toList = none := by
  rw [h.eq, fS_eq, hc]
  simp only []
  rw [if_neg (by decide), if_pos True.intro, hd]
  simp only []
  rw [if_neg (by rw [hw]; simp)]; rfl
theorem RF.next (h : RF V s D cur) (hV : ValB V) (hc : cutP badC cur.data.toList = some (a, 123, r)) (hd : cutP (isC 125) r = some (n, b2, r2)) (hw : isWordB (mkB n) = true) :
    RF V s (D.app ⟨a ++ getV V (mkB n), [mkB n]⟩) (mkB r2) ∧ (mkB r2).size < cur.size := by
  have l1 := cutP_len hc
  have l2 := cutP_len hd
  rw [len_data] at l1
  have hz := mkB_size r2
  have hg := getV_len hV (mkB n)
  obtain ⟨h1, h2, h3, h4⟩ := h
  refine ⟨⟨?_, by omega, ?_, ?_⟩, by omega⟩
  · rw [h1]
    conv => lhs; arg 2; rw [fS_eq, hc]
    simp only []
    rw [if_neg (by decide), if_pos True.intro, hd]
    simp only []
    rw [if_pos hw]
    show Option.map _ (Option.map _ (fS V r2)) = Option.map _ (fS V r2)
    cases fS V r2 with
    | none => rfl
    | some X => simp [FD.assoc]
  · unfold FD.app; simp only [List.length_append, List.length_cons, List.length_nil]; omega
  · unfold FD.app; simp only [List.length_append]; omega
end
theorem fS_len {V : List ValueD} (hV : ValB V) : ∀ (m : Nat) (s : List UInt8) (D : FD), s.length ≤ m → fS V s = some D → D.names.length ≤ s.length ∧ D.text.length ≤ s.length * 2000001
  | m, s, D, hm, h => by
    rw [fS_eq] at h
    cases hc : cutP badC s with
    | none => rw [hc] at h; cases h; simp; omega
    | some x =>
      obtain ⟨a, b, r⟩ := x
      have l1 := cutP_len hc
      rw [hc] at h
      simp only [] at h
      by_cases h0 : b = 0
      · rw [if_pos h0] at h; cases h; simp; omega
      · rw [if_neg h0] at h
        by_cases hb : b = 123
        · rw [if_pos hb] at h
          cases hd : cutP (isC 125) r with
          | none => rw [hd] at h; cases h
          | some y =>
            obtain ⟨n, b2, r2⟩ := y
            have l2 := cutP_len hd
            rw [hd] at h
            simp only [] at h
            by_cases hw : isWordB (mkB n) = true
            · rw [if_pos hw] at h
              cases hr : fS V r2 with
              | none => rw [hr] at h; cases h
              | some E =>
                rw [hr] at h; cases h
                have hg := getV_len hV (mkB n)
                cases m with
                | zero => omega
                | succ m =>
                  have := fS_len hV m r2 E (by omega) hr
                  unfold FD.app
                  simp only [List.length_append, List.length_cons, List.length_nil]
                  omega
            · rw [if_neg hw] at h; cases h
        · rw [if_neg hb] at h; cases h
/-- What the reference hands back of a template. -/
structure AD where
  text : List UInt8
  names : List ByteArray
  secs : List ByteArray
  lack : List ByteArray
def AD.app (a b : AD) : AD := ⟨a.text ++ b.text, a.names ++ b.names, a.secs ++ b.secs, a.lack ++ b.lack⟩
theorem AD.assoc (a b c : AD) : (a.app b).app c = a.app (b.app c) := by unfold AD.app; simp
def adF (V : List ValueD) (d : FD) : AD := ⟨d.text, d.names, [], keptN V d.names⟩
def adS (V : List ValueD) (n : ByteArray) (i : FD) : AD := ⟨if accV V n = true then i.text else [], i.names, [n], if accV V n = true then keptN V i.names else []⟩
def aQ (V : List ValueD) : Nat → List UInt8 → Option AD
  | 0, _ => none
  | f + 1, s => match cutP (isC 91) s with
    | none => (fS V s).map (adF V)
    | some x => match fS V x.1 with
      | none => none
      | some d => match cutP (isC 93) x.2.2 with
        | none => none
        | some y => match cutP (isC 124) y.1 with
          | none => none
          | some z => match fS V z.2.2 with
            | none => none
            | some i => if isWordB (mkB z.1) = true then (aQ V f y.2.2).map ((adF V d).app (adS V (mkB z.1) i)).app else none
theorem aQ_more (V : List ValueD) : ∀ (f g : Nat) (s : List UInt8), s.length < f → s.length < g → aQ V f s = aQ V g s
  | 0, _, s, h, _ => by omega
  | _, 0, s, _, h => by omega
  | f + 1, g + 1, s, h1, h2 => by
    unfold aQ
    cases hc : cutP (isC 91) s with
    | none => rfl
    | some x =>
      obtain ⟨a, b, r⟩ := x
      have hl := cutP_len hc
      simp only []
      cases fS V a with
      | none => rfl
      | some P =>
        simp only []
        cases hd : cutP (isC 93) r with
        | none => rfl
        | some y =>
          obtain ⟨m, b2, r2⟩ := y
          have hl2 := cutP_len hd
          simp only []
          rw [aQ_more V f g r2 (by omega) (by omega)]
def aS (V : List ValueD) (s : List UInt8) : Option AD := aQ V (s.length + 1) s
theorem aS_eq (V : List ValueD) (s : List UInt8) : aS V s = match cutP (isC 91) s with
    | none => (fS V s).map (adF V)
    | some x => match fS V x.1 with
      | none => none
      | some d => match cutP (isC 93) x.2.2 with
        | none => none
        | some y => match cutP (isC 124) y.1 with
          | none => none
          | some z => match fS V z.2.2 with
            | none => none
            | some i => if isWordB (mkB z.1) = true then (aS V y.2.2).map ((adF V d).app (adS V (mkB z.1) i)).app else none := by
  conv => lhs; unfold aS aQ
  cases hc : cutP (isC 91) s with
  | none => rfl
  | some x =>
    obtain ⟨a, b, r⟩ := x
    have hl := cutP_len hc
    simp only []
    cases fS V a with
    | none => rfl
    | some P =>
      simp only []
      cases hd : cutP (isC 93) r with
      | none => rfl
      | some y =>
        obtain ⟨m, b2, r2⟩ := y
        have hl2 := cutP_len hd
        simp only []
        rw [aQ_more V s.length (r2.length + 1) r2 (by omega) (by omega)]
        rfl
/-- The state of the reference's reading of a template. -/
structure RA (V : List ValueD) (s : ByteArray) (D : AD) (cur : ByteArray) : Prop where
  eq : aS V s.data.toList = (aS V cur.data.toList).map D.app
  le : cur.size ≤ s.size
  nm : D.names.length + cur.size ≤ s.size
  sc : D.secs.length + cur.size ≤ s.size
  lk : D.lack.length + cur.size ≤ s.size
  tx : D.text.length + cur.size * 2000001 ≤ s.size * 2000001
section
variable {V : List ValueD} {s cur : ByteArray} {D : AD} {a r m r2 n t : List UInt8} {b b2 b3 : UInt8}
theorem RA.start (V : List ValueD) (s : ByteArray) : RA V s ⟨[], [], [], []⟩ s := ⟨by cases aS V s.data.toList <;> rfl, Nat.le_refl _, by simp, by simp, by simp, by simp⟩
theorem RA.bad0 (h : RA V s D cur) (hc : cutP (isC 91) cur.data.toList = none) (hf : fS V cur.data.toList = none) : aS V s.data.toList = none := by
  rw [h.eq, aS_eq, hc]
  simp only []
  rw [hf]; rfl
theorem RA.end_ (h : RA V s D cur) (hc : cutP (isC 91) cur.data.toList = none) {d : FD} (hf : fS V cur.data.toList = some d) : aS V s.data.toList = some (D.app (adF V d)) := by
  rw [h.eq, aS_eq, hc]
  simp only []
  rw [hf]; rfl
theorem RA.bad1 (h : RA V s D cur) (hc : cutP (isC 91) cur.data.toList = some (a, b, r)) (hf : fS V a = none) : aS V s.data.toList = none := by
  rw [h.eq, aS_eq, hc]
  simp only []
  rw [hf]; rfl
theorem RA.bad2 (h : RA V s D cur) (hc : cutP (isC 91) cur.data.toList = some (a, b, r)) (hd : cutP (isC 93) r = none) : aS V s.data.toList = none := by
  rw [h.eq, aS_eq, hc]
  simp only []
  cases fS V a <;> simp only [hd] <;> rfl
theorem RA.bad3 (h : RA V s D cur) (hc : cutP (isC 91) cur.data.toList = some (a, b, r)) (hd : cutP (isC 93) r = some (m, b2, r2)) (he : cutP (isC 124) m = none) : aS V s.data.toList = none := by
  rw [h.eq, aS_eq, hc]
  simp only []
  cases fS V a <;> simp only [hd, he] <;> rfl
theorem RA.bad4 (h : RA V s D cur) (hc : cutP (isC 91) cur.data.toList = some (a, b, r)) (hd : cutP (isC 93) r = some (m, b2, r2)) (he : cutP (isC 124) m = some (n, b3, t)) (hf : fS V t = none) : aS V s.data.toList = none := by
  rw [h.eq, aS_eq, hc]
  simp only []
  cases fS V a <;> simp only [hd, he, hf] <;> rfl
theorem RA.bad5 (h : RA V s D cur) (hc : cutP (isC 91) cur.data.toList = some (a, b, r)) (hd : cutP (isC 93) r = some (m, b2, r2)) (he : cutP (isC 124) m = some (n, b3, t)) (hw : isWordB (mkB n) = false) : aS V s.data.toList = none := by
  rw [h.eq, aS_eq, hc]
  simp only []
  cases fS V a with
  | none => rfl
  | some P =>
    simp only [hd, he]
    cases fS V t with
    | none => rfl
    | some I => simp only []; rw [if_neg (by rw [hw]; simp)]; rfl
theorem keptN_len (V : List ValueD) (L : List ByteArray) : (keptN V L).length ≤ L.length := List.length_filter_le _ _
theorem RA.next (h : RA V s D cur) (hV : ValB V) (hc : cutP (isC 91) cur.data.toList = some (a, b, r)) (hd : cutP (isC 93) r = some (m, b2, r2)) (he : cutP (isC 124) m = some (n, b3, t)) {d i : FD} (hf : fS V a = some d) (hi : fS V t = some i) (hw : isWordB (mkB n) = true) :
    RA V s ((D.app (adF V d)).app (adS V (mkB n) i)) (mkB r2) ∧ (mkB r2).size < cur.size := by
  have l1 := cutP_len hc
  have l2 := cutP_len hd
  have l3 := cutP_len he
  have ld := fS_len hV _ a d (Nat.le_refl _) hf
  have li := fS_len hV _ t i (Nat.le_refl _) hi
  rw [len_data] at l1
  have hz := mkB_size r2
  have k1 := keptN_len V d.names
  have k2 := keptN_len V i.names
  have k3 : (if accV V (mkB n) = true then i.text else []).length ≤ i.text.length := by split <;> simp
  have k4 : (if accV V (mkB n) = true then keptN V i.names else []).length ≤ i.names.length := by split <;> first | exact k2 | simp
  obtain ⟨h1, h2, h3, h4, h5, h6⟩ := h
  refine ⟨⟨?_, by omega, ?_, ?_, ?_, ?_⟩, by omega⟩
  · rw [h1]
    conv => lhs; arg 2; rw [aS_eq, hc]
    simp only [hf, hd, he, hi]
    rw [if_pos hw]
    show Option.map _ (Option.map _ (aS V r2)) = Option.map _ (aS V r2)
    cases aS V r2 with
    | none => rfl
    | some X => simp [AD.assoc]
  · unfold AD.app adF adS; simp only [List.length_append]; omega
  · unfold AD.app adF adS; simp only [List.length_append, List.length_cons, List.length_nil]; omega
  · unfold AD.app adF adS; simp only [List.length_append]; omega
  · unfold AD.app adF adS; simp only [List.length_append]; omega
end
end Go.Proofs.Ytilanpmjemlopaa
