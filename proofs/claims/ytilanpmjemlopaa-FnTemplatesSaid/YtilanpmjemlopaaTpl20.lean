/- Plain law: what the reference reads of a plain text in words of its parts. -/
import Derived.Test.YtilanpmjemlopaaTpl19
namespace Go.Proofs.Ytilanpmjemlopaa
open Go.RowKit
set_option linter.unusedVariables false
theorem bad_spec {b : UInt8} (h : plainC b = true) : badC b = specC b := by unfold badC okC; rw [h]; simp
theorem plain_ne0 {b : UInt8} (h : plainC b = true) : b ≠ 0 := by
  intro e; subst e; revert h; decide
theorem word_ne {x : ByteArray} (h : isWordB x = true) : ¬ x.size = 0 := by
  intro e
  have : x = ⟨#[]⟩ := ba_ext (List.length_eq_zero_iff.1 (by rw [len_data]; exact e))
  subst this; revert h; decide
/-- The text of a part that is no section. -/
def outP (V : List ValueD) (x : PlD) : List UInt8 := if x.name.size = 0 then dl x.text else getV V x.name
def textD (V : List ValueD) (D : List PlD) : List UInt8 := D.flatMap (outP V)
def fdOf (V : List ValueD) (D : List PlD) : FD := ⟨textD V D, nmsD D⟩
theorem fdOf_text (V : List ValueD) (a : List UInt8) : fdOf V [⟨mkB a, ⟨#[]⟩⟩] = ⟨a, []⟩ := by
  unfold fdOf textD nmsD
  rw [List.flatMap_cons, List.flatMap_cons, show outP V ⟨mkB a, ⟨#[]⟩⟩ = a from rfl, show nmP ⟨mkB a, ⟨#[]⟩⟩ = [] from rfl]
  simp
theorem fdOf_step (V : List ValueD) (a n : List UInt8) (D : List PlD) (hw : isWordB (mkB n) = true) : fdOf V ([⟨mkB a, ⟨#[]⟩⟩, ⟨⟨#[]⟩, mkB n⟩] ++ D) = FD.app ⟨a ++ getV V (mkB n), [mkB n]⟩ (fdOf V D) := by
  have h := word_ne hw
  unfold fdOf FD.app textD nmsD
  rw [List.flatMap_append, List.flatMap_append, List.flatMap_cons, List.flatMap_cons, List.flatMap_cons, List.flatMap_cons]
  rw [show outP V ⟨mkB a, ⟨#[]⟩⟩ = a from rfl, show outP V ⟨⟨#[]⟩, mkB n⟩ = getV V (mkB n) from if_neg h, show nmP ⟨mkB a, ⟨#[]⟩⟩ = [] from rfl, show nmP ⟨⟨#[]⟩, mkB n⟩ = [mkB n] from if_neg h]
  simp
theorem fS_rp (V : List ValueD) : ∀ (m : Nat) (s : List UInt8), s.length ≤ m → (∀ b ∈ s, plainC b = true) → fS V s = (rpQ specC s).map (fdOf V)
  | m, s, hm, hp => by
    rw [fS_eq, rpQ_eq, cutP_congr (q := specC) (fun b hb => bad_spec (hp b hb))]
    by_cases hs : s = []
    · subst hs; rfl
    · rw [if_neg hs]
      cases hc : cutP specC s with
      | none => simp only [Option.map_some]; rw [fdOf_text]
      | some x =>
        obtain ⟨a, b, r⟩ := x
        have hl := cutP_len hc
        have hb0 : b ≠ 0 := plain_ne0 (hp b (by rw [(cutP_parts hc).1]; simp))
        simp only []
        rw [if_neg hb0]
        by_cases hb : b = 123
        · rw [if_pos hb, if_pos hb]
          cases hd : cutP (isC 125) r with
          | none => rfl
          | some y =>
            obtain ⟨n, b2, r2⟩ := y
            have hl2 := cutP_len hd
            simp only []
            by_cases hw : isWordB (mkB n) = true
            · rw [if_pos hw, if_pos hw]
              cases m with
              | zero => omega
              | succ m =>
                rw [fS_rp V m r2 (by omega) (fun b hb => hp b (cut_sub2 hc b (cut_sub2 hd b hb)))]
                cases rpQ specC r2 with
                | none => rfl
                | some D => simp only [Option.map_some]; rw [fdOf_step V a n D hw]
            · rw [if_neg hw, if_neg hw]; rfl
        · rw [if_neg hb, if_neg hb]; rfl
def txtP (V : List ValueD) (p : PtD) : List UInt8 := if p.sec = true then (if accV V p.pl.name = true then textD V p.inner else []) else outP V p.pl
def secP (p : PtD) : List ByteArray := if p.sec = true then [p.pl.name] else []
def secsT (T : List PtD) : List ByteArray := T.flatMap secP
def textT (V : List ValueD) (T : List PtD) : List UInt8 := T.flatMap (txtP V)
def allT (T : List PtD) : List ByteArray := plsT (fun _ => true) T
def adOf (V : List ValueD) (T : List PtD) : AD := ⟨textT V T, allT T, secsT T, keptN V (plsT (accV V) T)⟩
theorem adOf_app (V : List ValueD) (S T : List PtD) : adOf V (S ++ T) = (adOf V S).app (adOf V T) := by
  unfold adOf AD.app textT allT plsT secsT keptN
  simp only [List.flatMap_append, List.filter_append]
theorem flat_pt {β : Type} (f : PtD → List β) (g : PlD → List β) (h : ∀ x, f (ptOf x) = g x) (P : List PlD) : (P.map ptOf).flatMap f = P.flatMap g := by
  rw [List.flatMap_map]; congr 1; funext x; exact h x
theorem flat_nil {α β : Type} (L : List α) : L.flatMap (fun _ => ([] : List β)) = [] := by induction L <;> simp_all
theorem adOf_pts (V : List ValueD) (P : List PlD) : adOf V (P.map ptOf) = adF V (fdOf V P) := by
  unfold adOf adF fdOf textT allT plsT secsT textD nmsD
  rw [flat_pt (txtP V) (outP V) (fun _ => rfl), flat_pt (plP (fun _ => true)) nmP (fun _ => rfl), flat_pt secP (fun _ => []) (fun _ => rfl), flat_pt (plP (accV V)) nmP (fun _ => rfl), flat_nil]
theorem keptN_nil (V : List ValueD) : keptN V [] = [] := rfl
theorem adOf_sec (V : List ValueD) (n : List UInt8) (I : List PlD) : adOf V [secOf n I] = adS V (mkB n) (fdOf V I) := by
  unfold adOf adS fdOf textT allT plsT secsT
  simp only [List.flatMap_cons, List.flatMap_nil, List.append_nil]
  congr 1
  show keptN V (if accV V (mkB n) = true then nmsD I else []) = _
  split
  · rfl
  · rfl
theorem aS_rt (V : List ValueD) : ∀ (m : Nat) (s : List UInt8), s.length ≤ m → (∀ b ∈ s, plainC b = true) → aS V s = (rtQ specC s).map (adOf V)
  | m, s, hm, hp => by
    rw [aS_eq, rtQ_eq]
    cases hc : cutP (isC 91) s with
    | none =>
      simp only []
      rw [fS_rp V _ s (Nat.le_refl _) hp]
      cases rpQ specC s with
      | none => rfl
      | some P => simp only [Option.map_some]; rw [adOf_pts]
    | some x =>
      obtain ⟨a, b, r⟩ := x
      have hl := cutP_len hc
      simp only []
      rw [fS_rp V _ a (Nat.le_refl _) (fun b hb => hp b (cut_sub1 hc b hb))]
      cases rpQ specC a with
      | none => rfl
      | some P =>
        simp only [Option.map_some]
        cases hd : cutP (isC 93) r with
        | none => rfl
        | some y =>
          obtain ⟨mm, b2, r2⟩ := y
          have hl2 := cutP_len hd
          simp only []
          cases he : cutP (isC 124) mm with
          | none => rfl
          | some z =>
            obtain ⟨n, b3, t⟩ := z
            simp only []
            rw [fS_rp V _ t (Nat.le_refl _) (fun b hb => hp b (cut_sub2 hc b (cut_sub1 hd b (cut_sub2 he b hb))))]
            cases rpQ specC t with
            | none => rfl
            | some I =>
              simp only [Option.map_some]
              by_cases hw : isWordB (mkB n) = true
              · rw [if_pos hw, if_pos hw]
                cases m with
                | zero => omega
                | succ m =>
                  rw [aS_rt V m r2 (by omega) (fun b hb => hp b (cut_sub2 hc b (cut_sub2 hd b hb)))]
                  cases rtQ specC r2 with
                  | none => rfl
                  | some T =>
                    simp only [Option.map_some]
                    rw [adOf_app, adOf_app, adOf_pts, adOf_sec]
              · rw [if_neg hw, if_neg hw]; rfl
theorem plainL_all {s : ByteArray} (h : plainL s = true) : ∀ b ∈ s.data.toList, plainC b = true := List.all_eq_true.1 h
theorem aS_plain (V : List ValueD) {s : ByteArray} (h : plainL s = true) : aS V s.data.toList = (rtQ specC s.data.toList).map (adOf V) := aS_rt V _ _ (Nat.le_refl _) (plainL_all h)
theorem tpl_plain {s : ByteArray} {T : List PtD} (h : tplOf s = some T) : plainL s = true ∧ rtQ specC s.data.toList = some T := by
  unfold tplOf at h
  split at h
  · rename_i h2
    unfold isPlainB at h2
    rw [Bool.and_eq_true] at h2
    exact ⟨h2.1, h⟩
  · cases h
theorem aS_tpl {V : List ValueD} {s : ByteArray} {T : List PtD} (h : tplOf s = some T) : aS V s.data.toList = some (adOf V T) := by
  obtain ⟨h1, h2⟩ := tpl_plain h
  rw [aS_plain V h1, h2]; rfl
end Go.Proofs.Ytilanpmjemlopaa
