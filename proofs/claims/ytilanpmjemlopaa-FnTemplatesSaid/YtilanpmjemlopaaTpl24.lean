/- Plain law: what the parts of a template are; a filled template has no special bytes. -/
import Derived.Test.YtilanpmjemlopaaTpl23
namespace Go.Proofs.Ytilanpmjemlopaa
open Go.RowKit
set_option linter.unusedVariables false
/-- A part that is no section, read from the bytes s: a text without special bytes, or a place. -/
def PlOk (s : List UInt8) (x : PlD) : Prop := (dl x.text).length ≤ s.length ∧ ((x.name = ⟨#[]⟩ ∧ ∀ b ∈ dl x.text, b ∈ s ∧ specC b = false) ∨ (x.text = ⟨#[]⟩ ∧ isWordB x.name = true))
theorem PlOk.mono {s t : List UInt8} {x : PlD} (h : PlOk s x) (hs : ∀ b ∈ s, b ∈ t) (hl : s.length ≤ t.length) : PlOk t x := by
  obtain ⟨h1, h2⟩ := h
  refine ⟨by omega, ?_⟩
  rcases h2 with ⟨h2, h3⟩ | h2
  · exact .inl ⟨h2, fun b hb => ⟨hs b (h3 b hb).1, (h3 b hb).2⟩⟩
  · exact .inr h2
theorem rpQ_ok : ∀ (m : Nat) (s : List UInt8) (D : List PlD), s.length ≤ m → rpQ specC s = some D → ∀ x ∈ D, PlOk s x
  | m, s, D, hm, h => by
    rw [rpQ_eq] at h
    by_cases hs : s = []
    · rw [if_pos hs] at h; cases h; intro x hx; cases hx
    · rw [if_neg hs] at h
      cases hc : cutP specC s with
      | none =>
        rw [hc] at h; cases h
        intro x hx
        rw [List.mem_singleton] at hx
        subst hx
        exact ⟨Nat.le_refl _, .inl ⟨rfl, fun b hb => ⟨hb, cutP_miss hc b hb⟩⟩⟩
      | some x =>
        obtain ⟨a, b, r⟩ := x
        have l1 := cutP_len hc
        have hcp := cutP_parts hc
        rw [hc] at h
        simp only [] at h
        by_cases hb : b = 123
        · rw [if_pos hb] at h
          cases hd : cutP (isC 125) r with
          | none => rw [hd] at h; cases h
          | some y =>
            obtain ⟨n, b2, r2⟩ := y
            have l2 := cutP_len hd
            rw [hd] at h
            simp only [] at h
            by_cases hw : isWordB (mkB n) = true
            · rw [if_pos hw] at h
              cases hr : rpQ specC r2 with
              | none => rw [hr] at h; cases h
              | some E =>
                rw [hr] at h; cases h
                cases m with
                | zero => omega
                | succ m =>
                  have ih := rpQ_ok m r2 E (by omega) hr
                  intro x hx
                  rcases List.mem_append.1 hx with hx | hx
                  · simp only [List.mem_cons, List.not_mem_nil, or_false] at hx
                    rcases hx with rfl | rfl
                    · exact ⟨by show a.length ≤ _; omega, .inl ⟨rfl, fun b hb => ⟨cut_sub1 hc b hb, hcp.2.2 b hb⟩⟩⟩
                    · exact ⟨Nat.zero_le _, .inr ⟨rfl, hw⟩⟩
                  · exact (ih x hx).mono (fun b hb => cut_sub2 hc b (cut_sub2 hd b hb)) (by omega)
            · rw [if_neg hw] at h; cases h
        · rw [if_neg hb] at h; cases h
def PtOk (s : List UInt8) (p : PtD) : Prop := (dl p.pl.text).length ≤ s.length ∧ (p.sec = false → PlOk s p.pl) ∧ (p.sec = true → isWordB p.pl.name = true) ∧ ∀ x ∈ p.inner, PlOk s x
theorem PtOk.mono {s t : List UInt8} {p : PtD} (h : PtOk s p) (hs : ∀ b ∈ s, b ∈ t) (hl : s.length ≤ t.length) : PtOk t p :=
  ⟨by have := h.1; omega, fun e => (h.2.1 e).mono hs hl, h.2.2.1, fun x hx => (h.2.2.2 x hx).mono hs hl⟩
theorem ptOk_pt {s : List UInt8} {x : PlD} (h : PlOk s x) : PtOk s (ptOf x) := ⟨h.1, fun _ => h, fun e => absurd (show false = true from e) (by decide), fun y hy => absurd (show y ∈ ([] : List PlD) from hy) (by simp)⟩
theorem rtQ_ok : ∀ (m : Nat) (s : List UInt8) (T : List PtD), s.length ≤ m → rtQ specC s = some T → ∀ p ∈ T, PtOk s p
  | m, s, T, hm, h => by
    rw [rtQ_eq] at h
    cases hc : cutP (isC 91) s with
    | none =>
      rw [hc] at h
      simp only [] at h
      cases hp : rpQ specC s with
      | none => rw [hp] at h; cases h
      | some P =>
        rw [hp] at h; cases h
        intro p hp2
        obtain ⟨x, hx, rfl⟩ := List.mem_map.1 hp2
        exact ptOk_pt (rpQ_ok _ s P (Nat.le_refl _) hp x hx)
    | some x =>
      obtain ⟨a, b, r⟩ := x
      have l1 := cutP_len hc
      rw [hc] at h
      simp only [] at h
      cases hp : rpQ specC a with
      | none => rw [hp] at h; cases h
      | some P =>
        rw [hp] at h
        simp only [] at h
        cases hd : cutP (isC 93) r with
        | none => rw [hd] at h; cases h
        | some y =>
          obtain ⟨mm, b2, r2⟩ := y
          have l2 := cutP_len hd
          rw [hd] at h
          simp only [] at h
          cases he : cutP (isC 124) mm with
          | none => rw [he] at h; cases h
          | some z =>
            obtain ⟨n, b3, t⟩ := z
            have l3 := cutP_len he
            rw [he] at h
            simp only [] at h
            cases hi : rpQ specC t with
            | none => rw [hi] at h; cases h
            | some I =>
              rw [hi] at h
              simp only [] at h
              by_cases hw : isWordB (mkB n) = true
              · rw [if_pos hw] at h
                cases hr : rtQ specC r2 with
                | none => rw [hr] at h; cases h
                | some E =>
                  rw [hr] at h; cases h
                  cases m with
                  | zero => omega
                  | succ m =>
                    have ih := rtQ_ok m r2 E (by omega) hr
                    intro p hp2
                    rcases List.mem_append.1 hp2 with hp2 | hp2
                    · rcases List.mem_append.1 hp2 with hp2 | hp2
                      · obtain ⟨x, hx, rfl⟩ := List.mem_map.1 hp2
                        exact (ptOk_pt (rpQ_ok _ a P (Nat.le_refl _) hp x hx)).mono (fun b hb => cut_sub1 hc b hb) (by omega)
                      · rw [List.mem_singleton] at hp2
                        subst hp2
                        exact ⟨Nat.zero_le _, fun e => absurd (show true = false from e) (by decide), fun _ => hw, fun x hx => (rpQ_ok _ t I (Nat.le_refl _) hi x hx).mono (fun b hb => cut_sub2 hc b (cut_sub1 hd b (cut_sub2 he b hb))) (by omega)⟩
                    · exact (ih p hp2).mono (fun b hb => cut_sub2 hc b (cut_sub2 hd b hb)) (by omega)
              · rw [if_neg hw] at h; cases h
theorem tpl_ok {s : ByteArray} {T : List PtD} (h : tplOf s = some T) : ∀ p ∈ T, PtOk (dl s) p := rtQ_ok _ _ T (Nat.le_refl _) (tpl_plain h).2
theorem tpl_txtB {s : ByteArray} {T : List PtD} (h : tplOf s = some T) : TxtBT T := by
  have h1 := tpl_size h
  have hk := tpl_ok h
  have hd : (dl s).length ≤ 2000000 := by unfold dl; rw [len_data]; omega
  intro p hp
  have := hk p hp
  refine ⟨by have := this.1; unfold dl at this hd; rw [len_data] at this; omega, fun x hx => ?_⟩
  have := (this.2.2.2 x hx).1
  unfold dl at this hd; rw [len_data] at this; omega
/-- Values whose names are words and whose texts are plain. -/
def ValG (V : List ValueD) : Prop := ∀ x ∈ V, isWordB x.name = true ∧ plainS x.text = true
theorem valsOk_G {V : List ValueD} (h : valsOk V = true) : ValG V := fun x hx => by
  unfold valsOk at h
  have h := @of_decide_eq_true _ (Classical.propDecidable _) h
  obtain ⟨i, hi, rfl⟩ := List.getElem_of_mem hx
  have := h.1.1 i hi hi
  unfold valOk at this
  simp only [Bool.and_eq_true, decide_eq_true_eq] at this
  exact ⟨this.1, this.2.1⟩
theorem txt_mem2 : ∀ {V : List ValueD} {n t : ByteArray}, txtOf V n = some t → ∃ x ∈ V, x.text = t ∧ x.name = n
  | [], n, t, h => by cases h
  | x :: V, n, t, h => by
    rw [txtOf] at h
    split at h
    · rename_i h2
      cases h; exact ⟨x, by simp, rfl, h2⟩
    · obtain ⟨y, hy, e⟩ := txt_mem2 h
      exact ⟨y, by simp [hy], e⟩
theorem get_empty {V : List ValueD} (hG : ValG V) : getV V ⟨#[]⟩ = [] := by
  cases h : txtOf V ⟨#[]⟩ with
  | none => exact getV_none h
  | some t =>
    obtain ⟨x, hx, _, e⟩ := txt_mem2 h
    have := (hG x hx).1
    rw [e] at this
    exact absurd this (by decide)
theorem get_plain {V : List ValueD} (hG : ValG V) (n : ByteArray) : ∀ b ∈ getV V n, okC b = true := by
  cases h : txtOf V n with
  | none => rw [getV_none h]; intro b hb; cases hb
  | some t =>
    obtain ⟨x, hx, e, _⟩ := txt_mem2 h
    rw [getV_some h, ← e]
    exact List.all_eq_true.1 (hG x hx).2
theorem outI_eq {V : List ValueD} (hG : ValG V) {s : List UInt8} {x : PlD} (h : PlOk s x) : outI V x = outP V x := by
  unfold outI outP
  rcases h.2 with ⟨h1, _⟩ | ⟨h1, h2⟩
  · rw [h1, get_empty hG, if_pos (by rfl), List.append_nil]
  · rw [h1, if_neg (word_ne h2)]; rfl
theorem flat_congr {α β : Type} {f g : α → List β} : ∀ {L : List α}, (∀ x ∈ L, f x = g x) → L.flatMap f = L.flatMap g
  | [], _ => rfl
  | x :: L, h => by rw [List.flatMap_cons, List.flatMap_cons, h x (by simp), flat_congr (fun y hy => h y (by simp [hy]))]
theorem textI_eq {V : List ValueD} (hG : ValG V) {s : List UInt8} {D : List PlD} (h : ∀ x ∈ D, PlOk s x) : textI V D = textD V D := flat_congr fun x hx => outI_eq hG (h x hx)
theorem textIT_eq {V : List ValueD} (hG : ValG V) {s : List UInt8} {T : List PtD} (h : ∀ p ∈ T, PtOk s p) : textIT V T = textT V T := flat_congr fun p hp => by
  have hk := h p hp
  unfold txtI txtP
  cases hs : p.sec with
  | true => rw [if_pos rfl, if_pos rfl, textI_eq hG hk.2.2.2]
  | false => rw [if_neg (by decide), if_neg (by decide)]; exact outI_eq hG (hk.2.1 hs)
theorem outP_ok {V : List ValueD} (hG : ValG V) {s : List UInt8} (hs : ∀ b ∈ s, plainC b = true) {x : PlD} (h : PlOk s x) : ∀ b ∈ outP V x, okC b = true := by
  unfold outP
  intro b hb
  rcases h.2 with ⟨h1, h2⟩ | ⟨h1, h2⟩
  · rw [h1, if_pos (by rfl)] at hb
    obtain ⟨h3, h4⟩ := h2 b hb
    unfold okC
    rw [hs b h3, h4]; rfl
  · rw [if_neg (word_ne h2)] at hb
    exact get_plain hG _ b hb
theorem textT_ok {V : List ValueD} (hG : ValG V) {s : List UInt8} (hs : ∀ b ∈ s, plainC b = true) {T : List PtD} (h : ∀ p ∈ T, PtOk s p) : ∀ b ∈ textT V T, okC b = true := by
  intro b hb
  obtain ⟨p, hp, hb⟩ := List.mem_flatMap.1 hb
  have hk := h p hp
  unfold txtP at hb
  cases hc : p.sec with
  | true =>
    rw [hc, if_pos rfl] at hb
    split at hb
    · obtain ⟨x, hx, hb⟩ := List.mem_flatMap.1 hb
      exact outP_ok hG hs (hk.2.2.2 x hx) b hb
    · cases hb
  | false =>
    rw [hc, if_neg (by decide)] at hb
    exact outP_ok hG hs (hk.2.1 hc) b hb
theorem ok_parts {b : UInt8} (h : okC b = true) : plainC b = true ∧ specC b = false := by
  unfold okC at h
  rw [Bool.and_eq_true, Bool.not_eq_true'] at h
  exact h
/-- A text without special bytes is a template without places and sections. -/
theorem tpl_clean {f : ByteArray} (h : ∀ b ∈ f.data.toList, okC b = true) (hf : f.size ≤ 600) : ∃ P : List PlD, tplOf f = some (P.map ptOf) ∧ nmsD P = [] := by
  have hp : isPlainB f 600 = true := by
    unfold isPlainB plainL
    rw [Bool.and_eq_true, List.all_eq_true, decide_eq_true_eq]
    exact ⟨fun b hb => (ok_parts (h b hb)).1, by omega⟩
  have hc : cutP (isC 91) f.data.toList = none := cutP_none fun b hb => by
    have := (ok_parts (h b hb)).2
    unfold specC at this
    simp only [Bool.or_eq_false_iff] at this
    exact this.1.1.2
  have hs : cutP specC f.data.toList = none := cutP_none fun b hb => (ok_parts (h b hb)).2
  unfold tplOf
  rw [if_pos hp, rtQ_eq, hc, rpQ_eq]
  simp only []
  by_cases h0 : f.data.toList = []
  · rw [if_pos h0]; exact ⟨[], rfl, rfl⟩
  · rw [if_neg h0, hs]; exact ⟨_, rfl, rfl⟩
noncomputable def fillB (s : ByteArray) (V : List ValueD) : ByteArray := match tplOf s with
  | none => ⟨#[]⟩
  | some T => if valsOk V = true then (if missV V T = [] then mkB (textT V T) else ⟨#[]⟩) else ⟨#[]⟩
noncomputable def fillE (s : ByteArray) (V : List ValueD) : Int := match tplOf s with
  | none => 6
  | some T => if valsOk V = true then (if missV V T = [] then 0 else 4) else 1
theorem fill_1 {s : ByteArray} {V : List ValueD} (h : tplOf s = none) : fillB s V = ⟨#[]⟩ ∧ fillE s V = 6 := by unfold fillB fillE; rw [h]; exact ⟨rfl, rfl⟩
theorem fill_2 {s : ByteArray} {V : List ValueD} {T : List PtD} (h : tplOf s = some T) (hv : valsOk V = false) : fillB s V = ⟨#[]⟩ ∧ fillE s V = 1 := by unfold fillB fillE; rw [h]; simp [hv]
theorem fill_3 {s : ByteArray} {V : List ValueD} {T : List PtD} (h : tplOf s = some T) (hv : valsOk V = true) (hm : ¬ missV V T = []) : fillB s V = ⟨#[]⟩ ∧ fillE s V = 4 := by unfold fillB fillE; rw [h]; simp [hv, hm]
theorem fill_4 {s : ByteArray} {V : List ValueD} {T : List PtD} (h : tplOf s = some T) (hv : valsOk V = true) (hm : missV V T = []) : fillB s V = mkB (textT V T) ∧ fillE s V = 0 := by unfold fillB fillE; rw [h]; simp [hv, hm]
theorem fill_clean {s : ByteArray} {V : List ValueD} (h : fillE s V = 0) (hf : (fillB s V).size ≤ 600) : ∃ P : List PlD, tplOf (fillB s V) = some (P.map ptOf) ∧ nmsD P = [] := by
  refine tpl_clean ?_ hf
  unfold fillE at h
  unfold fillB
  cases ht : tplOf s with
  | none => rw [ht] at h; cases h
  | some T =>
    rw [ht] at h
    cases hv : valsOk V with
    | false => rw [hv] at h; cases h
    | true =>
      rw [hv] at h
      simp only [if_true] at h
      by_cases hm : missV V T = []
      · simp only [if_true]
        rw [if_pos hm]
        exact textT_ok (valsOk_G hv) (plainL_all (tpl_plain ht).1) (tpl_ok ht)
      · rw [if_neg hm] at h; cases h
end Go.Proofs.Ytilanpmjemlopaa
