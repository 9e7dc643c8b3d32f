/- Plain: the entry with which a text begins. -/
import Derived.Test.YtdibfppmodeiiaaDoorJou2
import Derived.Lib.ParseIntB
import Derived.Lib.ParseIntBTie
import Derived.Lib.Bytealg
namespace Go.Proofs.YtdibfppmodeiiaaDoor
open Go.RowKit
set_option linter.unusedVariables false
theorem dig_no (n : Nat) : ∀ b ∈ Lib.decDigits n, b ≠ 58 := by
  induction n using Nat.strongRecOn with
  | _ n ih =>
    have h1 : ∀ d : Nat, d < 10 → UInt8.ofNat (48 + d) ≠ 58 := by
      intro d hd e
      have := congrArg UInt8.toNat e
      rw [UInt8.toNat_ofNat'] at this
      have e2 : (58 : UInt8).toNat = 58 := rfl
      omega
    rw [Lib.decDigits]
    split
    · intro b hb
      rw [List.mem_singleton.1 hb]
      exact h1 n (by assumption)
    · intro b hb
      rcases List.mem_append.1 hb with h | h
      · exact ih (n / 10) (by omega) b h
      · rw [List.mem_singleton.1 h]; exact h1 _ (by omega)
theorem dig_cases : ∀ n : Fin 41, Lib.decDigits n.val = if n.val < 10 then [UInt8.ofNat (48 + n.val)] else [UInt8.ofNat (48 + n.val / 10), UInt8.ofNat (48 + n.val % 10)] := by
  intro n
  by_cases h : n.val < 10
  · rw [if_pos h, Lib.decDigits_one h]
  · rw [if_neg h, Lib.decDigits_two h (by omega)]
theorem dig_fin : ∀ a b : Fin 41, (if a.val < 10 then [UInt8.ofNat (48 + a.val)] else [UInt8.ofNat (48 + a.val / 10), UInt8.ofNat (48 + a.val % 10)]) = (if b.val < 10 then [UInt8.ofNat (48 + b.val)] else [UInt8.ofNat (48 + b.val / 10), UInt8.ofNat (48 + b.val % 10)]) → a = b := by decide +kernel
theorem dig_inj {a b : Nat} (ha : a ≤ 40) (hb : b ≤ 40) (h : Lib.decDigits a = Lib.decDigits b) : a = b := by
  have h1 := dig_cases ⟨a, by omega⟩
  have h2 := dig_cases ⟨b, by omega⟩
  have := dig_fin ⟨a, by omega⟩ ⟨b, by omega⟩ (by rw [← h1, ← h2]; exact h)
  simpa using this
theorem idx_app {l R : List UInt8} (h : ∀ b ∈ l, b ≠ 58) : Lib.indexByte (l ++ 58 :: R) 58 = (l.length : Int) := by
  induction l with
  | nil => simp [Lib.indexByte]
  | cons a l ih =>
    have ha := h a (by simp)
    have ih := ih (fun b hb => h b (by simp [hb]))
    rw [List.cons_append, Lib.indexByte, if_neg (by simpa using ha), ih, if_neg (by simp <;> omega)]
    simp
theorem idx_split {l : List UInt8} (h : 0 ≤ Lib.indexByte l 58) : l = l.take (Lib.indexByte l 58).toNat ++ 58 :: l.drop ((Lib.indexByte l 58).toNat + 1) ∧ (Lib.indexByte l 58).toNat < l.length := by
  induction l with
  | nil => simp [Lib.indexByte] at h
  | cons a l ih =>
    rw [Lib.indexByte] at h ⊢
    by_cases ha : a = 58
    · subst ha; simp
    · rw [if_neg (by simpa using ha)] at h ⊢
      by_cases h2 : Lib.indexByte l 58 = -1
      · rw [if_pos (by simpa using h2)] at h; omega
      · rw [if_neg (by simpa using h2)] at h ⊢
        have hg := Lib.indexByte_ge l 58
        obtain ⟨e1, e2⟩ := ih (by omega)
        have e3 : (Lib.indexByte l 58 + 1).toNat = (Lib.indexByte l 58).toNat + 1 := by omega
        rw [e3]
        refine ⟨?_, by simp; omega⟩
        rw [List.take_succ_cons, List.cons_append, List.drop_succ_cons, ← e1]
theorem wr_list (a0 : Int) (a1 : ByteArray) (c : Nat) : (wrT a0 a1 c).data.toList = Lib.decDigits a1.size ++ 58 :: UInt8.ofNat a0.toNat :: (a1.data.toList ++ 58 :: (Lib.decDigits (chkT c (bodyT a0 a1)) ++ [10])) := by
  have e : bodyT a0 a1 = decT a1.size ++ { data := #[58] } ++ strOfNums [a0] ++ a1 := rfl
  unfold wrT
  generalize chkT c (bodyT a0 a1) = q
  rw [e]
  simp [decT, strOfNums]
def rdOk (s : ByteArray) (c : Nat) (e : EntryD) : Prop := entOk e = true ∧ (wrT e.kind e.text c).data.toList <+: s.data.toList
theorem rd_form {s : ByteArray} {c : Nat} {e : EntryD} (h : rdOk s c e) : (e.text.size ≤ 40 ∧ (65 ≤ e.kind ∧ e.kind ≤ 90)) ∧ ∃ R, s.data.toList = Lib.decDigits e.text.size ++ 58 :: UInt8.ofNat e.kind.toNat :: (e.text.data.toList ++ 58 :: R) := by
  obtain ⟨h1, R, h2⟩ := h
  have h3 := h1
  simp only [entOk, isPlainB, Bool.and_eq_true, decide_eq_true_eq] at h3
  refine ⟨⟨by omega, inB_iff.1 h3.1⟩, Lib.decDigits (chkT c (bodyT e.kind e.text)) ++ [10] ++ R, ?_⟩
  rw [← h2, wr_list]
  simp
theorem kind_inj {a b : Int} (ha : 65 ≤ a ∧ a ≤ 90) (hb : 65 ≤ b ∧ b ≤ 90) (h : UInt8.ofNat a.toNat = UInt8.ofNat b.toNat) : a = b := by
  have := congrArg UInt8.toNat h
  rw [UInt8.toNat_ofNat', UInt8.toNat_ofNat'] at this
  omega
theorem rd_uniq {s : ByteArray} {c : Nat} {e1 e2 : EntryD} (h1 : rdOk s c e1) (h2 : rdOk s c e2) : e1 = e2 := by
  obtain ⟨⟨a1, b1⟩, R1, f1⟩ := rd_form h1
  obtain ⟨⟨a2, b2⟩, R2, f2⟩ := rd_form h2
  have i1 := idx_app (l := Lib.decDigits e1.text.size) (R := UInt8.ofNat e1.kind.toNat :: (e1.text.data.toList ++ 58 :: R1)) (dig_no _)
  have i2 := idx_app (l := Lib.decDigits e2.text.size) (R := UInt8.ofNat e2.kind.toNat :: (e2.text.data.toList ++ 58 :: R2)) (dig_no _)
  rw [← f1] at i1
  rw [← f2] at i2
  have hlen : (Lib.decDigits e1.text.size).length = (Lib.decDigits e2.text.size).length := by omega
  rw [f1] at f2
  obtain ⟨hd, ht⟩ := List.append_inj f2 hlen
  have hn := dig_inj a1 a2 hd
  injection ht with _ ht
  injection ht with hk ht
  have hk := kind_inj b1 b2 hk
  have hl : e1.text.data.toList.length = e2.text.data.toList.length := by
    rw [Array.length_toList, Array.length_toList]; exact hn
  obtain ⟨hx, _⟩ := List.append_inj ht hl
  obtain ⟨k1, x1⟩ := e1
  obtain ⟨k2, x2⟩ := e2
  simp only at hk hx
  subst hk
  rw [ba_ext hx]
noncomputable def rdE (s : ByteArray) (c : Nat) : Option EntryD := @dite _ (∃ e, rdOk s c e) (Classical.propDecidable _) (fun h => some (Classical.choose h)) (fun _ => none)
theorem rdE_some {s : ByteArray} {c : Nat} {e : EntryD} (h : rdOk s c e) : rdE s c = some e := by
  have hx : ∃ e, rdOk s c e := ⟨e, h⟩
  rw [rdE, dif_pos hx, rd_uniq (Classical.choose_spec hx) h]
theorem rdE_none {s : ByteArray} {c : Nat} (h : ∀ e, ¬ rdOk s c e) : rdE s c = none := by
  rw [rdE, dif_neg (by rintro ⟨e, he⟩; exact h e he)]
def dropB (s : ByteArray) (n : Nat) : ByteArray := s.extract n s.size
theorem dropB_list (s : ByteArray) (n : Nat) : (dropB s n).data.toList = s.data.toList.drop n := by
  unfold dropB
  rw [ByteArray.data_extract, Array.toList_extract]
  have : s.data.toList.length = s.size := by rw [Array.length_toList]; rfl
  rw [List.extract_eq_take_drop, List.take_of_length_le (by rw [List.length_drop]; omega)]
noncomputable def rdF : Nat → ByteArray → Nat → List EntryD × ByteArray
  | 0, s, _ => ([], s)
  | f + 1, s, c => match rdE s c with
    | none => ([], s)
    | some e => (e :: (rdF f (dropB s (wrT e.kind e.text c).size) (chkE e c)).1, (rdF f (dropB s (wrT e.kind e.text c).size) (chkE e c)).2)
theorem rdF_none {f : Nat} {s : ByteArray} {c : Nat} (h : rdE s c = none) : rdF f s c = ([], s) := by cases f <;> simp [rdF, h]
theorem rdF_some {f : Nat} {s : ByteArray} {c : Nat} {e : EntryD} (h : rdE s c = some e) : rdF (f + 1) s c = (e :: (rdF f (dropB s (wrT e.kind e.text c).size) (chkE e c)).1, (rdF f (dropB s (wrT e.kind e.text c).size) (chkE e c)).2) := by simp [rdF, h]
noncomputable def rdAll (s : ByteArray) : List EntryD × ByteArray := rdF 20 s 7
theorem rdE_ok {s : ByteArray} {c : Nat} {e : EntryD} (h : rdE s c = some e) : rdOk s c e := by
  unfold rdE at h
  by_cases hx : ∃ e, rdOk s c e
  · rw [dif_pos hx] at h
    have := Classical.choose_spec hx
    rw [Option.some.inj h] at this; exact this
  · rw [dif_neg hx] at h; cases h
theorem rdF_len : ∀ (f : Nat) (s : ByteArray) (c : Nat), (rdF f s c).1.length ≤ f ∧ (∀ e ∈ (rdF f s c).1, entOk e = true) ∧ (rdF f s c).2.size ≤ s.size
  | 0, s, c => by simp [rdF]
  | f + 1, s, c => by
    cases h : rdE s c with
    | none => rw [rdF_none h]; simp
    | some e =>
      rw [rdF_some h]
      obtain ⟨i1, i2, i3⟩ := rdF_len f (dropB s (wrT e.kind e.text c).size) (chkE e c)
      refine ⟨by simp only [List.length_cons]; omega, fun x hx => ?_, Nat.le_trans i3 ?_⟩
      · rcases List.mem_cons.1 hx with h2 | h2
        · rw [h2]; exact (rdE_ok h).1
        · exact i2 x h2
      · unfold dropB; rw [ByteArray.size_extract]; omega
theorem rdF_all {f : Nat} {s : ByteArray} {c : Nat} : entsAll (rdF f s c).1 = true := by
  unfold entsAll; rw [List.all_eq_true]; exact (rdF_len f s c).2.1
theorem dig_parse1 : ∀ n : Fin 41, Lib.parseIntB 64 (if n.val < 10 then [UInt8.ofNat (48 + n.val)] else [UInt8.ofNat (48 + n.val / 10), UInt8.ofNat (48 + n.val % 10)]) = .ok (n.val : Int) := by decide +kernel
theorem dig_parse {n : Nat} (h : n ≤ 40) : Lib.parseIntB 64 (Lib.decDigits n) = .ok (n : Int) := by
  rw [dig_cases ⟨n, by omega⟩]; exact dig_parse1 ⟨n, by omega⟩
theorem parse_ok {l : List UInt8} {v : Int} (h : Lib.parseIntB 64 l = .ok v) : -9223372036854775808 ≤ v ∧ v ≤ 9223372036854775807 := by
  obtain ⟨h1, h2⟩ := Lib.parseIntB_bounds h
  have e : ((2 ^ (64 - 1) : Nat) : Int) = 9223372036854775808 := by decide
  rw [e] at h1 h2
  omega
end Go.Proofs.YtdibfppmodeiiaaDoor
