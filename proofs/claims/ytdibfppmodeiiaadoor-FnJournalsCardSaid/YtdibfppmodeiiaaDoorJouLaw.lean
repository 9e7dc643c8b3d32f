/- Plain: what is written is read again, and a text that is cut off gives as many entries as it has ends of lines. -/
import Derived.Test.YtdibfppmodeiiaaDoorRd6
namespace Go.Proofs.YtdibfppmodeiiaaDoor
open Go.RowKit
set_option linter.unusedVariables false
/-- The text of entries behind a check, and the check behind them. -/
def wfT : List EntryD → Nat → List UInt8
  | [], _ => []
  | x :: L, c => (wrT x.kind x.text c).data.toList ++ wfT L (chkE x c)
def ckF : List EntryD → Nat → Nat
  | [], c => c
  | x :: L, c => ckF L (chkE x c)
theorem ckF_app (R : List EntryD) : ∀ (M : List EntryD) (c : Nat), ckF (M ++ R) c = ckF R (ckF M c)
  | [], c => rfl
  | x :: M, c => ckF_app R M (chkE x c)
theorem wfT_app (R : List EntryD) : ∀ (M : List EntryD) (c : Nat), wfT (M ++ R) c = wfT M c ++ wfT R (ckF M c)
  | [], c => rfl
  | x :: M, c => by
    show (wrT x.kind x.text c).data.toList ++ wfT (M ++ R) (chkE x c) = ((wrT x.kind x.text c).data.toList ++ wfT M (chkE x c)) ++ wfT R (ckF M (chkE x c))
    rw [wfT_app R M, List.append_assoc]
theorem wjAt_wf {L : List EntryD} : ∀ k, k ≤ L.length → (wjAt L k).1.data.toList = wfT (L.take k) 7 ∧ (wjAt L k).2 = ckF (L.take k) 7
  | 0, _ => ⟨rfl, rfl⟩
  | k + 1, hk => by
    obtain ⟨h1, h2⟩ := wjAt_wf (L := L) k (by omega)
    rw [wjAt_succ (by omega), List.take_succ_eq_append_getElem (by omega), wfT_app, ckF_app, ← h2, ← h1]
    refine ⟨?_, rfl⟩
    simp [wfT]
theorem wj_all (L : List EntryD) : (wjAt L L.length).1.data.toList = wfT L 7 := by
  have := (wjAt_wf (L := L) L.length (Nat.le_refl _)).1
  rwa [List.take_of_length_le (Nat.le_refl _)] at this
theorem wr_pos (a0 : Int) (a1 : ByteArray) (c : Nat) : (wrT a0 a1 c).data.toList ≠ [] := by
  rw [wr_list]; simp
theorem wr_size (a0 : Int) (a1 : ByteArray) (c : Nat) : (wrT a0 a1 c).data.toList.length = (wrT a0 a1 c).size := by rw [Array.length_toList]; rfl
/-- A text that begins with entries as they are written. -/
theorem rd_written : ∀ (L : List EntryD) (f c : Nat) (s : ByteArray) (T : List UInt8), (∀ x ∈ L, entOk x = true) → s.data.toList = wfT L c ++ T → L.length ≤ f →
    ∃ s2 : ByteArray, s2.data.toList = T ∧ rdF f s c = (L ++ (rdF (f - L.length) s2 (ckF L c)).1, (rdF (f - L.length) s2 (ckF L c)).2)
  | [], f, c, s, T, _, h, _ => ⟨s, h, by simp [ckF]⟩
  | x :: L, f, c, s, T, hL, h, hf => by
    obtain ⟨g, rfl⟩ : ∃ g, f = g + 1 := ⟨f - 1, by simp at hf; omega⟩
    have hx : rdOk s c x := ⟨hL x (by simp), wfT L (chkE x c) ++ T, by rw [h]; simp [wfT]⟩
    have hd : (dropB s (wrT x.kind x.text c).size).data.toList = wfT L (chkE x c) ++ T := by
      rw [dropB_list, h, ← wr_size]
      simp [wfT]
    obtain ⟨s2, h1, h2⟩ := rd_written L g (chkE x c) _ T (fun y hy => hL y (by simp [hy])) hd (by simpa using hf)
    refine ⟨s2, h1, ?_⟩
    rw [rdF_some (rdE_some hx), h2]
    simp [ckF]
theorem rdE_empty {s : ByteArray} {c : Nat} (h : s.data.toList = []) : rdE s c = none := by
  refine rdE_none (fun e he => ?_)
  have := he.2
  rw [h] at this
  exact wr_pos _ _ _ (List.prefix_nil.1 this)
theorem rd_whole {L : List EntryD} (hA : entsAll L = true) (hl : L.length ≤ 20) : (rdAll (wjAt L L.length).1).1 = L ∧ (rdAll (wjAt L L.length).1).2.size = 0 := by
  obtain ⟨s2, h1, h2⟩ := rd_written L 20 7 (wjAt L L.length).1 [] (List.all_eq_true.1 hA) (by rw [wj_all]; simp) hl
  unfold rdAll
  rw [h2, rdF_none (rdE_empty h1)]
  refine ⟨by simp, ?_⟩
  have : s2.data.toList.length = 0 := by rw [h1]; rfl
  rwa [Array.length_toList] at this
/-- What is read of a text stands at its beginning. -/
theorem rd_back : ∀ (f : Nat) (s : ByteArray) (c : Nat), s.data.toList = wfT (rdF f s c).1 c ++ (rdF f s c).2.data.toList
  | 0, s, c => by simp [rdF, wfT]
  | f + 1, s, c => by
    cases h : rdE s c with
    | none => rw [rdF_none h]; simp [wfT]
    | some e =>
      rw [rdF_some h]
      obtain ⟨_, R, hR⟩ := rdE_ok h
      have ih := rd_back f (dropB s (wrT e.kind e.text c).size) (chkE e c)
      rw [dropB_list, ← hR, ← wr_size] at ih
      simp only [List.drop_left] at ih
      rw [← hR, ih]
      simp [wfT]
theorem wfT_take_le (L : List EntryD) (c k : Nat) : (wfT (L.take k) c).length ≤ (wfT L c).length := by
  have := wfT_app (L.drop k) (L.take k) c
  rw [List.take_append_drop] at this
  rw [this, List.length_append]; omega
theorem cut_law {s : ByteArray} {n : Int} (h : (cutR s n).2 = 0) : (rdAll (cutR s n).1).2.size = 0 ∧ (cutR s n).1.size ≤ s.size := by
  unfold cutR at h ⊢
  split at h
  · rename_i hn
    rw [if_pos hn]
    have hb := inB_iff.1 hn
    have hl := rdAll_len s
    have hk : (((rdAll s).1).take n.toNat).length = n.toNat := by rw [List.length_take]; omega
    have h1 := rd_whole (L := ((rdAll s).1).take n.toNat) (ents_take (rdAll_all s) _) (by omega)
    rw [hk] at h1
    refine ⟨h1.2, ?_⟩
    have h2 := wj_all (((rdAll s).1).take n.toNat)
    rw [hk] at h2
    have h3 := wfT_take_le (rdAll s).1 7 n.toNat
    have h4 := rd_back 20 s 7
    have e1 : (wjAt (List.take n.toNat (rdAll s).1) n.toNat).1.data.toList.length = (wjAt (List.take n.toNat (rdAll s).1) n.toNat).1.size := by rw [Array.length_toList]; rfl
    have e2 : s.data.toList.length = s.size := by rw [Array.length_toList]; rfl
    rw [← e1, ← e2, h2]
    have h5 := congrArg List.length h4
    rw [List.length_append] at h5
    change (wfT ((rdAll s).1.take n.toNat) 7).length ≤ _
    have h6 : (wfT (rdF 20 s 7).1 7).length = (wfT (rdAll s).1 7).length := rfl
    omega
  · cases h
theorem last_law {L : List EntryD} {a0 : Int} {a1 : ByteArray} : lastAt (L ++ [⟨a0, a1⟩]) a0 (L ++ [(⟨a0, a1⟩ : EntryD)]).length = (a1, 0) := by
  rw [List.length_append, List.length_singleton, lastAt_succ (by simp)]
  simp
theorem app_law {s : ByteArray} {a0 : Int} {a1 : ByteArray} (h : (wjR ((rdAll s).1 ++ [⟨a0, a1⟩])).2 = 0) :
    (rdAll (wjR ((rdAll s).1 ++ [⟨a0, a1⟩])).1).1 = (rdAll s).1 ++ [⟨a0, a1⟩] ∧ (rdAll (wjR ((rdAll s).1 ++ [⟨a0, a1⟩])).1).2.size = 0 ∧ lastR (wjR ((rdAll s).1 ++ [⟨a0, a1⟩])).1 a0 = (a1, 0) := by
  unfold wjR at h ⊢
  split at h <;> rename_i h1
  · rw [if_pos h1]
    obtain ⟨h2, h3⟩ := entCode_0 h1
    have h4 := rd_whole h2 h3
    refine ⟨h4.1, h4.2, ?_⟩
    unfold lastR
    rw [h4.1]
    exact last_law
  · exact absurd h h1
/-- How many ends of lines. -/
def nlC (l : List UInt8) : Nat := l.count 10
theorem dig_no10 (n : Nat) : ∀ b ∈ Lib.decDigits n, b ≠ 10 := by
  induction n using Nat.strongRecOn with
  | _ n ih =>
    have h1 : ∀ d : Nat, d < 10 → UInt8.ofNat (48 + d) ≠ 10 := by
      intro d hd e
      have := congrArg UInt8.toNat e
      rw [UInt8.toNat_ofNat'] at this
      have e2 : (10 : UInt8).toNat = 10 := rfl
      omega
    rw [Lib.decDigits]
    split
    · intro b hb
      rw [List.mem_singleton.1 hb]
      exact h1 n (by assumption)
    · intro b hb
      rcases List.mem_append.1 hb with h | h
      · exact ih (n / 10) (by omega) b h
      · rw [List.mem_singleton.1 h]; exact h1 _ (by omega)
theorem wr_line {x : EntryD} {c : Nat} (h : entOk x = true) : ∃ B : List UInt8, (wrT x.kind x.text c).data.toList = B ++ [10] ∧ ∀ b ∈ B, b ≠ 10 := by
  refine ⟨Lib.decDigits x.text.size ++ 58 :: UInt8.ofNat x.kind.toNat :: (x.text.data.toList ++ 58 :: Lib.decDigits (chkT c (bodyT x.kind x.text))), by rw [wr_list]; simp, fun b hb => ?_⟩
  simp only [entOk, isPlainB, plainL, Bool.and_eq_true, decide_eq_true_eq, List.all_eq_true] at h
  obtain ⟨hk, ht, _⟩ := h
  have hk := inB_iff.1 hk
  simp only [List.mem_append, List.mem_cons] at hb
  rcases hb with h | h | h | h | h | h
  · exact dig_no10 _ b h
  · subst h; decide
  · subst h
    intro e
    have := congrArg UInt8.toNat e
    rw [UInt8.toNat_ofNat'] at this
    have e2 : (10 : UInt8).toNat = 10 := rfl
    omega
  · intro e
    have h2 := ht b h
    subst e
    simp [plainC] at h2
  · subst h; decide
  · exact dig_no10 _ b h
theorem nlC_none {B : List UInt8} (h : ∀ b ∈ B, b ≠ 10) : nlC B = 0 := by
  unfold nlC
  rw [List.count_eq_zero]
  exact fun hm => h 10 hm rfl
theorem rd_cut : ∀ (L : List EntryD) (f c : Nat) (s : ByteArray), (∀ x ∈ L, entOk x = true) → s.data.toList <+: wfT L c → L.length ≤ f →
    (rdF f s c).1 = L.take (nlC s.data.toList) ∧ nlC s.data.toList ≤ L.length
  | [], f, c, s, _, h, _ => by
    have h0 : s.data.toList = [] := List.prefix_nil.1 h
    rw [rdF_none (rdE_empty h0), h0]
    simp [nlC]
  | x :: L, f, c, s, hL, h, hf => by
    obtain ⟨g, rfl⟩ : ∃ g, f = g + 1 := ⟨f - 1, by simp at hf; omega⟩
    have hxo := hL x (by simp)
    obtain ⟨B, hB, hB10⟩ := wr_line (c := c) hxo
    by_cases hlen : (wrT x.kind x.text c).data.toList.length ≤ s.data.toList.length
    · have hp : (wrT x.kind x.text c).data.toList <+: s.data.toList := List.prefix_of_prefix_length_le (List.prefix_append _ (wfT L (chkE x c))) h hlen
      obtain ⟨R, hR⟩ := hp
      have hx : rdOk s c x := ⟨hxo, R, hR⟩
      have hd : (dropB s (wrT x.kind x.text c).size).data.toList = R := by
        rw [dropB_list, ← hR, ← wr_size]
        simp
      have hRp : R <+: wfT L (chkE x c) := by
        rw [← hR] at h
        exact (List.prefix_append_right_inj _).1 h
      obtain ⟨i1, i2⟩ := rd_cut L g (chkE x c) (dropB s (wrT x.kind x.text c).size) (fun y hy => hL y (by simp [hy])) (by rw [hd]; exact hRp) (by simpa using hf)
      have hn : nlC s.data.toList = nlC R + 1 := by
        have h0 := nlC_none hB10
        unfold nlC at h0 ⊢
        rw [← hR, hB, List.count_append, List.count_append, h0]
        simp; omega
      rw [rdF_some (rdE_some hx), hn]
      rw [hd] at i1 i2
      exact ⟨by rw [List.take_succ_cons, ← i1], by simpa using i2⟩
    · have hp : s.data.toList <+: (wrT x.kind x.text c).data.toList := List.prefix_of_prefix_length_le h (List.prefix_append _ (wfT L (chkE x c))) (by omega)
      have hpB : s.data.toList <+: B := by
        rw [hB] at hp hlen
        exact List.prefix_of_prefix_length_le hp (List.prefix_append _ _) (by simp at hlen; simp; omega)
      have hs10 : ∀ b ∈ s.data.toList, b ≠ 10 := fun b hb => hB10 b (hpB.subset hb)
      have hn : nlC s.data.toList = 0 := nlC_none hs10
      have he : rdE s c = none := rdE_none (fun e he => by
        obtain ⟨B2, hB2, _⟩ := wr_line (c := c) he.1
        have h2 := he.2
        rw [hB2] at h2
        exact hs10 10 (h2.subset (by simp)) rfl)
      rw [rdF_none he, hn]
      simp
theorem some_law {L : List EntryD} (hA : entsAll L = true) (hl : L.length ≤ 20) (k : Nat) : (rdAll ((wjAt L L.length).1.extract 0 k)).1 = L.take (nlC ((wjAt L L.length).1.data.toList.take k)) ∧ nlC ((wjAt L L.length).1.data.toList.take k) ≤ L.length := by
  have e : ((wjAt L L.length).1.extract 0 k).data.toList = (wjAt L L.length).1.data.toList.take k := by
    rw [ByteArray.data_extract, Array.toList_extract, List.extract_eq_take_drop]; simp
  have := rd_cut L 20 7 ((wjAt L L.length).1.extract 0 k) (List.all_eq_true.1 hA) (by rw [e, wj_all]; exact List.take_prefix _ _) hl
  rw [e] at this
  exact this
theorem nl_step {s : ByteArray} {k : Nat} (hk : k < s.size) : nlC (s.data.toList.take (k + 1)) = nlC (s.data.toList.take k) + if s[k] = 10 then 1 else 0 := by
  have hl : s.data.toList.length = s.size := by rw [Array.length_toList]; rfl
  unfold nlC
  rw [List.take_succ_eq_append_getElem (by omega), List.count_append]
  have e : s.data.toList[k]'(by omega) = s[k] := rfl
  rw [e]
  simp [List.count_singleton]
theorem are_law {L : List EntryD} : (entCode L == 0) = entsOk L := by
  have := ents_code (L := L)
  rw [Bool.eq_iff_iff]
  simp only [beq_iff_eq]
  exact iff_of_eq this
theorem wjR_code (L : List EntryD) : (wjR L).2 = entCode L := by
  unfold wjR
  split <;> simp_all
theorem wjR_ok {L : List EntryD} (h : (wjR L).2 = 0) : (wjR L).1 = (wjAt L L.length).1 ∧ entsAll L = true ∧ L.length ≤ 20 := by
  rw [wjR_code] at h
  exact ⟨by rw [wjR, if_pos h], entCode_0 h⟩
end Go.Proofs.YtdibfppmodeiiaaDoor
