/- Contracts: entries of journals: isEntry, entriesCode, AreEntries of both texts. -/
import Derived.Test.YtdibfppmodeiiaaDoorEntry
import Derived.Test.YtdibfppmodeiiaaDoorText
import Derived.OpenShut
namespace Go.Proofs.YtdibfppmodeiiaaDoor
open Go.RowKit
set_option linter.unusedVariables false
def entOk (x : EntryD) : Bool := inB x.kind 65 90 && isPlainB x.text 40
def entsAll (L : List EntryD) : Bool := L.all entOk
def entsOk (L : List EntryD) : Bool := entsAll L && decide (L.length ≤ 20)
def entCode (L : List EntryD) : Int := if entsAll L then (if L.length ≤ 20 then 0 else 3) else 1
theorem u8_bds {x : Int} (h : (Lit.int .u8 x).wf = true) : 0 ≤ x ∧ x ≤ 255 := by
  exact bounds_u8 h
theorem ents_false {L : List EntryD} {k : Nat} (hk : k < L.length) (h : entOk L[k] = false) : entsAll L = false := by
  unfold entsAll
  rw [← Bool.not_eq_true, List.all_eq_true]
  intro hh
  have := hh _ (List.getElem_mem hk)
  rw [h] at this; cases this
theorem ents_true {L : List EntryD} (h : ∀ j (hj : j < L.length), entOk L[j] = true) : entsAll L = true := by
  unfold entsAll
  rw [List.all_eq_true]; intro x hx
  obtain ⟨i, hi, rfl⟩ := List.getElem_of_mem hx
  exact h i hi
theorem ents_step {L : List EntryD} {k : Nat} (hk : k < L.length) (H : Hid (∀ j (hj : j < L.length), j < k → entOk L[j] = true)) (h : entOk L[k] = true) : Hid (∀ j (hj : j < L.length), j < k + 1 → entOk L[j] = true) := fun j hj hlt => by
  by_cases e : j = k
  · subst e; exact h
  · exact H.out j hj (by omega)
theorem ents_code {L : List EntryD} : (entCode L = 0) = (entsOk L = true) := by
  unfold entCode entsOk
  cases entsAll L
  · simp
  · by_cases h : L.length ≤ 20 <;> simp [h]

theorem isEntry_b (a0 : Int) (a1 : ByteArray) (b : Bool) (w : World) (hk : 0 ≤ a0 ∧ a0 ≤ 255) (hs : a1.size ≤ 9223372036854775807) (h : entOk ⟨a0, a1⟩ = b) : Calls Tryd.prog 52 #[.agg #[.int .u8 a0, .string a1]] w fun e w' => e = .returned (.bool b) ∧ Below w.heap.size w w' := by
  have HB := Lib.hid h; clear h
  go_enter Tryd.func52, Tryd.ntmps52
  go_wp2_with (first | (go_at_call 39; refine (within_b _ _ _ _ _ rfl).mono ?_; rintro e w' ⟨rfl, rfl⟩) | (go_at_call 61; refine (isPlain_b _ _ _ _ (by assumption) rfl).mono ?_; rintro e w' ⟨rfl, rfl⟩))
  all_goals (go_ret; exact ⟨ret_bool (by rw [← HB.out]; unfold entOk; simp_all), (Below.refl _ _).alloc (Nat.le_refl _) _⟩)
set_option maxHeartbeats 1000000 in
theorem l33Is_b (a0 : Int) (a1 : ByteArray) (b : Bool) (w : World) (hk : 0 ≤ a0 ∧ a0 ≤ 255) (hs : a1.size ≤ 9223372036854775807) (h : entOk ⟨a0, a1⟩ = b) : Calls Tryd.prog 60 #[.agg #[.int .u8 a0, .string a1]] w fun e w' => e = .returned (.bool b) ∧ Below w.heap.size w w' := by
  have HB := Lib.hid h; clear h
  go_enter Tryd.func60, Tryd.ntmps60
  go_wp2
  go_loop [3] (fun i => ∃ k : Nat, k ≤ a1.size ∧ i = .int .i64 k ∧ Hid (∀ j (hj : j < a1.size), j < k → plainC a1[j] = true)) (fun i => a1.size - (intOf i).toNat)
  case atStart => exact ⟨0, by omega, rfl, fun j _ hj => absurd hj (by omega)⟩
  case round =>
    obtain ⟨k, hk, rfl, HT⟩ := hrel
    by_cases hlt : k < a1.size
    · have HL : Hid (plainC a1[k] = (decide (32 ≤ a1[k].toNat) && decide (a1[k].toNat ≤ 126))) := rfl
      go_wp2
      all_goals first
        | (go_ret
           exact ⟨ret_bool (by rw [← HB.out]; unfold entOk isPlainB plainL; rw [all_bytes_false hlt (by rw [HL.out]; simp; omega)]; simp), (Below.refl _ _).alloc (Nat.le_refl _) _⟩)
        | (go_round
           case rel => exact ⟨k + 1, by omega, by go_num, all_bytes_step hlt HT (by rw [HL.out]; simp; omega)⟩
           case measure => simp [intOf]; omega)
    · obtain rfl : k = a1.size := by omega
      have HF := Lib.hid (all_bytes_true fun j hj => HT.out j hj hj)
      go_wp2
      all_goals (go_ret; exact ⟨ret_bool (by rw [← HB.out]; unfold entOk isPlainB plainL inB; rw [HF.out]; simp_all <;> omega), (Below.refl _ _).alloc (Nat.le_refl _) _⟩)

set_option maxHeartbeats 4000000 in
theorem entriesCode_c (A : Option Addr) (c : Nat) (L : List EntryD) (w : World) (hr : Rd w w.heap.size A (L.length * 2) (L.flatMap entryC)) (hl : L.length ≤ 140737488355328) (hcap : L.length ≤ c) (hW : ∀ x ∈ L, EntryW x) :
    Calls Tryd.prog 37 #[.slice A L.length c] w fun e w' => e = .returned (.int .i64 (entCode L)) ∧ Below w.heap.size w w' := by
  have HW := Lib.hid hW; clear hW
  go_enter Tryd.func37, Tryd.ntmps37
  go_wp2
  go_loopw [7] (fun i wr => ∃ k : Nat, k ≤ L.length ∧ i = .int .i64 k ∧ Below w.heap.size w wr ∧ Hid (∀ j (hj : j < L.length), j < k → entOk L[j] = true)) (fun i _ => L.length - (intOf i).toNat)
  case atStart => exact ⟨0, by omega, rfl, Below.refl _ _, fun j _ hj => absurd hj (by omega)⟩
  case round =>
    obtain ⟨k, hk, rfl, hB, HT⟩ := hrel
    by_cases hlt : k < L.length
    · obtain ⟨bf, offf, rfl, hbf, hcf⟩ := Rd.elem entryC 2 (fun _ => rfl) (rdW hB hr) (by omega) hlt
      have f0 : wr.cell? ⟨bf, offf + k * 2, none⟩ = some (.int .u8 L[k].kind) := hcf k hlt 0 _ rfl
      have f1 : wr.cell? ⟨bf, offf + k * 2 + 1, none⟩ = some (.string L[k].text) := hcf k hlt 1 _ rfl
      obtain ⟨hu, hs⟩ := HW.out _ (List.getElem_mem hlt)
      unfold maxLen at hs
      have hu8 := u8_bds hu
      clear hu hcf
      have HF0 : Hid (entOk L[k] = false → entsAll L = false) := fun h => ents_false hlt h
      have HF1 : Hid (entOk L[k] = true → Hid (∀ j (hj : j < L.length), j < k + 1 → entOk L[j] = true)) := fun h => ents_step hlt HT h
      cases hm : entOk L[k]
      all_goals
        generalize L[k] = x at *
        obtain ⟨x0, x1⟩ := x
        go_wp2_with fail
        generalize hW1 : wr.alloc _ = W1
        have hbW1 : Below wr.heap.size wr W1 := by subst hW1; exact (Below.refl _ _).alloc (Nat.le_refl _) _
        have hsW1 : W1.heap.size = wr.heap.size + 1 := by subst hW1; simp
        have cxW1_0 : ∀ i, W1.cell? ⟨wr.heap.size, i, none⟩ = (#[.int .u8 x0, .string x1] : Array Value)[i]? := by intro i; subst hW1; simp [go_sem]
        have HSW1 := Lib.hid hsW1; clear hW1 hsW1
        have hbb := bt hB hbW1
        go_wp2_with fail
        refine (isEntry_b _ _ _ _ hu8 (by omega) hm).mono ?_
        rintro e w1 ⟨rfl, hb1⟩
        have hB1 := bt hbb hb1
        have HM := Lib.hid hm; clear hm
        go_wp2
      · go_ret
        exact ⟨ret_int (by rw [entCode, HF0.out HM.out]; rfl), hB1⟩
      · go_roundw
        case rel => exact ⟨k + 1, by omega, by go_num, hB1, HF1.out HM.out⟩
        case measure => simp [intOf]; omega
    · have hkl : k = L.length := by omega
      subst hkl
      have HF := Lib.hid (ents_true fun j hj => HT.out j hj hj)
      clear hlt HT
      by_cases h20 : (L.length : Int) ≤ 20
      · have h20B : decide ((L.length : Int) ≤ 20) = true := decide_eq_true h20
        go_wp2_with (first | (go_at_call 43; refine (few_b _ _ _ _ h20B).mono ?_; rintro e w' ⟨rfl, rfl⟩))
        go_ret
        exact ⟨ret_int (by rw [entCode, HF.out, if_pos rfl, if_pos (by omega)]), hB⟩
      · have h20B : decide ((L.length : Int) ≤ 20) = false := decide_eq_false h20
        go_wp2_with (first | (go_at_call 43; refine (few_b _ _ _ _ h20B).mono ?_; rintro e w' ⟨rfl, rfl⟩))
        go_ret
        exact ⟨ret_int (by rw [entCode, HF.out, if_pos rfl, if_neg (by omega)]), hB⟩

set_option maxHeartbeats 4000000 in
theorem l33All_c (A : Option Addr) (c : Nat) (L : List EntryD) (b : Bool) (w : World) (hr : Rd w w.heap.size A (L.length * 2) (L.flatMap entryC)) (hl : L.length ≤ 140737488355328) (hcap : L.length ≤ c) (hW : ∀ x ∈ L, EntryW x) (h : entsAll L = b) :
    Calls Tryd.prog 48 #[.slice A L.length c] w fun e w' => e = .returned (.bool b) ∧ Below w.heap.size w w' := by
  have HB := Lib.hid h; have HW := Lib.hid hW; clear h hW
  go_enter Tryd.func48, Tryd.ntmps48
  go_wp2
  go_loopw [3] (fun i wr => ∃ k : Nat, k ≤ L.length ∧ i = .int .i64 k ∧ Below w.heap.size w wr ∧ Hid (∀ j (hj : j < L.length), j < k → entOk L[j] = true)) (fun i _ => L.length - (intOf i).toNat)
  case atStart => exact ⟨0, by omega, rfl, Below.refl _ _, fun j _ hj => absurd hj (by omega)⟩
  case round =>
    obtain ⟨k, hk, rfl, hB, HT⟩ := hrel
    by_cases hlt : k < L.length
    · obtain ⟨bf, offf, rfl, hbf, hcf⟩ := Rd.elem entryC 2 (fun _ => rfl) (rdW hB hr) (by omega) hlt
      have f0 : wr.cell? ⟨bf, offf + k * 2, none⟩ = some (.int .u8 L[k].kind) := hcf k hlt 0 _ rfl
      have f1 : wr.cell? ⟨bf, offf + k * 2 + 1, none⟩ = some (.string L[k].text) := hcf k hlt 1 _ rfl
      obtain ⟨hu, hs⟩ := HW.out _ (List.getElem_mem hlt)
      unfold maxLen at hs
      have hu8 := u8_bds hu
      have hk' : (k : Int) < L.length := by omega
      clear hu hcf
      have HF0 : Hid (entOk L[k] = false → entsAll L = false) := fun h => ents_false hlt h
      have HF1 : Hid (entOk L[k] = true → Hid (∀ j (hj : j < L.length), j < k + 1 → entOk L[j] = true)) := fun h => ents_step hlt HT h
      cases hm : entOk L[k]
      all_goals
        generalize L[k] = x at *
        obtain ⟨x0, x1⟩ := x
        go_wp2_with fail
        refine (l33Is_b _ _ _ _ hu8 (by omega) hm).mono ?_
        rintro e w1 ⟨rfl, hb1⟩
        have hB1 := bt hB hb1
        have HM := Lib.hid hm; clear hm
        go_wp2
      · go_ret
        exact ⟨ret_bool (by rw [← HB.out, HF0.out HM.out]), hB1⟩
      · go_roundw
        case rel => exact ⟨k + 1, by omega, by go_num, hB1, HF1.out HM.out⟩
        case measure => simp [intOf]; omega
    · have hkl : k = L.length := by omega
      subst hkl
      have HF := Lib.hid (ents_true fun j hj => HT.out j hj hj)
      clear hlt HT
      go_wp2
      go_ret
      exact ⟨ret_bool (by rw [← HB.out, HF.out]), hB⟩

theorem impl_AreEntries (A : Option Addr) (c : Nat) (L : List EntryD) (b : Bool) (w : World) (hr : Rd w w.heap.size A (L.length * 2) (L.flatMap entryC)) (hl : L.length ≤ 140737488355328) (hcap : L.length ≤ c) (hW : ∀ x ∈ L, EntryW x) (h : entsOk L = b) :
    Calls Tryd.prog 24 #[.slice A L.length c] w fun e w' => e = .returned (.bool b) ∧ Below w.heap.size w w' := by
  have HC := entriesCode_c A c L w hr hl hcap hW
  have hE : Hid ((entCode L == 0) = b) := by
    unfold Hid; rw [← h, Bool.eq_iff_iff, beq_iff_eq, ents_code]
  generalize entCode L = q at *
  go_enter Tryd.func24, Tryd.ntmps24
  go_wp2_with fail
  refine HC.mono ?_
  rintro e w1 ⟨rfl, hb1⟩
  go_wp2
  go_ret
  exact ⟨ret_bool hE.out, hb1⟩

theorem l33Code_c (A : Option Addr) (c : Nat) (L : List EntryD) (w : World) (hr : Rd w w.heap.size A (L.length * 2) (L.flatMap entryC)) (hl : L.length ≤ 140737488355328) (hcap : L.length ≤ c) (hW : ∀ x ∈ L, EntryW x) :
    Calls Tryd.prog 33 #[.slice A L.length c] w fun e w' => e = .returned (.int .i64 (entCode L)) ∧ Below w.heap.size w w' := by
  cases hT : entsAll L
  all_goals
    have HC := l33All_c A c L _ w hr hl hcap hW hT
    have HT := Lib.hid hT
    clear hT
    by_cases h20 : (L.length : Int) ≤ 20
    all_goals
      go_enter Tryd.func33, Tryd.ntmps33
      go_wp2_with fail
      refine HC.mono ?_
      rintro e w1 ⟨rfl, hb1⟩
      go_wp2
      go_ret
      exact ⟨ret_int (by rw [entCode, HT.out]; simp <;> omega), hb1⟩
end Go.Proofs.YtdibfppmodeiiaaDoor
