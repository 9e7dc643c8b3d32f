/- Contracts: AreValues of both texts. -/
import Derived.Test.YtilanpmjemlopaaVal2
import Derived.Test.YtilanpmjemlopaaWrd
namespace Go.Proofs.Ytilanpmjemlopaa
open Go.RowKit
set_option linter.unusedVariables false
def valOk (x : ValueD) : Bool := isWordB x.name && (plainS x.text && decide ((x.text.size : Int) ≤ 60))
def GV (V : List ValueD) (k : Nat) : Prop := (∀ j (hj : j < V.length), j < k → valOk V[j] = true) ∧ ∀ j (hj : j < V.length), j < k → ∀ i (hi : i < j), V[i].name ≠ V[j].name
noncomputable def valsOk (V : List ValueD) : Bool := @decide (GV V V.length ∧ V.length ≤ 12) (Classical.propDecidable _)
theorem gv_step {V : List ValueD} {k : Nat} (hk : k < V.length) (H : Hid (GV V k)) (h1 : valOk V[k] = true) (h2 : ∀ i (hi : i < k), V[i].name ≠ V[k].name) : Hid (GV V (k + 1)) := by
  refine ⟨fun j hj hlt => ?_, fun j hj hlt i hi => ?_⟩
  · by_cases e : j = k
    · subst e; exact h1
    · exact H.out.1 j hj (by omega)
  · by_cases e : j = k
    · subst e; exact h2 i hi
    · exact H.out.2 j hj (by omega) i hi
theorem gv_no {V : List ValueD} {k : Nat} (hk : k < V.length) (h : valOk V[k] = false) : valsOk V = false := by
  unfold valsOk
  rw [decide_eq_false_iff_not]
  rintro ⟨⟨h1, _⟩, _⟩
  rw [h1 k hk hk] at h; cases h
theorem gv_dup {V : List ValueD} {k i : Nat} (hk : k < V.length) (hi : i < k) (h : V[i].name = V[k].name) : valsOk V = false := by
  unfold valsOk
  rw [decide_eq_false_iff_not]
  rintro ⟨⟨_, h2⟩, _⟩
  exact h2 k hk hk i hi h
theorem gv_end {V : List ValueD} (H : Hid (GV V V.length)) : valsOk V = decide ((V.length : Int) ≤ 12) := by
  by_cases h : V.length ≤ 12
  · rw [decide_eq_true (show (V.length : Int) ≤ 12 by omega)]
    unfold valsOk
    exact @decide_eq_true _ (Classical.propDecidable _) ⟨H.out, h⟩
  · rw [decide_eq_false (show ¬ (V.length : Int) ≤ 12 by omega)]
    unfold valsOk
    exact @decide_eq_false _ (Classical.propDecidable _) (fun h2 => h h2.2)
theorem fd_spec : ∀ (V : List ValueD) (n : ByteArray) (s : Int) (k : Nat) (hk : k < V.length), V[k].name = n → ∃ j, ∃ (hj : j < V.length), j ≤ k ∧ fdV V n s = s + (j : Int) ∧ V[j].name = n
  | [], n, s, k, hk, _ => by simp at hk
  | x :: V, n, s, k, hk, h => by
    by_cases hx : x.name = n
    · exact ⟨0, by simp, by omega, by rw [fdV, if_pos hx]; simp, hx⟩
    · cases k with
      | zero => exact absurd h hx
      | succ k =>
        obtain ⟨j, hj, h1, h2, h3⟩ := fd_spec V n (s + 1) k (by simpa using hk) h
        refine ⟨j + 1, by simpa using hj, by omega, ?_, h3⟩
        rw [fdV, if_neg hx, h2]; omega
theorem fd_first {V : List ValueD} {k : Nat} (hk : k < V.length) (h : ∀ i (hi : i < k), V[i].name ≠ V[k].name) : fdV V V[k].name 0 = (k : Int) := by
  obtain ⟨j, hj, h1, h2, h3⟩ := fd_spec V V[k].name 0 k hk rfl
  by_cases e : j = k
  · rw [h2, e]; omega
  · exact absurd h3 (h j (by omega))
theorem fd_lt : ∀ (V : List ValueD) (n : ByteArray) (s : Int) (i : Nat) (hi : i < V.length), V[i].name = n → fdV V n s ≤ s + (i : Int) := fun V n s i hi h => by
  obtain ⟨j, hj, h1, h2, h3⟩ := fd_spec V n s i hi h
  omega
theorem valOk_parts {x : ValueD} {a b : Bool} (h1 : isWordB x.name = a) (h2 : plainS x.text = b) : valOk x = (a && (b && decide ((x.text.size : Int) ≤ 60))) := by
  unfold valOk; rw [h1, h2]
set_option maxRecDepth 100000 in
set_option maxHeartbeats 4000000 in
theorem spec_AreValues (A : Option Addr) (c : Nat) (V : List ValueD) (w : World) (hr : Rd w w.heap.size A (V.length * 2) (V.flatMap valueC)) (hl : V.length ≤ 140737488355328) (hcap : V.length ≤ c) (hW : ∀ x ∈ V, ValueW x) :
    Calls Try.prog 43 #[.slice A V.length c] w fun e w' => e = .returned (.bool (valsOk V)) ∧ Below w.heap.size w w' := by
  have HR := Lib.hid hr; have HW := Lib.hid hW; clear hr hW
  go_enter Try.func43, Try.ntmps43
  go_wp2
  go_loopw [3] (fun i wr => ∃ k : Nat, k ≤ V.length ∧ i = .int .i64 k ∧ Hid (GV V k) ∧ Below w.heap.size w wr) (fun i _ => V.length - (intOf i).toNat)
  case atStart => exact ⟨0, by omega, rfl, ⟨fun j hj h => by omega, fun j hj h => by omega⟩, Below.refl _ _⟩
  case round =>
    obtain ⟨k, hk, rfl, HG, hB⟩ := hrel
    by_cases hlt : k < V.length
    · obtain ⟨bf, offf, rfl, hbf, hcf⟩ := Rd.elem valueC 2 (fun _ => rfl) (rdW hB HR.out) (by omega) hlt
      have f0 : wr.cell? ⟨bf, offf + k * 2, none⟩ = some (.string V[k].name) := hcf k hlt 0 _ rfl
      have f1 : wr.cell? ⟨bf, offf + k * 2 + 1, none⟩ = some (.string V[k].text) := hcf k hlt 1 _ rfl
      clear hcf
      have hki : (k : Int) < (V.length : Int) := by omega
      have hk0 : (0 : Int) ≤ (k : Int) := by omega
      have hxw := HW.out _ (List.getElem_mem hlt)
      obtain ⟨hxn, hxt⟩ := hxw
      unfold maxLen at hxn hxt
      have HFD := Lib.hid (fun (W : World) (hb : Below wr.heap.size wr W) => l28Find_c (some ⟨bf, offf, none⟩) c V V[k].name W (rdW hb (rdW hB HR.out)) hl hcap)
      cases hw : isWordB V[k].name with
      | false =>
        have HN := Lib.hid (gv_no hlt (by rw [valOk_parts hw rfl]; rfl))
        generalize V[k].name = x at *
        generalize V[k].text = y at *
        go_wp2_with (first | (go_at_call 47; refine (spec_IsWord _ _ _ (by omega) hw).mono ?_; rintro e w' ⟨rfl, rfl⟩))
        go_ret
        exact ⟨by rw [HN.out]; rfl, by repeat (first | exact hB | refine Below.alloc ?_ (by have := hB.size; (try simp); omega) _)⟩
      | true =>
        cases hp : plainS V[k].text with
        | false =>
          have HN := Lib.hid (gv_no hlt (by rw [valOk_parts hw hp]; rfl))
          generalize V[k].name = x at *
          generalize V[k].text = y at *
          go_wp2_with (first | (go_at_call 47; refine (spec_IsWord _ _ _ (by omega) hw).mono ?_; rintro e w' ⟨rfl, rfl⟩) | (go_at_call 68; refine (l28Plain_c _ _ _ (by omega) hp).mono ?_; rintro e w' ⟨rfl, rfl⟩))
          go_ret
          exact ⟨by rw [HN.out]; rfl, by repeat (first | exact hB | refine Below.alloc ?_ (by have := hB.size; (try simp); omega) _)⟩
        | true =>
          by_cases h60 : (V[k].text.size : Int) ≤ 60
          · have hok : valOk V[k] = true := by rw [valOk_parts hw hp, decide_eq_true h60]; rfl
            have h60' : ¬ (60 : Int) < (V[k].text.size : Int) := by omega
            by_cases hd : ∃ i, ∃ (hi : i < k), V[i].name = V[k].name
            · obtain ⟨i, hi, he⟩ := hd
              have HN := Lib.hid (gv_dup hlt hi he)
              have hne : fdV V V[k].name 0 ≠ (k : Int) := by have := fd_lt V V[k].name 0 i (by omega) he; omega
              generalize fdV V V[k].name 0 = q at *
              have hqb : (q != (k : Int)) = true := bne_iff_ne.2 hne
              clear he hok
              generalize V[k].name = x at *
              generalize V[k].text = y at *
              go_wp2_with (first | (go_at_call 47; refine (spec_IsWord _ _ _ (by omega) hw).mono ?_; rintro e w' ⟨rfl, rfl⟩) | (go_at_call 68; refine (l28Plain_c _ _ _ (by omega) hp).mono ?_; rintro e w' ⟨rfl, rfl⟩) | (go_at_call 49; refine (HFD.out _ ((Below.refl _ _).alloc (Nat.le_refl _) _)).mono ?_; rintro e w' ⟨rfl, rfl⟩))
              go_ret
              exact ⟨by rw [HN.out]; rfl, by repeat (first | exact hB | refine Below.alloc ?_ (by have := hB.size; (try simp); omega) _)⟩
            · have hnd : ∀ i (hi : i < k), V[i].name ≠ V[k].name := fun i hi he => hd ⟨i, hi, he⟩
              have HN := gv_step hlt HG hok hnd
              have hq := fd_first hlt hnd
              rw [hq] at HFD
              clear hd hnd hq hok
              generalize V[k].name = x at *
              generalize V[k].text = y at *
              go_wp2_with (first | (go_at_call 47; refine (spec_IsWord _ _ _ (by omega) hw).mono ?_; rintro e w' ⟨rfl, rfl⟩) | (go_at_call 68; refine (l28Plain_c _ _ _ (by omega) hp).mono ?_; rintro e w' ⟨rfl, rfl⟩) | (go_at_call 49; refine (HFD.out _ ((Below.refl _ _).alloc (Nat.le_refl _) _)).mono ?_; rintro e w' ⟨rfl, rfl⟩))
              go_roundw
              case rel => exact ⟨k + 1, by omega, by go_num, HN, by repeat (first | exact hB | refine Below.alloc ?_ (by have := hB.size; (try simp); omega) _)⟩
              case measure => first | (simp [intOf]; done) | (simp [intOf]; omega)
          · have HN := Lib.hid (gv_no hlt (by rw [valOk_parts hw hp, decide_eq_false h60]; rfl))
            have h60' : (60 : Int) < (V[k].text.size : Int) := by omega
            generalize V[k].name = x at *
            generalize V[k].text = y at *
            go_wp2_with (first | (go_at_call 47; refine (spec_IsWord _ _ _ (by omega) hw).mono ?_; rintro e w' ⟨rfl, rfl⟩) | (go_at_call 68; refine (l28Plain_c _ _ _ (by omega) hp).mono ?_; rintro e w' ⟨rfl, rfl⟩))
            go_ret
            exact ⟨by rw [HN.out]; rfl, by repeat (first | exact hB | refine Below.alloc ?_ (by have := hB.size; (try simp); omega) _)⟩
    · obtain rfl : k = V.length := by omega
      have HN := Lib.hid (gv_end HG)
      go_wp2
      go_ret
      exact ⟨by rw [HN.out]; rfl, hB⟩
end Go.Proofs.Ytilanpmjemlopaa
