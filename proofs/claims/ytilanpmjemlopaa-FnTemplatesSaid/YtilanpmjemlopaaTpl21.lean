/- Contracts: spec.IsTemplate, l28Code, spec.MissingOf. -/
import Derived.Test.YtilanpmjemlopaaTpl20
namespace Go.Proofs.Ytilanpmjemlopaa
open Go.RowKit
set_option linter.unusedVariables false
theorem plainC_iff {c : UInt8} : plainC c = true ↔ 32 ≤ c.toNat ∧ c.toNat ≤ 126 := by unfold plainC; simp
theorem tpl_no1 {s : ByteArray} (h : plainL s = false) : (tplOf s).isSome = false := by unfold tplOf isPlainB; rw [h]; rfl
theorem tpl_no2 {s : ByteArray} (h : aS [] s.data.toList = none) : (tplOf s).isSome = false := by
  cases hp : plainL s with
  | false => exact tpl_no1 hp
  | true =>
    rw [aS_plain [] hp] at h
    unfold tplOf
    split
    · cases hr : rtQ specC s.data.toList with
      | none => rfl
      | some T => rw [hr] at h; cases h
    · rfl
theorem tpl_yes {s : ByteArray} {d : AD} (hp : plainL s = true) (h : aS [] s.data.toList = some d) : (tplOf s).isSome = decide ((s.size : Int) ≤ 600) := by
  rw [aS_plain [] hp] at h
  cases hr : rtQ specC s.data.toList with
  | none => rw [hr] at h; cases h
  | some T =>
    unfold tplOf isPlainB
    rw [hp, hr, Bool.true_and]
    by_cases h6 : (s.size : Int) ≤ 600
    · rw [decide_eq_true h6]; rfl
    · rw [decide_eq_false h6]; rfl
set_option maxRecDepth 100000 in
set_option maxHeartbeats 4000000 in
theorem spec_IsTemplate (s : ByteArray) (w : World) (hs : s.size ≤ 1100000) : Calls Try.prog 42 #[.string s] w fun e w' => e = .returned (.bool (tplOf s).isSome) ∧ Below w.heap.size w w' := by
  go_enter Try.func42, Try.ntmps42
  go_wp2
  go_loop [3] (fun i => ∃ k : Nat, k ≤ s.size ∧ i = .int .i64 k ∧ Hid (∀ j (hj : j < s.size), j < k → plainC s[j] = true)) (fun i => s.size - (intOf i).toNat)
  case atStart => exact ⟨0, by omega, rfl, fun j hj h => by omega⟩
  case round =>
    obtain ⟨k, hk, rfl, HT⟩ := hrel
    by_cases hlt : k < s.size
    · have hki : (k : Int) < (s.size : Int) := by omega
      have hk0 : (0 : Int) ≤ (k : Int) := by omega
      cases hg : plainC s[k] with
      | true =>
        have HN := all_bytes_step hlt HT hg
        obtain ⟨a1, a2⟩ := plainC_iff.1 hg
        have b1 : ¬ ((s[k].toNat : Nat) : Int) < 32 := by omega
        have b2 : ¬ (126 : Int) < ((s[k].toNat : Nat) : Int) := by omega
        clear a1 a2 hg
        go_wp2
        go_round
        case rel => exact ⟨k + 1, by omega, by go_num, HN⟩
        case measure => first | (simp [intOf]; done) | (simp [intOf]; omega)
      | false =>
        have HF := Lib.hid (tpl_no1 (show plainL s = false from all_bytes_false (p := plainC) hlt hg))
        have hbad : ¬ (32 ≤ s[k].toNat ∧ s[k].toNat ≤ 126) := fun h => by rw [plainC_iff.2 h] at hg; cases hg
        have b8 : ((s[k].toNat : Nat) : Int) < 32 ∨ (¬ ((s[k].toNat : Nat) : Int) < 32 ∧ (126 : Int) < ((s[k].toNat : Nat) : Int)) := by omega
        clear hg hbad
        rcases b8 with b8 | ⟨b8, b9⟩
        · go_wp2
          go_ret
          exact ⟨by rw [HF.out]; rfl, Below.refl _ _⟩
        · go_wp2
          go_ret
          exact ⟨by rw [HF.out]; rfl, Below.refl _ _⟩
    · obtain rfl : k = s.size := by omega
      have HP := Lib.hid (show plainL s = true from all_bytes_true (p := plainC) (fun j hj => HT.out j hj hj))
      clear HT
      go_wp2_with fail
      refine (l28All_c s none 0 [] w hs ⟨rfl, fun h => absurd h (by simp)⟩ (by simp) (by simp) (fun x hx => by cases hx)).mono ?_
      intro e w2 h2
      rcases h2 with ⟨hf, rfl, hb2⟩ | ⟨d, A, c, A', c', A2, c2, hf, rfl, _, _, _, hb2⟩
      · have HF := Lib.hid (tpl_no2 hf)
        have HB := Lib.hid hb2
        clear hf hb2
        go_wp2
        go_ret
        exact ⟨by rw [HF.out]; rfl, HB.out⟩
      · have HF := Lib.hid (tpl_yes HP.out hf)
        have HB := Lib.hid hb2
        clear hf hb2
        go_wp2
        go_ret
        exact ⟨by rw [HF.out]; rfl, HB.out⟩
theorem missE_code {s : ByteArray} {V : List ValueD} : missE s V = if (tplOf s).isSome = true then (if valsOk V = true then 0 else 1) else 6 := by
  unfold missE
  cases tplOf s <;> rfl
set_option maxRecDepth 100000 in
set_option maxHeartbeats 4000000 in
theorem l28Code_c (s : ByteArray) (A : Option Addr) (c : Nat) (V : List ValueD) (w : World) (hs : s.size ≤ 1100000) (hr : Rd w w.heap.size A (V.length * 2) (V.flatMap valueC)) (hl : V.length ≤ 140737488355328) (hcap : V.length ≤ c) (hW : ∀ x ∈ V, ValueW x) :
    Calls Try.prog 27 #[.string s, .slice A V.length c] w fun e w' => e = .returned (.int .i64 (missE s V)) ∧ Below w.heap.size w w' := by
  have HR := Lib.hid hr; have HW := Lib.hid hW
  have HM := Lib.hid (missE_code (s := s) (V := V))
  clear hr hW
  go_enter Try.func27, Try.ntmps27
  go_wp2_with fail
  refine (spec_IsTemplate s w hs).mono ?_
  rintro e w2 ⟨rfl, hb2⟩
  cases ht : (tplOf s).isSome with
  | false =>
    rw [ht, if_neg (by decide)] at HM
    have HB := Lib.hid hb2
    clear hb2 ht
    go_wp2
    go_ret
    exact ⟨by rw [HM.out]; rfl, HB.out⟩
  | true =>
    rw [ht, if_pos rfl] at HM
    have HR2 := Lib.hid (rdW hb2 HR.out)
    have HB := Lib.hid hb2
    clear hb2 ht
    go_wp2_with fail
    refine (spec_AreValues A c V w2 HR2.out hl hcap HW.out).mono ?_
    rintro e w3 ⟨rfl, hb3⟩
    have HB3 := Lib.hid (bt HB.out hb3)
    clear hb3
    cases hv : valsOk V with
    | false =>
      rw [hv, if_neg (by decide)] at HM
      go_wp2
      go_ret
      exact ⟨by rw [HM.out]; rfl, HB3.out⟩
    | true =>
      rw [hv, if_pos rfl] at HM
      go_wp2
      go_ret
      exact ⟨by rw [HM.out]; rfl, HB3.out⟩
theorem valsOk_B {V : List ValueD} (h : valsOk V = true) : ValB V := fun x hx => by
  unfold valsOk at h
  have h := @of_decide_eq_true _ (Classical.propDecidable _) h
  obtain ⟨i, hi, rfl⟩ := List.getElem_of_mem hx
  have := h.1.1 i hi hi
  unfold valOk at this
  simp only [Bool.and_eq_true, decide_eq_true_eq] at this
  omega
theorem missE_0 {s : ByteArray} {V : List ValueD} (h : missE s V = 0) : ∃ T, tplOf s = some T ∧ valsOk V = true := by
  unfold missE at h
  cases ht : tplOf s with
  | none => rw [ht] at h; cases h
  | some T =>
    rw [ht] at h
    cases hv : valsOk V with
    | false => rw [hv] at h; cases h
    | true => exact ⟨T, rfl, rfl⟩
theorem missN_bad {s : ByteArray} {V : List ValueD} (h : missE s V ≠ 0) : missN s V = [] := by
  unfold missE at h
  unfold missN
  cases ht : tplOf s with
  | none => rfl
  | some T =>
    rw [ht] at h
    cases hv : valsOk V with
    | false => rfl
    | true => rw [hv] at h; exact absurd rfl h
set_option maxRecDepth 100000 in
set_option maxHeartbeats 4000000 in
theorem spec_MissingOf (s : ByteArray) (A : Option Addr) (c : Nat) (V : List ValueD) (w : World) (hs : s.size ≤ 1100000) (hr : Rd w w.heap.size A (V.length * 2) (V.flatMap valueC)) (hl : V.length ≤ 140737488355328) (hcap : V.length ≤ c) (hW : ∀ x ∈ V, ValueW x) :
    Calls Try.prog 6 #[.string s, .slice A V.length c] w (MissP s V w) := by
  have HR := Lib.hid hr; have HW := Lib.hid hW
  clear hr hW
  go_enter Try.func6, Try.ntmps6
  go_wp2_with fail
  refine (l28Code_c s A c V w hs HR.out hl hcap HW.out).mono ?_
  rintro e w2 ⟨rfl, hb2⟩
  have HR2 := Lib.hid (rdW hb2 HR.out)
  have HB := Lib.hid hb2
  clear hb2
  by_cases h0 : missE s V = 0
  · obtain ⟨T, ht, hv⟩ := missE_0 h0
    have HVB := Lib.hid (valsOk_B hv)
    have HA := Lib.hid (aS_tpl (V := V) ht)
    have HM := Lib.hid (miss_3 ht hv)
    rw [h0]
    clear ht hv h0
    go_wp2_with fail
    refine (l28All_c s A c V w2 hs HR2.out hl hcap HVB.out).mono ?_
    intro e w3 h3
    rcases h3 with ⟨hf, rfl, hb3⟩ | ⟨d, A1, c1, A', c', A2, c2, hf, rfl, _, _, ho3, hb3⟩
    · rw [HA.out] at hf; cases hf
    · rw [HA.out] at hf
      cases hf
      have HO := Lib.hid ho3
      have HB3 := Lib.hid (bt HB.out hb3)
      have hz := HB.out.size
      clear hb3 ho3
      go_wp2
      go_ret2
      unfold MissP
      rw [HM.out.1, HM.out.2]
      exact rowPost2_mk (own_mono HO.out hz) HB3.out
  · have HM := Lib.hid (missN_bad h0)
    have HMP : Hid (MissP s V w = RowPost2 9 1 (missN s V).length ((missN s V).map Value.string) (missE s V) w) := rfl
    generalize missE s V = q at *
    have hq : ((q : Int) == 0) = false := beq_eq_false_iff_ne.2 h0
    go_wp2
    go_ret2
    rw [HMP.out, HM.out]
    exact rowPost2_nil HB.out
end Go.Proofs.Ytilanpmjemlopaa
