/- Contracts: l01Value. -/
import Derived.Test.YtdibfppmodeiiaaDoorRdP
namespace Go.Proofs.YtdibfppmodeiiaaDoor
open Go.RowKit
set_option linter.unusedVariables false
def valL (l : List UInt8) : Nat := l.foldl (fun n b => 10 * n + (b.toNat - 48)) 0
theorem valL_snoc {l : List UInt8} {k : Nat} (hk : k < l.length) : valL (l.take (k + 1)) = 10 * valL (l.take k) + ((l.getD k 0).toNat - 48) := by
  rw [List.take_succ_eq_append_getElem hk, valL, List.foldl_append, List.getD_eq_getElem?_getD, List.getElem?_eq_getElem hk]; rfl
theorem val_fin : ∀ n : Fin 41, valL (if n.val < 10 then [UInt8.ofNat (48 + n.val)] else [UInt8.ofNat (48 + n.val / 10), UInt8.ofNat (48 + n.val % 10)]) = n.val := by decide +kernel
theorem val_dig {n : Nat} (h : n ≤ 40) : valL (Lib.decDigits n) = n := by
  rw [dig_cases ⟨n, by omega⟩]; exact val_fin ⟨n, by omega⟩
theorem dig_rng : ∀ n : Fin 41, ((if n.val < 10 then [UInt8.ofNat (48 + n.val)] else [UInt8.ofNat (48 + n.val / 10), UInt8.ofNat (48 + n.val % 10)]) : List UInt8).all (fun b => decide (48 ≤ b.toNat) && decide (b.toNat ≤ 57)) = true := by decide +kernel
theorem dig_bds {n : Nat} (h : n ≤ 40) : (1 ≤ (Lib.decDigits n).length ∧ (Lib.decDigits n).length ≤ 2) ∧ ∀ b ∈ Lib.decDigits n, 48 ≤ b.toNat ∧ b.toNat ≤ 57 := by
  have e := dig_cases ⟨n, by omega⟩
  simp only at e
  have := dig_rng ⟨n, by omega⟩
  simp only at this
  rw [← e] at this
  refine ⟨?_, fun b hb => by have := (List.all_eq_true.1 this) b hb; simpa using this⟩
  rw [e]; split <;> simp
def ValPost (s : ByteArray) (w : World) (e : Ending) (w' : World) : Prop :=
  ∃ (n : Nat) (b : Bool), e = .returned (.tuple #[.int .i64 n, .bool b]) ∧ n ≤ 10000000000000 ∧ (∀ m : Nat, m ≤ 40 → s.data.toList = Lib.decDigits m → b = true ∧ n = m) ∧ Below w.heap.size w w'
theorem valPost_bad {s : ByteArray} {w w' : World} (hb : Below w.heap.size w w') (h : ∀ m : Nat, m ≤ 40 → s.data.toList = Lib.decDigits m → False) : ValPost s w (.returned (.tuple #[.int .i64 0, .bool false])) w' :=
  ⟨0, false, rfl, by omega, fun m h1 h2 => (h m h1 h2).elim, hb⟩
theorem ba_toList_eq' {a b : ByteArray} : (a.toList == b.toList) = true ↔ a = b := by
  rw [beq_iff_eq]
  constructor
  · intro h
    rw [Go.ByteArray.toList_eq, Go.ByteArray.toList_eq] at h
    exact ba_ext h
  · rintro rfl; rfl
theorem ba_len' (s : ByteArray) : s.data.toList.length = s.size := Array.length_toList
theorem pow_bd : ∀ k : Nat, k ≤ 13 → ∀ v : Nat, v < 10 ^ k → v < 10000000000000 := fun k hk v hv => Nat.lt_of_lt_of_le hv (Nat.pow_le_pow_right (by omega) hk)
set_option maxRecDepth 100000 in
set_option maxHeartbeats 1000000 in
theorem l01Value_c (s : ByteArray) (w : World) (hs : s.size ≤ 2000000) : Calls Tryd.prog 59 #[.string s] w (ValPost s w) := by
  by_cases hbad : s.size < 1 ∨ 13 < s.size
  · have HNO : Hid (∀ m : Nat, m ≤ 40 → s.data.toList = Lib.decDigits m → False) := fun m h1 h2 => by
      have := (dig_bds h1).1
      have h3 := congrArg List.length h2
      rw [ba_len'] at h3
      omega
    rcases hbad with h | h
    · have h1 : (s.size : Int) < 1 := by omega
      clear h
      go_enter Tryd.func59, Tryd.ntmps59
      go_wp2
      go_ret2
      exact valPost_bad (Below.refl _ _) HNO.out
    · have h1 : (13 : Int) < s.size := by omega
      have h2 : ¬ (s.size : Int) < 1 := by omega
      clear h
      go_enter Tryd.func59, Tryd.ntmps59
      go_wp2
      go_ret2
      exact valPost_bad (Below.refl _ _) HNO.out
  · have h1 : (1 : Int) ≤ s.size := by omega
    have h2 : (s.size : Int) ≤ 13 := by omega
    clear hbad
    go_enter Tryd.func59, Tryd.ntmps59
    go_wp2
    go_loop [4, 5] (fun v i => ∃ k : Nat, k ≤ s.size ∧ i = .int .i64 k ∧ v = .int .i64 (valL (s.data.toList.take k) : Nat) ∧ Hid (valL (s.data.toList.take k) < 10 ^ k)) (fun _ i => s.size - (intOf i).toNat)
    case atStart => exact ⟨0, by omega, rfl, rfl, by simp [valL, Hid]⟩
    case round =>
      obtain ⟨k, hk, rfl, rfl, HV⟩ := hrel
      by_cases hlt : k < s.size
      · have hv := pow_bd k (by omega) _ HV.out
        have HS := Lib.hid (valL_snoc (l := s.data.toList) (k := k) (by rw [ba_len']; exact hlt))
        have HX : Hid (s.data.toList.getD k 0 = s[k]) := by
          unfold Hid
          rw [List.getD_eq_getElem?_getD, List.getElem?_eq_getElem (by rw [ba_len']; exact hlt)]
          rfl
        have HM : Hid (s[k] ∈ s.data.toList) := by unfold Hid; exact (show s.data[k] ∈ s.data.toList by simp)
        have hk1 : (k : Int) < (s.size : Int) := by omega
        have hbd : (s[k].toNat : Int) < 256 := by have := s[k].toNat_lt; omega
        generalize hqq : valL (s.data.toList.take k) = q at *
        have HQ := Lib.hid hqq
        clear hqq
        by_cases hd : 48 ≤ s[k].toNat ∧ s[k].toNat ≤ 57
        · have hd1 : (48 : Int) ≤ (s[k].toNat : Int) := by omega
          have hd2 : (s[k].toNat : Int) ≤ 57 := by omega
          go_wp2
          go_round
          case rel =>
            refine ⟨k + 1, by omega, by go_num, ?_, ?_⟩
            · rw [HS.out, HX.out]
              congr 1
              omega
            · unfold Hid
              rw [HS.out, HX.out, Nat.pow_succ]
              have := HV.out
              omega
          case measure => simp [intOf]; omega
        · have HNO : Hid (∀ m : Nat, m ≤ 40 → s.data.toList = Lib.decDigits m → False) := fun m h1 h2 => by
            have h3 := HM.out
            rw [h2] at h3
            exact hd ((dig_bds h1).2 _ h3)
          rcases (show s[k].toNat < 48 ∨ 57 < s[k].toNat by omega) with h | h
          · have hd1 : (s[k].toNat : Int) < 48 := by omega
            clear h hd
            go_wp2
            go_ret2
            exact valPost_bad (Below.refl _ _) HNO.out
          · have hd1 : (57 : Int) < (s[k].toNat : Int) := by omega
            clear h hd
            go_wp2
            go_ret2
            exact valPost_bad (Below.refl _ _) HNO.out
      · obtain rfl : k = s.size := by omega
        have hv := pow_bd s.size (by omega) _ HV.out
        have HF : Hid (s.data.toList.take s.size = s.data.toList) := by unfold Hid; rw [List.take_of_length_le (by rw [ba_len']; omega)]
        rw [HF.out] at hv ⊢
        have HP : Hid (∀ m : Nat, m ≤ 40 → s.data.toList = Lib.decDigits m → decT (valL s.data.toList) = s ∧ valL s.data.toList = m) := fun m h1 h2 => by
          have h3 : valL s.data.toList = m := by rw [h2]; exact val_dig h1
          exact ⟨by rw [h3]; exact ba_ext (by rw [h2]; rfl), h3⟩
        clear HV HF
        generalize valL s.data.toList = q at *
        go_wp2_with fail
        refine (l01Dec_c q (by omega) _).mono ?_
        rintro e w1 ⟨rfl, hb1⟩
        go_wp2
        go_ret2
        exact ⟨q, _, rfl, by omega, fun m h1 h2 => ⟨ba_toList_eq'.2 (HP.out m h1 h2).1, (HP.out m h1 h2).2⟩, hb1⟩
end Go.Proofs.YtdibfppmodeiiaaDoor

