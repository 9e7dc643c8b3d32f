/- Contract: l01Value, at every number of at most thirteen digits. -/
import Derived.Test.YtjfohggompnkeaaDoorConP
namespace Go.Proofs.YtjfohggompnkeaaDoor
open Go.RowKit
set_option linter.unusedVariables false
def valL (l : List UInt8) : Nat := l.foldl (fun n b => 10 * n + (b.toNat - 48)) 0
theorem valL_app (l : List UInt8) (c : UInt8) : valL (l ++ [c]) = 10 * valL l + (c.toNat - 48) := by
  rw [valL, List.foldl_append]; rfl
theorem valL_snoc {l : List UInt8} {k : Nat} (hk : k < l.length) : valL (l.take (k + 1)) = 10 * valL (l.take k) + ((l.getD k 0).toNat - 48) := by
  rw [List.take_succ_eq_append_getElem hk, valL, List.foldl_append, List.getD_eq_getElem?_getD, List.getElem?_eq_getElem hk]; rfl
theorem dig_at {d : Nat} (h : d < 10) : (UInt8.ofNat (48 + d)).toNat = 48 + d := by rw [UInt8.toNat_ofNat']; omega
theorem val_all (n : Nat) : valL (Lib.decDigits n) = n := by
  induction n using Nat.strongRecOn with
  | _ n ih =>
    rw [Lib.decDigits]
    split
    · show 10 * 0 + ((UInt8.ofNat (48 + n)).toNat - 48) = n
      rw [dig_at (by assumption)]; omega
    · rw [valL_app, ih (n / 10) (by omega), dig_at (by omega)]; omega
theorem dig_all (n : Nat) : ∀ b ∈ Lib.decDigits n, 48 ≤ b.toNat ∧ b.toNat ≤ 57 := by
  induction n using Nat.strongRecOn with
  | _ n ih =>
    rw [Lib.decDigits]
    split
    · intro b hb
      rw [List.mem_singleton.1 hb, dig_at (by assumption)]; omega
    · intro b hb
      rcases List.mem_append.1 hb with h | h
      · exact ih (n / 10) (by omega) b h
      · rw [List.mem_singleton.1 h, dig_at (by omega)]; omega
theorem isNum_list {s : ByteArray} {n : Nat} (h : isNum s n) : s.data.toList = Lib.decDigits n := by
  rw [h.2]; rfl
def ValX (s : ByteArray) (w : World) (e : Ending) (w' : World) : Prop :=
  ∃ (n : Nat) (b : Bool), e = .returned (.tuple #[.int .i64 n, .bool b]) ∧ n ≤ 10000000000000 ∧ (b = true → isNum s n) ∧ (b = false → ∀ m, ¬ isNum s m) ∧ Below w.heap.size w w'
theorem valX_bad {s : ByteArray} {w w' : World} (hb : Below w.heap.size w w') (h : ∀ m : Nat, ¬ isNum s m) : ValX s w (.returned (.tuple #[.int .i64 0, .bool false])) w' :=
  ⟨0, false, rfl, by omega, fun h => (by cases h), fun _ => h, hb⟩
theorem ba_toList_eq' {a b : ByteArray} : (a.toList == b.toList) = true ↔ a = b := by
  rw [beq_iff_eq]
  constructor
  · intro h
    rw [Go.ByteArray.toList_eq, Go.ByteArray.toList_eq] at h
    exact ba_ext h
  · rintro rfl; rfl
theorem ba_len' (s : ByteArray) : s.data.toList.length = s.size := Array.length_toList
theorem pow_bd : ∀ k : Nat, k ≤ 13 → ∀ v : Nat, v < 10 ^ k → v < 10000000000000 := fun k hk v hv => Nat.lt_of_lt_of_le hv (Nat.pow_le_pow_right (by omega) hk)
set_option maxRecDepth 100000 in
set_option maxHeartbeats 1000000 in
theorem l01Value_c (s : ByteArray) (w : World) (hs : s.size ≤ 2000000) : Calls Tryd.prog 10 #[.string s] w (ValX s w) := by
  by_cases hbad : s.size < 1 ∨ 13 < s.size
  · have HNO : Hid (∀ m : Nat, ¬ isNum s m) := fun m h1 => by
      have := isNum_size h1
      omega
    rcases hbad with h | h
    · have h1 : (s.size : Int) < 1 := by omega
      clear h
      go_enter Tryd.func10, Tryd.ntmps10
      go_wp2
      go_ret2
      exact valX_bad (Below.refl _ _) HNO.out
    · have h1 : (13 : Int) < s.size := by omega
      have h2 : ¬ (s.size : Int) < 1 := by omega
      clear h
      go_enter Tryd.func10, Tryd.ntmps10
      go_wp2
      go_ret2
      exact valX_bad (Below.refl _ _) HNO.out
  · have h1 : (1 : Int) ≤ s.size := by omega
    have h2 : (s.size : Int) ≤ 13 := by omega
    clear hbad
    go_enter Tryd.func10, Tryd.ntmps10
    go_wp2
    go_loop [4, 5] (fun v i => ∃ k : Nat, k ≤ s.size ∧ i = .int .i64 k ∧ v = .int .i64 (valL (s.data.toList.take k) : Nat) ∧ Hid (valL (s.data.toList.take k) < 10 ^ k)) (fun _ i => s.size - (intOf i).toNat)
    case atStart => exact ⟨0, by omega, rfl, rfl, by simp [valL, Hid]⟩
    case round =>
      obtain ⟨k, hk, rfl, rfl, HV⟩ := hrel
      by_cases hlt : k < s.size
      · have hv := pow_bd k (by omega) _ HV.out
        have HS := Lib.hid (valL_snoc (l := s.data.toList) (k := k) (by rw [ba_len']; exact hlt))
        have HX : Hid (s.data.toList.getD k 0 = s[k]) := by
          unfold Hid
          rw [List.getD_eq_getElem?_getD, List.getElem?_eq_getElem (by rw [ba_len']; exact hlt)]
          rfl
        have HM : Hid (s[k] ∈ s.data.toList) := by unfold Hid; exact (show s.data[k] ∈ s.data.toList by simp)
        have hk1 : (k : Int) < (s.size : Int) := by omega
        have hbd : (s[k].toNat : Int) < 256 := by have := s[k].toNat_lt; omega
        generalize hqq : valL (s.data.toList.take k) = q at *
        have HQ := Lib.hid hqq
        clear hqq
        by_cases hd : 48 ≤ s[k].toNat ∧ s[k].toNat ≤ 57
        · have hd1 : (48 : Int) ≤ (s[k].toNat : Int) := by omega
          have hd2 : (s[k].toNat : Int) ≤ 57 := by omega
          go_wp2
          go_round
          case rel =>
            refine ⟨k + 1, by omega, by go_num, ?_, ?_⟩
            · rw [HS.out, HX.out]
              congr 1
              omega
            · unfold Hid
              rw [HS.out, HX.out, Nat.pow_succ]
              have := HV.out
              omega
          case measure => simp [intOf]; omega
        · have HNO : Hid (∀ m : Nat, ¬ isNum s m) := fun m h1 => by
            have h3 := HM.out
            rw [isNum_list h1] at h3
            exact hd (dig_all m _ h3)
          rcases (show s[k].toNat < 48 ∨ 57 < s[k].toNat by omega) with h | h
          · have hd1 : (s[k].toNat : Int) < 48 := by omega
            clear h hd
            go_wp2
            go_ret2
            exact valX_bad (Below.refl _ _) HNO.out
          · have hd1 : (57 : Int) < (s[k].toNat : Int) := by omega
            clear h hd
            go_wp2
            go_ret2
            exact valX_bad (Below.refl _ _) HNO.out
      · obtain rfl : k = s.size := by omega
        have hv := pow_bd s.size (by omega) _ HV.out
        have HF : Hid (s.data.toList.take s.size = s.data.toList) := by unfold Hid; rw [List.take_of_length_le (by rw [ba_len']; omega)]
        rw [HF.out] at hv ⊢
        have HP : Hid (∀ m : Nat, isNum s m → decT (valL s.data.toList) = s) := fun m h1 => by
          have h3 : valL s.data.toList = m := by rw [isNum_list h1]; exact val_all m
          rw [h3]; exact h1.2.symm
        clear HV HF
        generalize valL s.data.toList = q at *
        go_wp2_with fail
        refine (l01Dec_c q (by omega) _).mono ?_
        rintro e w1 ⟨rfl, hb1⟩
        go_wp2
        go_ret2
        exact ⟨q, _, rfl, by omega, fun h => (by have h2 := ba_toList_eq'.1 h; rw [← h2]; exact isNum_of (by rw [h2]; omega)), fun h m h1 => (by rw [ba_toList_eq'.2 (HP.out m h1)] at h; cases h), hb1⟩
end Go.Proofs.YtjfohggompnkeaaDoor


