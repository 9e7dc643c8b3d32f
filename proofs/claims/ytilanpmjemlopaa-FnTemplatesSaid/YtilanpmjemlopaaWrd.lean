/- Contracts: words, days. -/
import Derived.Test.YtilanpmjemlopaaNum
namespace Go.Proofs.Ytilanpmjemlopaa
open Go.RowKit
def lowB (c : UInt8) : Bool := decide (97 ≤ c.toNat) && decide (c.toNat ≤ 122)
def isWordB (s : ByteArray) : Bool := s.data.toList.all lowB && inB s.size 1 16
theorem word_false {s : ByteArray} {k : Nat} (hk : k < s.size) (h : lowB s[k] = false) : isWordB s = false := by
  have : s.data.toList.all lowB = false := by
    rw [← Bool.not_eq_true, List.all_eq_true]
    intro hh
    have := hh s[k] (by show s.data[k] ∈ s.data.toList; simp)
    rw [h] at this; cases this
  simp [isWordB, this]
theorem word_all {s : ByteArray} (h : ∀ j (hj : j < s.size), lowB s[j] = true) : isWordB s = inB s.size 1 16 := by
  have : s.data.toList.all lowB = true := by
    rw [List.all_eq_true]; intro x hx
    obtain ⟨i, hi, rfl⟩ := List.getElem_of_mem hx
    exact h i (by simpa using hi)
  simp [isWordB, this]
theorem word_len {s : ByteArray} (h : isWordB s = true) : 1 ≤ s.size ∧ s.size ≤ 16 := by
  simp only [isWordB, Bool.and_eq_true] at h
  have := inB_iff.1 h.2
  omega

theorem impl_IsWord (s : ByteArray) (b : Bool) (w : World) (hs : s.size ≤ 9223372036854775807) (h : isWordB s = b) : Calls Try.prog 53 #[.string s] w fun e w' => e = .returned (.bool b) ∧ w = w' := by
  have HB := Lib.hid h; clear h
  go_enter Try.func53, Try.ntmps53
  go_wp2
  go_loop [3] (fun i => ∃ k : Nat, k ≤ s.size ∧ i = .int .i64 k ∧ Hid (∀ j (hj : j < s.size), j < k → lowB s[j] = true)) (fun i => s.size - (intOf i).toNat)
  case atStart => exact ⟨0, by omega, rfl, fun j _ hj => absurd hj (by omega)⟩
  case round =>
    obtain ⟨k, hk, rfl, HT⟩ := hrel
    by_cases hlt : k < s.size
    · have HL : Hid (lowB s[k] = (decide (97 ≤ s[k].toNat) && decide (s[k].toNat ≤ 122))) := rfl
      go_wp2
      all_goals first
        | (go_ret
           exact ⟨ret_bool (by rw [← HB.out]; exact (word_false hlt (by rw [HL.out]; simp; omega)).symm), rfl⟩)
        | (go_round
           case rel => exact ⟨k + 1, by omega, by go_num, fun j hj h => by
             by_cases e : j = k
             · subst e; rw [HL.out]; simp; omega
             · exact HT.out j hj (by omega)⟩
           case measure => simp [intOf]; omega)
    · obtain rfl : k = s.size := by omega
      have HF := Lib.hid (word_all fun j hj => HT.out j hj hj)
      go_wp2_with (first | (go_at_call 71; refine (within_b _ _ _ _ _ rfl).mono ?_; rintro e w' ⟨rfl, rfl⟩))
      go_ret
      exact ⟨ret_bool (by rw [← HB.out, HF.out]), rfl⟩

theorem spec_IsWord (s : ByteArray) (b : Bool) (w : World) (hs : s.size ≤ 9223372036854775807) (h : isWordB s = b) : Calls Try.prog 47 #[.string s] w fun e w' => e = .returned (.bool b) ∧ w = w' := by
  have HB := Lib.hid h; clear h
  go_enter Try.func47, Try.ntmps47
  go_wp2
  go_loop [3] (fun i => ∃ k : Nat, k ≤ s.size ∧ i = .int .i64 k ∧ Hid (∀ j (hj : j < s.size), j < k → lowB s[j] = true)) (fun i => s.size - (intOf i).toNat)
  case atStart => exact ⟨0, by omega, rfl, fun j _ hj => absurd hj (by omega)⟩
  case round =>
    obtain ⟨k, hk, rfl, HT⟩ := hrel
    by_cases hlt : k < s.size
    · have HL : Hid (lowB s[k] = (decide (97 ≤ s[k].toNat) && decide (s[k].toNat ≤ 122))) := rfl
      go_wp2
      all_goals first
        | (go_ret
           exact ⟨ret_bool (by rw [← HB.out]; exact (word_false hlt (by rw [HL.out]; simp; omega)).symm), rfl⟩)
        | (go_round
           case rel => exact ⟨k + 1, by omega, by go_num, fun j hj h => by
             by_cases e : j = k
             · subst e; rw [HL.out]; simp; omega
             · exact HT.out j hj (by omega)⟩
           case measure => simp [intOf]; omega)
    · obtain rfl : k = s.size := by omega
      have HF := Lib.hid (word_all fun j hj => HT.out j hj hj)
      go_wp2_with (first | (go_at_call 70; refine (l01In_b _ _ _ _ _ rfl).mono ?_; rintro e w' ⟨rfl, rfl⟩))
      go_ret
      exact ⟨ret_bool (by rw [← HB.out, HF.out]), rfl⟩
end Go.Proofs.Ytilanpmjemlopaa
