/- Contracts: words, days. -/
import Derived.Test.YtmpdbkkaknmdnaaNum
namespace Go.Proofs.Ytmpdbkkaknmdnaa
open Go.RowKit
def lowB (c : UInt8) : Bool := decide (97 ≤ c.toNat) && decide (c.toNat ≤ 122)
def isWordB (s : ByteArray) : Bool := s.data.toList.all lowB && inB s.size 1 16
theorem word_false {s : ByteArray} {k : Nat} (hk : k < s.size) (h : lowB s[k] = false) : isWordB s = false := by
  have : s.data.toList.all lowB = false := by
    rw [← Bool.not_eq_true, List.all_eq_true]
    intro hh
    have := hh s[k] (by show s.data[k] ∈ s.data.toList; simp)
    rw [h] at this; cases this
  simp [isWordB, this]
theorem word_all {s : ByteArray} (h : ∀ j (hj : j < s.size), lowB s[j] = true) : isWordB s = inB s.size 1 16 := by
  have : s.data.toList.all lowB = true := by
    rw [List.all_eq_true]; intro x hx
    obtain ⟨i, hi, rfl⟩ := List.getElem_of_mem hx
    exact h i (by simpa using hi)
  simp [isWordB, this]
theorem word_len {s : ByteArray} (h : isWordB s = true) : 1 ≤ s.size ∧ s.size ≤ 16 := by
  simp only [isWordB, Bool.and_eq_true] at h
  have := inB_iff.1 h.2
  omega



theorem isDay_b (n : Int) (b : Bool) (w : World) (h : inB n 0 20000 = b) : Calls Try.prog 49 #[.int .i64 n] w fun e w' => e = .returned (.bool b) ∧ w = w' := by
  go_enter Try.func49, Try.ntmps49
  go_wp2_with fail
  refine (within_b _ _ _ _ _ h).mono ?_
  rintro e w' ⟨rfl, rfl⟩
  go_wp2
  go_ret
  exact ⟨rfl, rfl⟩
theorem l02Is_b (n : Int) (b : Bool) (w : World) (h : inB n 0 20000 = b) : Calls Try.prog 44 #[.int .i64 n] w fun e w' => e = .returned (.bool b) ∧ w = w' := by
  go_enter Try.func44, Try.ntmps44
  go_wp2_with fail
  refine (l01In_b _ _ _ _ _ h).mono ?_
  rintro e w' ⟨rfl, rfl⟩
  go_wp2
  go_ret
  exact ⟨rfl, rfl⟩
theorem few_b (n m : Int) (b : Bool) (w : World) (h : decide (n ≤ m) = b) : Calls Try.prog 50 #[.int .i64 n, .int .i64 m] w fun e w' => e = .returned (.bool b) ∧ w = w' := by
  subst h
  go_enter Try.func50, Try.ntmps50
  go_wp2
  go_ret
  exact ⟨rfl, rfl⟩
end Go.Proofs.Ytmpdbkkaknmdnaa
