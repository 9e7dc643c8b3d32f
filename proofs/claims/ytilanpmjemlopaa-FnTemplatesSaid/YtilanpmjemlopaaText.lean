/- Contracts: plain texts (isPlain, isText of both texts). -/
import Derived.Test.YtilanpmjemlopaaNum
import Derived.Lib.IndexBytes
namespace Go.Proofs.Ytilanpmjemlopaa
open Go.RowKit
set_option linter.unusedVariables false
def plainC (c : UInt8) : Bool := decide (32 ≤ c.toNat) && decide (c.toNat ≤ 126)
def plainL (s : ByteArray) : Bool := s.data.toList.all plainC
def isPlainB (s : ByteArray) (m : Int) : Bool := plainL s && decide ((s.size : Int) ≤ m)
def noHash (s : ByteArray) : Bool := s.data.toList.all (fun c => c != 35)
def isTextB (s : ByteArray) : Bool := isPlainB s 400 && noHash s
theorem all_bytes_false {s : ByteArray} {p : UInt8 → Bool} {k : Nat} (hk : k < s.size) (h : p s[k] = false) : s.data.toList.all p = false := by
  rw [← Bool.not_eq_true, List.all_eq_true]
  intro hh
  have := hh s[k] (by show s.data[k] ∈ s.data.toList; simp)
  rw [h] at this; cases this
theorem all_bytes_true {s : ByteArray} {p : UInt8 → Bool} (h : ∀ j (hj : j < s.size), p s[j] = true) : s.data.toList.all p = true := by
  rw [List.all_eq_true]; intro x hx
  obtain ⟨i, hi, rfl⟩ := List.getElem_of_mem hx
  exact h i (by simpa using hi)
theorem all_bytes_step {s : ByteArray} {p : UInt8 → Bool} {k : Nat} (hk : k < s.size) (T : Hid (∀ j (hj : j < s.size), j < k → p s[j] = true)) (h : p s[k] = true) : Hid (∀ j (hj : j < s.size), j < k + 1 → p s[j] = true) := fun j hj hlt => by
  by_cases e : j = k
  · subst e; exact h
  · exact T.out j hj (by omega)
theorem text_len {s : ByteArray} (h : isTextB s = true) : s.size ≤ 400 := by
  simp only [isTextB, isPlainB, Bool.and_eq_true, decide_eq_true_eq] at h
  omega

theorem text_eq (s : ByteArray) : isTextB s = (s.data.toList.all (fun c => plainC c && c != 35) && decide ((s.size : Int) ≤ 400)) := by
  have : s.data.toList.all (fun c => plainC c && c != 35) = (plainL s && noHash s) := by
    rw [Bool.eq_iff_iff]
    simp only [plainL, noHash, Bool.and_eq_true, List.all_eq_true]
    exact ⟨fun h => ⟨fun x hx => (h x hx).1, fun x hx => (h x hx).2⟩, fun h x hx => ⟨h.1 x hx, h.2 x hx⟩⟩
  rw [this, isTextB, isPlainB]
  cases plainL s <;> cases noHash s <;> simp
theorem text_false {s : ByteArray} {k : Nat} (hk : k < s.size) (h : (plainC s[k] && s[k] != 35) = false) : isTextB s = false := by
  rw [text_eq, all_bytes_false (p := fun c => plainC c && c != 35) hk h]; rfl
theorem text_all {s : ByteArray} (h : s.data.toList.all (fun c => plainC c && c != 35) = true) : isTextB s = decide ((s.size : Int) ≤ 400) := by
  rw [text_eq, h]; rfl

theorem few_b (n m : Int) (b : Bool) (w : World) (h : decide (n ≤ m) = b) : Calls Try.prog 57 #[.int .i64 n, .int .i64 m] w fun e w' => e = .returned (.bool b) ∧ w = w' := by
  subst h
  go_enter Try.func57, Try.ntmps57
  go_wp2
  go_ret
  exact ⟨rfl, rfl⟩
theorem isPlain_b (s : ByteArray) (m : Int) (b : Bool) (w : World) (hs : s.size ≤ 9223372036854775807) (h : isPlainB s m = b) : Calls Try.prog 50 #[.string s, .int .i64 m] w fun e w' => e = .returned (.bool b) ∧ w = w' := by
  have HB := Lib.hid h; clear h
  go_enter Try.func50, Try.ntmps50
  go_wp2
  go_loop [5] (fun i => ∃ k : Nat, k ≤ s.size ∧ i = .int .i64 k ∧ Hid (∀ j (hj : j < s.size), j < k → plainC s[j] = true)) (fun i => s.size - (intOf i).toNat)
  case atStart => exact ⟨0, by omega, rfl, fun j _ hj => absurd hj (by omega)⟩
  case round =>
    obtain ⟨k, hk, rfl, HT⟩ := hrel
    by_cases hlt : k < s.size
    · have HL : Hid (plainC s[k] = (decide (32 ≤ s[k].toNat) && decide (s[k].toNat ≤ 126))) := rfl
      go_wp2_with fail
      have hbd : (s[k].toNat : Int) < 256 := by have := s[k].toNat_lt; omega
      have hwr : wrap64 (s[k].toNat : Int) = (s[k].toNat : Int) := IntWalk.wrap64_in _ (by omega)
      rw [hwr]
      clear hwr
      generalize hx : s[k] = x at *
      have HX := Lib.hid hx
      clear hx
      cases hp : inB (x.toNat : Int) 32 126
      · have HP := Lib.hid hp
        refine (within_b _ _ _ _ _ hp).mono ?_
        rintro e w' ⟨rfl, rfl⟩
        go_wp2
        go_ret
        exact ⟨ret_bool (by rw [← HB.out, isPlainB, plainL, all_bytes_false hlt (by rw [HX.out, HL.out]; have := inB_niff.1 HP.out; simp; omega)]; rfl), rfl⟩
      · have HP := Lib.hid hp
        refine (within_b _ _ _ _ _ hp).mono ?_
        rintro e w' ⟨rfl, rfl⟩
        go_wp2
        go_round
        case rel => exact ⟨k + 1, by omega, by go_num, all_bytes_step hlt HT (by rw [HX.out, HL.out]; have := inB_iff.1 HP.out; simp; omega)⟩
        case measure => simp [intOf]; omega
    · obtain rfl : k = s.size := by omega
      have HF := Lib.hid (all_bytes_true fun j hj => HT.out j hj hj)
      go_wp2_with (first | (go_at_call 57; refine (few_b _ _ _ _ rfl).mono ?_; rintro e w' ⟨rfl, rfl⟩))
      go_ret
      exact ⟨ret_bool (by rw [← HB.out, isPlainB, plainL, HF.out]; simp), rfl⟩
theorem tb_false {x : UInt8} (h : x.toNat < 32 ∨ 126 < x.toNat ∨ x.toNat = 35) : ((decide (32 ≤ x.toNat) && decide (x.toNat ≤ 126)) && x != 35) = false := by
  rcases h with h | h | h
  · rw [decide_eq_false (show ¬ 32 ≤ x.toNat by omega)]; rfl
  · rw [decide_eq_false (show ¬ x.toNat ≤ 126 by omega)]; simp
  · have : x = 35 := UInt8.toNat.inj h
    rw [this]; rfl
theorem tb_true {x : UInt8} (h : 32 ≤ x.toNat ∧ x.toNat ≤ 126) (h' : x.toNat ≠ 35) : ((decide (32 ≤ x.toNat) && decide (x.toNat ≤ 126)) && x != 35) = true := by
  rw [decide_eq_true h.1, decide_eq_true h.2]
  have : x ≠ 35 := fun e => h' (by rw [e]; rfl)
  simp [this]
end Go.Proofs.Ytilanpmjemlopaa
