/- Plain: a number that is written is parsed again; a line of the console. -/
import Derived.Test.YtjfohggompnkeaaDoorDec
import Derived.Lib.ParseIntB
import Derived.Lib.ParseIntBTie
import Derived.Lib.Bytealg
namespace Go.Proofs.YtjfohggompnkeaaDoor
open Go.RowKit
set_option linter.unusedVariables false
theorem ba_ext {a b : ByteArray} (h : a.data.toList = b.data.toList) : a = b := ba_ext_ h
theorem parse_snoc : ∀ (l : List UInt8) (acc v : Nat) (c : UInt8), Lib.parseUint10 acc l = .ok v → Lib.parseUint10 acc (l ++ [c]) = Lib.parseUint10 v [c]
  | [], acc, v, c, h => by
    rw [Lib.parseUint10] at h
    injection h with h
    rw [h]; rfl
  | b :: l, acc, v, c, h => by
    rw [Lib.parseUint10] at h
    rw [List.cons_append, Lib.parseUint10]
    split at h
    · rename_i h1
      rw [if_pos h1]
      split at h
      · cases h
      · rename_i h2
        rw [if_neg h2]
        split at h
        · cases h
        · rename_i h3
          rw [if_neg h3]
          exact parse_snoc l _ v c h
    · cases h
theorem parse_digit {acc d : Nat} (hd : d < 10) (ha : acc < 1000000000000000) : Lib.parseUint10 acc [UInt8.ofNat (48 + d)] = .ok (acc * 10 + d) := by
  have e : (UInt8.ofNat (48 + d)).toNat = 48 + d := by rw [UInt8.toNat_ofNat']; omega
  rw [Lib.parseUint10, e, if_pos (by omega), if_neg (by omega), if_neg (by omega), Lib.parseUint10]
  congr 1; omega
theorem parse_dec : ∀ n : Nat, n < 10000000000000 → Lib.parseUint10 0 (Lib.decDigits n) = .ok n := by
  intro n
  induction n using Nat.strongRecOn with
  | _ n ih =>
    intro hn
    rw [Lib.decDigits]
    split
    · rw [parse_digit (by assumption) (by omega)]; congr 1; omega
    · rw [parse_snoc _ _ _ _ (ih (n / 10) (by omega) (by omega)), parse_digit (by omega) (by omega)]
      congr 1; omega
theorem dec_cons (n : Nat) : ∃ c r, Lib.decDigits n = c :: r ∧ 48 ≤ c.toNat ∧ c.toNat ≤ 57 := by
  induction n using Nat.strongRecOn with
  | _ n ih =>
    rw [Lib.decDigits]
    split
    · exact ⟨_, [], rfl, by rw [UInt8.toNat_ofNat']; omega, by rw [UInt8.toNat_ofNat']; omega⟩
    · obtain ⟨c, r, e, h1, h2⟩ := ih (n / 10) (by omega)
      rw [e]
      exact ⟨c, _, rfl, h1, h2⟩
theorem parse_back {n : Nat} (h : n < 10000000000000) : Lib.parseIntB 64 (Lib.decDigits n) = .ok (n : Int) := by
  rw [Lib.parseIntB_64]
  have hp := parse_dec n h
  obtain ⟨c, r, e, h1, h2⟩ := dec_cons n
  rw [e] at hp ⊢
  have hm : Lib.parseMag (c :: r) = .ok n := by rw [Lib.parseMag, if_neg (by simp)]; exact hp
  simp only [Lib.atoiAll]
  rw [if_neg (by omega), hm]
  simp only []
  rw [if_neg (by omega)]
  split
  · omega
  · rw [if_neg (by omega)]
/-- A text is a number of at most thirteen digits, as it is written. -/
def isNum (s : ByteArray) (n : Nat) : Prop := n < 10000000000000 ∧ s = decT n
theorem dec_len : ∀ (k n : Nat), n < 10 ^ (k + 1) → (Lib.decDigits n).length ≤ k + 1
  | 0, n, h => by rw [Lib.decDigits_one (by simpa using h)]; simp
  | k + 1, n, h => by
    rw [Lib.decDigits]
    split
    · simp
    · rw [List.length_append, List.length_singleton]
      have := dec_len k (n / 10) (by rw [Nat.pow_succ] at h; omega)
      omega
theorem dec_big : ∀ (k n : Nat), 10 ^ k ≤ n → k + 1 ≤ (Lib.decDigits n).length
  | 0, n, h => by
    obtain ⟨c, r, e, _, _⟩ := dec_cons n
    rw [e]; simp
  | k + 1, n, h => by
    rw [Lib.decDigits]
    rw [Nat.pow_succ] at h
    have hk : 1 ≤ 10 ^ k := Nat.one_le_pow _ _ (by omega)
    rw [dif_neg (by omega), List.length_append, List.length_singleton]
    have := dec_big k (n / 10) (by omega)
    omega
theorem isNum_size {s : ByteArray} {n : Nat} (h : isNum s n) : 1 ≤ s.size ∧ s.size ≤ 13 := by
  obtain ⟨h1, rfl⟩ := h
  have e : (decT n).size = (Lib.decDigits n).length := rfl
  obtain ⟨c, r, ec, _, _⟩ := dec_cons n
  have := dec_len 12 n h1
  rw [e]
  exact ⟨by rw [ec]; simp, this⟩
theorem isNum_of {n : Nat} (h : (decT n).size ≤ 13) : isNum (decT n) n := by
  refine ⟨?_, rfl⟩
  have e : (decT n).size = (Lib.decDigits n).length := rfl
  by_cases hn : n < 10000000000000
  · exact hn
  · have := dec_big 13 n (by omega)
    omega
theorem isNum_uniq {s : ByteArray} {n m : Nat} (h : isNum s n) (k : isNum s m) : n = m := by
  have e : Lib.decDigits n = Lib.decDigits m := by
    have := h.2.symm.trans k.2
    have h2 := congrArg (fun (x : ByteArray) => x.data.toList) this
    simpa [decT] using h2
  have h1 := parse_dec n h.1
  rw [e, parse_dec m k.1] at h1
  injection h1 with h1
  exact h1.symm
end Go.Proofs.YtjfohggompnkeaaDoor
