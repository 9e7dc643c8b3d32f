/- Contracts: textOf, l28Find, l28Plain: values by name, plain texts without the five special bytes. -/
import Derived.Test.YtilanpmjemlopaaVal
import Derived.Test.YtilanpmjemlopaaText
import Derived.Deep.CutRange
namespace Go.Proofs.Ytilanpmjemlopaa
open Go.RowKit
set_option linter.unusedVariables false
def txtOf : List ValueD → ByteArray → Option ByteArray
  | [], _ => none
  | x :: V, n => if x.name = n then some x.text else txtOf V n
def fdV : List ValueD → ByteArray → Int → Int
  | [], _, _ => -1
  | x :: V, n, i => if x.name = n then i else fdV V n (i + 1)
theorem txt_hit {V : List ValueD} {n : ByteArray} {k : Nat} (hk : k < V.length) (H : Hid (txtOf V n = txtOf (V.drop k) n)) (h : V[k].name = n) : txtOf V n = some V[k].text := by
  rw [H.out, List.drop_eq_getElem_cons hk, txtOf, if_pos h]
theorem txt_miss {V : List ValueD} {n : ByteArray} {k : Nat} (hk : k < V.length) (H : Hid (txtOf V n = txtOf (V.drop k) n)) (h : ¬ V[k].name = n) : Hid (txtOf V n = txtOf (V.drop (k + 1)) n) := by
  unfold Hid
  rw [H.out, List.drop_eq_getElem_cons hk, txtOf, if_neg h]
theorem txt_end {V : List ValueD} {n : ByteArray} (H : Hid (txtOf V n = txtOf (V.drop V.length) n)) : txtOf V n = none := by
  rw [H.out, List.drop_of_length_le (Nat.le_refl _)]; rfl
theorem fd_hit {V : List ValueD} {n : ByteArray} {k : Nat} (hk : k < V.length) (H : Hid (fdV V n 0 = fdV (V.drop k) n (k : Int))) (h : V[k].name = n) : fdV V n 0 = (k : Int) := by
  rw [H.out, List.drop_eq_getElem_cons hk, fdV, if_pos h]
theorem fd_miss {V : List ValueD} {n : ByteArray} {k : Nat} (hk : k < V.length) (H : Hid (fdV V n 0 = fdV (V.drop k) n (k : Int))) (h : ¬ V[k].name = n) : Hid (fdV V n 0 = fdV (V.drop (k + 1)) n ((k + 1 : Nat) : Int)) := by
  unfold Hid
  rw [H.out, List.drop_eq_getElem_cons hk, fdV, if_neg h]; rfl
theorem fd_end {V : List ValueD} {n : ByteArray} (H : Hid (fdV V n 0 = fdV (V.drop V.length) n (V.length : Int))) : fdV V n 0 = -1 := by
  rw [H.out, List.drop_of_length_le (Nat.le_refl _)]; rfl
theorem nameNe {a b : ByteArray} (h : ¬ a = b) : (a.toList == b.toList) = false := by
  rw [beq_eq_false_iff_ne]
  intro e
  rw [Go.ByteArray.toList_eq, Go.ByteArray.toList_eq] at e
  exact h (ba_ext e)
set_option maxRecDepth 100000 in
set_option maxHeartbeats 2000000 in
theorem textOf_c (A : Option Addr) (c : Nat) (V : List ValueD) (n : ByteArray) (w : World) (hr : Rd w w.heap.size A (V.length * 2) (V.flatMap valueC)) (hl : V.length ≤ 140737488355328) (hcap : V.length ≤ c) :
    Calls Try.prog 59 #[.slice A V.length c, .string n] w fun e w' => e = .returned (.tuple #[.string ((txtOf V n).getD ⟨#[]⟩), .bool (txtOf V n).isSome]) ∧ Below w.heap.size w w' := by
  have HR := Lib.hid hr; clear hr
  go_enter Try.func59, Try.ntmps59
  go_wp2
  go_loopw [10] (fun i wr => ∃ k : Nat, k ≤ V.length ∧ i = .int .i64 k ∧ Hid (txtOf V n = txtOf (V.drop k) n) ∧ Below w.heap.size w wr) (fun i _ => V.length - (intOf i).toNat)
  case atStart => exact ⟨0, by omega, rfl, rfl, Below.refl _ _⟩
  case round =>
    obtain ⟨k, hk, rfl, HT, hB⟩ := hrel
    by_cases hlt : k < V.length
    · obtain ⟨bf, offf, rfl, hbf, hcf⟩ := Rd.elem valueC 2 (fun _ => rfl) (rdW hB HR.out) (by omega) hlt
      have f0 : wr.cell? ⟨bf, offf + k * 2, none⟩ = some (.string V[k].name) := hcf k hlt 0 _ rfl
      have f1 : wr.cell? ⟨bf, offf + k * 2 + 1, none⟩ = some (.string V[k].text) := hcf k hlt 1 _ rfl
      clear hcf
      have hki : (k : Int) < (V.length : Int) := by omega
      have hk0 : (0 : Int) ≤ (k : Int) := by omega
      by_cases he : V[k].name = n
      · have HH := Lib.hid (txt_hit hlt HT he)
        rw [he] at f0
        generalize V[k].text = y at *
        clear he
        go_wp2
        go_ret2
        exact ⟨by rw [HH.out]; rfl, by repeat (first | exact hB | refine Below.alloc ?_ (by have := hB.size; (try simp); omega) _)⟩
      · have HH := txt_miss hlt HT he
        have hne := nameNe he
        generalize V[k].name = x at *
        generalize V[k].text = y at *
        go_wp2
        go_roundw
        case rel => exact ⟨k + 1, by omega, by go_num, HH, by repeat (first | exact hB | refine Below.alloc ?_ (by have := hB.size; (try simp); omega) _)⟩
        case measure => first | (simp [intOf]; done) | (simp [intOf]; omega)
    · obtain rfl : k = V.length := by omega
      have HH := Lib.hid (txt_end HT)
      go_wp2
      go_ret2
      exact ⟨by rw [HH.out]; rfl, hB⟩
set_option maxRecDepth 100000 in
set_option maxHeartbeats 2000000 in
theorem l28Find_c (A : Option Addr) (c : Nat) (V : List ValueD) (n : ByteArray) (w : World) (hr : Rd w w.heap.size A (V.length * 2) (V.flatMap valueC)) (hl : V.length ≤ 140737488355328) (hcap : V.length ≤ c) :
    Calls Try.prog 49 #[.slice A V.length c, .string n] w fun e w' => e = .returned (.int .i64 (fdV V n 0)) ∧ w = w' := by
  have HR := Lib.hid hr; clear hr
  go_enter Try.func49, Try.ntmps49
  go_wp2
  go_loop [5] (fun i => ∃ k : Nat, k ≤ V.length ∧ i = .int .i64 k ∧ Hid (fdV V n 0 = fdV (V.drop k) n (k : Int))) (fun i => V.length - (intOf i).toNat)
  case atStart => exact ⟨0, by omega, rfl, rfl⟩
  case round =>
    obtain ⟨k, hk, rfl, HT⟩ := hrel
    by_cases hlt : k < V.length
    · obtain ⟨bf, offf, rfl, hbf, hcf⟩ := Rd.elem valueC 2 (fun _ => rfl) (HR.out) (by omega) hlt
      have f0 : w.cell? ⟨bf, offf + k * 2, none⟩ = some (.string V[k].name) := hcf k hlt 0 _ rfl
      have f1 : w.cell? ⟨bf, offf + k * 2 + 1, none⟩ = some (.string V[k].text) := hcf k hlt 1 _ rfl
      clear hcf f1
      have hki : (k : Int) < (V.length : Int) := by omega
      have hk0 : (0 : Int) ≤ (k : Int) := by omega
      by_cases he : V[k].name = n
      · have HH := Lib.hid (fd_hit hlt HT he)
        rw [he] at f0
        clear he
        go_wp2
        go_ret
        exact ⟨by rw [HH.out]; rfl, by trivial⟩
      · have HH := fd_miss hlt HT he
        have hne := nameNe he
        generalize V[k].name = x at *
        go_wp2
        go_round
        case rel => exact ⟨k + 1, by omega, by go_num, HH⟩
        case measure => first | (simp [intOf]; done) | (simp [intOf]; omega)
    · obtain rfl : k = V.length := by omega
      have HH := Lib.hid (fd_end HT)
      go_wp2
      go_ret
      exact ⟨by rw [HH.out]; rfl, by trivial⟩
/-- One of the five special bytes. -/
def specC (c : UInt8) : Bool := c == 123 || c == 125 || c == 91 || c == 93 || c == 124
def okC (c : UInt8) : Bool := plainC c && !specC c
def plainS (s : ByteArray) : Bool := s.data.toList.all okC
theorem okC_iff {c : UInt8} : okC c = true ↔ (32 ≤ c.toNat ∧ c.toNat ≤ 126) ∧ c.toNat ≠ 123 ∧ c.toNat ≠ 125 ∧ c.toNat ≠ 91 ∧ c.toNat ≠ 93 ∧ c.toNat ≠ 124 := by
  have e : ∀ n : Nat, n < 256 → ((c == UInt8.ofNat n) = true ↔ c.toNat = n) := fun n hn => by
    rw [beq_iff_eq, ← UInt8.toNat_inj, UInt8.toNat_ofNat', Nat.mod_eq_of_lt (by omega)]
  have h1 := e 123 (by omega); have h2 := e 125 (by omega); have h3 := e 91 (by omega); have h4 := e 93 (by omega); have h5 := e 124 (by omega)
  unfold okC specC plainC
  simp only [Bool.and_eq_true, decide_eq_true_eq, Bool.not_eq_true', Bool.or_eq_false_iff]
  simp only [← Bool.not_eq_true]
  rw [show (123 : UInt8) = UInt8.ofNat 123 from rfl, show (125 : UInt8) = UInt8.ofNat 125 from rfl, show (91 : UInt8) = UInt8.ofNat 91 from rfl, show (93 : UInt8) = UInt8.ofNat 93 from rfl, show (124 : UInt8) = UInt8.ofNat 124 from rfl, h1, h2, h3, h4, h5]
  constructor
  · rintro ⟨⟨a, b⟩, ⟨⟨⟨c1, c2⟩, c3⟩, c4⟩, c5⟩; exact ⟨⟨a, b⟩, c1, c2, c3, c4, c5⟩
  · rintro ⟨⟨a, b⟩, c1, c2, c3, c4, c5⟩; exact ⟨⟨a, b⟩, ⟨⟨⟨c1, c2⟩, c3⟩, c4⟩, c5⟩
set_option maxRecDepth 100000 in
set_option maxHeartbeats 4000000 in
theorem l28Plain_c (s : ByteArray) (b : Bool) (w : World) (hs : s.size ≤ 9223372036854775807) (h : plainS s = b) : Calls Try.prog 68 #[.string s] w fun e w' => e = .returned (.bool b) ∧ w = w' := by
  have HB := Lib.hid h; clear h
  go_enter Try.func68, Try.ntmps68
  go_wp2
  go_loop [3] (fun i => ∃ k : Nat, k ≤ s.size ∧ i = .int .i64 k ∧ Hid (∀ j (hj : j < s.size), j < k → okC s[j] = true)) (fun i => s.size - (intOf i).toNat)
  case atStart => exact ⟨0, by omega, rfl, fun j hj h => by omega⟩
  case round =>
    obtain ⟨k, hk, rfl, HT⟩ := hrel
    by_cases hlt : k < s.size
    · have hki : (k : Int) < (s.size : Int) := by omega
      have hk0 : (0 : Int) ≤ (k : Int) := by omega
      cases hg : okC s[k] with
      | true =>
        have HN := all_bytes_step hlt HT hg
        obtain ⟨⟨a1, a2⟩, a3, a4, a5, a6, a7⟩ := okC_iff.1 hg
        have b1 : ¬ ((s[k].toNat : Nat) : Int) < 32 := by omega
        have b2 : ¬ (126 : Int) < ((s[k].toNat : Nat) : Int) := by omega
        have b3 : (((s[k].toNat : Nat) : Int) == 123) = false := beq_eq_false_iff_ne.2 (by omega)
        have b4 : (((s[k].toNat : Nat) : Int) == 125) = false := beq_eq_false_iff_ne.2 (by omega)
        have b5 : (((s[k].toNat : Nat) : Int) == 91) = false := beq_eq_false_iff_ne.2 (by omega)
        have b6 : (((s[k].toNat : Nat) : Int) == 93) = false := beq_eq_false_iff_ne.2 (by omega)
        have b7 : (((s[k].toNat : Nat) : Int) == 124) = false := beq_eq_false_iff_ne.2 (by omega)
        clear a1 a2 a3 a4 a5 a6 a7 hg
        go_wp2
        go_round
        case rel => exact ⟨k + 1, by omega, by go_num, HN⟩
        case measure => first | (simp [intOf]; done) | (simp [intOf]; omega)
      | false =>
        have HF := Lib.hid (show plainS s = false from all_bytes_false (p := okC) hlt hg)
        have hbad : ¬ ((32 ≤ s[k].toNat ∧ s[k].toNat ≤ 126) ∧ s[k].toNat ≠ 123 ∧ s[k].toNat ≠ 125 ∧ s[k].toNat ≠ 91 ∧ s[k].toNat ≠ 93 ∧ s[k].toNat ≠ 124) := fun h => by rw [okC_iff.2 h] at hg; cases hg
        clear hg
        rcases (show ((s[k].toNat : Nat) : Int) = 123 ∨ ((s[k].toNat : Nat) : Int) = 125 ∨ ((s[k].toNat : Nat) : Int) = 91 ∨ ((s[k].toNat : Nat) : Int) = 93 ∨ ((s[k].toNat : Nat) : Int) = 124 ∨ ((s[k].toNat : Nat) : Int) < 32 ∨ (126 : Int) < ((s[k].toNat : Nat) : Int) by omega) with h | h | h | h | h | h | h
        iterate 5
          · clear hbad
            go_wp2
            go_ret
            exact ⟨by rw [← HB.out, HF.out]; rfl, by trivial⟩
        all_goals
          have b3 : (((s[k].toNat : Nat) : Int) == 123) = false := beq_eq_false_iff_ne.2 (by omega)
          have b4 : (((s[k].toNat : Nat) : Int) == 125) = false := beq_eq_false_iff_ne.2 (by omega)
          have b5 : (((s[k].toNat : Nat) : Int) == 91) = false := beq_eq_false_iff_ne.2 (by omega)
          have b6 : (((s[k].toNat : Nat) : Int) == 93) = false := beq_eq_false_iff_ne.2 (by omega)
          have b7 : (((s[k].toNat : Nat) : Int) == 124) = false := beq_eq_false_iff_ne.2 (by omega)
          have b8 : ((s[k].toNat : Nat) : Int) < 32 ∨ ¬ ((s[k].toNat : Nat) : Int) < 32 := by omega
          clear hbad
          rcases b8 with b8 | b8
          all_goals
            go_wp2
            go_ret
            exact ⟨by rw [← HB.out, HF.out]; rfl, by trivial⟩
    · obtain rfl : k = s.size := by omega
      have HT2 := Lib.hid (show plainS s = true from all_bytes_true (p := okC) (fun j hj => HT.out j hj hj))
      go_wp2
      go_ret
      exact ⟨by rw [← HB.out, HT2.out]; rfl, by trivial⟩
end Go.Proofs.Ytilanpmjemlopaa
