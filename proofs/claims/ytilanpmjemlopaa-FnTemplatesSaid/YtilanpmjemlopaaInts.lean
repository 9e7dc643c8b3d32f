/- Contracts of the helpers of the laws for []int64: to, eq, mark, held. -/
import Derived.Test.YtilanpmjemlopaaNum
namespace Go.Proofs.Ytilanpmjemlopaa
open Go.RowKit
abbrev intC (L : List Int) : List Value := L.map (Value.int .i64)
theorem int_info : (Try.prog.info? 2).map (fun i => (i.zero, i.size, i.bytes)) = some (some (.int .i64 0), 1, 8) := by kernel_rfl
theorem Rd.ints {w : World} {B : Nat} {A : Option Addr} {L : List Int} (h : Rd w B A L.length (L.map (Value.int .i64))) {k : Nat} (hk : k < L.length) :
    ∃ b off, A = some ⟨b, off, none⟩ ∧ b < B ∧ ∀ i (hi : i < L.length), w.cell? ⟨b, off + i, none⟩ = some (.int .i64 L[i]) := by
  obtain ⟨b, off, e, hb, hc⟩ := h.2 (by omega)
  exact ⟨b, off, e, hb, fun i hi => hc i _ (by simp [List.getElem?_eq_getElem hi])⟩
theorem Rd.of_own1 {w : World} {base : Nat} {e : TypeId} {n c : Nat} {A : Option Addr} {xs : List Value} (h : w.ownsRow base e 1 (.slice A n c) n xs) : Rd w w.heap.size A n xs := by
  have := Rd.of_own h
  rwa [Nat.mul_one] at this
theorem int_step {L : List Int} {ys : List Value} {k : Nat} (hk : k < L.length) (hlen : ys.length = L.length * 1) (h : ys.take k = (L.take k).map (Value.int .i64)) : (ys.set k (.int .i64 L[k])).take (k + 1) = (L.take (k + 1)).map (Value.int .i64) := by
  rw [List.take_add_one, List.getElem?_set_self (by omega), List.take_set_of_le (Nat.le_refl _), h, List.take_succ_eq_append_getElem hk]
  simp only [List.map_append, List.map_cons, List.map_nil]
  rfl
theorem int_end {L : List Int} {ys : List Value} {n : Nat} (hn : L.length = n) (hlen : ys.length = n * 1) (h : ys.take n = (L.take n).map (Value.int .i64)) : ys = L.map (Value.int .i64) := by
  rw [List.take_of_length_le (by omega), List.take_of_length_le (by omega)] at h; exact h




end Go.Proofs.Ytilanpmjemlopaa
