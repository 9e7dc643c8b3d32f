/- Plain lemmas on a source of drawn numbers beside other memory. -/
import Derived.Test.YtiamignopfhkfaaGreatDoorZSrc
namespace Go.Proofs.YtiamignopfhkfaaGreatDoor
open Go.RowKit
theorem Src.lt {W : World} {B g : Nat} (h : Src W B g) : g < W.heap.size := by obtain ⟨_, _, _, _, _, _, h, _⟩ := h; exact h
theorem Src.ge {W : World} {B g : Nat} (h : Src W B g) : B ≤ g := by obtain ⟨_, _, _, _, _, h, _⟩ := h; exact h
theorem Src.below {w W : World} {B g : Nat} (h : Src w B g) (hb : Below w.heap.size w W) : Src W B g := by
  obtain ⟨A, c, L, p, q, hB, hl, f0, f1, f2, fz, hp, hq, hL, hc, hr, hx⟩ := h
  refine ⟨A, c, L, p, q, hB, Nat.lt_of_lt_of_le hl hb.size, (hb.cell (p := ⟨g, 0, none⟩) hl).trans f0, (hb.cell (p := ⟨g, 1, none⟩) hl).trans f1, (hb.cell (p := ⟨g, 2, none⟩) hl).trans f2, fun i => (hb.frozen (p := ⟨g, i, none⟩) hl).trans (fz i), hp, hq, hL, hc, hr.below (hb.mono (by omega)), hx⟩
/-- Another row than the source's is written. -/
theorem Src.other {w W : World} {B g : Nat} {row : Option Nat} (h : Src w B g) (hg : w.grownBy W row) (hne : ∀ k, row = some k → B ≤ k ∧ k ≠ g) : Src W B g := by
  obtain ⟨A, c, L, p, q, hB, hl, f0, f1, f2, fz, hp, hq, hL, hc, hr, hx⟩ := h
  have hn : some g ≠ row := fun e => (hne g e.symm).2 rfl
  exact ⟨A, c, L, p, q, hB, Nat.lt_of_lt_of_le hl hg.size, hg.cell f0 hn, hg.cell f1 hn, hg.cell f2 hn, fun i => (hg.frozen_far ⟨g, i, none⟩ hl hn).trans (fz i), hp, hq, hL, hc, ⟨hr.1, fun h0 => by
    obtain ⟨b, off, e, hb, hcc⟩ := hr.2 h0
    exact ⟨b, off, e, hb, fun j u hu => hg.cell (hcc j u hu) (show some b ≠ row from fun h => by have := (hne b h.symm).1; omega)⟩⟩, hx⟩
/-- A store to a box of the call's own. -/
theorem grown_own {w W : World} {row : Option Nat} (h : w.grownBy W row) {b : Nat} (hb : w.heap.size ≤ b) (j : Nat) (u : Value) : w.grownBy (W.setCell ⟨b, j, none⟩ u) row :=
  ⟨h.os, h.tape, h.output, by simpa [World.setCell] using h.size, fun i hi hne => (Below.heap_setCell W ⟨b, j, none⟩ u i (by rintro rfl; omega)).trans (h.block i hi hne)⟩
theorem Src.setOther {W : World} {B g b : Nat} (h : Src W B g) (hb : B ≤ b) (hne : b ≠ g) (j : Nat) (u : Value) : Src (W.setCell ⟨b, j, none⟩ u) B g :=
  h.other (row := some b) (grown_set (World.grownBy.refl _ _)) (fun k hk => by injection hk with hk; subst hk; exact ⟨hb, hne⟩)
theorem grown_next {a b c : World} {g : Nat} (h : a.grownBy b (some g)) (k : b.grownBy c (some g)) : a.grownBy c (some g) := grown_trans' h k
theorem pick_box {W : World} {b : Nat} {L : List Int} (cx : ∀ i, W.cell? ⟨b, i, none⟩ = ((L.map (Value.int .i64)).toArray : Array Value)[i]?) : ∀ (k : Nat) (h : k < L.length), W.cell? ⟨b, 0 + k, none⟩ = some (.int .i64 L[k]) := fun k h => by
  rw [Nat.zero_add, cx k]; simp [h]
end Go.Proofs.YtiamignopfhkfaaGreatDoor
