/- The drawn region of the draw of entries, state by state. -/
import Derived.Test.YtdibfppmodeiiaaDoorDamage
import Derived.Test.YtdibfppmodeiiaaDoorEntry
import Derived.Deep.RegionLaw
import Derived.Deep.RegionHeld3
import Derived.Deep.DeepCutAuto
import Derived.Deep.AppendLies
namespace Go.Proofs.YtdibfppmodeiiaaDoor
open Go.RowKit
set_option linter.unusedVariables false
theorem str_in {L : List ByteArray} {k : Nat} (hk : k < L.length) : ∃ p, ((L.map Value.string).toArray : Array Value)[k]? = some (.string p) ∧ p ∈ L :=
  ⟨L[k], by simp [hk], List.getElem_mem hk⟩
def ents5 : List ByteArray := [{ data := #[] }, { data := #[106, 117, 114, 111, 114, 32, 49, 50, 32, 115, 119, 111, 114, 110] }, { data := #[112, 97, 115, 115] }, { data := #[97, 58, 98, 58, 99] }, { data := #[115, 116, 114, 105, 107, 101, 32, 51] }]
theorem ents5_sz : ∀ p ∈ ents5, p.size ≤ 41 := by decide
theorem ents5_at (k : Nat) (hk : k < 5) : ∃ p : ByteArray, (#[.string { data := #[] }, .string { data := #[106, 117, 114, 111, 114, 32, 49, 50, 32, 115, 119, 111, 114, 110] }, .string { data := #[112, 97, 115, 115] }, .string { data := #[97, 58, 98, 58, 99] }, .string { data := #[115, 116, 114, 105, 107, 101, 32, 51] }] : Array Value)[k]? = some (.string p) ∧ p.size ≤ 41 := by
  obtain ⟨p, h1, h2⟩ := str_in (L := ents5) (k := k) hk
  exact ⟨p, h1, ents5_sz p h2⟩
def ents3 : List ByteArray := [{ data := #[97, 10] }, { data := #[48, 49, 50, 51, 52, 53, 54, 55, 56, 57, 48, 49, 50, 51, 52, 53, 54, 55, 56, 57, 48, 49, 50, 51, 52, 53, 54, 55, 56, 57, 48, 49, 50, 51, 52, 53, 54, 55, 56, 57] }, { data := #[48, 49, 50, 51, 52, 53, 54, 55, 56, 57, 48, 49, 50, 51, 52, 53, 54, 55, 56, 57, 48, 49, 50, 51, 52, 53, 54, 55, 56, 57, 48, 49, 50, 51, 52, 53, 54, 55, 56, 57, 48] }]
theorem ents3_sz : ∀ p ∈ ents3, p.size ≤ 41 := by decide
theorem ents3_at (k : Nat) (hk : k < 3) : ∃ p : ByteArray, (#[.string { data := #[97, 10] }, .string { data := #[48, 49, 50, 51, 52, 53, 54, 55, 56, 57, 48, 49, 50, 51, 52, 53, 54, 55, 56, 57, 48, 49, 50, 51, 52, 53, 54, 55, 56, 57, 48, 49, 50, 51, 52, 53, 54, 55, 56, 57] }, .string { data := #[48, 49, 50, 51, 52, 53, 54, 55, 56, 57, 48, 49, 50, 51, 52, 53, 54, 55, 56, 57, 48, 49, 50, 51, 52, 53, 54, 55, 56, 57, 48, 49, 50, 51, 52, 53, 54, 55, 56, 57, 48] }] : Array Value)[k]? = some (.string p) ∧ p.size ≤ 41 := by
  obtain ⟨p, h1, h2⟩ := str_in (L := ents3) (k := k) hk
  exact ⟨p, h1, ents3_sz p h2⟩
/-- Two cells of a block, none frozen. -/
def Bx (W : World) (b : Nat) (u0 u1 : Value) : Prop := W.cell? ⟨b, 0, none⟩ = some u0 ∧ W.cell? ⟨b, 1, none⟩ = some u1 ∧ ∀ i, W.frozen? ⟨b, i, none⟩ = false
theorem Bx.far {W W' : World} {b g : Nat} {u0 u1 : Value} (h : Bx W b u0 u1) (hg : W.grownBy W' (some g)) (hb : b < W.heap.size) (hne : b ≠ g) : Bx W' b u0 u1 :=
  ⟨(hg.cell_far ⟨b, 0, none⟩ hb (fun e => hne (Option.some.inj e))).trans h.1, (hg.cell_far ⟨b, 1, none⟩ hb (fun e => hne (Option.some.inj e))).trans h.2.1, fun i => (hg.frozen_far ⟨b, i, none⟩ hb (fun e => hne (Option.some.inj e))).trans (h.2.2 i)⟩
theorem Bx.below {W W' : World} {b : Nat} {u0 u1 : Value} (h : Bx W b u0 u1) (hb : Below W.heap.size W W') (hl : b < W.heap.size) : Bx W' b u0 u1 :=
  ⟨(hb.cell (p := ⟨b, 0, none⟩) hl).trans h.1, (hb.cell (p := ⟨b, 1, none⟩) hl).trans h.2.1, fun i => (hb.frozen (p := ⟨b, i, none⟩) hl).trans (h.2.2 i)⟩
theorem Bx.set0 {W : World} {b : Nat} {u0 u1 : Value} (h : Bx W b u0 u1) (x : Value) : Bx (W.setCell ⟨b, 0, none⟩ x) b x u1 :=
  ⟨by simp [go_sem, h.1], by simp [go_sem, h.2.1], fun i => by simp [go_sem, h.2.2 i]⟩
theorem Bx.set1 {W : World} {b : Nat} {u0 u1 : Value} (h : Bx W b u0 u1) (x : Value) : Bx (W.setCell ⟨b, 1, none⟩ x) b u0 x :=
  ⟨by simp [go_sem, h.1], by simp [go_sem, h.2.1], fun i => by simp [go_sem, h.2.2 i]⟩
theorem Bx.other {W : World} {b c j : Nat} {u0 u1 x : Value} (h : Bx W b u0 u1) (hne : b ≠ c) : Bx (W.setCell ⟨c, j, none⟩ x) b u0 u1 :=
  ⟨by simp [go_sem, h.1], by simp [go_sem, h.2.1], fun i => by simp [go_sem, h.2.2 i]⟩
theorem bx_a (W : World) (x y : Value) (t : TypeId) : Bx (W.alloc (.cells #[x, y] t)) W.heap.size x y := ⟨by simp [go_sem], by simp [go_sem], fun i => by simp [go_sem]⟩
theorem bx_d (W : World) (o : Obj) (x y : Value) (t : TypeId) : Bx ((W.alloc o).alloc (.cells #[x, y] t)) (W.heap.size + 1) x y := ⟨by simp [go_sem], by simp [go_sem], fun i => by simp [go_sem]⟩
theorem bx_e (W : World) (o : Obj) (x y : Value) (t : TypeId) : Bx ((W.alloc (.cells #[x, y] t)).alloc o) W.heap.size x y := (bx_a W x y t).below ((Below.refl _ _).alloc (Nat.le_refl _) _) (by simp)
theorem bx_a' (W : World) (x y : Value) (t : TypeId) : Bx (W.drew.alloc (.cells #[x, y] t)) W.heap.size x y := bx_a W.drew x y t
theorem bx_d' (W : World) (o : Obj) (x y : Value) (t : TypeId) : Bx ((W.drew.alloc o).alloc (.cells #[x, y] t)) (W.heap.size + 1) x y := bx_d W.drew o x y t
theorem bx_e' (W : World) (o : Obj) (x y : Value) (t : TypeId) : Bx ((W.drew.alloc (.cells #[x, y] t)).alloc o) W.heap.size x y := bx_e W.drew o x y t
theorem Bx.put {W : World} {b : Nat} {u0 u1 : Value} (h : Bx W b u0 u1) (x y : Value) : Bx ((W.setCell ⟨b, 0, none⟩ x).setCell ⟨b, 1, none⟩ y) b x y := (h.set0 x).set1 y
theorem Bx.putA {W : World} {b : Nat} {u0 u1 : Value} (h : Bx W b u0 u1) (x y : Value) (o : Obj) (hl : b < W.heap.size) : Bx (((W.setCell ⟨b, 0, none⟩ x).setCell ⟨b, 1, none⟩ y).alloc o) b x y := (h.put x y).below ((Below.refl _ _).alloc (Nat.le_refl _) _) (by simpa [World.setCell] using hl)
theorem Bx.allocB {W : World} {b : Nat} {u0 u1 : Value} (h : Bx W b u0 u1) (o : Obj) (hl : b < W.heap.size) : Bx (W.alloc o) b u0 u1 := h.below ((Below.refl _ _).alloc (Nat.le_refl _) _) hl
theorem bx_b {W : World} {b : Nat} {x y : Value} (h0 : (W.cell? ⟨b, 0, none⟩).isSome = true) (h1 : (W.cell? ⟨b, 1, none⟩).isSome = true) (hz : ∀ i, W.frozen? ⟨b, i, none⟩ = false) : Bx ((W.setCell ⟨b, 0, none⟩ x).setCell ⟨b, 1, none⟩ y) b x y := by
  obtain ⟨u0, e0⟩ := Option.isSome_iff_exists.1 h0
  obtain ⟨u1, e1⟩ := Option.isSome_iff_exists.1 h1
  exact (Bx.set0 (u0 := u0) (u1 := u1) ⟨e0, e1, hz⟩ x).set1 y
theorem bx_c {W : World} {b : Nat} {x y : Value} (o : Obj) (h0 : (W.cell? ⟨b, 0, none⟩).isSome = true) (h1 : (W.cell? ⟨b, 1, none⟩).isSome = true) (hz : ∀ i, W.frozen? ⟨b, i, none⟩ = false) (hl : b < W.heap.size) : Bx (((W.setCell ⟨b, 0, none⟩ x).setCell ⟨b, 1, none⟩ y).alloc o) b x y :=
  (bx_b h0 h1 hz).below ((Below.refl _ _).alloc (Nat.le_refl _) _) (by simpa [World.setCell] using hl)
theorem far_frozenD {w w' : World} {g : Nat} (h : w.grownBy w' (some g)) : ∀ (b i : Nat), b < w.heap.size → b ≠ g → w'.frozen? ⟨b, i, none⟩ = w.frozen? ⟨b, i, none⟩ :=
  fun b i h1 h2 => h.frozen_far ⟨b, i, none⟩ h1 (fun e => h2 (Option.some.inj e))
def byteAt (s : ByteArray) (d : Nat) : Int := ((s.data.toList.getD d 0).toNat : Int)
theorem byteAt_bd (s : ByteArray) (d : Nat) : 0 ≤ byteAt s d ∧ byteAt s d ≤ 255 := by
  have := (s.data.toList.getD d 0).toNat_lt
  unfold byteAt
  omega
theorem run_index_at {P : Program} (w : World) (t : TypeId) (s : ByteArray) (d : Nat) (h : P.underlying t = some .string) (hd : d < s.size) :
    (Instr.index t (.string s) (.int .i64 (d : Int))).run P w = .ok (.int .u8 (byteAt s d)) w := by
  rw [run_index_string (w := w) t s _ _ h, dif_pos ⟨by omega, by omega⟩]
  unfold byteAt
  rw [List.getD_eq_getElem?_getD, List.getElem?_eq_getElem (by simpa using hd)]
  rfl
def EntP (B g : Nat) (w : World) (e : Ending) (w' : World) : Prop := ∃ (a0 : Int) (a1 : ByteArray), e = .returned (.agg #[.int .u8 a0, .string a1]) ∧ (0 ≤ a0 ∧ a0 ≤ 255) ∧ a1.size ≤ 41 ∧ Src w' B g ∧ w.grownBy w' (some g)
def regOf (k : Nat) : Code → Option (Array Oper)
  | .region id ops _ => if id = k then some ops else none
  | .seq a b => match regOf k a with
    | some c => some c
    | none => regOf k b
  | .block _ c => regOf k c
  | .scope c => regOf k c
  | .loop c => regOf k c
  | .cond _ a b => match regOf k a with
    | some c => some c
    | none => regOf k b
  | _ => none
/-- The drawn region of l33Entry: its operations, out of the translation. -/
noncomputable def r1ops : Array Oper := (Tryd.f30.body.bind (regOf 1)).getD #[]
def LitAt (w1 W : World) (b : Nat) : Prop := (w1.heap.size ≤ b ∧ b < W.heap.size) ∧ ∀ i, W.cell? ⟨b, i, none⟩ = (#[.string { data := #[] }, .string { data := #[106, 117, 114, 111, 114, 32, 49, 50, 32, 115, 119, 111, 114, 110] }, .string { data := #[112, 97, 115, 115] }, .string { data := #[97, 58, 98, 58, 99] }, .string { data := #[115, 116, 114, 105, 107, 101, 32, 51] }] : Array Value)[i]?
def BoxAt (w1 W : World) (b : Nat) : Prop := (w1.heap.size ≤ b ∧ b < W.heap.size) ∧ Bx W b (.int .u8 0) (.string ⟨#[]⟩)
def SS (B g : Nat) (w1 W : World) : Prop := Src W B g ∧ w1.grownBy W (some g)
theorem LitAt.next {w1 W W' : World} {g b : Nat} (h : LitAt w1 W b) (hg : W.grownBy W' (some g)) (hl : g < w1.heap.size) : LitAt w1 W' b :=
  ⟨⟨h.1.1, Nat.lt_of_lt_of_le h.1.2 hg.size⟩, fun i => (hg.cell_far ⟨b, i, none⟩ h.1.2 (fun e => by have := Option.some.inj e; have := h.1.1; simp only at *; omega)).trans (h.2 i)⟩
theorem LitAt.alloc {w1 W : World} {b : Nat} (h : LitAt w1 W b) (o : Obj) : LitAt w1 (W.alloc o) b :=
  ⟨⟨h.1.1, by have := h.1.2; simp; omega⟩, fun i => (((Below.refl _ W).alloc (Nat.le_refl _) o).cell (p := ⟨b, i, none⟩) h.1.2).trans (h.2 i)⟩
theorem LitAt.new {w1 W : World} (t : TypeId) (h : w1.heap.size ≤ W.heap.size) : LitAt w1 (W.alloc (.cells #[.string { data := #[] }, .string { data := #[106, 117, 114, 111, 114, 32, 49, 50, 32, 115, 119, 111, 114, 110] }, .string { data := #[112, 97, 115, 115] }, .string { data := #[97, 58, 98, 58, 99] }, .string { data := #[115, 116, 114, 105, 107, 101, 32, 51] }] t)) W.heap.size :=
  ⟨⟨h, by simp⟩, fun i => by simp [go_sem]⟩
theorem BoxAt.next {w1 W W' : World} {g b : Nat} (h : BoxAt w1 W b) (hg : W.grownBy W' (some g)) (hl : g < w1.heap.size) : BoxAt w1 W' b :=
  ⟨⟨h.1.1, Nat.lt_of_lt_of_le h.1.2 hg.size⟩, h.2.far hg h.1.2 (by have := h.1.1; omega)⟩
theorem BoxAt.alloc {w1 W : World} {b : Nat} (h : BoxAt w1 W b) (o : Obj) : BoxAt w1 (W.alloc o) b :=
  ⟨⟨h.1.1, by have := h.1.2; simp; omega⟩, h.2.below ((Below.refl _ _).alloc (Nat.le_refl _) _) h.1.2⟩
theorem BoxAt.new {w1 W : World} (t : TypeId) (h : w1.heap.size ≤ W.heap.size) : BoxAt w1 (W.alloc (.cells #[.int .u8 0, .string ⟨#[]⟩] t)) W.heap.size :=
  ⟨⟨h, by simp⟩, bx_a _ _ _ _⟩
theorem SS.alloc {B g : Nat} {w1 W : World} (h : SS B g w1 W) (o : Obj) : SS B g w1 (W.alloc o) :=
  ⟨h.1.below ((Below.refl _ _).alloc (Nat.le_refl _) _), grown_trans' h.2 (grown_of_below ((Below.refl _ _).alloc (Nat.le_refl _) _) _)⟩
theorem SS.put {B g b : Nat} {w1 W : World} {x y : Value} (h : SS B g w1 W) (hb : w1.heap.size ≤ b) (hl : g < w1.heap.size) (hB : B ≤ g) : SS B g w1 ((W.setCell ⟨b, 0, none⟩ x).setCell ⟨b, 1, none⟩ y) :=
  ⟨(h.1.setOther (by omega) (by omega) _ _).setOther (by omega) (by omega) _ _, grown_own (grown_own h.2 hb _ _) hb _ _⟩
theorem SS.drew {B g : Nat} {w1 : World} (h : SS B g w1 w1) : SS B g w1 w1.drew := ⟨h.1, ⟨rfl, rfl, rfl, Nat.le_refl _, fun _ _ _ => rfl⟩⟩
attribute [local go_sem ↓ high] run_index_at
set_option maxRecDepth 100000 in
set_option maxHeartbeats 1000000 in
theorem st_11111 (Q : Exit → Act → World → Prop) (HP : Hid (∀ c a a' (W : World), Q (.panic c) a W → Q (.panic c) a' W)) {B g ws : Nat} {w1 : World} (hBg : B ≤ g) (hgl : g < w1.heap.size) (HF : Hid (∀ (b3 b7 d q : Nat) (p : ByteArray) (W : World), (w1.heap.size ≤ b3 ∧ b3 < W.heap.size) → Bx W b3 (.int .u8 (byteAt { data := #[68, 83, 86] } d)) (.string p) → p.size ≤ 41 → SS B g w1 W → Q .normal ⟨#[.pointer (some ⟨g, 0, none⟩), undef, .pointer (some ⟨ws, 0, none⟩), .pointer (some ⟨b3, 0, none⟩), .pointer (some ⟨g, 0, none⟩), .int .i64 (d : Nat), .int .u8 (byteAt { data := #[68, 83, 86] } d), .slice (some ⟨b7, 0, none⟩) 5 5, .pointer (some ⟨g, 0, none⟩), .int .i64 (q : Nat), .pointer (some ⟨b7, q, none⟩), .string p, .agg #[.int .u8 (byteAt { data := #[68, 83, 86] } d), .string p], undef, undef, undef, undef, undef, undef, undef, undef, undef, undef, undef, undef, undef, undef, undef, undef, undef], []⟩ W)) (W : World) (hS : SS B g w1 W) (d : Nat) (hd : d < 3) (b7 : Nat) (q : Nat) (hq : q < 5) (p : ByteArray) (hps : p.size ≤ 41) (b3 : Nat) (hA : BoxAt w1 W b3) : wpAnyH Tryd.prog .any r1ops Q (SS B g w1) 1 (#[true, true, true, true, true, true, true, true, true, true, false] : Array Bool) ⟨#[.pointer (some ⟨g, 0, none⟩), undef, .pointer (some ⟨ws, 0, none⟩), .pointer (some ⟨b3, 0, none⟩), .pointer (some ⟨g, 0, none⟩), .int .i64 (d : Nat), .int .u8 (byteAt { data := #[68, 83, 86] } d), .slice (some ⟨b7, 0, none⟩) 5 5, .pointer (some ⟨g, 0, none⟩), .int .i64 (q : Nat), .pointer (some ⟨b7, q, none⟩), .string p, .agg #[.int .u8 (byteAt { data := #[68, 83, 86] } d), .string p], undef, undef, undef, undef, undef, undef, undef, undef, undef, undef, undef, undef, undef, undef, undef, undef, undef], []⟩ W := by
  conv => arg 3; whnf
  have hz := hS.2.size
  refine wpAnyH_ready (rs := [10]) (by kernel_rfl) (by simp) ?_
  refine AllReadyH.cons (i := 10) rfl (fun K hK => ?_) ?_
  · obtain ⟨hb3, f0, f1, fz⟩ := hA
    have f00 := fz 0
    have f01 := fz 1
    have hX : Bx W b3 (.int .u8 0) (.string ⟨#[]⟩) := ⟨f0, f1, fz⟩
    have HX := Lib.hid hX; clear hX fz
    go_simp
    refine hK.out _ _ (hS.put hb3.1 hgl hBg) (fun _ => ?_)
    simp only [List.setIfInBounds_toArray, List.set_cons_zero, List.set_cons_succ]
    exact wpAnyH_done (by kernel_rfl) (HF.out b3 b7 d q p _ ⟨hb3.1, by simpa [World.setCell] using hb3.2⟩ (HX.out.put _ _) hps (hS.put hb3.1 hgl hBg)) _
  exact AllReadyH.nil
set_option maxRecDepth 100000 in
set_option maxHeartbeats 1000000 in
theorem st_11110 (Q : Exit → Act → World → Prop) (HP : Hid (∀ c a a' (W : World), Q (.panic c) a W → Q (.panic c) a' W)) {B g ws : Nat} {w1 : World} (hBg : B ≤ g) (hgl : g < w1.heap.size) (HF : Hid (∀ (b3 b7 d q : Nat) (p : ByteArray) (W : World), (w1.heap.size ≤ b3 ∧ b3 < W.heap.size) → Bx W b3 (.int .u8 (byteAt { data := #[68, 83, 86] } d)) (.string p) → p.size ≤ 41 → SS B g w1 W → Q .normal ⟨#[.pointer (some ⟨g, 0, none⟩), undef, .pointer (some ⟨ws, 0, none⟩), .pointer (some ⟨b3, 0, none⟩), .pointer (some ⟨g, 0, none⟩), .int .i64 (d : Nat), .int .u8 (byteAt { data := #[68, 83, 86] } d), .slice (some ⟨b7, 0, none⟩) 5 5, .pointer (some ⟨g, 0, none⟩), .int .i64 (q : Nat), .pointer (some ⟨b7, q, none⟩), .string p, .agg #[.int .u8 (byteAt { data := #[68, 83, 86] } d), .string p], undef, undef, undef, undef, undef, undef, undef, undef, undef, undef, undef, undef, undef, undef, undef, undef, undef], []⟩ W)) (W : World) (hS : SS B g w1 W) (d : Nat) (hd : d < 3) (b7 : Nat) (q : Nat) (hq : q < 5) (p : ByteArray) (hps : p.size ≤ 41) : wpAnyH Tryd.prog .any r1ops Q (SS B g w1) 2 (#[true, true, true, true, true, true, true, true, true, false, false] : Array Bool) ⟨#[.pointer (some ⟨g, 0, none⟩), undef, .pointer (some ⟨ws, 0, none⟩), undef, .pointer (some ⟨g, 0, none⟩), .int .i64 (d : Nat), .int .u8 (byteAt { data := #[68, 83, 86] } d), .slice (some ⟨b7, 0, none⟩) 5 5, .pointer (some ⟨g, 0, none⟩), .int .i64 (q : Nat), .pointer (some ⟨b7, q, none⟩), .string p, .agg #[.int .u8 (byteAt { data := #[68, 83, 86] } d), .string p], undef, undef, undef, undef, undef, undef, undef, undef, undef, undef, undef, undef, undef, undef, undef, undef, undef], []⟩ W := by
  conv => arg 3; whnf
  have hz := hS.2.size
  refine wpAnyH_ready (rs := [9]) (by kernel_rfl) (by simp) ?_
  refine AllReadyH.cons (i := 9) rfl (fun K hK => ?_) ?_
  · go_simp
    have hS2 := hS.alloc (.cells #[.int .u8 0, .string ⟨#[]⟩] 25)
    refine hK.out _ _ hS2 (fun _ => ?_)
    simp only [List.setIfInBounds_toArray, List.set_cons_zero, List.set_cons_succ]
    exact st_11111 Q HP hBg hgl HF _ hS2 d hd b7 q hq p hps _ (BoxAt.new _ hz)
  exact AllReadyH.nil
set_option maxRecDepth 100000 in
set_option maxHeartbeats 1000000 in
theorem st_11101 (Q : Exit → Act → World → Prop) (HP : Hid (∀ c a a' (W : World), Q (.panic c) a W → Q (.panic c) a' W)) {B g ws : Nat} {w1 : World} (hBg : B ≤ g) (hgl : g < w1.heap.size) (HF : Hid (∀ (b3 b7 d q : Nat) (p : ByteArray) (W : World), (w1.heap.size ≤ b3 ∧ b3 < W.heap.size) → Bx W b3 (.int .u8 (byteAt { data := #[68, 83, 86] } d)) (.string p) → p.size ≤ 41 → SS B g w1 W → Q .normal ⟨#[.pointer (some ⟨g, 0, none⟩), undef, .pointer (some ⟨ws, 0, none⟩), .pointer (some ⟨b3, 0, none⟩), .pointer (some ⟨g, 0, none⟩), .int .i64 (d : Nat), .int .u8 (byteAt { data := #[68, 83, 86] } d), .slice (some ⟨b7, 0, none⟩) 5 5, .pointer (some ⟨g, 0, none⟩), .int .i64 (q : Nat), .pointer (some ⟨b7, q, none⟩), .string p, .agg #[.int .u8 (byteAt { data := #[68, 83, 86] } d), .string p], undef, undef, undef, undef, undef, undef, undef, undef, undef, undef, undef, undef, undef, undef, undef, undef, undef], []⟩ W)) (W : World) (hS : SS B g w1 W) (d : Nat) (hd : d < 3) (b7 : Nat) (hT : LitAt w1 W b7) (q : Nat) (hq : q < 5) (b3 : Nat) (hA : BoxAt w1 W b3) : wpAnyH Tryd.prog .any r1ops Q (SS B g w1) 3 (#[true, true, true, true, true, true, true, false, false, true, false] : Array Bool) ⟨#[.pointer (some ⟨g, 0, none⟩), undef, .pointer (some ⟨ws, 0, none⟩), .pointer (some ⟨b3, 0, none⟩), .pointer (some ⟨g, 0, none⟩), .int .i64 (d : Nat), .int .u8 (byteAt { data := #[68, 83, 86] } d), .slice (some ⟨b7, 0, none⟩) 5 5, .pointer (some ⟨g, 0, none⟩), .int .i64 (q : Nat), .pointer (some ⟨b7, q, none⟩), undef, undef, undef, undef, undef, undef, undef, undef, undef, undef, undef, undef, undef, undef, undef, undef, undef, undef, undef], []⟩ W := by
  conv => arg 3; whnf
  have hz := hS.2.size
  refine wpAnyH_ready (rs := [7]) (by kernel_rfl) (by simp) ?_
  refine AllReadyH.cons (i := 7) rfl (fun K hK => ?_) ?_
  · obtain ⟨p, hp, hps⟩ := ents5_at q hq
    have hcl := (hT.2 q).trans hp
    go_simp
    have hS2 := hS
    refine hK.out _ _ hS2 (fun _ => ?_)
    simp only [List.setIfInBounds_toArray, List.set_cons_zero, List.set_cons_succ]
    refine wpAnyH_take (i := 8) (v := ?_) rfl (by kernel_rfl) (by kernel_rfl) (by kernel_rfl) (fun c a w h => HP.out c _ _ w h) (Or.inl ⟨by rfl, ?_⟩) hS2 ?_
    rotate_left
    · intro w2 hSw; go_simp; (try with_reducible rfl)
    simp only [Act.put, List.setIfInBounds_toArray, List.set_cons_zero, List.set_cons_succ]
    exact st_11111 Q HP hBg hgl HF W hS2 d hd b7 q hq p hps b3 hA
  exact AllReadyH.nil
set_option maxRecDepth 100000 in
set_option maxHeartbeats 1000000 in
theorem st_11100 (Q : Exit → Act → World → Prop) (HP : Hid (∀ c a a' (W : World), Q (.panic c) a W → Q (.panic c) a' W)) {B g ws : Nat} {w1 : World} (hBg : B ≤ g) (hgl : g < w1.heap.size) (HF : Hid (∀ (b3 b7 d q : Nat) (p : ByteArray) (W : World), (w1.heap.size ≤ b3 ∧ b3 < W.heap.size) → Bx W b3 (.int .u8 (byteAt { data := #[68, 83, 86] } d)) (.string p) → p.size ≤ 41 → SS B g w1 W → Q .normal ⟨#[.pointer (some ⟨g, 0, none⟩), undef, .pointer (some ⟨ws, 0, none⟩), .pointer (some ⟨b3, 0, none⟩), .pointer (some ⟨g, 0, none⟩), .int .i64 (d : Nat), .int .u8 (byteAt { data := #[68, 83, 86] } d), .slice (some ⟨b7, 0, none⟩) 5 5, .pointer (some ⟨g, 0, none⟩), .int .i64 (q : Nat), .pointer (some ⟨b7, q, none⟩), .string p, .agg #[.int .u8 (byteAt { data := #[68, 83, 86] } d), .string p], undef, undef, undef, undef, undef, undef, undef, undef, undef, undef, undef, undef, undef, undef, undef, undef, undef], []⟩ W)) (W : World) (hS : SS B g w1 W) (d : Nat) (hd : d < 3) (b7 : Nat) (hT : LitAt w1 W b7) (q : Nat) (hq : q < 5) : wpAnyH Tryd.prog .any r1ops Q (SS B g w1) 4 (#[true, true, true, true, true, true, true, false, false, false, false] : Array Bool) ⟨#[.pointer (some ⟨g, 0, none⟩), undef, .pointer (some ⟨ws, 0, none⟩), undef, .pointer (some ⟨g, 0, none⟩), .int .i64 (d : Nat), .int .u8 (byteAt { data := #[68, 83, 86] } d), .slice (some ⟨b7, 0, none⟩) 5 5, .pointer (some ⟨g, 0, none⟩), .int .i64 (q : Nat), .pointer (some ⟨b7, q, none⟩), undef, undef, undef, undef, undef, undef, undef, undef, undef, undef, undef, undef, undef, undef, undef, undef, undef, undef, undef], []⟩ W := by
  conv => arg 3; whnf
  have hz := hS.2.size
  refine wpAnyH_ready (rs := [7, 9]) (by kernel_rfl) (by simp) ?_
  refine AllReadyH.cons (i := 7) rfl (fun K hK => ?_) ?_
  · obtain ⟨p, hp, hps⟩ := ents5_at q hq
    have hcl := (hT.2 q).trans hp
    go_simp
    have hS2 := hS
    refine hK.out _ _ hS2 (fun _ => ?_)
    simp only [List.setIfInBounds_toArray, List.set_cons_zero, List.set_cons_succ]
    refine wpAnyH_take (i := 8) (v := ?_) rfl (by kernel_rfl) (by kernel_rfl) (by kernel_rfl) (fun c a w h => HP.out c _ _ w h) (Or.inl ⟨by rfl, ?_⟩) hS2 ?_
    rotate_left
    · intro w2 hSw; go_simp; (try with_reducible rfl)
    simp only [Act.put, List.setIfInBounds_toArray, List.set_cons_zero, List.set_cons_succ]
    exact st_11110 Q HP hBg hgl HF W hS2 d hd b7 q hq p hps
  refine AllReadyH.cons (i := 9) rfl (fun K hK => ?_) ?_
  · go_simp
    have hS2 := hS.alloc (.cells #[.int .u8 0, .string ⟨#[]⟩] 25)
    refine hK.out _ _ hS2 (fun _ => ?_)
    simp only [List.setIfInBounds_toArray, List.set_cons_zero, List.set_cons_succ]
    exact st_11101 Q HP hBg hgl HF _ hS2 d hd b7 (hT.alloc _) q hq _ (BoxAt.new _ hz)
  exact AllReadyH.nil
set_option maxRecDepth 100000 in
set_option maxHeartbeats 1000000 in
theorem st_10101 (Q : Exit → Act → World → Prop) (HP : Hid (∀ c a a' (W : World), Q (.panic c) a W → Q (.panic c) a' W)) {B g ws : Nat} {w1 : World} (hBg : B ≤ g) (hgl : g < w1.heap.size) (HF : Hid (∀ (b3 b7 d q : Nat) (p : ByteArray) (W : World), (w1.heap.size ≤ b3 ∧ b3 < W.heap.size) → Bx W b3 (.int .u8 (byteAt { data := #[68, 83, 86] } d)) (.string p) → p.size ≤ 41 → SS B g w1 W → Q .normal ⟨#[.pointer (some ⟨g, 0, none⟩), undef, .pointer (some ⟨ws, 0, none⟩), .pointer (some ⟨b3, 0, none⟩), .pointer (some ⟨g, 0, none⟩), .int .i64 (d : Nat), .int .u8 (byteAt { data := #[68, 83, 86] } d), .slice (some ⟨b7, 0, none⟩) 5 5, .pointer (some ⟨g, 0, none⟩), .int .i64 (q : Nat), .pointer (some ⟨b7, q, none⟩), .string p, .agg #[.int .u8 (byteAt { data := #[68, 83, 86] } d), .string p], undef, undef, undef, undef, undef, undef, undef, undef, undef, undef, undef, undef, undef, undef, undef, undef, undef], []⟩ W)) (W : World) (hS : SS B g w1 W) (d : Nat) (hd : d < 3) (q : Nat) (hq : q < 5) (b3 : Nat) (hA : BoxAt w1 W b3) : wpAnyH Tryd.prog .any r1ops Q (SS B g w1) 5 (#[true, true, true, false, true, true, false, false, false, true, false] : Array Bool) ⟨#[.pointer (some ⟨g, 0, none⟩), undef, .pointer (some ⟨ws, 0, none⟩), .pointer (some ⟨b3, 0, none⟩), .pointer (some ⟨g, 0, none⟩), .int .i64 (d : Nat), .int .u8 (byteAt { data := #[68, 83, 86] } d), undef, .pointer (some ⟨g, 0, none⟩), .int .i64 (q : Nat), undef, undef, undef, undef, undef, undef, undef, undef, undef, undef, undef, undef, undef, undef, undef, undef, undef, undef, undef, undef], []⟩ W := by
  conv => arg 3; whnf
  have hz := hS.2.size
  refine wpAnyH_ready (rs := [3]) (by kernel_rfl) (by simp) ?_
  refine AllReadyH.cons (i := 3) rfl (fun K hK => ?_) ?_
  · go_simp
    have hS2 := hS.alloc (.cells #[.string { data := #[] }, .string { data := #[106, 117, 114, 111, 114, 32, 49, 50, 32, 115, 119, 111, 114, 110] }, .string { data := #[112, 97, 115, 115] }, .string { data := #[97, 58, 98, 58, 99] }, .string { data := #[115, 116, 114, 105, 107, 101, 32, 51] }] 9)
    refine hK.out _ _ hS2 (fun _ => ?_)
    simp only [List.setIfInBounds_toArray, List.set_cons_zero, List.set_cons_succ]
    have hkb : (q : Int) < 5 := by omega
    have hk0 : (0 : Int) ≤ (q : Int) := by omega
    refine wpAnyH_take (i := 6) (v := ?_) rfl (by kernel_rfl) (by kernel_rfl) (by kernel_rfl) (fun c a w h => HP.out c _ _ w h) (Or.inl ⟨by rfl, ?_⟩) hS2 ?_
    rotate_left
    · intro w2 hSw; go_simp; (try with_reducible rfl)
    simp only [Act.put, List.setIfInBounds_toArray, List.set_cons_zero, List.set_cons_succ]
    exact st_11101 Q HP hBg hgl HF _ hS2 d hd _ (LitAt.new _ hz) q hq b3 (hA.alloc _)
  exact AllReadyH.nil
set_option maxRecDepth 100000 in
set_option maxHeartbeats 1000000 in
theorem st_11001 (Q : Exit → Act → World → Prop) (HP : Hid (∀ c a a' (W : World), Q (.panic c) a W → Q (.panic c) a' W)) {B g ws : Nat} {w1 : World} (hBg : B ≤ g) (hgl : g < w1.heap.size) (HF : Hid (∀ (b3 b7 d q : Nat) (p : ByteArray) (W : World), (w1.heap.size ≤ b3 ∧ b3 < W.heap.size) → Bx W b3 (.int .u8 (byteAt { data := #[68, 83, 86] } d)) (.string p) → p.size ≤ 41 → SS B g w1 W → Q .normal ⟨#[.pointer (some ⟨g, 0, none⟩), undef, .pointer (some ⟨ws, 0, none⟩), .pointer (some ⟨b3, 0, none⟩), .pointer (some ⟨g, 0, none⟩), .int .i64 (d : Nat), .int .u8 (byteAt { data := #[68, 83, 86] } d), .slice (some ⟨b7, 0, none⟩) 5 5, .pointer (some ⟨g, 0, none⟩), .int .i64 (q : Nat), .pointer (some ⟨b7, q, none⟩), .string p, .agg #[.int .u8 (byteAt { data := #[68, 83, 86] } d), .string p], undef, undef, undef, undef, undef, undef, undef, undef, undef, undef, undef, undef, undef, undef, undef, undef, undef], []⟩ W)) (W : World) (hS : SS B g w1 W) (d : Nat) (hd : d < 3) (b7 : Nat) (hT : LitAt w1 W b7) (b3 : Nat) (hA : BoxAt w1 W b3) : wpAnyH Tryd.prog .any r1ops Q (SS B g w1) 5 (#[true, true, true, true, true, false, false, false, false, true, false] : Array Bool) ⟨#[.pointer (some ⟨g, 0, none⟩), undef, .pointer (some ⟨ws, 0, none⟩), .pointer (some ⟨b3, 0, none⟩), .pointer (some ⟨g, 0, none⟩), .int .i64 (d : Nat), .int .u8 (byteAt { data := #[68, 83, 86] } d), .slice (some ⟨b7, 0, none⟩) 5 5, .pointer (some ⟨g, 0, none⟩), undef, undef, undef, undef, undef, undef, undef, undef, undef, undef, undef, undef, undef, undef, undef, undef, undef, undef, undef, undef, undef], []⟩ W := by
  conv => arg 3; whnf
  have hz := hS.2.size
  refine wpAnyH_ready (rs := [5]) (by kernel_rfl) (by simp) ?_
  refine AllReadyH.cons (i := 5) rfl (fun K hK => ?_) ?_
  · go_simp
    refine (l01Next_c B g 5 W hS.1 (by omega)).mono ?_
    rintro e W8 ⟨q, rfl, ⟨hx0, hx1⟩, hq2, hg2⟩
    obtain ⟨q, rfl⟩ := Int.eq_ofNat_of_zero_le hx0
    have hq : q < 5 := by omega
    have hS2 : SS B g w1 W8 := ⟨hq2, grown_trans' hS.2 hg2⟩
    (try go_wp2_with fail)
    refine hK.out _ _ hS2 (fun _ => ?_)
    simp only [List.setIfInBounds_toArray, List.set_cons_zero, List.set_cons_succ]
    have hkb : (q : Int) < 5 := by omega
    have hk0 : (0 : Int) ≤ (q : Int) := by omega
    refine wpAnyH_take (i := 6) (v := ?_) rfl (by kernel_rfl) (by kernel_rfl) (by kernel_rfl) (fun c a w h => HP.out c _ _ w h) (Or.inl ⟨by rfl, ?_⟩) hS2 ?_
    rotate_left
    · intro w2 hSw; go_simp; (try with_reducible rfl)
    simp only [Act.put, List.setIfInBounds_toArray, List.set_cons_zero, List.set_cons_succ]
    exact st_11101 Q HP hBg hgl HF W8 hS2 d hd b7 (hT.next hg2 hgl) q hq b3 (hA.next hg2 hgl)
  exact AllReadyH.nil
set_option maxRecDepth 100000 in
set_option maxHeartbeats 1000000 in
theorem st_10001 (Q : Exit → Act → World → Prop) (HP : Hid (∀ c a a' (W : World), Q (.panic c) a W → Q (.panic c) a' W)) {B g ws : Nat} {w1 : World} (hBg : B ≤ g) (hgl : g < w1.heap.size) (HF : Hid (∀ (b3 b7 d q : Nat) (p : ByteArray) (W : World), (w1.heap.size ≤ b3 ∧ b3 < W.heap.size) → Bx W b3 (.int .u8 (byteAt { data := #[68, 83, 86] } d)) (.string p) → p.size ≤ 41 → SS B g w1 W → Q .normal ⟨#[.pointer (some ⟨g, 0, none⟩), undef, .pointer (some ⟨ws, 0, none⟩), .pointer (some ⟨b3, 0, none⟩), .pointer (some ⟨g, 0, none⟩), .int .i64 (d : Nat), .int .u8 (byteAt { data := #[68, 83, 86] } d), .slice (some ⟨b7, 0, none⟩) 5 5, .pointer (some ⟨g, 0, none⟩), .int .i64 (q : Nat), .pointer (some ⟨b7, q, none⟩), .string p, .agg #[.int .u8 (byteAt { data := #[68, 83, 86] } d), .string p], undef, undef, undef, undef, undef, undef, undef, undef, undef, undef, undef, undef, undef, undef, undef, undef, undef], []⟩ W)) (W : World) (hS : SS B g w1 W) (d : Nat) (hd : d < 3) (b3 : Nat) (hA : BoxAt w1 W b3) : wpAnyH Tryd.prog .any r1ops Q (SS B g w1) 6 (#[true, true, true, false, true, false, false, false, false, true, false] : Array Bool) ⟨#[.pointer (some ⟨g, 0, none⟩), undef, .pointer (some ⟨ws, 0, none⟩), .pointer (some ⟨b3, 0, none⟩), .pointer (some ⟨g, 0, none⟩), .int .i64 (d : Nat), .int .u8 (byteAt { data := #[68, 83, 86] } d), undef, .pointer (some ⟨g, 0, none⟩), undef, undef, undef, undef, undef, undef, undef, undef, undef, undef, undef, undef, undef, undef, undef, undef, undef, undef, undef, undef, undef], []⟩ W := by
  conv => arg 3; whnf
  have hz := hS.2.size
  refine wpAnyH_ready (rs := [3, 5]) (by kernel_rfl) (by simp) ?_
  refine AllReadyH.cons (i := 3) rfl (fun K hK => ?_) ?_
  · go_simp
    have hS2 := hS.alloc (.cells #[.string { data := #[] }, .string { data := #[106, 117, 114, 111, 114, 32, 49, 50, 32, 115, 119, 111, 114, 110] }, .string { data := #[112, 97, 115, 115] }, .string { data := #[97, 58, 98, 58, 99] }, .string { data := #[115, 116, 114, 105, 107, 101, 32, 51] }] 9)
    refine hK.out _ _ hS2 (fun _ => ?_)
    simp only [List.setIfInBounds_toArray, List.set_cons_zero, List.set_cons_succ]
    exact st_11001 Q HP hBg hgl HF _ hS2 d hd _ (LitAt.new _ hz) b3 (hA.alloc _)
  refine AllReadyH.cons (i := 5) rfl (fun K hK => ?_) ?_
  · go_simp
    refine (l01Next_c B g 5 W hS.1 (by omega)).mono ?_
    rintro e W8 ⟨q, rfl, ⟨hx0, hx1⟩, hq2, hg2⟩
    obtain ⟨q, rfl⟩ := Int.eq_ofNat_of_zero_le hx0
    have hq : q < 5 := by omega
    have hS2 : SS B g w1 W8 := ⟨hq2, grown_trans' hS.2 hg2⟩
    (try go_wp2_with fail)
    refine hK.out _ _ hS2 (fun _ => ?_)
    simp only [List.setIfInBounds_toArray, List.set_cons_zero, List.set_cons_succ]
    have hkb : (q : Int) < 5 := by omega
    have hk0 : (0 : Int) ≤ (q : Int) := by omega
    exact st_10101 Q HP hBg hgl HF W8 hS2 d hd q hq b3 (hA.next hg2 hgl)
  exact AllReadyH.nil
set_option maxRecDepth 100000 in
set_option maxHeartbeats 1000000 in
theorem st_10100 (Q : Exit → Act → World → Prop) (HP : Hid (∀ c a a' (W : World), Q (.panic c) a W → Q (.panic c) a' W)) {B g ws : Nat} {w1 : World} (hBg : B ≤ g) (hgl : g < w1.heap.size) (HF : Hid (∀ (b3 b7 d q : Nat) (p : ByteArray) (W : World), (w1.heap.size ≤ b3 ∧ b3 < W.heap.size) → Bx W b3 (.int .u8 (byteAt { data := #[68, 83, 86] } d)) (.string p) → p.size ≤ 41 → SS B g w1 W → Q .normal ⟨#[.pointer (some ⟨g, 0, none⟩), undef, .pointer (some ⟨ws, 0, none⟩), .pointer (some ⟨b3, 0, none⟩), .pointer (some ⟨g, 0, none⟩), .int .i64 (d : Nat), .int .u8 (byteAt { data := #[68, 83, 86] } d), .slice (some ⟨b7, 0, none⟩) 5 5, .pointer (some ⟨g, 0, none⟩), .int .i64 (q : Nat), .pointer (some ⟨b7, q, none⟩), .string p, .agg #[.int .u8 (byteAt { data := #[68, 83, 86] } d), .string p], undef, undef, undef, undef, undef, undef, undef, undef, undef, undef, undef, undef, undef, undef, undef, undef, undef], []⟩ W)) (W : World) (hS : SS B g w1 W) (d : Nat) (hd : d < 3) (q : Nat) (hq : q < 5) : wpAnyH Tryd.prog .any r1ops Q (SS B g w1) 6 (#[true, true, true, false, true, true, false, false, false, false, false] : Array Bool) ⟨#[.pointer (some ⟨g, 0, none⟩), undef, .pointer (some ⟨ws, 0, none⟩), undef, .pointer (some ⟨g, 0, none⟩), .int .i64 (d : Nat), .int .u8 (byteAt { data := #[68, 83, 86] } d), undef, .pointer (some ⟨g, 0, none⟩), .int .i64 (q : Nat), undef, undef, undef, undef, undef, undef, undef, undef, undef, undef, undef, undef, undef, undef, undef, undef, undef, undef, undef, undef], []⟩ W := by
  conv => arg 3; whnf
  have hz := hS.2.size
  refine wpAnyH_ready (rs := [3, 9]) (by kernel_rfl) (by simp) ?_
  refine AllReadyH.cons (i := 3) rfl (fun K hK => ?_) ?_
  · go_simp
    have hS2 := hS.alloc (.cells #[.string { data := #[] }, .string { data := #[106, 117, 114, 111, 114, 32, 49, 50, 32, 115, 119, 111, 114, 110] }, .string { data := #[112, 97, 115, 115] }, .string { data := #[97, 58, 98, 58, 99] }, .string { data := #[115, 116, 114, 105, 107, 101, 32, 51] }] 9)
    refine hK.out _ _ hS2 (fun _ => ?_)
    simp only [List.setIfInBounds_toArray, List.set_cons_zero, List.set_cons_succ]
    have hkb : (q : Int) < 5 := by omega
    have hk0 : (0 : Int) ≤ (q : Int) := by omega
    refine wpAnyH_take (i := 6) (v := ?_) rfl (by kernel_rfl) (by kernel_rfl) (by kernel_rfl) (fun c a w h => HP.out c _ _ w h) (Or.inl ⟨by rfl, ?_⟩) hS2 ?_
    rotate_left
    · intro w2 hSw; go_simp; (try with_reducible rfl)
    simp only [Act.put, List.setIfInBounds_toArray, List.set_cons_zero, List.set_cons_succ]
    exact st_11100 Q HP hBg hgl HF _ hS2 d hd _ (LitAt.new _ hz) q hq
  refine AllReadyH.cons (i := 9) rfl (fun K hK => ?_) ?_
  · go_simp
    have hS2 := hS.alloc (.cells #[.int .u8 0, .string ⟨#[]⟩] 25)
    refine hK.out _ _ hS2 (fun _ => ?_)
    simp only [List.setIfInBounds_toArray, List.set_cons_zero, List.set_cons_succ]
    exact st_10101 Q HP hBg hgl HF _ hS2 d hd q hq _ (BoxAt.new _ hz)
  exact AllReadyH.nil
set_option maxRecDepth 100000 in
set_option maxHeartbeats 1000000 in
theorem st_11000 (Q : Exit → Act → World → Prop) (HP : Hid (∀ c a a' (W : World), Q (.panic c) a W → Q (.panic c) a' W)) {B g ws : Nat} {w1 : World} (hBg : B ≤ g) (hgl : g < w1.heap.size) (HF : Hid (∀ (b3 b7 d q : Nat) (p : ByteArray) (W : World), (w1.heap.size ≤ b3 ∧ b3 < W.heap.size) → Bx W b3 (.int .u8 (byteAt { data := #[68, 83, 86] } d)) (.string p) → p.size ≤ 41 → SS B g w1 W → Q .normal ⟨#[.pointer (some ⟨g, 0, none⟩), undef, .pointer (some ⟨ws, 0, none⟩), .pointer (some ⟨b3, 0, none⟩), .pointer (some ⟨g, 0, none⟩), .int .i64 (d : Nat), .int .u8 (byteAt { data := #[68, 83, 86] } d), .slice (some ⟨b7, 0, none⟩) 5 5, .pointer (some ⟨g, 0, none⟩), .int .i64 (q : Nat), .pointer (some ⟨b7, q, none⟩), .string p, .agg #[.int .u8 (byteAt { data := #[68, 83, 86] } d), .string p], undef, undef, undef, undef, undef, undef, undef, undef, undef, undef, undef, undef, undef, undef, undef, undef, undef], []⟩ W)) (W : World) (hS : SS B g w1 W) (d : Nat) (hd : d < 3) (b7 : Nat) (hT : LitAt w1 W b7) : wpAnyH Tryd.prog .any r1ops Q (SS B g w1) 6 (#[true, true, true, true, true, false, false, false, false, false, false] : Array Bool) ⟨#[.pointer (some ⟨g, 0, none⟩), undef, .pointer (some ⟨ws, 0, none⟩), undef, .pointer (some ⟨g, 0, none⟩), .int .i64 (d : Nat), .int .u8 (byteAt { data := #[68, 83, 86] } d), .slice (some ⟨b7, 0, none⟩) 5 5, .pointer (some ⟨g, 0, none⟩), undef, undef, undef, undef, undef, undef, undef, undef, undef, undef, undef, undef, undef, undef, undef, undef, undef, undef, undef, undef, undef], []⟩ W := by
  conv => arg 3; whnf
  have hz := hS.2.size
  refine wpAnyH_ready (rs := [5, 9]) (by kernel_rfl) (by simp) ?_
  refine AllReadyH.cons (i := 5) rfl (fun K hK => ?_) ?_
  · go_simp
    refine (l01Next_c B g 5 W hS.1 (by omega)).mono ?_
    rintro e W8 ⟨q, rfl, ⟨hx0, hx1⟩, hq2, hg2⟩
    obtain ⟨q, rfl⟩ := Int.eq_ofNat_of_zero_le hx0
    have hq : q < 5 := by omega
    have hS2 : SS B g w1 W8 := ⟨hq2, grown_trans' hS.2 hg2⟩
    (try go_wp2_with fail)
    refine hK.out _ _ hS2 (fun _ => ?_)
    simp only [List.setIfInBounds_toArray, List.set_cons_zero, List.set_cons_succ]
    have hkb : (q : Int) < 5 := by omega
    have hk0 : (0 : Int) ≤ (q : Int) := by omega
    refine wpAnyH_take (i := 6) (v := ?_) rfl (by kernel_rfl) (by kernel_rfl) (by kernel_rfl) (fun c a w h => HP.out c _ _ w h) (Or.inl ⟨by rfl, ?_⟩) hS2 ?_
    rotate_left
    · intro w2 hSw; go_simp; (try with_reducible rfl)
    simp only [Act.put, List.setIfInBounds_toArray, List.set_cons_zero, List.set_cons_succ]
    exact st_11100 Q HP hBg hgl HF W8 hS2 d hd b7 (hT.next hg2 hgl) q hq
  refine AllReadyH.cons (i := 9) rfl (fun K hK => ?_) ?_
  · go_simp
    have hS2 := hS.alloc (.cells #[.int .u8 0, .string ⟨#[]⟩] 25)
    refine hK.out _ _ hS2 (fun _ => ?_)
    simp only [List.setIfInBounds_toArray, List.set_cons_zero, List.set_cons_succ]
    exact st_11001 Q HP hBg hgl HF _ hS2 d hd b7 (hT.alloc _) _ (BoxAt.new _ hz)
  exact AllReadyH.nil
set_option maxRecDepth 100000 in
set_option maxHeartbeats 1000000 in
theorem st_01001 (Q : Exit → Act → World → Prop) (HP : Hid (∀ c a a' (W : World), Q (.panic c) a W → Q (.panic c) a' W)) {B g ws : Nat} {w1 : World} (hBg : B ≤ g) (hgl : g < w1.heap.size) (HF : Hid (∀ (b3 b7 d q : Nat) (p : ByteArray) (W : World), (w1.heap.size ≤ b3 ∧ b3 < W.heap.size) → Bx W b3 (.int .u8 (byteAt { data := #[68, 83, 86] } d)) (.string p) → p.size ≤ 41 → SS B g w1 W → Q .normal ⟨#[.pointer (some ⟨g, 0, none⟩), undef, .pointer (some ⟨ws, 0, none⟩), .pointer (some ⟨b3, 0, none⟩), .pointer (some ⟨g, 0, none⟩), .int .i64 (d : Nat), .int .u8 (byteAt { data := #[68, 83, 86] } d), .slice (some ⟨b7, 0, none⟩) 5 5, .pointer (some ⟨g, 0, none⟩), .int .i64 (q : Nat), .pointer (some ⟨b7, q, none⟩), .string p, .agg #[.int .u8 (byteAt { data := #[68, 83, 86] } d), .string p], undef, undef, undef, undef, undef, undef, undef, undef, undef, undef, undef, undef, undef, undef, undef, undef, undef], []⟩ W)) (W : World) (hS : SS B g w1 W) (b7 : Nat) (hT : LitAt w1 W b7) (b3 : Nat) (hA : BoxAt w1 W b3) : wpAnyH Tryd.prog .any r1ops Q (SS B g w1) 7 (#[true, false, false, true, true, false, false, false, false, true, false] : Array Bool) ⟨#[.pointer (some ⟨g, 0, none⟩), undef, .pointer (some ⟨ws, 0, none⟩), .pointer (some ⟨b3, 0, none⟩), .pointer (some ⟨g, 0, none⟩), undef, undef, .slice (some ⟨b7, 0, none⟩) 5 5, .pointer (some ⟨g, 0, none⟩), undef, undef, undef, undef, undef, undef, undef, undef, undef, undef, undef, undef, undef, undef, undef, undef, undef, undef, undef, undef, undef], []⟩ W := by
  conv => arg 3; whnf
  have hz := hS.2.size
  refine wpAnyH_ready (rs := [1]) (by kernel_rfl) (by simp) ?_
  refine AllReadyH.cons (i := 1) rfl (fun K hK => ?_) ?_
  · go_simp
    refine (l01Next_c B g 3 W hS.1 (by omega)).mono ?_
    rintro e W6 ⟨d, rfl, ⟨hx0, hx1⟩, hq2, hg2⟩
    obtain ⟨d, rfl⟩ := Int.eq_ofNat_of_zero_le hx0
    have hd : d < 3 := by omega
    have hS2 : SS B g w1 W6 := ⟨hq2, grown_trans' hS.2 hg2⟩
    (try go_wp2_with fail)
    refine hK.out _ _ hS2 (fun _ => ?_)
    simp only [List.setIfInBounds_toArray, List.set_cons_zero, List.set_cons_succ]
    have hkb : (d : Int) < 3 := by omega
    have hk0 : (0 : Int) ≤ (d : Int) := by omega
    refine wpAnyH_take (i := 2) (v := ?_) rfl (by kernel_rfl) (by kernel_rfl) (by kernel_rfl) (fun c a w h => HP.out c _ _ w h) (Or.inl ⟨by rfl, ?_⟩) hS2 ?_
    rotate_left
    · intro w2 hSw; go_simp; (try with_reducible rfl)
    simp only [Act.put, List.setIfInBounds_toArray, List.set_cons_zero, List.set_cons_succ]
    exact st_11001 Q HP hBg hgl HF W6 hS2 d hd b7 (hT.next hg2 hgl) b3 (hA.next hg2 hgl)
  exact AllReadyH.nil
set_option maxRecDepth 100000 in
set_option maxHeartbeats 1000000 in
theorem st_10000 (Q : Exit → Act → World → Prop) (HP : Hid (∀ c a a' (W : World), Q (.panic c) a W → Q (.panic c) a' W)) {B g ws : Nat} {w1 : World} (hBg : B ≤ g) (hgl : g < w1.heap.size) (HF : Hid (∀ (b3 b7 d q : Nat) (p : ByteArray) (W : World), (w1.heap.size ≤ b3 ∧ b3 < W.heap.size) → Bx W b3 (.int .u8 (byteAt { data := #[68, 83, 86] } d)) (.string p) → p.size ≤ 41 → SS B g w1 W → Q .normal ⟨#[.pointer (some ⟨g, 0, none⟩), undef, .pointer (some ⟨ws, 0, none⟩), .pointer (some ⟨b3, 0, none⟩), .pointer (some ⟨g, 0, none⟩), .int .i64 (d : Nat), .int .u8 (byteAt { data := #[68, 83, 86] } d), .slice (some ⟨b7, 0, none⟩) 5 5, .pointer (some ⟨g, 0, none⟩), .int .i64 (q : Nat), .pointer (some ⟨b7, q, none⟩), .string p, .agg #[.int .u8 (byteAt { data := #[68, 83, 86] } d), .string p], undef, undef, undef, undef, undef, undef, undef, undef, undef, undef, undef, undef, undef, undef, undef, undef, undef], []⟩ W)) (W : World) (hS : SS B g w1 W) (d : Nat) (hd : d < 3) : wpAnyH Tryd.prog .any r1ops Q (SS B g w1) 7 (#[true, true, true, false, true, false, false, false, false, false, false] : Array Bool) ⟨#[.pointer (some ⟨g, 0, none⟩), undef, .pointer (some ⟨ws, 0, none⟩), undef, .pointer (some ⟨g, 0, none⟩), .int .i64 (d : Nat), .int .u8 (byteAt { data := #[68, 83, 86] } d), undef, .pointer (some ⟨g, 0, none⟩), undef, undef, undef, undef, undef, undef, undef, undef, undef, undef, undef, undef, undef, undef, undef, undef, undef, undef, undef, undef, undef], []⟩ W := by
  conv => arg 3; whnf
  have hz := hS.2.size
  refine wpAnyH_ready (rs := [3, 5, 9]) (by kernel_rfl) (by simp) ?_
  refine AllReadyH.cons (i := 3) rfl (fun K hK => ?_) ?_
  · go_simp
    have hS2 := hS.alloc (.cells #[.string { data := #[] }, .string { data := #[106, 117, 114, 111, 114, 32, 49, 50, 32, 115, 119, 111, 114, 110] }, .string { data := #[112, 97, 115, 115] }, .string { data := #[97, 58, 98, 58, 99] }, .string { data := #[115, 116, 114, 105, 107, 101, 32, 51] }] 9)
    refine hK.out _ _ hS2 (fun _ => ?_)
    simp only [List.setIfInBounds_toArray, List.set_cons_zero, List.set_cons_succ]
    exact st_11000 Q HP hBg hgl HF _ hS2 d hd _ (LitAt.new _ hz)
  refine AllReadyH.cons (i := 5) rfl (fun K hK => ?_) ?_
  · go_simp
    refine (l01Next_c B g 5 W hS.1 (by omega)).mono ?_
    rintro e W8 ⟨q, rfl, ⟨hx0, hx1⟩, hq2, hg2⟩
    obtain ⟨q, rfl⟩ := Int.eq_ofNat_of_zero_le hx0
    have hq : q < 5 := by omega
    have hS2 : SS B g w1 W8 := ⟨hq2, grown_trans' hS.2 hg2⟩
    (try go_wp2_with fail)
    refine hK.out _ _ hS2 (fun _ => ?_)
    simp only [List.setIfInBounds_toArray, List.set_cons_zero, List.set_cons_succ]
    have hkb : (q : Int) < 5 := by omega
    have hk0 : (0 : Int) ≤ (q : Int) := by omega
    exact st_10100 Q HP hBg hgl HF W8 hS2 d hd q hq
  refine AllReadyH.cons (i := 9) rfl (fun K hK => ?_) ?_
  · go_simp
    have hS2 := hS.alloc (.cells #[.int .u8 0, .string ⟨#[]⟩] 25)
    refine hK.out _ _ hS2 (fun _ => ?_)
    simp only [List.setIfInBounds_toArray, List.set_cons_zero, List.set_cons_succ]
    exact st_10001 Q HP hBg hgl HF _ hS2 d hd _ (BoxAt.new _ hz)
  exact AllReadyH.nil
set_option maxRecDepth 100000 in
set_option maxHeartbeats 1000000 in
theorem st_00001 (Q : Exit → Act → World → Prop) (HP : Hid (∀ c a a' (W : World), Q (.panic c) a W → Q (.panic c) a' W)) {B g ws : Nat} {w1 : World} (hBg : B ≤ g) (hgl : g < w1.heap.size) (HF : Hid (∀ (b3 b7 d q : Nat) (p : ByteArray) (W : World), (w1.heap.size ≤ b3 ∧ b3 < W.heap.size) → Bx W b3 (.int .u8 (byteAt { data := #[68, 83, 86] } d)) (.string p) → p.size ≤ 41 → SS B g w1 W → Q .normal ⟨#[.pointer (some ⟨g, 0, none⟩), undef, .pointer (some ⟨ws, 0, none⟩), .pointer (some ⟨b3, 0, none⟩), .pointer (some ⟨g, 0, none⟩), .int .i64 (d : Nat), .int .u8 (byteAt { data := #[68, 83, 86] } d), .slice (some ⟨b7, 0, none⟩) 5 5, .pointer (some ⟨g, 0, none⟩), .int .i64 (q : Nat), .pointer (some ⟨b7, q, none⟩), .string p, .agg #[.int .u8 (byteAt { data := #[68, 83, 86] } d), .string p], undef, undef, undef, undef, undef, undef, undef, undef, undef, undef, undef, undef, undef, undef, undef, undef, undef], []⟩ W)) (W : World) (hS : SS B g w1 W) (b3 : Nat) (hA : BoxAt w1 W b3) : wpAnyH Tryd.prog .any r1ops Q (SS B g w1) 8 (#[true, false, false, false, true, false, false, false, false, true, false] : Array Bool) ⟨#[.pointer (some ⟨g, 0, none⟩), undef, .pointer (some ⟨ws, 0, none⟩), .pointer (some ⟨b3, 0, none⟩), .pointer (some ⟨g, 0, none⟩), undef, undef, undef, .pointer (some ⟨g, 0, none⟩), undef, undef, undef, undef, undef, undef, undef, undef, undef, undef, undef, undef, undef, undef, undef, undef, undef, undef, undef, undef, undef], []⟩ W := by
  conv => arg 3; whnf
  have hz := hS.2.size
  refine wpAnyH_ready (rs := [1, 3]) (by kernel_rfl) (by simp) ?_
  refine AllReadyH.cons (i := 1) rfl (fun K hK => ?_) ?_
  · go_simp
    refine (l01Next_c B g 3 W hS.1 (by omega)).mono ?_
    rintro e W6 ⟨d, rfl, ⟨hx0, hx1⟩, hq2, hg2⟩
    obtain ⟨d, rfl⟩ := Int.eq_ofNat_of_zero_le hx0
    have hd : d < 3 := by omega
    have hS2 : SS B g w1 W6 := ⟨hq2, grown_trans' hS.2 hg2⟩
    (try go_wp2_with fail)
    refine hK.out _ _ hS2 (fun _ => ?_)
    simp only [List.setIfInBounds_toArray, List.set_cons_zero, List.set_cons_succ]
    have hkb : (d : Int) < 3 := by omega
    have hk0 : (0 : Int) ≤ (d : Int) := by omega
    refine wpAnyH_take (i := 2) (v := ?_) rfl (by kernel_rfl) (by kernel_rfl) (by kernel_rfl) (fun c a w h => HP.out c _ _ w h) (Or.inl ⟨by rfl, ?_⟩) hS2 ?_
    rotate_left
    · intro w2 hSw; go_simp; (try with_reducible rfl)
    simp only [Act.put, List.setIfInBounds_toArray, List.set_cons_zero, List.set_cons_succ]
    exact st_10001 Q HP hBg hgl HF W6 hS2 d hd b3 (hA.next hg2 hgl)
  refine AllReadyH.cons (i := 3) rfl (fun K hK => ?_) ?_
  · go_simp
    have hS2 := hS.alloc (.cells #[.string { data := #[] }, .string { data := #[106, 117, 114, 111, 114, 32, 49, 50, 32, 115, 119, 111, 114, 110] }, .string { data := #[112, 97, 115, 115] }, .string { data := #[97, 58, 98, 58, 99] }, .string { data := #[115, 116, 114, 105, 107, 101, 32, 51] }] 9)
    refine hK.out _ _ hS2 (fun _ => ?_)
    simp only [List.setIfInBounds_toArray, List.set_cons_zero, List.set_cons_succ]
    exact st_01001 Q HP hBg hgl HF _ hS2 _ (LitAt.new _ hz) b3 (hA.alloc _)
  exact AllReadyH.nil
set_option maxRecDepth 100000 in
set_option maxHeartbeats 1000000 in
theorem st_01000 (Q : Exit → Act → World → Prop) (HP : Hid (∀ c a a' (W : World), Q (.panic c) a W → Q (.panic c) a' W)) {B g ws : Nat} {w1 : World} (hBg : B ≤ g) (hgl : g < w1.heap.size) (HF : Hid (∀ (b3 b7 d q : Nat) (p : ByteArray) (W : World), (w1.heap.size ≤ b3 ∧ b3 < W.heap.size) → Bx W b3 (.int .u8 (byteAt { data := #[68, 83, 86] } d)) (.string p) → p.size ≤ 41 → SS B g w1 W → Q .normal ⟨#[.pointer (some ⟨g, 0, none⟩), undef, .pointer (some ⟨ws, 0, none⟩), .pointer (some ⟨b3, 0, none⟩), .pointer (some ⟨g, 0, none⟩), .int .i64 (d : Nat), .int .u8 (byteAt { data := #[68, 83, 86] } d), .slice (some ⟨b7, 0, none⟩) 5 5, .pointer (some ⟨g, 0, none⟩), .int .i64 (q : Nat), .pointer (some ⟨b7, q, none⟩), .string p, .agg #[.int .u8 (byteAt { data := #[68, 83, 86] } d), .string p], undef, undef, undef, undef, undef, undef, undef, undef, undef, undef, undef, undef, undef, undef, undef, undef, undef], []⟩ W)) (W : World) (hS : SS B g w1 W) (b7 : Nat) (hT : LitAt w1 W b7) : wpAnyH Tryd.prog .any r1ops Q (SS B g w1) 8 (#[true, false, false, true, true, false, false, false, false, false, false] : Array Bool) ⟨#[.pointer (some ⟨g, 0, none⟩), undef, .pointer (some ⟨ws, 0, none⟩), undef, .pointer (some ⟨g, 0, none⟩), undef, undef, .slice (some ⟨b7, 0, none⟩) 5 5, .pointer (some ⟨g, 0, none⟩), undef, undef, undef, undef, undef, undef, undef, undef, undef, undef, undef, undef, undef, undef, undef, undef, undef, undef, undef, undef, undef], []⟩ W := by
  conv => arg 3; whnf
  have hz := hS.2.size
  refine wpAnyH_ready (rs := [1, 9]) (by kernel_rfl) (by simp) ?_
  refine AllReadyH.cons (i := 1) rfl (fun K hK => ?_) ?_
  · go_simp
    refine (l01Next_c B g 3 W hS.1 (by omega)).mono ?_
    rintro e W6 ⟨d, rfl, ⟨hx0, hx1⟩, hq2, hg2⟩
    obtain ⟨d, rfl⟩ := Int.eq_ofNat_of_zero_le hx0
    have hd : d < 3 := by omega
    have hS2 : SS B g w1 W6 := ⟨hq2, grown_trans' hS.2 hg2⟩
    (try go_wp2_with fail)
    refine hK.out _ _ hS2 (fun _ => ?_)
    simp only [List.setIfInBounds_toArray, List.set_cons_zero, List.set_cons_succ]
    have hkb : (d : Int) < 3 := by omega
    have hk0 : (0 : Int) ≤ (d : Int) := by omega
    refine wpAnyH_take (i := 2) (v := ?_) rfl (by kernel_rfl) (by kernel_rfl) (by kernel_rfl) (fun c a w h => HP.out c _ _ w h) (Or.inl ⟨by rfl, ?_⟩) hS2 ?_
    rotate_left
    · intro w2 hSw; go_simp; (try with_reducible rfl)
    simp only [Act.put, List.setIfInBounds_toArray, List.set_cons_zero, List.set_cons_succ]
    exact st_11000 Q HP hBg hgl HF W6 hS2 d hd b7 (hT.next hg2 hgl)
  refine AllReadyH.cons (i := 9) rfl (fun K hK => ?_) ?_
  · go_simp
    have hS2 := hS.alloc (.cells #[.int .u8 0, .string ⟨#[]⟩] 25)
    refine hK.out _ _ hS2 (fun _ => ?_)
    simp only [List.setIfInBounds_toArray, List.set_cons_zero, List.set_cons_succ]
    exact st_01001 Q HP hBg hgl HF _ hS2 b7 (hT.alloc _) _ (BoxAt.new _ hz)
  exact AllReadyH.nil
set_option maxRecDepth 100000 in
set_option maxHeartbeats 1000000 in
theorem st_00000 (Q : Exit → Act → World → Prop) (HP : Hid (∀ c a a' (W : World), Q (.panic c) a W → Q (.panic c) a' W)) {B g ws : Nat} {w1 : World} (hBg : B ≤ g) (hgl : g < w1.heap.size) (HF : Hid (∀ (b3 b7 d q : Nat) (p : ByteArray) (W : World), (w1.heap.size ≤ b3 ∧ b3 < W.heap.size) → Bx W b3 (.int .u8 (byteAt { data := #[68, 83, 86] } d)) (.string p) → p.size ≤ 41 → SS B g w1 W → Q .normal ⟨#[.pointer (some ⟨g, 0, none⟩), undef, .pointer (some ⟨ws, 0, none⟩), .pointer (some ⟨b3, 0, none⟩), .pointer (some ⟨g, 0, none⟩), .int .i64 (d : Nat), .int .u8 (byteAt { data := #[68, 83, 86] } d), .slice (some ⟨b7, 0, none⟩) 5 5, .pointer (some ⟨g, 0, none⟩), .int .i64 (q : Nat), .pointer (some ⟨b7, q, none⟩), .string p, .agg #[.int .u8 (byteAt { data := #[68, 83, 86] } d), .string p], undef, undef, undef, undef, undef, undef, undef, undef, undef, undef, undef, undef, undef, undef, undef, undef, undef], []⟩ W)) (W : World) (hS : SS B g w1 W)  : wpAnyH Tryd.prog .any r1ops Q (SS B g w1) 9 (#[true, false, false, false, true, false, false, false, false, false, false] : Array Bool) ⟨#[.pointer (some ⟨g, 0, none⟩), undef, .pointer (some ⟨ws, 0, none⟩), undef, .pointer (some ⟨g, 0, none⟩), undef, undef, undef, .pointer (some ⟨g, 0, none⟩), undef, undef, undef, undef, undef, undef, undef, undef, undef, undef, undef, undef, undef, undef, undef, undef, undef, undef, undef, undef, undef], []⟩ W := by
  conv => arg 3; whnf
  have hz := hS.2.size
  refine wpAnyH_ready (rs := [1, 3, 9]) (by kernel_rfl) (by simp) ?_
  refine AllReadyH.cons (i := 1) rfl (fun K hK => ?_) ?_
  · go_simp
    refine (l01Next_c B g 3 W hS.1 (by omega)).mono ?_
    rintro e W6 ⟨d, rfl, ⟨hx0, hx1⟩, hq2, hg2⟩
    obtain ⟨d, rfl⟩ := Int.eq_ofNat_of_zero_le hx0
    have hd : d < 3 := by omega
    have hS2 : SS B g w1 W6 := ⟨hq2, grown_trans' hS.2 hg2⟩
    (try go_wp2_with fail)
    refine hK.out _ _ hS2 (fun _ => ?_)
    simp only [List.setIfInBounds_toArray, List.set_cons_zero, List.set_cons_succ]
    have hkb : (d : Int) < 3 := by omega
    have hk0 : (0 : Int) ≤ (d : Int) := by omega
    refine wpAnyH_take (i := 2) (v := ?_) rfl (by kernel_rfl) (by kernel_rfl) (by kernel_rfl) (fun c a w h => HP.out c _ _ w h) (Or.inl ⟨by rfl, ?_⟩) hS2 ?_
    rotate_left
    · intro w2 hSw; go_simp; (try with_reducible rfl)
    simp only [Act.put, List.setIfInBounds_toArray, List.set_cons_zero, List.set_cons_succ]
    exact st_10000 Q HP hBg hgl HF W6 hS2 d hd
  refine AllReadyH.cons (i := 3) rfl (fun K hK => ?_) ?_
  · go_simp
    have hS2 := hS.alloc (.cells #[.string { data := #[] }, .string { data := #[106, 117, 114, 111, 114, 32, 49, 50, 32, 115, 119, 111, 114, 110] }, .string { data := #[112, 97, 115, 115] }, .string { data := #[97, 58, 98, 58, 99] }, .string { data := #[115, 116, 114, 105, 107, 101, 32, 51] }] 9)
    refine hK.out _ _ hS2 (fun _ => ?_)
    simp only [List.setIfInBounds_toArray, List.set_cons_zero, List.set_cons_succ]
    exact st_01000 Q HP hBg hgl HF _ hS2 _ (LitAt.new _ hz)
  refine AllReadyH.cons (i := 9) rfl (fun K hK => ?_) ?_
  · go_simp
    have hS2 := hS.alloc (.cells #[.int .u8 0, .string ⟨#[]⟩] 25)
    refine hK.out _ _ hS2 (fun _ => ?_)
    simp only [List.setIfInBounds_toArray, List.set_cons_zero, List.set_cons_succ]
    exact st_00001 Q HP hBg hgl HF _ hS2 _ (BoxAt.new _ hz)
  exact AllReadyH.nil
set_option maxRecDepth 100000 in
set_option maxHeartbeats 1000000 in
theorem r1_all (Q : Exit → Act → World → Prop) (HP : Hid (∀ c a a' (W : World), Q (.panic c) a W → Q (.panic c) a' W)) {B g ws : Nat} {w1 : World} (hBg : B ≤ g) (hgl : g < w1.heap.size) (HF : Hid (∀ (b3 b7 d q : Nat) (p : ByteArray) (W : World), (w1.heap.size ≤ b3 ∧ b3 < W.heap.size) → Bx W b3 (.int .u8 (byteAt { data := #[68, 83, 86] } d)) (.string p) → p.size ≤ 41 → SS B g w1 W → Q .normal ⟨#[.pointer (some ⟨g, 0, none⟩), undef, .pointer (some ⟨ws, 0, none⟩), .pointer (some ⟨b3, 0, none⟩), .pointer (some ⟨g, 0, none⟩), .int .i64 (d : Nat), .int .u8 (byteAt { data := #[68, 83, 86] } d), .slice (some ⟨b7, 0, none⟩) 5 5, .pointer (some ⟨g, 0, none⟩), .int .i64 (q : Nat), .pointer (some ⟨b7, q, none⟩), .string p, .agg #[.int .u8 (byteAt { data := #[68, 83, 86] } d), .string p], undef, undef, undef, undef, undef, undef, undef, undef, undef, undef, undef, undef, undef, undef, undef, undef, undef], []⟩ W)) (hS : SS B g w1 w1) : (Code.region 1 r1ops true).wp Tryd.prog Q ⟨#[.pointer (some ⟨g, 0, none⟩), undef, .pointer (some ⟨ws, 0, none⟩), undef, undef, undef, undef, undef, undef, undef, undef, undef, undef, undef, undef, undef, undef, undef, undef, undef, undef, undef, undef, undef, undef, undef, undef, undef, undef, undef], []⟩ w1 := by
  refine wp_region_held_drew (S := SS B g w1) (by kernel_rfl) hS.drew (fun _ => ?_)
  have hS2 := hS.drew
  have hS := hS2
  conv => arg 3; whnf
  show wpAnyH Tryd.prog .any _ Q (SS B g w1) 11 (#[false, false, false, false, false, false, false, false, false, false, false] : Array Bool) _ _
  refine wpAnyH_take (i := 0) (v := ?_) rfl (by kernel_rfl) (by kernel_rfl) (by kernel_rfl) (fun c a w h => HP.out c _ _ w h) (Or.inl ⟨by rfl, ?_⟩) hS2 ?_
  rotate_left
  · intro w2 hSw; go_simp; (try with_reducible rfl)
  simp only [Act.put, List.setIfInBounds_toArray, List.set_cons_zero]
  refine wpAnyH_take (i := 4) (v := ?_) rfl (by kernel_rfl) (by kernel_rfl) (by kernel_rfl) (fun c a w h => HP.out c _ _ w h) (Or.inl ⟨by rfl, ?_⟩) hS2 ?_
  rotate_left
  · intro w2 hSw; go_simp; (try with_reducible rfl)
  simp only [Act.put, List.setIfInBounds_toArray, List.set_cons_zero, List.set_cons_succ]
  exact st_00000 Q HP hBg hgl HF _ hS2
end Go.Proofs.YtdibfppmodeiiaaDoor
