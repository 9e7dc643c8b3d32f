/- Contract: readTemplate. -/
import Derived.Test.YtilanpmjemlopaaTpl4
import Derived.Test.YtilanpmjemlopaaTpl5
import Derived.ArgAppend
namespace Go.Proofs.Ytilanpmjemlopaa
open Go.RowKit
set_option linter.unusedVariables false
/-- 'append(out, src...)' to a row of the call's own that has a block: the new row lies there, or in a new block. -/
theorem wpList_catG {P : Program} (w : World) {ops : Array Oper} {rest : List Oper} {o : Oper} {a : Act} {Q : Exit → Act → World → Prop} (hgd : o.guard = none) (s x : Operand) (t : TypeId)
    (ho : o.op = .call { callee := .builtin .append, args := #[s, x], argTypes := #[t, t] })
    (base : Nat) (e : TypeId) (i : TypeInfo) (z : Value) (size bytes : Nat) (ht : P.underlying t = some (.slice e)) (hi : P.info? e = some i) (hz : i.zero = some z)
    (hsize : i.size = size) (hby : i.bytes = bytes) (hzs : z.cells.size = size) (hsz : 0 < size)
    (g n cap : Nat) (xs : List Value) (hs : a.eval s = .slice (some ⟨g, 0, none⟩) n cap) (hown : w.ownsRow base e size (.slice (some ⟨g, 0, none⟩) n cap) n xs)
    (A : Option Addr) (m c B : Nat) (ys : List Value) (hx : a.eval x = .slice A m c) (hr : Rd w B A (m * size) ys) (h1 : ∀ u ∈ ys, u.oneCell' = true)
    (h63 : n + m ≤ maxLen) (hbytes : (n + m) * bytes ≤ 140737488355328) (hbase : base ≤ w.heap.size)
    (h : ∀ g' c' w', w'.ownsRow base e size (.slice (some ⟨g', 0, none⟩) (n + m) c') (n + m) (xs ++ ys) → w.grownBy w' (some g) → (g' = g ∨ w.heap.size ≤ g') → wpList P ops Q rest (a.put o.dst (.slice (some ⟨g', 0, none⟩) (n + m) c')) w') :
    wpList P ops Q (o :: rest) a w := by
  cases A with
  | none =>
    have hm : m = 0 := by
      by_cases h0 : m = 0
      · exact h0
      · obtain ⟨b, off, e0, _⟩ := hr.2 (Nat.mul_pos (by omega) hsz); cases e0
    subst hm
    have hys : ys = [] := List.eq_nil_of_length_eq_zero (by have := hr.1; simpa using this)
    subst hys
    refine wpList_plain hgd fun K hK => ?_
    have hrun := run_append_none' (P := P) (w := w) base t o.type e i size ht hi _ n xs hown c
    unfold Oper.wp
    simp [execOp, ho, resolve, invoke, builtin, hs, hx, hrun, Result.andThen]
    exact hK _ _ (h g cap w (by simpa using hown) (World.grownBy.refl _ _) (.inl rfl))
  | some ad =>
    have hcell : ∀ j u, ys[j]? = some u → w.cell? (ad.add j) = some u := fun j u hj => by
      have hjl := (List.getElem?_eq_some_iff.1 hj).1
      obtain ⟨b, off, e0, _, hc⟩ := hr.2 (by have := hr.1; omega)
      injection e0 with e0
      subst e0
      have := hc j u hj
      have e : (⟨b, off, none⟩ : Addr).add j = ⟨b, off + j, none⟩ := by unfold Addr.add; split <;> simp_all
      rwa [e]
    by_cases hf : n + m ≤ cap
    · exact wpList_append_fits w hgd s x t ho base e i size ht hi hsize g n cap xs hs hown ad m c ys hx hr.1 hcell h1 hf fun w' h2 h3 => h g cap w' h2 h3 (.inl rfl)
    · refine wpList_append_grows w hgd s x t ho e i z size bytes ht hi hz hsize hby hzs hsz (some ⟨g, 0, none⟩) n cap xs hs (fun e0 => by cases e0) hown.1 (fun b hb => ?_) ad m c ys hx hr.1 hcell h1 (by omega) h63 hbytes fun v' w' h2 h3 => ?_
      · injection hb with hb
        subst hb
        exact hown.cells (g := g) rfl
      · rcases h2.2 with ⟨_, h0⟩ | ⟨g', cap', cur, rfl, hb, _⟩
        · omega
        · exact h g' cap' w' (own_mono h2 hbase) ⟨h3.os, h3.tape, h3.output, h3.size, fun k hk _ => h3.block k hk (by simp)⟩ (.inr hb)
/-- A part in memory. -/
structure PtM where
  pl : PlD
  sec : Bool
  A : Option Addr
  c : Nat
  inner : List PlD
def PtM.d (p : PtM) : PtD := ⟨p.pl, p.sec, p.inner⟩
def PtM.cells (p : PtM) : List Value := [.string p.pl.text, .string p.pl.name, .bool p.sec, .slice p.A p.inner.length p.c]
def mOf (x : PlD) : PtM := ⟨x, false, none, 0, []⟩
theorem mOf_cells (D : List PlD) : (D.map mOf).flatMap PtM.cells = D.flatMap plC := by
  induction D with
  | nil => rfl
  | cons x D ih => rw [List.map_cons, List.flatMap_cons, List.flatMap_cons, ih]; rfl
theorem mOf_d (D : List PlD) : (D.map mOf).map PtM.d = D.map ptOf := by rw [List.map_map]; rfl
/-- The parts of a section, read; apart from the row's block. -/
def InnerOk (W : World) (g : Nat) (p : PtM) : Prop := Rd W W.heap.size p.A (p.inner.length * 4) (p.inner.flatMap plC) ∧ ∀ ad, p.A = some ad → ad.block ≠ g ∧ ad.block < W.heap.size
def InnersOk (W : World) (g : Nat) (M : List PtM) : Prop := ∀ p ∈ M, InnerOk W g p
theorem InnersOk.below {W W' : World} {g : Nat} {M : List PtM} (h : InnersOk W g M) (hb : Below W.heap.size W W') : InnersOk W' g M := fun p hp =>
  ⟨rdW hb (h p hp).1, fun ad e => ⟨((h p hp).2 ad e).1, Nat.lt_of_lt_of_le ((h p hp).2 ad e).2 hb.size⟩⟩
theorem InnersOk.grown {W W' : World} {g g' : Nat} {M : List PtM} (h : InnersOk W g M) (hg : W.grownBy W' (some g)) (ha : g' = g ∨ W.heap.size ≤ g') : InnersOk W' g' M := fun p hp =>
  ⟨((h p hp).1.grown hg (fun ad e e2 => ((h p hp).2 ad e).1 (Option.some.inj e2))).more hg.size, fun ad e => by
    have h2 := (h p hp).2 ad e
    have := hg.size
    refine ⟨?_, by omega⟩
    rcases ha with rfl | ha
    · exact h2.1
    · omega⟩
theorem InnersOk.app {W : World} {g : Nat} {M N : List PtM} (h : InnersOk W g M) (k : InnersOk W g N) : InnersOk W g (M ++ N) := fun p hp => by
  rcases List.mem_append.1 hp with hp | hp
  · exact h p hp
  · exact k p hp
theorem InnersOk.pts (W : World) (g : Nat) (D : List PlD) : InnersOk W g (D.map mOf) := fun p hp => by
  obtain ⟨x, _, rfl⟩ := List.mem_map.1 hp
  exact ⟨Rd.nil_, fun ad e => by cases e⟩
theorem InnersOk.one {W : World} {g : Nat} {p : PtM} (h : InnerOk W g p) : InnersOk W g [p] := fun x hx => by rw [List.mem_singleton.1 hx]; exact h
theorem InnersOk.nil (W : World) (g : Nat) : InnersOk W g [] := fun p hp => by cases hp
/-- What a text is read as, for a template. -/
def tplOf (s : ByteArray) : Option (List PtD) := if isPlainB s 600 = true then rtQ specC s.data.toList else none
theorem own_catM {W : World} {b g c : Nat} {M N : List PtM} {ys : List Value} {n k : Nat} (hn : M.length = n) (hk : N.length = k) (hy : N.flatMap PtM.cells = ys) (h : W.ownsRow b 66 4 (.slice (some ⟨g, 0, none⟩) (n + k) c) (n + k) (M.flatMap PtM.cells ++ ys)) : W.ownsRow b 66 4 (.slice (some ⟨g, 0, none⟩) (M ++ N).length c) (M ++ N).length ((M ++ N).flatMap PtM.cells) := by
  subst hn; subst hk; subst hy
  rw [List.length_append, List.flatMap_append]; exact h
def ReadT (s : ByteArray) (w : World) (e : Ending) (wr : World) : Prop :=
  (tplOf s = none ∧ e = .returned (.tuple #[.slice none 0 0, .bool false]) ∧ Below w.heap.size w wr) ∨
  ∃ (M : List PtM) (g c : Nat), tplOf s = some (M.map PtM.d) ∧ e = .returned (.tuple #[.slice (some ⟨g, 0, none⟩) M.length c, .bool true]) ∧ wr.ownsRow w.heap.size 66 4 (.slice (some ⟨g, 0, none⟩) M.length c) M.length (M.flatMap PtM.cells) ∧ InnersOk wr g M ∧ Below w.heap.size w wr
theorem one_plC : ∀ (D : List PlD), ∀ u ∈ D.flatMap plC, u.oneCell' = true := one_flat (fun x u hu => by
  simp only [plC, List.mem_cons, List.not_mem_nil, or_false] at hu
  rcases hu with rfl | rfl | rfl | rfl <;> rfl)
end Go.Proofs.Ytilanpmjemlopaa
