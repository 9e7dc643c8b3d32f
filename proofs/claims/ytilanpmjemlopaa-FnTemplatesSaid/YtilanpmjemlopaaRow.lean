/- 'append' of a whole slice to a row of the call's own; a clone. -/
import Derived.Test.YtilanpmjemlopaaBase
import Derived.Laws.AppendOwnNone
namespace Go.Proofs.Ytilanpmjemlopaa
open Go.RowKit
set_option linter.unusedVariables false
theorem run_append_none' {P : Program} {w : World} (base : Nat) (t ty e : TypeId) (i : TypeInfo) (size : Nat) (ht : P.underlying t = some (.slice e)) (hi : P.info? e = some i)
    (v : Value) (n : Nat) (xs : List Value) (hown : w.ownsRow base e size v n xs) (c : Nat) :
    (Builtin.append_ #[t, t] ty #[v, .slice none 0 c]).run P w = .ok v w := by
  rcases hown.2 with ⟨rfl, rfl⟩ | ⟨g, cap, cur, rfl, _, _, hnc, _⟩
  · simp [Builtin.append_, run_underlying ht, sizeOf, typeInfo, hi, Builtin.lenOf, Builtin.firstCells]
  · simp [Builtin.append_, run_underlying ht, sizeOf, typeInfo, hi, Builtin.lenOf, Builtin.firstCells, hnc, storeCells]

/-- 'append(out, src...)', out the call's own row, src a slice that reads as ys. -/
theorem wp_cat {P : Program} (w : World) {o : Oper} {a : Act} {K : Act → World → Prop} {Q : Exit → Act → World → Prop} (s x : Operand) (t : TypeId)
    (ho : o.op = .call { callee := .builtin .append, args := #[s, x], argTypes := #[t, t] })
    (base : Nat) (e : TypeId) (i : TypeInfo) (z : Value) (size bytes : Nat) (ht : P.underlying t = some (.slice e)) (hi : P.info? e = some i) (hz : i.zero = some z)
    (hsize : i.size = size) (hby : i.bytes = bytes) (hzs : z.cells.size = size) (hsz : 0 < size)
    (v : Value) (n : Nat) (xs : List Value) (hs : a.eval s = v) (hown : w.ownsRow base e size v n xs)
    (A : Option Addr) (m c B : Nat) (ys : List Value) (hx : a.eval x = .slice A m c) (hr : Rd w B A (m * size) ys) (h1 : ∀ u ∈ ys, u.oneCell' = true)
    (h63 : n + m ≤ maxLen) (hbytes : (n + m) * bytes ≤ 140737488355328) (hbase : base ≤ w.heap.size)
    (h : ∀ A' c' w', w'.ownsRow base e size (.slice A' (n + m) c') (n + m) (xs ++ ys) → w.grownBy w' v.ownBlock → K (a.put o.dst (.slice A' (n + m) c')) w') :
    Oper.wp P o a w K Q := by
  cases A with
  | none =>
    have hm : m = 0 := by
      by_cases h0 : m = 0
      · exact h0
      · obtain ⟨b, off, e0, _⟩ := hr.2 (Nat.mul_pos (by omega) hsz); cases e0
    subst hm
    have hys : ys = [] := List.eq_nil_of_length_eq_zero (by have := hr.1; simpa using this)
    subst hys
    obtain ⟨A0, c0, rfl, _, _⟩ := own_form hown
    have hrun := run_append_none' (P := P) (w := w) base t o.type e i size ht hi _ n xs hown c
    unfold Oper.wp
    simp [execOp, ho, resolve, invoke, builtin, hs, hx, hrun, Result.andThen]
    exact h A0 c0 w (by simpa using hown) (World.grownBy.refl _ _)
  | some ad =>
    refine wp_append_own w s x t ho base e i z size bytes ht hi hz hsize hby hzs hsz v n xs hs hown ad m c ys hx hr.1 ?_ h1 h63 hbytes hbase ?_
    · intro j u hj
      have hjl := (List.getElem?_eq_some_iff.1 hj).1
      obtain ⟨b, off, e0, _, hc⟩ := hr.2 (by have := hr.1; omega)
      injection e0 with e0
      subst e0
      have := hc j u hj
      have e : (⟨b, off, none⟩ : Addr).add j = ⟨b, off + j, none⟩ := by unfold Addr.add; split <;> simp_all
      rwa [e]
    · intro v' w' h2 h3 _
      obtain ⟨A', c', rfl, _, _⟩ := own_form h2
      exact h A' c' w' h2 h3
theorem wpList_cat {P : Program} (w : World) {ops : Array Oper} {rest : List Oper} {o : Oper} {a : Act} {Q : Exit → Act → World → Prop} (hgd : o.guard = none) (s x : Operand) (t : TypeId)
    (ho : o.op = .call { callee := .builtin .append, args := #[s, x], argTypes := #[t, t] })
    (base : Nat) (e : TypeId) (i : TypeInfo) (z : Value) (size bytes : Nat) (ht : P.underlying t = some (.slice e)) (hi : P.info? e = some i) (hz : i.zero = some z)
    (hsize : i.size = size) (hby : i.bytes = bytes) (hzs : z.cells.size = size) (hsz : 0 < size)
    (v : Value) (n : Nat) (xs : List Value) (hs : a.eval s = v) (hown : w.ownsRow base e size v n xs)
    (A : Option Addr) (m c B : Nat) (ys : List Value) (hx : a.eval x = .slice A m c) (hr : Rd w B A (m * size) ys) (h1 : ∀ u ∈ ys, u.oneCell' = true)
    (h63 : n + m ≤ maxLen) (hbytes : (n + m) * bytes ≤ 140737488355328) (hbase : base ≤ w.heap.size)
    (h : ∀ A' c' w', w'.ownsRow base e size (.slice A' (n + m) c') (n + m) (xs ++ ys) → w.grownBy w' v.ownBlock → wpList P ops Q rest (a.put o.dst (.slice A' (n + m) c')) w') :
    wpList P ops Q (o :: rest) a w :=
  wpList_plain hgd fun _ hK => wp_cat w s x t ho base e i z size bytes ht hi hz hsize hby hzs hsz v n xs hs hown A m c B ys hx hr h1 h63 hbytes hbase fun A' c' w' h2 h3 => hK _ _ (h A' c' w' h2 h3)
/-- The same at a step of a region that draws its order. -/
theorem step_cat {P : Program} (w : World) {ops : Array Oper} {o : Oper} {a : Act} {K : Act → World → Prop} {Q : Exit → Act → World → Prop} {E : Prop} (hgd : o.guard = none) (s x : Operand) (t : TypeId)
    (ho : o.op = .call { callee := .builtin .append, args := #[s, x], argTypes := #[t, t] })
    (base : Nat) (e : TypeId) (i : TypeInfo) (z : Value) (size bytes : Nat) (ht : P.underlying t = some (.slice e)) (hi : P.info? e = some i) (hz : i.zero = some z)
    (hsize : i.size = size) (hby : i.bytes = bytes) (hzs : z.cells.size = size) (hsz : 0 < size)
    (v : Value) (n : Nat) (xs : List Value) (hs : a.eval s = v) (hown : w.ownsRow base e size v n xs)
    (A : Option Addr) (m c B : Nat) (ys : List Value) (hx : a.eval x = .slice A m c) (hr : Rd w B A (m * size) ys) (h1 : ∀ u ∈ ys, u.oneCell' = true)
    (h63 : n + m ≤ maxLen) (hbytes : (n + m) * bytes ≤ 140737488355328) (hbase : base ≤ w.heap.size) (N : Nat) (hN : n + m = N)
    (h : ∀ A' c' w', w'.ownsRow base e size (.slice A' N c') N (xs ++ ys) → w.grownBy w' v.ownBlock → K (a.put o.dst (.slice A' N c')) w') :
    if Region.wanted o (yielded ops a.tmps) = true then Oper.wp P o a w K Q else E := by
  have hw : Region.wanted o (yielded ops a.tmps) = true := by simp [Region.wanted, hgd]
  rw [if_pos hw]
  subst hN
  exact wp_cat w s x t ho base e i z size bytes ht hi hz hsize hby hzs hsz v n xs hs hown A m c B ys hx hr h1 h63 hbytes hbase h
/-- 'append(out, src...)' within the capacity. -/
theorem wpList_fitsR {P : Program} (w : World) {ops : Array Oper} {rest : List Oper} {o : Oper} {a : Act} {Q : Exit → Act → World → Prop} (hgd : o.guard = none) (s x : Operand) (t : TypeId)
    (ho : o.op = .call { callee := .builtin .append, args := #[s, x], argTypes := #[t, t] })
    (base : Nat) (e : TypeId) (i : TypeInfo) (size : Nat) (ht : P.underlying t = some (.slice e)) (hi : P.info? e = some i) (hsize : i.size = size) (hsz : 0 < size)
    (g k cap : Nat) (xs : List Value) (hs : a.eval s = .slice (some ⟨g, 0, none⟩) k cap) (hown : w.ownsRow base e size (.slice (some ⟨g, 0, none⟩) k cap) k xs)
    (A : Option Addr) (m c B : Nat) (ys : List Value) (hx : a.eval x = .slice A m c) (hr : Rd w B A (m * size) ys) (h1 : ∀ u ∈ ys, u.oneCell' = true) (b1 : k + m ≤ cap)
    (h : ∀ w', w'.ownsRow base e size (.slice (some ⟨g, 0, none⟩) (k + m) cap) (k + m) (xs ++ ys) → w.grownBy w' (some g) → wpList P ops Q rest (a.put o.dst (.slice (some ⟨g, 0, none⟩) (k + m) cap)) w') :
    wpList P ops Q (o :: rest) a w := by
  cases A with
  | none =>
    have hm : m = 0 := by
      by_cases h0 : m = 0
      · exact h0
      · obtain ⟨b, off, e0, _⟩ := hr.2 (Nat.mul_pos (by omega) hsz); cases e0
    subst hm
    have hys : ys = [] := List.eq_nil_of_length_eq_zero (by have := hr.1; simpa using this)
    subst hys
    refine wpList_plain hgd fun K hK => ?_
    have hrun := run_append_none' (P := P) (w := w) base t o.type e i size ht hi _ k xs hown c
    unfold Oper.wp
    simp [execOp, ho, resolve, invoke, builtin, hs, hx, hrun, Result.andThen]
    exact hK _ _ (h w (by simpa using hown) (World.grownBy.refl _ _))
  | some ad =>
    exact wpList_append_fits w hgd s x t ho base e i size ht hi hsize g k cap xs hs hown ad m c ys hx hr.1 (fun j u hj => by
      have hjl := (List.getElem?_eq_some_iff.1 hj).1
      obtain ⟨b, off, e0, _, hc⟩ := hr.2 (by have := hr.1; omega)
      injection e0 with e0
      subst e0
      have := hc j u hj
      have e : (⟨b, off, none⟩ : Addr).add j = ⟨b, off + j, none⟩ := by unfold Addr.add; split <;> simp_all
      rwa [e]) h1 b1 h
theorem Rd.drop_ {α : Type} {w : World} {B b off : Nat} {L : List α} {f : α → List Value} {m : Nat} (hf : ∀ a, (f a).length = m) (h : Rd w B (some ⟨b, off, none⟩) (L.length * m) (L.flatMap f)) {k : Nat} (hk : k ≤ L.length) : Rd w B (some ⟨b, off + k * m, none⟩) ((L.length - k) * m) ((L.drop k).flatMap f) := by
  refine ⟨by rw [flat_len f m hf, List.length_drop], fun hn => ?_⟩
  have hpos : 0 < L.length * m := Nat.lt_of_lt_of_le hn (Nat.mul_le_mul_right _ (Nat.sub_le _ _))
  obtain ⟨b', off', e, hb, hc⟩ := h.2 hpos
  cases e
  refine ⟨b, off + k * m, rfl, hb, fun j u hu => ?_⟩
  rw [Nat.add_assoc]
  refine hc _ _ ?_
  have e2 : L.flatMap f = (L.take k).flatMap f ++ (L.drop k).flatMap f := by rw [← List.flatMap_append, List.take_append_drop]
  have hl : ((L.take k).flatMap f).length = k * m := by rw [flat_len f m hf, List.length_take, Nat.min_eq_left hk]
  rw [e2, List.getElem?_append_right (by omega), hl, Nat.add_sub_cancel_left]
  exact hu
/-- An empty literal's row, wherever it lies. -/
theorem own_empty {w : World} {base g : Nat} {e : TypeId} {size : Nat} (h : w.heap[g]? = some (.cells #[] e (0, 0))) (hb : base ≤ g) : w.ownsRow base e size (.slice (some ⟨g, 0, none⟩) 0 0) 0 [] :=
  ⟨by simp, .inr ⟨g, 0, #[], rfl, hb, h, Nat.le_refl _, Nat.zero_le _, by simp, by simp⟩⟩
/-- A block that is known whole, as something to be read. -/
theorem Rd.of_block {w : World} {g : Nat} {cs : Array Value} {t : TypeId} {fr : Nat × Nat} (h : w.heap[g]? = some (.cells cs t fr)) : Rd w w.heap.size (some ⟨g, 0, none⟩) cs.size cs.toList :=
  ⟨by simp, fun _ => ⟨g, 0, rfl, (Array.getElem?_eq_some_iff.1 h).1, fun j u hu => by rw [show (0 : Nat) + j = j from Nat.zero_add j, cell_of_row w g j cs t fr h]; simpa using hu⟩⟩
theorem heap_at1 (w : World) (o1 o2 : Obj) : ((w.alloc o1).alloc o2).heap[w.heap.size]? = some o1 := by
  rw [Below.heap_alloc _ _ _ (by simp), heap_alloc_new]
theorem one_flat {α : Type} {f : α → List Value} (hf : ∀ a, ∀ u ∈ f a, u.oneCell' = true) (L : List α) : ∀ u ∈ L.flatMap f, u.oneCell' = true := by
  intro u hu
  obtain ⟨a, _, ha⟩ := List.mem_flatMap.1 hu
  exact hf a u ha
theorem one_ints (k : IntKind) (L : List Int) : ∀ u ∈ L.map (Value.int k), u.oneCell' = true := by
  intro u hu
  obtain ⟨a, _, rfl⟩ := List.mem_map.1 hu
  rfl
theorem one_strs (L : List ByteArray) : ∀ u ∈ L.map Value.string, u.oneCell' = true := by
  intro u hu
  obtain ⟨a, _, rfl⟩ := List.mem_map.1 hu
  rfl
theorem Rd.elemS {α : Type} {w : World} {B b off : Nat} {L : List α} (f : α → List Value) (m : Nat) (hf : ∀ a, (f a).length = m) (h : Rd w B (some ⟨b, off, none⟩) (L.length * m) (L.flatMap f)) (hm : 0 < m) {k : Nat} (hk : k < L.length) :
    b < B ∧ ∀ i (hi : i < L.length) j u, (f L[i])[j]? = some u → w.cell? ⟨b, off + i * m + j, none⟩ = some u := by
  obtain ⟨b', off', e, hb, hc⟩ := Rd.elem f m hf h hm hk
  cases e
  exact ⟨hb, hc⟩
/-- The last element's cells in a row of the call's own. -/
theorem own_lastG {α : Type} [Inhabited α] {w : World} {base : Nat} {e : TypeId} {A : Option Addr} {c m : Nat} {L : List α} {f : α → List Value} (hf : ∀ a, (f a).length = m) (hm : 0 < m) (h : w.ownsRow base e m (.slice A L.length c) L.length (L.flatMap f)) (h0 : 0 < L.length) :
    ∃ g, A = some ⟨g, 0, none⟩ ∧ base ≤ g ∧ g < w.heap.size ∧ ∀ j u, (f (L.getD (L.length - 1) default))[j]? = some u → w.cell? ⟨g, (L.length - 1) * m + j, none⟩ = some u := by
  obtain ⟨g, rfl, hg1, hg2⟩ := own_head h h0
  have hlt : L.length - 1 < L.length := by omega
  obtain ⟨b, off, hA, _, hc⟩ := Rd.elem f m hf (Rd.of_own h) hm hlt
  cases hA
  refine ⟨g, rfl, hg1, hg2, fun j u hu => ?_⟩
  rw [List.getD_eq_getElem?_getD, List.getElem?_eq_getElem hlt] at hu
  have := hc (L.length - 1) hlt j u hu
  rwa [Nat.zero_add] at this
theorem snoc_ofG {α : Type} [Inhabited α] {L : List α} (h : 0 < L.length) : L = L.take (L.length - 1) ++ [L.getD (L.length - 1) default] := by
  have e : L.getD (L.length - 1) default = L[L.length - 1] := by rw [List.getD_eq_getElem?_getD, List.getElem?_eq_getElem (by omega)]; rfl
  rw [e]
  have := List.take_succ_eq_append_getElem (l := L) (i := L.length - 1) (by omega)
  rw [← this, show L.length - 1 + 1 = L.length by omega, List.take_length]
theorem flat_setG {α : Type} {f : α → List Value} {m : Nat} (hf : ∀ a, (f a).length = m) {M : List α} {x y : α} {j : Nat} {v : Value} (hj : j < m) (h : (f x).set j v = f y) : ((M ++ [x]).flatMap f).set (M.length * m + j) v = (M ++ [y]).flatMap f := by
  rw [List.flatMap_append, List.flatMap_append, List.set_append_right _ _ (by rw [flat_len f m hf]; omega), flat_len f m hf, Nat.add_sub_cancel_left]
  simp only [List.flatMap_cons, List.flatMap_nil, List.append_nil]
  rw [h]
end Go.Proofs.Ytilanpmjemlopaa
