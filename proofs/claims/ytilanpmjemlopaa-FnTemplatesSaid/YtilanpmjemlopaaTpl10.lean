/- Contracts: IndexFunc and DeleteFunc with the closure of missing. -/
import Derived.Test.YtilanpmjemlopaaTpl9
import Derived.Lib.SliceRun
namespace Go.Proofs.Ytilanpmjemlopaa
open Go.RowKit
set_option linter.unusedVariables false
def lackB (V : List ValueD) (n : ByteArray) : Bool := (txtOf V n).isNone
def IdxP (V : List ValueD) (L : List ByteArray) (q : Int) : Prop := (q = -1 ∧ ∀ j (hj : j < L.length), lackB V L[j] = true) ∨ ∃ k, ∃ hk : k < L.length, q = (k : Int) ∧ lackB V L[k] = false ∧ ∀ j (hj : j < L.length), j < k → lackB V L[j] = true
theorem lack_some {V : List ValueD} {n : ByteArray} (b : Bool) (h : lackB V n = !b) : (txtOf V n).isSome = b := by
  unfold lackB at h
  cases hx : txtOf V n <;> rw [hx] at h <;> simp_all
set_option maxRecDepth 100000 in
set_option maxHeartbeats 2000000 in
theorem idxMiss_c (A : Option Addr) (c : Nat) (L : List ByteArray) (b : Nat) (vA : Option Addr) (vc : Nat) (V : List ValueD) (w : World) (hr : Rd w w.heap.size A L.length (L.map Value.string)) (hl : L.length ≤ 4000000) (h0 : w.cell? ⟨b, 0, none⟩ = some (.slice vA V.length vc)) (hb : b < w.heap.size) (hv : Rd w w.heap.size vA (V.length * 2) (V.flatMap valueC)) (hvl : V.length ≤ 140737488355328) (hvc : V.length ≤ vc) :
    Calls Try.prog 75 #[.slice A L.length c, .func (.func 61) #[] #[.pointer (some ⟨b, 0, none⟩)]] w fun e w' => (∃ q : Int, e = .returned (.int .i64 q) ∧ IdxP V L q) ∧ Below w.heap.size w w' := by
  have HR := Lib.hid hr; have HV := Lib.hid hv; have H0 := Lib.hid h0
  clear hr hv h0
  go_enter Try.func75, Try.ntmps75
  go_wp2
  go_loopw [8] (fun i wr => ∃ k : Nat, k ≤ L.length ∧ i = .int .i64 k ∧ Hid (Below w.heap.size w wr) ∧ Hid (∀ j (hj : j < L.length), j < k → lackB V L[j] = true)) (fun i _ => L.length - (intOf i).toNat)
  case atStart => exact ⟨0, by omega, rfl, Below.refl _ _, Lib.hid (fun j hj h => by omega)⟩
  case round =>
    obtain ⟨k, hk, rfl, HB, HT⟩ := hrel
    have hzr := HB.out.size
    by_cases hlt : k < L.length
    · obtain ⟨bf, offf, rfl, hbf, hcf⟩ := Rd.strs (rdW HB.out HR.out) hlt
      have f0 : wr.cell? ⟨bf, offf + k, none⟩ = some (.string L[k]) := hcf k hlt
      clear hcf
      have hk1 : (k : Int) < (L.length : Int) := by omega
      have hk0 : (0 : Int) ≤ (k : Int) := by omega
      go_wp2_with fail
      refine (miss2_c L[k] b vA vc V wr ((HB.out.cell (p := ⟨b, 0, none⟩) hb).trans H0.out) (rdW HB.out HV.out) hvl hvc).mono ?_
      rintro e w2 ⟨rfl, hb2⟩
      have HB2 := Lib.hid (bt HB.out hb2)
      clear hb2
      cases hh : lackB V L[k] with
      | false =>
        rw [lack_some true hh]
        have HQ : Hid (IdxP V L (k : Int)) := .inr ⟨k, hlt, rfl, hh, HT.out⟩
        clear hh
        go_wp2
        go_ret
        exact ⟨⟨(k : Int), rfl, HQ.out⟩, HB2.out⟩
      | true =>
        rw [lack_some false hh]
        have HN : Hid (∀ j (hj : j < L.length), j < k + 1 → lackB V L[j] = true) := fun j hj h => by
          by_cases e : j = k
          · subst e; exact hh
          · exact HT.out j hj (by omega)
        clear hh
        go_wp2
        go_roundw
        case rel => exact ⟨k + 1, by omega, by go_num, HB2, HN⟩
        case measure => first | (simp [intOf]; done) | (simp [intOf]; omega)
    · obtain rfl : k = L.length := by omega
      go_wp2
      go_ret
      exact ⟨⟨-1, rfl, .inl ⟨rfl, fun j hj => HT.out j hj hj⟩⟩, HB.out⟩
/-- 'clear(s)', some cells of a row of one-cell elements. -/
theorem wpList_clear {P : Program} (w : World) {ops : Array Oper} {rest : List Oper} {o : Oper} {a : Act} {Q : Exit → Act → World → Prop} (hgd : o.guard = none) (s : Operand) (t : TypeId)
    (ho : o.op = .call { callee := .builtin .clear, args := #[s], argTypes := #[t] })
    (e : TypeId) (z : Value) (ht : P.underlying t = some (.slice e)) (hv : ∀ w, (zeroValue e).run P w = .ok z w) (hz : z.cells = #[z]) (h1 : z.oneCell' = true)
    (b off n c : Nat) (hs : a.eval s = .slice (some ⟨b, off, none⟩) n c) (hn : 0 < n)
    (hc : ∀ j, j < n → (w.cell? ⟨b, off + j, none⟩).isSome = true) (hf : ∀ j, j < n → w.frozen? ⟨b, off + j, none⟩ = false)
    (h : wpList P ops Q rest (a.put o.dst (.tuple #[])) (w.setCells b off (List.replicate n z))) :
    wpList P ops Q (o :: rest) a w := by
  refine wpList_plain hgd fun K hK => ?_
  have hrun := Lib.run_clear_slice (P := P) w t e o.type z ht hv hz h1 b off n c hn hc hf
  unfold Oper.wp
  simp [execOp, ho, resolve, invoke, builtin, hs, hrun, Result.andThen]
  exact hK _ _ h
theorem own_setCells {base : Nat} {e : TypeId} {size g n cap : Nat} : ∀ (cs : List Value) {w : World} {o : Nat} {xs : List Value}, w.ownsRow base e size (.slice (some ⟨g, 0, none⟩) n cap) n xs →
    (w.setCells g o cs).ownsRow base e size (.slice (some ⟨g, 0, none⟩) n cap) n (setL xs o cs) ∧ w.grownBy (w.setCells g o cs) (some g)
  | [], w, o, xs, h => ⟨h, World.grownBy.refl _ _⟩
  | c :: cs, w, o, xs, h => by
    have h1 := h.stored o c
    have h2 := own_setCells cs (o := o + 1) h1.1
    exact ⟨h2.1, grown_trans' h1.2 h2.2⟩
theorem setL_mid : ∀ (cs A B : List Value), cs.length ≤ B.length → setL (A ++ B) A.length cs = A ++ (cs ++ B.drop cs.length)
  | [], A, B, _ => by simp [setL]
  | c :: cs, A, [], h => by simp at h
  | c :: cs, A, b :: B, h => by
    have ih := setL_mid cs (A ++ [c]) B (by simpa using h)
    have e : (A ++ b :: B).set A.length c = (A ++ [c]) ++ B := by
      rw [List.set_append_right _ _ (Nat.le_refl _), Nat.sub_self]; simp
    rw [setL, e, show A.length + 1 = (A ++ [c]).length by simp, ih]
    simp
theorem own_shrink {w : World} {base : Nat} {e : TypeId} {size g n c : Nat} {xs : List Value} (h : w.ownsRow base e size (.slice (some ⟨g, 0, none⟩) n c) n xs) {n' : Nat} (hn : n' ≤ n) : w.ownsRow base e size (.slice (some ⟨g, 0, none⟩) n' c) n' (xs.take (n' * size)) := by
  have hm : n' * size ≤ n * size := Nat.mul_le_mul_right _ hn
  refine ⟨by rw [List.length_take, h.1, Nat.min_eq_left hm], ?_⟩
  rcases h.2 with ⟨h0, _⟩ | ⟨g', cap, cur, hv, hb, hg, h1, h2, h3, h4⟩
  · simp at h0
  · simp only [Value.slice.injEq, Option.some.injEq, Addr.mk.injEq, and_true, true_and] at hv
    obtain ⟨rfl, rfl⟩ := hv
    refine .inr ⟨g, c, cur, rfl, hb, hg, by omega, h2, h3, ?_⟩
    rw [← h4, List.take_take, Nat.min_eq_left hm]
/-- What is left of the names: those without a value. -/
def keptN (V : List ValueD) (L : List ByteArray) : List ByteArray := L.filter (lackB V)
/-- The state of the striking: the first i cells are what is kept of the first j names, from j on they are as they were. -/
structure DelI (V : List ValueD) (L : List ByteArray) (j i : Nat) (ys : List ByteArray) : Prop where
  len : ys.length = L.length
  kept : ys.take i = keptN V (L.take j)
  rest : ys.drop j = L.drop j
  lt : i < j
  le : j ≤ L.length
  cnt : i = (keptN V (L.take j)).length
theorem kept_step {V : List ValueD} {L : List ByteArray} {j : Nat} (hj : j < L.length) : keptN V (L.take (j + 1)) = keptN V (L.take j) ++ (if lackB V L[j] = true then [L[j]] else []) := by
  unfold keptN
  rw [List.take_succ_eq_append_getElem hj, List.filter_append]
  congr 1
  by_cases h : lackB V L[j] = true
  · rw [if_pos h, List.filter_cons_of_pos h]; rfl
  · rw [if_neg h, List.filter_cons_of_neg h]; rfl
theorem DelI.start {V : List ValueD} {L : List ByteArray} {k : Nat} (hk : k < L.length) (h0 : lackB V L[k] = false) (h : ∀ j (hj : j < L.length), j < k → lackB V L[j] = true) : DelI V L (k + 1) k L := by
  have e : keptN V (L.take k) = L.take k := by
    unfold keptN
    rw [List.filter_eq_self]
    intro x hx
    obtain ⟨i, hi, rfl⟩ := List.getElem_of_mem hx
    rw [List.length_take] at hi
    rw [List.getElem_take]
    exact h i (by omega) (by omega)
  have e2 : keptN V (L.take (k + 1)) = L.take k := by rw [kept_step hk, h0, e]; simp
  exact ⟨rfl, by rw [e2], rfl, by omega, by omega, by rw [e2, List.length_take]; omega⟩
theorem DelI.at {V : List ValueD} {L ys : List ByteArray} {j i : Nat} (h : DelI V L j i ys) (hj : j < L.length) : ∃ hy : j < ys.length, ys[j] = L[j] := by
  have hy : j < ys.length := by rw [h.len]; exact hj
  refine ⟨hy, ?_⟩
  have := congrArg List.head? h.rest
  rw [List.head?_drop, List.head?_drop, List.getElem?_eq_getElem hy, List.getElem?_eq_getElem hj] at this
  exact Option.some.inj this
theorem DelI.skip {V : List ValueD} {L ys : List ByteArray} {j i : Nat} (h : DelI V L j i ys) (hj : j < L.length) (h0 : lackB V L[j] = false) : DelI V L (j + 1) i ys := by
  have e : keptN V (L.take (j + 1)) = keptN V (L.take j) := by rw [kept_step hj, h0]; simp
  refine ⟨h.len, by rw [e]; exact h.kept, ?_, by have := h.lt; omega, by omega, by rw [e]; exact h.cnt⟩
  rw [← List.drop_drop, h.rest, List.drop_drop]
theorem DelI.keep {V : List ValueD} {L ys : List ByteArray} {j i : Nat} (h : DelI V L j i ys) (hj : j < L.length) (h0 : lackB V L[j] = true) : DelI V L (j + 1) (i + 1) (ys.set i L[j]) := by
  have e : keptN V (L.take (j + 1)) = keptN V (L.take j) ++ [L[j]] := by rw [kept_step hj, h0]; simp
  have hi := h.lt
  have hl := h.len
  refine ⟨by rw [List.length_set]; exact h.len, ?_, ?_, by omega, by omega, by rw [e, List.length_append, ← h.cnt]; rfl⟩
  · rw [e, ← h.kept, List.take_add_one, List.getElem?_set_self (by omega), List.take_set_of_le (Nat.le_refl _)]; rfl
  · rw [List.drop_set_of_lt (by omega), ← List.drop_drop, h.rest, List.drop_drop]
end Go.Proofs.Ytilanpmjemlopaa
