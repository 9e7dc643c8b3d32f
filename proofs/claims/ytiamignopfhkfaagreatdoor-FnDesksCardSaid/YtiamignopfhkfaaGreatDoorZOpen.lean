/- What is known of an argument that came in: slices of numbers and of structs, read as lists. -/
import Derived.Test.YtiamignopfhkfaaGreatDoorZ1
import Derived.ProofKit
import Derived.OpenShut
import Derived.ShutString
import Derived.ChangeOld
import Derived.Deep.Slices
import Derived.Deep.Fields
import Derived.ChangeSame
import Derived.Lib.SmallJoins
namespace Go.Proofs.YtiamignopfhkfaaGreatDoor
open Go.ChangeShapes Go.WideShapes Go.ChangeAt Go.RowKit Go.Deep Go.Joins

/-- A number that its kind holds. -/
def wfI (x : Int) : Prop := (Lit.int .i64 x).wf = true
theorem wfI_bd {x : Int} (h : wfI x) : -9223372036854775808 ≤ x ∧ x ≤ 9223372036854775807 := by
  simp [wfI, Lit.wf, IntKind.min, IntKind.max, IntKind.bits, IntKind.signed] at h; omega

theorem choose_list {α : Type} (P : Nat → α → Prop) : ∀ n : Nat, (∀ i, i < n → ∃ x, P i x) → ∃ L : List α, L.length = n ∧ ∀ i (h : i < L.length), P i L[i] := by
  intro n
  induction n with
  | zero => intro _; exact ⟨[], rfl, fun i h => by simp at h⟩
  | succ n ih =>
    intro h
    obtain ⟨L, hl, hL⟩ := ih fun i hi => h i (by omega)
    obtain ⟨x, hx⟩ := h n (by omega)
    refine ⟨L ++ [x], by simp [hl], fun i hi => ?_⟩
    by_cases e : i < L.length
    · rw [List.getElem_append_left e]; exact hL i e
    · have : i = n := by simp at hi; omega
      subst this
      have e2 : (L ++ [x])[i] = x := by rw [List.getElem_append_right (by omega)]; simp [hl]
      rw [e2]; exact hx

section
variable {H : Type} {enc : TypeId × Value → H} {P : Program} {w : World} {base : Nat} {spare : Nat → Bool} {held : Bool}

theorem rd_ints {t e : TypeId} {k : IntKind} {fuel : Nat} {A : Option Addr} {n c : Nat} {x : DataW H × List MemPlace} (ht : P.underlying t = some (.slice e)) (he : P.underlying e = some (.int k)) (hc : P.cellsOf e = 1)
    (h : DataW.trod enc P w base spare held fuel t [.slice A n c] = some x) (hs : ∀ b, spare b = true) :
    ∃ zs : List Int, zs.length = n ∧ n ≤ maxLen ∧ Rd w w.heap.size A n (zs.map (Value.int k)) ∧ ∀ z ∈ zs, (Lit.int k z).wf = true := by
  rcases open_ints ht he hc h with ⟨hcs, _⟩ | ⟨a, len, cap, zs, hcs, _, hl, hm, hz, _, hcell, hwz⟩
  · simp at hcs
    obtain ⟨rfl, rfl, rfl⟩ := hcs
    exact ⟨[], rfl, Nat.zero_le _, Rd.nil_, fun _ h => by simp at h⟩
  · simp at hcs
    obtain ⟨rfl, rfl, rfl⟩ := hcs
    rw [if_pos (hs _)] at hz
    refine ⟨zs.take n, by rw [List.length_take]; omega, by omega, ⟨by rw [List.length_map, List.length_take]; omega, fun hn => ?_⟩, fun z hz' => hwz z (List.mem_of_mem_take hz')⟩
    obtain ⟨b, off, spot⟩ := a
    have h0 := hcell 0 (by omega)
    have hspot : spot = none := by simpa [Addr.add] using World.cell?_spot h0
    subst hspot
    refine ⟨b, off, rfl, block_lt_of_cell h0, fun j u hu => ?_⟩
    have hj : j < n := by
      have := (List.getElem?_eq_some_iff.1 hu).1
      rw [List.length_map, List.length_take] at this; omega
    rw [List.getElem?_map, List.getElem?_take, if_pos hj, List.getElem?_eq_getElem (show j < zs.length by omega)] at hu
    simp only [Option.map_some, Option.some.injEq] at hu
    subst hu
    have := hcell j (by omega)
    rw [Addr.add_lit] at this
    rw [this, List.getD_eq_getElem?_getD, List.getElem?_eq_getElem (show j < zs.length by omega)]
    rfl

/-- A slice of bytes, and what is known of its cells and of its room. -/
theorem rd_code {t e : TypeId} {fuel : Nat} {A : Option Addr} {n c : Nat} {x : DataW H × List MemPlace} (ht : P.underlying t = some (.slice e)) (he : P.underlying e = some (.int .u8)) (hc : P.cellsOf e = 1)
    (h : DataW.trod enc P w base spare held fuel t [.slice A n c] = some x) (hs : ∀ b, spare b = true) :
    ∃ zs : List Int, zs.length = n ∧ n ≤ maxLen ∧ Rd w w.heap.size A n (zs.map (Value.int .u8)) ∧ (∀ z ∈ zs, 0 ≤ z ∧ z ≤ 255) ∧ n ≤ c := by
  obtain ⟨zs, h1, h2, h3, h4⟩ := rd_ints ht he hc h hs
  refine ⟨zs, h1, h2, h3, fun z hz => ?_, ?_⟩
  · have := h4 z hz
    simp [Lit.wf, IntKind.min, IntKind.max, IntKind.bits, IntKind.signed] at this; omega
  · rcases open_ints ht he hc h with ⟨hcs, _⟩ | ⟨a, len, cap, zs, hcs, _, hl, hm, _⟩
    · simp at hcs
      obtain ⟨rfl, rfl, rfl⟩ := hcs
      exact Nat.le_refl _
    · simp at hcs
      obtain ⟨rfl, rfl, rfl⟩ := hcs
      omega

/-- A slice of structs: for each element there is an 'x' whose cells are the element's. -/
theorem rd_structs {α : Type} (f : α → List Value) (m : Nat) (hf : ∀ a, (f a).length = m) (Q : α → Prop) {t e : TypeId} {fs : Array Field} {fuel : Nat} {A : Option Addr} {n c : Nat} {x : DataW H × List MemPlace}
    (ht : P.underlying t = some (.slice e)) (he : P.underlying e = some (.struct fs)) (hm : fs.size = m) (h0m : 0 < m) (hone : oneCellFields P fs = true) (hC : P.cellsOf e = fs.size)
    (h : DataW.trod enc P w base spare held fuel t [.slice A n c] = some x) (hs : ∀ b, spare b = true)
    (hel : ∀ (v : Nat → Value) (y : Nat → DataW H × List MemPlace) (k : Nat), (∀ (j : Nat) (g : Field), fs[j]? = some g → DataW.trod enc P w base spare held k g.type [v j] = some (y j)) → ∃ a : α, Q a ∧ ∀ j, j < m → (f a)[j]? = some (v j)) :
    ∃ L : List α, L.length = n ∧ n ≤ maxLen ∧ Rd w w.heap.size A (n * m) (L.flatMap f) ∧ ∀ a ∈ L, Q a := by
  rcases open_slice ht h with ⟨hcs, _⟩ | ⟨a, len, cap, m', k, D, Pl, hcs, hb, hl, hmx, hmm, hx, hi⟩
  · simp at hcs
    obtain ⟨rfl, rfl, rfl⟩ := hcs
    exact ⟨[], rfl, Nat.zero_le _, by rw [Nat.zero_mul]; exact Rd.nil_, fun _ h => by simp at h⟩
  · simp at hcs
    obtain ⟨rfl, rfl, rfl⟩ := hcs
    rw [if_pos (hs _)] at hmm
    subst hmm
    have hE : ∀ i, i < n → ∃ z : α, Q z ∧ ∀ j, j < m → ∃ u, (f z)[j]? = some u ∧ w.cell? (a.add (i * m + j)) = some u := by
      intro i hin
      obtain ⟨cs', hc', ht'⟩ := hi i (by omega)
      rw [hC, hm] at hc'
      obtain ⟨ys, k', _, hy, hlen, hyl, hfld⟩ := DataW.trod_struct he ht'
      obtain ⟨_, hcl, hat⟩ := World.cells?_some hc'
      have hcl' : cs'.length = m := hcl
      obtain ⟨z, hq, hz⟩ := hel (fun j => cs'.getD j undef) (fun j => ys.getD j (.nil, [])) k' (by
        intro j g hj
        obtain ⟨ho, hk⟩ := hone_of hone j g hj
        have hjl : j < fs.size := (Array.getElem?_eq_some_iff.1 hj).1
        have h1 := hfld j g hj
        rw [ho, hk] at h1
        have hjc : j < cs'.length := by omega
        have e1 : (cs'.drop j).take 1 = [cs'.getD j undef] := by
          rw [List.drop_eq_getElem_cons hjc, List.getD_eq_getElem?_getD, List.getElem?_eq_getElem hjc]; rfl
        rw [e1] at h1
        rw [h1, List.getD_eq_getElem?_getD, List.getElem?_eq_getElem (show j < ys.length by omega)]
        rfl)
      refine ⟨z, hq, fun j hj => ⟨_, hz j hj, ?_⟩⟩
      have hcell := hat j hj
      rw [← Go.Deep.add_add, hcell, List.getD_eq_getElem?_getD, List.getElem?_eq_getElem (show j < cs'.length by omega)]
      rfl
    obtain ⟨L, hL, hP⟩ := choose_list _ n hE
    refine ⟨L, hL, by omega, ⟨by rw [flat_len f m hf, hL], fun hn => ?_⟩, fun z hz => ?_⟩
    · have hn0 : 0 < n := by
        rcases Nat.eq_zero_or_pos n with h | h
        · subst h; simp at hn
        · exact h
      obtain ⟨u, _, hc0⟩ := (hP 0 (by omega)).2 0 h0m
      obtain ⟨b, off, spot⟩ := a
      have hspot : spot = none := by simpa [Addr.add] using World.cell?_spot hc0
      subst hspot
      refine ⟨b, off, rfl, by have := block_lt_of_cell hc0; rw [Addr.add_lit] at this; exact this, fun q v hv => ?_⟩
      have hq : q < L.length * m := by rw [← flat_len f m hf]; exact (List.getElem?_eq_some_iff.1 hv).1
      have hd : q / m < L.length := Nat.div_lt_of_lt_mul (by rw [Nat.mul_comm]; exact hq)
      have hr : q % m < m := Nat.mod_lt _ h0m
      have e : q / m * m + q % m = q := by rw [Nat.mul_comm]; exact Nat.div_add_mod q m
      obtain ⟨u, hu, hc⟩ := (hP (q / m) hd).2 (q % m) hr
      rw [← e, flat_get f m hf L _ _ hd hr, hu] at hv
      injection hv with hv
      subst hv
      rw [Addr.add_lit, e] at hc
      exact hc
    · obtain ⟨i, hi', rfl⟩ := List.getElem_of_mem hz
      exact (hP i hi').1

theorem int_cell {k : IntKind} {t : TypeId} {n : Nat} {v : Value} {y : DataW H × List MemPlace} (ht : P.underlying t = some (.int k)) (h : DataW.trod enc P w base spare held n t [v] = some y) : ∃ x, v = .int k x ∧ (Lit.int k x).wf = true := by
  obtain ⟨x, hx, _, hw⟩ := DataW.trod_int ht h
  simp at hx
  exact ⟨x, hx, hw⟩
theorem slice_cell {t e : TypeId} {n : Nat} {v : Value} {y : DataW H × List MemPlace} (ht : P.underlying t = some (.slice e)) (h : DataW.trod enc P w base spare held n t [v] = some y) : ∃ A len cap, v = .slice A len cap := by
  rcases DataW.trod_slice ht h with ⟨hcs, _⟩ | ⟨a, len, cap, elems, rest, n, _, hcs, _⟩
  · simp at hcs; exact ⟨_, _, _, hcs⟩
  · simp at hcs; exact ⟨_, _, _, hcs⟩
theorem string_cell {t : TypeId} {n : Nat} {v : Value} {y : DataW H × List MemPlace} (ht : P.underlying t = some .string) (h : DataW.trod enc P w base spare held n t [v] = some y) : ∃ s : ByteArray, v = .string s ∧ s.size ≤ maxLen := by
  obtain ⟨s, hx, _, hw⟩ := DataW.trod_string ht h
  simp at hx
  exact ⟨s, hx, hw⟩
end
end Go.Proofs.YtiamignopfhkfaaGreatDoor
