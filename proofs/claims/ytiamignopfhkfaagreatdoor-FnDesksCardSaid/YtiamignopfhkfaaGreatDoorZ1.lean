/- Plain lemmas on worlds and slices, used by all walks of this seat. -/
import Derived.WalkKit
import Derived.WalkLawsBesides
import Derived.WalkSpells
import Derived.BigQuiet
import Derived.Deep.QuietTactic
import Derived.Deep.RegionHeld3
import Derived.Deep.DeepMust
import Derived.Deep.DeepFit
import Derived.Deep.LoopGhost
import Derived.Deep.AppendLies
import Derived.Deep.Draws
import Derived.Lib.Hide
import Derived.Laws.OwnMore
import Derived.Laws.Rows
import Derived.Handy
import Derived.Lib.QuietBelow
namespace Go.Proofs.YtiamignopfhkfaaGreatDoor
open Go.RowKit

/-! ### Below -/
theorem below_then {B : Nat} {w0 w w' : World} (h : Below B w0 w) (k : Below w.heap.size w w') (hB : B ≤ w0.heap.size) : Below B w0 w' :=
  h.trans (k.mono (Nat.le_trans hB h.size))
theorem bcell {W w1 : World} (hb : Below W.heap.size W w1) :
    (∀ b o, b < W.heap.size → w1.cell? ⟨b, o, none⟩ = W.cell? ⟨b, o, none⟩) ∧ (∀ b o, b < W.heap.size → w1.frozen? ⟨b, o, none⟩ = W.frozen? ⟨b, o, none⟩) :=
  ⟨fun b o h => hb.cell (p := ⟨b, o, none⟩) h, fun b o h => hb.frozen (p := ⟨b, o, none⟩) h⟩

theorem below_drewN {B : Nat} {a w : World} (h : Below B a w) (n : Nat) : Below B a (w.drewN n) := ⟨h.os, h.tape, h.output, h.size, h.block⟩

/-! ### Numbers in a range -/
def inB (n lo hi : Int) : Bool := decide (lo ≤ n ∧ n ≤ hi)
theorem inB_true {n lo hi : Int} (h1 : lo ≤ n) (h2 : n ≤ hi) : inB n lo hi = true := by simp [inB, h1, h2]
theorem inB_false {n lo hi : Int} (h : n < lo ∨ hi < n) : inB n lo hi = false := by simp [inB]; omega
theorem inB_iff {n lo hi : Int} : inB n lo hi = true ↔ lo ≤ n ∧ n ≤ hi := by simp [inB]
theorem inB_niff {n lo hi : Int} : inB n lo hi = false ↔ n < lo ∨ hi < n := by simp [inB]; omega

theorem ret_int {k : IntKind} {a b : Int} (h : a = b) : Ending.returned (.int k a) = .returned (.int k b) := by rw [h]
theorem ret_bool {a b : Bool} (h : a = b) : Ending.returned (.bool a) = .returned (.bool b) := by rw [h]

/-! ### A slice that reads as a list of cells -/
def Rd (w : World) (B : Nat) (A : Option Addr) (m : Nat) (xs : List Value) : Prop :=
  xs.length = m ∧ (0 < m → ∃ b off, A = some ⟨b, off, none⟩ ∧ b < B ∧ ∀ j u, xs[j]? = some u → w.cell? ⟨b, off + j, none⟩ = some u)

section
variable {w w' : World} {B B' m : Nat} {A : Option Addr} {xs : List Value}
theorem Rd.nil_ : Rd w B A 0 [] := ⟨rfl, fun h => absurd h (by omega)⟩
theorem Rd.at_ (h : Rd w B A m xs) (hk : 0 < m) : ∃ b off, A = some ⟨b, off, none⟩ ∧ b < B ∧ ∀ j u, xs[j]? = some u → w.cell? ⟨b, off + j, none⟩ = some u := h.2 hk
theorem Rd.keep (h : Rd w B A m xs) (hk : ∀ b o, b < B → w'.cell? ⟨b, o, none⟩ = w.cell? ⟨b, o, none⟩) : Rd w' B A m xs :=
  ⟨h.1, fun hn => by
    obtain ⟨b, off, e, hb, hc⟩ := h.2 hn
    exact ⟨b, off, e, hb, fun j u hu => (hk _ _ hb).trans (hc j u hu)⟩⟩
theorem Rd.more (h : Rd w B A m xs) (hB : B ≤ B') : Rd w B' A m xs :=
  ⟨h.1, fun hn => by
    obtain ⟨b, off, e, hb, hc⟩ := h.2 hn
    exact ⟨b, off, e, by omega, hc⟩⟩
theorem Rd.below (h : Rd w B A m xs) (hb : Below B w w') : Rd w' B A m xs := h.keep fun b o hp => hb.cell (p := ⟨b, o, none⟩) hp
theorem Rd.alloc (h : Rd w B A m xs) (hB : B ≤ w.heap.size) (o : Obj) : Rd (w.alloc o) B A m xs := h.below ((Below.refl _ _).alloc hB o)
theorem Rd.setCell (h : Rd w B A m xs) {p : Addr} (hB : B ≤ p.block) (u : Value) : Rd (w.setCell p u) B A m xs := h.below ((Below.refl _ _).setCell hB u)
theorem Rd.of_own {base : Nat} {e : TypeId} {size n c : Nat} (h : w.ownsRow base e size (.slice A n c) n xs) : Rd w w.heap.size A (n * size) xs := by
  refine ⟨h.1, fun hn => ?_⟩
  rcases h.2 with ⟨h0, rfl⟩ | ⟨g, cap, cur, hv, _, hg, _⟩
  · omega
  · injection hv with hA
    subst hA
    exact ⟨g, 0, rfl, (Array.getElem?_eq_some_iff.1 hg).1, fun j u hu => by
      have := h.cells (g := g) rfl j u hu
      rw [show (0 : Nat) + j = j from Nat.zero_add j]
      have e : (⟨g, 0, none⟩ : Addr).add j = ⟨g, j, none⟩ := by unfold Addr.add; split <;> simp_all
      rwa [e] at this⟩
end

/-! ### A region that draws its order, whose calls make memory but hand back plain values -/
section
open Go.Sort
theorem wp_region_bel {P : Program} {id : Nat} {Q : Exit → Act → World → Prop} {a : Act} {w : World} {l : List Oper} (hm : P.follows .mixedOrders = true) (hB : Region.lexB .any l.toArray = true)
    (h : wpQuiet P l.toArray (fun w' => ∃ p : Regrown, w' = grow (redrawn w p.d) p.os) (fun a' => ∀ w', Below w.heap.size w w' → Q .normal a' w') l a) : (Code.region id l.toArray true).wp P Q a w :=
  wp_region_quiet (C := fun w' => ∃ p : Regrown, w' = grow (redrawn w p.d) p.os) hm hB ⟨⟨w.drawn + 1, #[]⟩, by rw [grow_empty]; rfl⟩ (by
    have h2 : ∀ (ops : Array Oper) (l : List Oper) (a : Act) (Q1 Q2 : Act → Prop), (∀ a, Q1 a → Q2 a) → wpQuiet P ops (fun w' => ∃ p : Regrown, w' = grow (redrawn w p.d) p.os) Q1 l a → wpQuiet P ops (fun w' => ∃ p : Regrown, w' = grow (redrawn w p.d) p.os) Q2 l a := by
      intro ops l
      induction l with
      | nil => intro a Q1 Q2 hq hh; exact hq _ hh
      | cons o rest ih =>
        intro a Q1 Q2 hq hh
        unfold wpQuiet at hh ⊢
        split
        · rename_i hw; rw [if_pos hw] at hh; exact Oper.quiet_mono (fun a => ih a Q1 Q2 hq) hh
        · rename_i hw; rw [if_neg hw] at hh; exact ih _ _ _ hq hh
    refine h2 _ _ _ _ _ (fun a' ha w' hw' => ?_) (by simpa using h)
    obtain ⟨p, rfl⟩ := hw'
    exact ha _ (below_regrown _ _ _))
theorem block_regrown {w : World} {g : Nat} {cs : Array Value} (h : ∀ i, w.cell? ⟨g, i, none⟩ = cs[i]?) (hg : g < w.heap.size) : ∀ (d : Nat) (os : Array Obj) (i : Nat), (grow (redrawn w d) os).cell? ⟨g, i, none⟩ = cs[i]? :=
  fun d os i => ((below_regrown w d os).cell (p := ⟨g, i, none⟩) hg).trans (h i)
theorem rg_same {P : Program} {f : FuncId} {args : Array Value} {w : World} {d : Nat} {os : Array Obj} {v : Value}
    (h : Calls P f args (grow (redrawn w d) os) fun e w' => e = .returned v ∧ grow (redrawn w d) os = w') : Calls P f args (grow (redrawn w d) os) fun e w'' => e = .returned v ∧ ∃ p : Regrown, w'' = grow (redrawn w p.d) p.os :=
  h.mono fun _ _ ⟨he, hb⟩ => ⟨he, ⟨d, os⟩, hb.symm⟩
theorem rg_below {P : Program} {f : FuncId} {args : Array Value} {w : World} {d : Nat} {os : Array Obj} {v : Value}
    (h : Calls P f args (grow (redrawn w d) os) fun e w' => e = .returned v ∧ Below (grow (redrawn w d) os).heap.size (grow (redrawn w d) os) w') : Calls P f args (grow (redrawn w d) os) fun e w'' => e = .returned v ∧ ∃ p : Regrown, w'' = grow (redrawn w p.d) p.os := Calls.regrown_of h
end

/-! ### Lists of structs as cells -/
theorem flat_len {α : Type} (f : α → List Value) (m : Nat) (hf : ∀ a, (f a).length = m) (L : List α) : (L.flatMap f).length = L.length * m := by
  induction L with
  | nil => simp
  | cons a L ih => simp [List.flatMap_cons, hf, ih, Nat.add_mul, Nat.add_comm]
theorem flat_get {α : Type} (f : α → List Value) (m : Nat) (hf : ∀ a, (f a).length = m) : ∀ (L : List α) (k j : Nat) (hk : k < L.length), j < m → (L.flatMap f)[k * m + j]? = (f L[k])[j]? := by
  intro L
  induction L with
  | nil => intro k j hk; simp at hk
  | cons a L ih =>
    intro k j hk hj
    rw [List.flatMap_cons]
    cases k with
    | zero => rw [Nat.zero_mul, Nat.zero_add, List.getElem?_append_left (by rw [hf]; exact hj)]; rfl
    | succ k =>
      have h1 : (k + 1) * m + j = m + (k * m + j) := by rw [Nat.add_mul]; omega
      rw [h1, List.getElem?_append_right (by rw [hf]; omega), hf, Nat.add_sub_cancel_left, ih k j (by simpa using hk) hj]
      simp

theorem Rd.elem {α : Type} {w : World} {B : Nat} {A : Option Addr} {L : List α} (f : α → List Value) (m : Nat) (hf : ∀ a, (f a).length = m) (h : Rd w B A (L.length * m) (L.flatMap f)) (hm : 0 < m) {k : Nat} (hk : k < L.length) :
    ∃ b off, A = some ⟨b, off, none⟩ ∧ b < B ∧ ∀ i (hi : i < L.length) j u, (f L[i])[j]? = some u → w.cell? ⟨b, off + i * m + j, none⟩ = some u := by
  obtain ⟨b, off, e, hb, hc⟩ := h.2 (Nat.mul_pos (by omega) hm)
  refine ⟨b, off, e, hb, fun i hi j u hu => ?_⟩
  have hj : j < m := by have := (List.getElem?_eq_some_iff.1 hu).1; rw [hf] at this; exact this
  rw [Nat.add_assoc]
  exact hc _ _ (by rw [flat_get f m hf L i j hi hj]; exact hu)

theorem Rd.take_ {α : Type} {w : World} {B : Nat} {A : Option Addr} {L : List α} {f : α → List Value} {m : Nat} (hf : ∀ a, (f a).length = m) (h : Rd w B A (L.length * m) (L.flatMap f)) {k : Nat} (hk : k ≤ L.length) : Rd w B A (k * m) ((L.take k).flatMap f) := by
  refine ⟨by rw [flat_len f m hf, List.length_take, Nat.min_eq_left hk], fun hn => ?_⟩
  have hkm : k * m ≤ L.length * m := Nat.mul_le_mul_right _ hk
  obtain ⟨b, off, e, hb, hc⟩ := h.2 (by omega)
  refine ⟨b, off, e, hb, fun j u hu => hc j u ?_⟩
  have e2 : L.flatMap f = (L.take k).flatMap f ++ (L.drop k).flatMap f := by rw [← List.flatMap_append, List.take_append_drop]
  rw [e2, List.getElem?_append_left (List.getElem?_eq_some_iff.1 hu).1]
  exact hu
theorem own_form {w : World} {base : Nat} {e : TypeId} {size n : Nat} {v : Value} {xs : List Value} (h : w.ownsRow base e size v n xs) : ∃ A c, v = .slice A n c ∧ n ≤ c ∧ c ≤ maxLen := by
  rcases h.2 with ⟨rfl, rfl⟩ | ⟨g, cap, cur, rfl, _, _, h1, h2, _⟩
  · exact ⟨_, _, rfl, Nat.le_refl _, Nat.zero_le _⟩
  · exact ⟨_, _, rfl, h1, h2⟩
theorem bt {w W w' : World} (h : Below w.heap.size w W) (k : Below W.heap.size W w') : Below w.heap.size w w' := below_then h k (Nat.le_refl _)

theorem rdW {w W : World} {m : Nat} {A : Option Addr} {xs : List Value} (hb : Below w.heap.size w W) (h : Rd w w.heap.size A m xs) : Rd W W.heap.size A m xs := (h.below hb).more hb.size
theorem own_cell {w : World} {base : Nat} {e : TypeId} {size g n cap : Nat} {xs : List Value} (h : w.ownsRow base e size (.slice (some ⟨g, 0, none⟩) n cap) n xs) {j : Nat} (hj : j < n * size) :
    ∃ u, w.cell? ⟨g, j, none⟩ = some u := by
  rw [h.cellAt j hj, List.getElem?_eq_getElem (by rw [h.1]; exact hj)]; exact ⟨_, rfl⟩
theorem own_below {w w' : World} {base : Nat} {e : TypeId} {size n : Nat} {v : Value} {xs : List Value} (h : w.ownsRow base e size v n xs) (hb : Below w.heap.size w w') : w'.ownsRow base e size v n xs :=
  h.kept (row := none) ⟨hb.os, hb.tape, hb.output, hb.size, fun k hk _ => hb.block k hk⟩ (by cases hv : v.ownBlock <;> simp)

theorem own_mono {w : World} {base base' : Nat} {e : TypeId} {size n : Nat} {v : Value} {xs : List Value} (h : w.ownsRow base e size v n xs) (hb : base' ≤ base) : w.ownsRow base' e size v n xs := by
  refine ⟨h.1, ?_⟩
  rcases h.2 with h0 | ⟨g, cap, cur, hv, hg, r⟩
  · exact .inl h0
  · exact .inr ⟨g, cap, cur, hv, by omega, r⟩
theorem own_lt {w : World} {base : Nat} {e : TypeId} {size g n c : Nat} {xs : List Value} (h : w.ownsRow base e size (.slice (some ⟨g, 0, none⟩) n c) n xs) : base ≤ g ∧ g < w.heap.size :=
  h.lt g rfl

/-- What the count of sizes gives: -1, or a number from which it follows that there are few elements. -/
def SzPost (n : Nat) (l : Int) (w : World) (e : Ending) (w' : World) : Prop := ∃ r : Int, e = .returned (.int .i64 r) ∧ -1 ≤ r ∧ r ≤ l ∧ (0 ≤ r → (n : Int) ≤ l) ∧ Below w.heap.size w w'

/-! ### A row that is filled element by element -/
def setL (ys : List Value) (p : Nat) : List Value → List Value
  | [] => ys
  | c :: cs => setL (ys.set p c) (p + 1) cs
theorem setL_take : ∀ (cs ys : List Value) (p : Nat), p + cs.length ≤ ys.length → (setL ys p cs).take (p + cs.length) = ys.take p ++ cs
  | [], ys, p, _ => by simp [setL]
  | c :: cs, ys, p, h => by
    have h1 : p < ys.length := by simp at h; omega
    have ih := setL_take cs (ys.set p c) (p + 1) (by simp at h ⊢; omega)
    rw [show p + (c :: cs).length = p + 1 + cs.length from by simp; omega]
    show (setL (ys.set p c) (p + 1) cs).take _ = _
    rw [ih, List.take_add_one, List.getElem?_set_self h1, List.take_set_of_le (Nat.le_refl _)]
    simp
theorem fill_step {α : Type} (f : α → List Value) (m : Nat) (hf : ∀ a, (f a).length = m) {L : List α} {ys : List Value} {k : Nat} (hk : k < L.length) (hlen : ys.length = L.length * m)
    (h : ys.take (k * m) = (L.take k).flatMap f) : (setL ys (k * m) (f L[k])).take ((k + 1) * m) = (L.take (k + 1)).flatMap f := by
  have hm : (k + 1) * m ≤ L.length * m := Nat.mul_le_mul_right _ (by omega)
  have e : (k + 1) * m = k * m + (f L[k]).length := by rw [hf, Nat.add_mul]; omega
  rw [e, setL_take _ _ _ (by rw [hlen, ← e]; exact hm), h, List.take_succ_eq_append_getElem hk]
  simp only [List.flatMap_append, List.flatMap_cons, List.flatMap_nil, List.append_nil]
theorem fill_end {α : Type} (f : α → List Value) (m : Nat) {L : List α} {ys : List Value} (hlen : ys.length = L.length * m)
    (h : ys.take (L.length * m) = (L.take L.length).flatMap f) : ys = L.flatMap f := by
  rw [List.take_of_length_le (by omega), List.take_of_length_le (Nat.le_refl _)] at h; exact h

theorem own_head {w : World} {base : Nat} {e : TypeId} {size n c : Nat} {A : Option Addr} {xs : List Value} (h : w.ownsRow base e size (.slice A n c) n xs) (hn : 0 < n) :
    ∃ g, A = some ⟨g, 0, none⟩ ∧ base ≤ g ∧ g < w.heap.size := by
  rcases h.2 with ⟨h0, rfl⟩ | ⟨g, cap, cur, hv, hb, hg, _⟩
  · omega
  · injection hv with hA
    exact ⟨g, hA, hb, (Array.getElem?_eq_some_iff.1 hg).1⟩
theorem grown_set {w0 w : World} {g j : Nat} {u : Value} (h : w0.grownBy w (some g)) : w0.grownBy (w.setCell ⟨g, j, none⟩ u) (some g) :=
  ⟨h.os, h.tape, h.output, by simpa [World.setCell] using h.size, fun i hi hne => (Below.heap_setCell w ⟨g, j, none⟩ u i (by rintro rfl; exact hne rfl)).trans (h.block i hi hne)⟩

theorem grown_alloc {w w' : World} {row : Option Nat} {o : Obj} (h : (w.alloc o).grownBy w' row) : w.grownBy w' row :=
  ⟨h.os, h.tape, h.output, Nat.le_trans (by simp) h.size, fun i hi hne => (h.block i (by simp; omega) hne).trans (Below.heap_alloc w o i hi)⟩
theorem grown_trans' {a b c : World} {row : Option Nat} (h : a.grownBy b row) (k : b.grownBy c row) : a.grownBy c row :=
  ⟨k.os.trans h.os, k.tape.trans h.tape, k.output.trans h.output, Nat.le_trans h.size k.size, fun i hi hne => (k.block i (Nat.lt_of_lt_of_le hi h.size) hne).trans (h.block i hi hne)⟩
theorem grown_of_below {a w : World} (h : Below a.heap.size a w) (row : Option Nat) : a.grownBy w row := ⟨h.os, h.tape, h.output, h.size, fun i hi _ => h.block i hi⟩
theorem below_grown {a w w' : World} {B : Nat} {row : Option Nat} (h : Below B a w) (hg : w.grownBy w' row) (hB : B ≤ a.heap.size) (hr : ∀ g, row = some g → B ≤ g) : Below B a w' :=
  h.grown hg (Nat.le_trans hB h.size) hr
theorem Rd.grown {w w' : World} {B m : Nat} {A : Option Addr} {xs : List Value} {row : Option Nat} (h : Rd w B A m xs) (hg : w.grownBy w' row) (hne : ∀ a, A = some a → some a.block ≠ row) : Rd w' B A m xs :=
  ⟨h.1, fun hn => by
    obtain ⟨b, off, e, hb, hc⟩ := h.2 hn
    exact ⟨b, off, e, hb, fun j u hu => hg.cell (hc j u hu) (show some b ≠ row from hne ⟨b, off, none⟩ e)⟩⟩

theorem own_ne {v1 v2 : Value} {b1 l1 b2 l2 : Nat} (h1 : ∀ k, v1.ownBlock = some k → b1 ≤ k ∧ k < l1) (h2 : ∀ k, v2.ownBlock = some k → b2 ≤ k ∧ k < l2) (h : l1 ≤ b2 ∨ l2 ≤ b1) : v1.ownBlock = none ∨ v1.ownBlock ≠ v2.ownBlock := by
  rcases e : v1.ownBlock with _ | k
  · exact .inl rfl
  · refine .inr fun e2 => ?_
    have := h1 k e
    have := h2 k e2.symm
    omega

/-- 'append(out, x)', out the call's own row: what is left speaks of the world ahead of the literal's block. -/
theorem wpList_push {P : Program} {ops : Array Oper} {rest : List Oper} {o : Oper} {a : Act} {Q : Exit → Act → World → Prop} (w : World) (hgd : o.guard = none) (s x : Operand) (t : TypeId)
    (ho : o.op = .call { callee := .builtin .append, args := #[s, x], argTypes := #[t, t] })
    (base : Nat) (e : TypeId) (i : TypeInfo) (z : Value) (size bytes : Nat) (ht : P.underlying t = some (.slice e)) (hi : P.info? e = some i) (hz : i.zero = some z)
    (hsize : i.size = size) (hby : i.bytes = bytes) (hzs : z.cells.size = size) (hsz : 0 < size)
    (v : Value) (n : Nat) (xs : List Value) (hs : a.eval s = v) (hown : w.ownsRow base e size v n xs)
    (cs : List Value) (t' : TypeId) (hx : a.eval x = .slice (some ⟨w.heap.size, 0, none⟩) 1 1) (hl : cs.length = size) (h1 : ∀ u ∈ cs, u.oneCell' = true)
    (h63 : n + 1 ≤ maxLen) (hbytes : (n + 1) * bytes ≤ 140737488355328) (hbase : base ≤ w.heap.size)
    (h : ∀ A c w', w'.ownsRow base e size (.slice A (n + 1) c) (n + 1) (xs ++ cs) → w.grownBy w' v.ownBlock → wpList P ops Q rest (a.put o.dst (.slice A (n + 1) c)) w') :
    wpList P ops Q (o :: rest) a (w.alloc (.cells cs.toArray t')) :=
  wpList_append_own (w.alloc (.cells cs.toArray t')) hgd s x t ho base e i z size bytes ht hi hz hsize hby hzs hsz v n xs hs (hown.alloc _) ⟨w.heap.size, 0, none⟩ 1 1 cs hx (by omega)
    (World.news_of_block (cs := cs.toArray) (heap_alloc_new w _)) h1 h63 hbytes (by simp; omega) fun v' w' h2 h3 _ => by
      rcases h2.2 with ⟨_, h0⟩ | ⟨g, cap, cur, rfl, _⟩
      · omega
      · exact h _ _ _ h2 ⟨h3.os, h3.tape, h3.output, Nat.le_trans (by simp) h3.size, fun k hk hne => (h3.block k (by simp; omega) hne).trans (Below.heap_alloc w _ k hk)⟩

/-- What a function hands back that makes a row: it reads as xs; and a code beside it. -/
def RowPost1 (ty : TypeId) (size n : Nat) (xs : List Value) (w : World) (e : Ending) (w' : World) : Prop :=
  ∃ A c, e = .returned (.slice A n c) ∧ w'.ownsRow w.heap.size ty size (.slice A n c) n xs ∧ Below w.heap.size w w' ∧ n ≤ c ∧ c ≤ maxLen
def RowPost2 (ty : TypeId) (size n : Nat) (xs : List Value) (code : Int) (w : World) (e : Ending) (w' : World) : Prop :=
  ∃ A c, e = .returned (.tuple #[.slice A n c, .int .i64 code]) ∧ w'.ownsRow w.heap.size ty size (.slice A n c) n xs ∧ Below w.heap.size w w' ∧ n ≤ c ∧ c ≤ maxLen
theorem own_cap {w : World} {base : Nat} {e : TypeId} {size n c : Nat} {A : Option Addr} {xs : List Value} (h : w.ownsRow base e size (.slice A n c) n xs) : n ≤ c ∧ c ≤ maxLen := by
  obtain ⟨A', c', hv, h1, h2⟩ := own_form h
  injection hv with _ _ hc
  subst hc
  exact ⟨h1, h2⟩
theorem rowPost1_mk {ty : TypeId} {size n : Nat} {xs : List Value} {w w' : World} {A : Option Addr} {c : Nat} (h : w'.ownsRow w.heap.size ty size (.slice A n c) n xs) (hb : Below w.heap.size w w') : RowPost1 ty size n xs w (.returned (.slice A n c)) w' :=
  ⟨A, c, rfl, h, hb, own_cap h⟩
theorem rowPost2_mk {ty : TypeId} {size n : Nat} {xs : List Value} {w w' : World} {A : Option Addr} {c : Nat} {code : Int} (h : w'.ownsRow w.heap.size ty size (.slice A n c) n xs) (hb : Below w.heap.size w w') : RowPost2 ty size n xs code w (.returned (.tuple #[.slice A n c, .int .i64 code])) w' :=
  ⟨A, c, rfl, h, hb, own_cap h⟩
theorem rowPost2_nil {ty : TypeId} {size : Nat} {w w' : World} {code : Int} (hb : Below w.heap.size w w') : RowPost2 ty size 0 [] code w (.returned (.tuple #[.slice none 0 0, .int .i64 code])) w' :=
  rowPost2_mk (World.ownsRow_nil _ _ _ _) hb

theorem conv_one {P : Program} (src e dst : TypeId) (hs : P.underlying src = some (.slice e)) (he : P.underlying e = some (.int .u8)) (hd : P.underlying dst = some .string) (w : World) (z : Int) (t : TypeId) :
    (convert src dst (.slice (some ⟨w.heap.size, 0, none⟩) 1 1)).run P (w.alloc (.cells #[.int .u8 z] t)) = .ok (.string (strOfNums [z])) (w.alloc (.cells #[.int .u8 z] t)) :=
  run_convert_bytes_arg (P := P) _ src e hs he w.heap.size 0 1 1 [z] rfl (fun i hi => by
    obtain rfl : i = 0 := by omega
    simp [go_sem]) dst hd

end Go.Proofs.YtiamignopfhkfaaGreatDoor
