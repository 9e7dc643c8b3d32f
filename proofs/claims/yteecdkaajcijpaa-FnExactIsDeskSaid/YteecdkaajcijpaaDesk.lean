/- Contracts: desks: the helpers of the laws, and IsDesk of both texts. -/
import Derived.Test.YteecdkaajcijpaaCallOk
import Derived.Test.YteecdkaajcijpaaMotOk
import Derived.Test.YteecdkaajcijpaaHol2
namespace Go.Proofs.Yteecdkaajcijpaa
open Go.RowKit
set_option linter.unusedVariables false
def DeskSz (a b n : Nat) (l : Int) (w : World) (e : Ending) (w' : World) : Prop := ∃ r : Int, e = .returned (.int .i64 r) ∧ r ≤ l ∧ (0 ≤ r → (a : Int) ≤ l ∧ (b : Int) ≤ l ∧ (n : Int) ≤ l) ∧ Below w.heap.size w w'
set_option maxRecDepth 100000 in
theorem szDesk_c (A1 A2 A3 : Option Addr) (c1 c2 c3 : Nat) (H : List Int) (K : List CallD) (M : List MotionD) (l : Int) (w : World) (hr1 : Rd w w.heap.size A1 H.length (H.map (Value.int .i64))) (hr2 : Rd w w.heap.size A2 (K.length * 4) (K.flatMap callC)) (hr3 : Rd w w.heap.size A3 (M.length * 6) (M.flatMap motionC)) (h1 : H.length ≤ 9223372036854775807) (h2 : K.length ≤ 9223372036854775807) (h3 : M.length ≤ 9223372036854775807) (hW : ∀ x ∈ M, MotionW x) (hl0 : 0 ≤ l) (hl1 : l ≤ 1048576) :
    Calls Try.prog 4 #[.agg #[.slice A1 H.length c1, .slice A2 K.length c2, .slice A3 M.length c3], .int .i64 l] w (DeskSz H.length K.length M.length l w) := by
  go_enter Try.func4, Try.ntmps4
  go_wp2_with fail
  generalize hW0 : w.alloc _ = W0
  have hbW0 : Below w.heap.size w W0 := by subst hW0; exact (Below.refl _ _).alloc (Nat.le_refl _) _
  have hsW0 : W0.heap.size = w.heap.size + 1 := by subst hW0; simp
  have cxW0_0 : ∀ i, W0.cell? ⟨w.heap.size, i, none⟩ = (#[.slice A1 H.length c1, .slice A2 K.length c2, .slice A3 M.length c3] : Array Value)[i]? := by intro i; subst hW0; simp [go_sem]
  have HSW0 := Lib.hid hsW0; clear hW0 hsW0
  have hz0 : w.heap.size + 1 ≤ W0.heap.size := by have := HSW0.out; omega
  refine (szInt64S_c A1 H.length c1 l W0 h1 hl0 hl1).mono ?_
  rintro e w1 ⟨r1, rfl, ha1, hb1, hc1, hw1⟩
  by_cases hr : r1 < 0
  · go_wp2
    go_ret
    exact ⟨-1, rfl, by omega, fun h => by omega, bt hbW0 hw1⟩
  have hd1 := hc1 (by omega)
  have hz1 := hw1.size
  replace cxW0_0 := fun i => (hw1.cell (by (try simp only); have := HSW0.out; omega)).trans (cxW0_0 i)
  go_wp2_with fail
  refine (szCallS_c A2 K.length c2 r1 w1 h2 (by omega) (by omega)).mono ?_
  rintro e w2 ⟨r2, rfl, ha2, hb2, hc2, hw2⟩
  have hB2 := bt (bt hbW0 hw1) hw2
  by_cases hr : r2 < 0
  · go_wp2
    go_ret
    exact ⟨-1, rfl, by omega, fun h => by omega, hB2⟩
  have hd2 := hc2 (by omega)
  have hz2 := hw2.size
  replace cxW0_0 := fun i => (hw2.cell (by (try simp only); have := HSW0.out; omega)).trans (cxW0_0 i)
  go_wp2_with fail
  refine (szMotionS_c A3 c3 M r2 w2 (rdW hB2 hr3) h3 hW (by omega) (by omega)).mono ?_
  rintro e w3 ⟨r3, rfl, ha3, hb3, hc3, hw3⟩
  have hB3 := bt hB2 hw3
  by_cases hr : r3 < 0
  · go_wp2
    go_ret
    exact ⟨-1, rfl, by omega, fun h => by omega, hB3⟩
  have hd3 := hc3 (by omega)
  go_wp2
  go_ret
  exact ⟨r3, rfl, by omega, fun _ => ⟨by omega, by omega, by omega⟩, hB3⟩

theorem box_other {W : World} {b b' j : Nat} {u : Value} {cs : Array Value} (h : ∀ i, W.cell? ⟨b, i, none⟩ = cs[i]?) (hne : b ≠ b') : ∀ i, (W.setCell ⟨b', j, none⟩ u).cell? ⟨b, i, none⟩ = cs[i]? :=
  fun i => (World.cell?_of_block (a := ⟨b, i, none⟩) (Below.heap_setCell _ _ _ _ hne)).trans (h i)
theorem box_set {W : World} {b j : Nat} {u : Value} {cs : Array Value} (h : ∀ i, W.cell? ⟨b, i, none⟩ = cs[i]?) (hj : j < cs.size) : ∀ i, (W.setCell ⟨b, j, none⟩ u).cell? ⟨b, i, none⟩ = (cs.setIfInBounds j u)[i]? := by
  intro i
  by_cases e : i = j
  · subst e
    simp [go_sem, h, hj]
  · simp [go_sem, h, Ne.symm e]
theorem fz_set {W : World} {b : Nat} (h : ∀ i, W.frozen? ⟨b, i, none⟩ = false) (p : Addr) (u : Value) : ∀ i, (W.setCell p u).frozen? ⟨b, i, none⟩ = false := fun i => by simp [go_sem, h]
def DeskTo (H : List Int) (K : List CallD) (M : List MotionD) (w : World) (e : Ending) (w' : World) : Prop :=
  ∃ g1 g2 g3 : Nat, e = .returned (.agg #[.slice (some ⟨g1, 0, none⟩) H.length H.length, .slice (some ⟨g2, 0, none⟩) K.length K.length, .slice (some ⟨g3, 0, none⟩) M.length M.length]) ∧
    Rd w' w'.heap.size (some ⟨g1, 0, none⟩) H.length (H.map (Value.int .i64)) ∧ Rd w' w'.heap.size (some ⟨g2, 0, none⟩) (K.length * 4) (K.flatMap callC) ∧ Rd w' w'.heap.size (some ⟨g3, 0, none⟩) (M.length * 6) (M.flatMap motionC) ∧ Below w.heap.size w w'
theorem own_setBelow {W : World} {base : Nat} {e : TypeId} {size n : Nat} {v : Value} {xs : List Value} (h : W.ownsRow base e size v n xs) {b : Nat} (hb : b < base) (j : Nat) (u : Value) : (W.setCell ⟨b, j, none⟩ u).ownsRow base e size v n xs :=
  h.kept (grown_set (World.grownBy.refl _ _)) (.inr (fun e => by have := h.lt _ e; omega))
set_option maxRecDepth 100000 in
set_option maxHeartbeats 2000000 in
theorem toDesk_c (A1 A2 A3 : Option Addr) (c1 c2 c3 : Nat) (H : List Int) (K : List CallD) (M : List MotionD) (w : World) (hr1 : Rd w w.heap.size A1 H.length (H.map (Value.int .i64))) (hr2 : Rd w w.heap.size A2 (K.length * 4) (K.flatMap callC)) (hr3 : Rd w w.heap.size A3 (M.length * 6) (M.flatMap motionC)) (h1 : H.length * 8 ≤ 140737488355328) (h2 : K.length * 32 ≤ 140737488355328) (h3 : M.length * 56 ≤ 140737488355328) :
    Calls Try.prog 6 #[.agg #[.slice A1 H.length c1, .slice A2 K.length c2, .slice A3 M.length c3]] w (DeskTo H K M w) := by
  go_enter Try.func6, Try.ntmps6
  go_wp2_with fail
  generalize hW0 : ((w.alloc _).alloc _).alloc _ = W0
  have hbW0 : Below w.heap.size w W0 := by subst hW0; exact (((Below.refl _ _).alloc (Nat.le_refl _) _).alloc (by (try simp) <;> (try omega)) _).alloc (by (try simp) <;> (try omega)) _
  have hsW0 : W0.heap.size = w.heap.size + 3 := by subst hW0; simp
  have cxW0_0 : ∀ i, W0.cell? ⟨w.heap.size, i, none⟩ = (#[.slice A1 H.length c1, .slice A2 K.length c2, .slice A3 M.length c3] : Array Value)[i]? := by intro i; subst hW0; simp [go_sem]
  have fzW0_0 : ∀ i, W0.frozen? ⟨w.heap.size, i, none⟩ = false := by intro i; subst hW0; simp [go_sem]
  have cxW0_1 : ∀ i, W0.cell? ⟨w.heap.size + 1, i, none⟩ = (#[.slice none 0 0, .slice none 0 0, .slice none 0 0] : Array Value)[i]? := by intro i; subst hW0; simp [go_sem]
  have fzW0_1 : ∀ i, W0.frozen? ⟨w.heap.size + 1, i, none⟩ = false := by intro i; subst hW0; simp [go_sem]
  have cxW0_2 : ∀ i, W0.cell? ⟨w.heap.size + 1 + 1, i, none⟩ = (#[.slice none 0 0, .slice none 0 0, .slice none 0 0] : Array Value)[i]? := by intro i; subst hW0; simp [go_sem]
  have fzW0_2 : ∀ i, W0.frozen? ⟨w.heap.size + 1 + 1, i, none⟩ = false := by intro i; subst hW0; simp [go_sem]
  have HSW0 := Lib.hid hsW0; clear hW0 hsW0
  have hz0 : w.heap.size + 3 ≤ W0.heap.size := by have := HSW0.out; omega
  clear fzW0_0
  refine (toInt64S_c A1 c1 H W0 (rdW hbW0 hr1) h1).mono ?_
  rintro e w1 ⟨g1, rfl, ho1, hb1⟩
  have hz1 := hb1.size
  have hB1 := bt hbW0 hb1
  replace cxW0_0 := fun i => (hb1.cell (by (try simp only); have := HSW0.out; omega)).trans (cxW0_0 i)
  replace cxW0_1 := fun i => (hb1.cell (by (try simp only); have := HSW0.out; omega)).trans (cxW0_1 i)
  replace cxW0_2 := fun i => (hb1.cell (by (try simp only); have := HSW0.out; omega)).trans (cxW0_2 i)
  replace fzW0_1 := fun i => (hb1.frozen (by (try simp only); have := HSW0.out; omega)).trans (fzW0_1 i)
  replace fzW0_2 := fun i => (hb1.frozen (by (try simp only); have := HSW0.out; omega)).trans (fzW0_2 i)
  go_wp2_with fail
  have cz1 : ∀ i, w1.cell? ⟨w.heap.size + 2, i, none⟩ = (#[.slice none 0 0, .slice none 0 0, .slice none 0 0] : Array Value)[i]? := cxW0_2
  have fz1 : ∀ i, w1.frozen? ⟨w.heap.size + 2, i, none⟩ = false := fzW0_2
  have HO1 := Lib.hid (own_setBelow ho1 (b := w.heap.size + 2) (by omega) 0 (.slice (some ⟨g1, 0, none⟩) H.length H.length)); clear ho1 cxW0_2 fzW0_2
  have hBX1 := hB1.setCell (p := ⟨w.heap.size + 2, 0, none⟩) (by (try simp only); omega) (.slice (some ⟨g1, 0, none⟩) H.length H.length)
  have hzX1 : (w1.setCell ⟨w.heap.size + 2, 0, none⟩ (.slice (some ⟨g1, 0, none⟩) H.length H.length)).heap.size = w1.heap.size := by simp [World.setCell]
  replace cz1 : ∀ i, (w1.setCell ⟨w.heap.size + 2, 0, none⟩ (.slice (some ⟨g1, 0, none⟩) H.length H.length)).cell? ⟨w.heap.size + 2, i, none⟩ = (#[.slice (some ⟨g1, 0, none⟩) H.length H.length, .slice none 0 0, .slice none 0 0] : Array Value)[i]? := fun i => (box_set cz1 (by simp) i).trans (by simp)
  replace fz1 := fz_set fz1 ⟨w.heap.size + 2, 0, none⟩ (.slice (some ⟨g1, 0, none⟩) H.length H.length)
  replace cxW0_0 := box_other (b' := w.heap.size + 2) (j := 0) (u := .slice (some ⟨g1, 0, none⟩) H.length H.length) cxW0_0 (by omega)
  replace cxW0_1 := box_other (b' := w.heap.size + 2) (j := 0) (u := .slice (some ⟨g1, 0, none⟩) H.length H.length) cxW0_1 (by omega)
  replace fzW0_1 := fz_set fzW0_1 ⟨w.heap.size + 2, 0, none⟩ (.slice (some ⟨g1, 0, none⟩) H.length H.length)
  generalize w1.setCell ⟨w.heap.size + 2, 0, none⟩ (.slice (some ⟨g1, 0, none⟩) H.length H.length) = X1 at *
  have hzX1' : w1.heap.size ≤ X1.heap.size := by omega
  clear hzX1
  refine (toCallS_c A2 c2 K X1 (rdW hBX1 hr2) h2).mono ?_
  rintro e w2 ⟨g2, rfl, ho2, hb2⟩
  have hz2 := hb2.size
  have hB2 := bt hBX1 hb2
  replace HO1 := Lib.hid (own_below HO1.out hb2)
  replace cxW0_0 := fun i => (hb2.cell (by (try simp only); have := HSW0.out; omega)).trans (cxW0_0 i)
  replace cxW0_1 := fun i => (hb2.cell (by (try simp only); have := HSW0.out; omega)).trans (cxW0_1 i)
  replace cz1 := fun i => (hb2.cell (by (try simp only); have := HSW0.out; omega)).trans (cz1 i)
  replace fzW0_1 := fun i => (hb2.frozen (by (try simp only); have := HSW0.out; omega)).trans (fzW0_1 i)
  replace fz1 := fun i => (hb2.frozen (by (try simp only); have := HSW0.out; omega)).trans (fz1 i)
  go_wp2_with fail
  have HO2 := Lib.hid (own_setBelow ho2 (b := w.heap.size + 2) (by omega) 1 (.slice (some ⟨g2, 0, none⟩) K.length K.length)); clear ho2
  replace HO1 := Lib.hid (own_setBelow HO1.out (b := w.heap.size + 2) (by omega) 1 (.slice (some ⟨g2, 0, none⟩) K.length K.length))
  have hBX2 := hB2.setCell (p := ⟨w.heap.size + 2, 1, none⟩) (by (try simp only); omega) (.slice (some ⟨g2, 0, none⟩) K.length K.length)
  have hzX2 : (w2.setCell ⟨w.heap.size + 2, 1, none⟩ (.slice (some ⟨g2, 0, none⟩) K.length K.length)).heap.size = w2.heap.size := by simp [World.setCell]
  replace cz1 : ∀ i, (w2.setCell ⟨w.heap.size + 2, 1, none⟩ (.slice (some ⟨g2, 0, none⟩) K.length K.length)).cell? ⟨w.heap.size + 2, i, none⟩ = (#[.slice (some ⟨g1, 0, none⟩) H.length H.length, .slice (some ⟨g2, 0, none⟩) K.length K.length, .slice none 0 0] : Array Value)[i]? := fun i => (box_set cz1 (by simp) i).trans (by simp)
  replace fz1 := fz_set fz1 ⟨w.heap.size + 2, 1, none⟩ (.slice (some ⟨g2, 0, none⟩) K.length K.length)
  replace cxW0_0 := box_other (b' := w.heap.size + 2) (j := 1) (u := .slice (some ⟨g2, 0, none⟩) K.length K.length) cxW0_0 (by omega)
  replace cxW0_1 := box_other (b' := w.heap.size + 2) (j := 1) (u := .slice (some ⟨g2, 0, none⟩) K.length K.length) cxW0_1 (by omega)
  replace fzW0_1 := fz_set fzW0_1 ⟨w.heap.size + 2, 1, none⟩ (.slice (some ⟨g2, 0, none⟩) K.length K.length)
  generalize w2.setCell ⟨w.heap.size + 2, 1, none⟩ (.slice (some ⟨g2, 0, none⟩) K.length K.length) = X2 at *
  have hzX2' : w2.heap.size ≤ X2.heap.size := by omega
  clear hzX2
  refine (toMotionS_c A3 c3 M X2 (rdW hBX2 hr3) h3).mono ?_
  rintro e w3 ⟨g3, rfl, ho3, hb3⟩
  have hz3 := hb3.size
  have hB3 := bt hBX2 hb3
  replace HO1 := Lib.hid (own_below HO1.out hb3)
  replace HO2 := Lib.hid (own_below HO2.out hb3)
  have HO3 := Lib.hid ho3; clear ho3
  replace cxW0_0 := fun i => (hb3.cell (by (try simp only); have := HSW0.out; omega)).trans (cxW0_0 i)
  replace cxW0_1 := fun i => (hb3.cell (by (try simp only); have := HSW0.out; omega)).trans (cxW0_1 i)
  replace cz1 := fun i => (hb3.cell (by (try simp only); have := HSW0.out; omega)).trans (cz1 i)
  replace fzW0_1 := fun i => (hb3.frozen (by (try simp only); have := HSW0.out; omega)).trans (fzW0_1 i)
  replace fz1 := fun i => (hb3.frozen (by (try simp only); have := HSW0.out; omega)).trans (fz1 i)
  go_wp2
  refine bodyPost_ret (v := .agg #[.slice (some ⟨g1, 0, none⟩) H.length H.length, .slice (some ⟨g2, 0, none⟩) K.length K.length, .slice (some ⟨g3, 0, none⟩) M.length M.length]) (by simp [results, Try.results6, go_sem, cxW0_1]) rfl ⟨g1, g2, g3, rfl, ?_, ?_, ?_, ?_⟩
  · refine Rd.of_own1 (base := W0.heap.size) (e := 2) (c := H.length) ?_
    (repeat (refine own_setBelow ?_ (by omega) _ _)); exact HO1.out
  · refine Rd.of_own (base := X1.heap.size) (e := 53) (c := K.length) ?_
    (repeat (refine own_setBelow ?_ (by omega) _ _)); exact HO2.out
  · refine Rd.of_own (base := X2.heap.size) (e := 55) (c := M.length) ?_
    (repeat (refine own_setBelow ?_ (by omega) _ _)); exact HO3.out
  · repeat (refine Below.setCell ?_ (by (try simp only); omega) _)
    exact hB3

theorem eqDesk_c (A1 A2 A3 B1 B2 B3 : Option Addr) (c1 c2 c3 d1 d2 d3 : Nat) (H : List Int) (K : List CallD) (M : List MotionD) (w : World) (hr1 : Rd w w.heap.size A1 H.length (H.map (Value.int .i64))) (hr2 : Rd w w.heap.size A2 (K.length * 4) (K.flatMap callC)) (hr3 : Rd w w.heap.size A3 (M.length * 6) (M.flatMap motionC)) (kr1 : Rd w w.heap.size B1 H.length (H.map (Value.int .i64))) (kr2 : Rd w w.heap.size B2 (K.length * 4) (K.flatMap callC)) (kr3 : Rd w w.heap.size B3 (M.length * 6) (M.flatMap motionC))
    (h1 : H.length ≤ 140737488355328) (h2 : K.length ≤ 140737488355328) (h3 : M.length ≤ 140737488355328) :
    Calls Try.prog 8 #[.agg #[.slice A1 H.length c1, .slice A2 K.length c2, .slice A3 M.length c3], .agg #[.slice B1 H.length d1, .slice B2 K.length d2, .slice B3 M.length d3]] w fun e w' => e = .returned (.bool true) ∧ Below w.heap.size w w' := by
  go_enter Try.func8, Try.ntmps8
  go_wp2_with fail
  generalize hW0 : (w.alloc _).alloc _ = W0
  have hbW0 : Below w.heap.size w W0 := by subst hW0; exact ((Below.refl _ _).alloc (Nat.le_refl _) _).alloc (by (try simp) <;> (try omega)) _
  have hsW0 : W0.heap.size = w.heap.size + 2 := by subst hW0; simp
  have cxW0_0 : ∀ i, W0.cell? ⟨w.heap.size, i, none⟩ = (#[.slice A1 H.length c1, .slice A2 K.length c2, .slice A3 M.length c3] : Array Value)[i]? := by intro i; subst hW0; simp [go_sem]
  have cxW0_1 : ∀ i, W0.cell? ⟨w.heap.size + 1, i, none⟩ = (#[.slice B1 H.length d1, .slice B2 K.length d2, .slice B3 M.length d3] : Array Value)[i]? := by intro i; subst hW0; simp [go_sem]
  have HSW0 := Lib.hid hsW0; clear hW0 hsW0
  have hz0 : w.heap.size + 2 ≤ W0.heap.size := by have := HSW0.out; omega
  refine (eqInt64S_c A1 B1 c1 d1 H W0 (rdW hbW0 hr1) (rdW hbW0 kr1) h1).mono ?_
  rintro e w1 ⟨rfl, hb1⟩
  have hB1 := bt hbW0 hb1
  have hz1 := hb1.size
  replace cxW0_0 := fun i => (hb1.cell (by (try simp only); have := HSW0.out; omega)).trans (cxW0_0 i)
  replace cxW0_1 := fun i => (hb1.cell (by (try simp only); have := HSW0.out; omega)).trans (cxW0_1 i)
  go_wp2_with fail
  refine (eqCallS_c A2 B2 c2 d2 K w1 (rdW hB1 hr2) (rdW hB1 kr2) h2).mono ?_
  rintro e w2 ⟨rfl, hb2⟩
  have hB2 := bt hB1 hb2
  have hz2 := hb2.size
  replace cxW0_0 := fun i => (hb2.cell (by (try simp only); have := HSW0.out; omega)).trans (cxW0_0 i)
  replace cxW0_1 := fun i => (hb2.cell (by (try simp only); have := HSW0.out; omega)).trans (cxW0_1 i)
  go_wp2_with fail
  refine (eqMotionS_c A3 B3 c3 d3 M w2 (rdW hB2 hr3) (rdW hB2 kr3) h3).mono ?_
  rintro e w3 ⟨rfl, hb3⟩
  go_wp2
  go_ret
  exact ⟨rfl, bt hB2 hb3⟩

def deskOk (H : List Int) (K : List CallD) (M : List MotionD) : Bool := holOk H && callsOk K && motsOk M

set_option maxRecDepth 100000 in
theorem spec_IsDesk (A1 A2 A3 : Option Addr) (c1 c2 c3 : Nat) (H : List Int) (K : List CallD) (M : List MotionD) (b : Bool) (w : World) (hr1 : Rd w w.heap.size A1 H.length (H.map (Value.int .i64))) (hr2 : Rd w w.heap.size A2 (K.length * 4) (K.flatMap callC)) (hr3 : Rd w w.heap.size A3 (M.length * 6) (M.flatMap motionC)) (h1 : H.length ≤ 140737488355328) (k1 : H.length ≤ c1) (h2 : K.length ≤ 140737488355328) (k2 : K.length ≤ c2) (h3 : M.length ≤ 140737488355328) (k3 : M.length ≤ c3) (hW : ∀ x ∈ M, MotionW x) (h : deskOk H K M = b) :
    Calls Try.prog 5 #[.agg #[.slice A1 H.length c1, .slice A2 K.length c2, .slice A3 M.length c3]] w fun e w' => e = .returned (.bool b) ∧ Below w.heap.size w w' := by
  go_enter Try.func5, Try.ntmps5
  go_wp2_with fail
  generalize hW0 : w.alloc _ = W0
  have hbW0 : Below w.heap.size w W0 := by subst hW0; exact (Below.refl _ _).alloc (Nat.le_refl _) _
  have hsW0 : W0.heap.size = w.heap.size + 1 := by subst hW0; simp
  have cxW0_0 : ∀ i, W0.cell? ⟨w.heap.size, i, none⟩ = (#[.slice A1 H.length c1, .slice A2 K.length c2, .slice A3 M.length c3] : Array Value)[i]? := by intro i; subst hW0; simp [go_sem]
  have HSW0 := Lib.hid hsW0; clear hW0 hsW0
  have hz0 : w.heap.size + 1 ≤ W0.heap.size := by have := HSW0.out; omega
  refine (spec_AreHolidays A1 c1 H _ W0 (rdW hbW0 hr1) h1 k1 rfl).mono ?_
  rintro e w1 ⟨rfl, hb1⟩
  have hB1 := bt hbW0 hb1
  have hz1 := hb1.size
  replace cxW0_0 := fun i => (hb1.cell (by (try simp only); have := HSW0.out; omega)).trans (cxW0_0 i)
  have HB := Lib.hid h; clear h
  cases e1 : holOk H
  · go_wp2
    go_ret
    exact ⟨ret_bool (by rw [← HB.out]; simp [deskOk, e1]), hB1⟩
  go_wp2_with fail
  refine (spec_AreCalls A2 c2 K _ w1 (rdW hB1 hr2) h2 k2 rfl).mono ?_
  rintro e w2 ⟨rfl, hb2⟩
  have hB2 := bt hB1 hb2
  have hz2 := hb2.size
  replace cxW0_0 := fun i => (hb2.cell (by (try simp only); have := HSW0.out; omega)).trans (cxW0_0 i)
  cases e2 : callsOk K
  · go_wp2
    go_ret
    exact ⟨ret_bool (by rw [← HB.out]; simp [deskOk, e1, e2]), hB2⟩
  go_wp2_with fail
  refine (spec_AreMotions A3 c3 M _ w2 (rdW hB2 hr3) h3 k3 hW rfl).mono ?_
  rintro e w3 ⟨rfl, hb3⟩
  go_wp2
  go_ret
  exact ⟨ret_bool (by rw [← HB.out]; simp [deskOk, e1, e2]), bt hB2 hb3⟩

set_option maxRecDepth 100000 in
theorem impl_IsDesk (A1 A2 A3 : Option Addr) (c1 c2 c3 : Nat) (H : List Int) (K : List CallD) (M : List MotionD) (b : Bool) (w : World) (hr1 : Rd w w.heap.size A1 H.length (H.map (Value.int .i64))) (hr2 : Rd w w.heap.size A2 (K.length * 4) (K.flatMap callC)) (hr3 : Rd w w.heap.size A3 (M.length * 6) (M.flatMap motionC)) (h1 : H.length ≤ 140737488355328) (k1 : H.length ≤ c1) (h2 : K.length ≤ 140737488355328) (k2 : K.length ≤ c2) (h3 : M.length ≤ 140737488355328) (k3 : M.length ≤ c3) (hW : ∀ x ∈ M, MotionW x) (h : deskOk H K M = b) :
    Calls Try.prog 7 #[.agg #[.slice A1 H.length c1, .slice A2 K.length c2, .slice A3 M.length c3]] w fun e w' => e = .returned (.bool b) ∧ Below w.heap.size w w' := by
  go_enter Try.func7, Try.ntmps7
  go_wp2_with fail
  generalize hW0 : w.alloc _ = W0
  have hbW0 : Below w.heap.size w W0 := by subst hW0; exact (Below.refl _ _).alloc (Nat.le_refl _) _
  have hsW0 : W0.heap.size = w.heap.size + 1 := by subst hW0; simp
  have cxW0_0 : ∀ i, W0.cell? ⟨w.heap.size, i, none⟩ = (#[.slice A1 H.length c1, .slice A2 K.length c2, .slice A3 M.length c3] : Array Value)[i]? := by intro i; subst hW0; simp [go_sem]
  have HSW0 := Lib.hid hsW0; clear hW0 hsW0
  have hz0 : w.heap.size + 1 ≤ W0.heap.size := by have := HSW0.out; omega
  refine (impl_AreHolidays A1 c1 H _ W0 (rdW hbW0 hr1) h1 k1 rfl).mono ?_
  rintro e w1 ⟨rfl, rfl⟩
  have hB1 := hbW0
  have HB := Lib.hid h; clear h
  cases e1 : holOk H
  · go_wp2
    go_ret
    exact ⟨ret_bool (by rw [← HB.out]; simp [deskOk, e1]), hB1⟩
  go_wp2_with fail
  refine (impl_AreCalls A2 c2 K _ W0 (rdW hB1 hr2) h2 k2 rfl).mono ?_
  rintro e w2 ⟨rfl, hb2⟩
  have hB2 := bt hB1 hb2
  have hz2 := hb2.size
  replace cxW0_0 := fun i => (hb2.cell (by (try simp only); have := HSW0.out; omega)).trans (cxW0_0 i)
  cases e2 : callsOk K
  · go_wp2
    go_ret
    exact ⟨ret_bool (by rw [← HB.out]; simp [deskOk, e1, e2]), hB2⟩
  go_wp2_with fail
  refine (impl_AreMotions A3 c3 M _ w2 (rdW hB2 hr3) h3 k3 hW rfl).mono ?_
  rintro e w3 ⟨rfl, hb3⟩
  go_wp2
  go_ret
  exact ⟨ret_bool (by rw [← HB.out]; simp [deskOk, e1, e2]), bt hB2 hb3⟩
end Go.Proofs.Yteecdkaajcijpaa
