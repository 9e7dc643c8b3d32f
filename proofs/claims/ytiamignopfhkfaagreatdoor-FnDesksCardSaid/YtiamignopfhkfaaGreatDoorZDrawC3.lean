/- Contract of the draw of a desk: DrawIsDesk. -/
import Derived.Test.YtiamignopfhkfaaGreatDoorZDrawC1
import Derived.Test.YtiamignopfhkfaaGreatDoorZDrawC2
import Derived.Test.YtiamignopfhkfaaGreatDoorZ40
import Derived.Test.YtiamignopfhkfaaGreatDoorZ41
import Derived.Test.YtiamignopfhkfaaGreatDoorZ34
namespace Go.Proofs.YtiamignopfhkfaaGreatDoor
open Go.RowKit
set_option linter.unusedVariables false
/-- A slice that reads as a list, its cells in no block of X. -/
def RdX (X : Nat → Prop) (W : World) (A : Option Addr) (n : Nat) (xs : List Value) : Prop :=
  xs.length = n ∧ (0 < n → ∃ b off, A = some ⟨b, off, none⟩ ∧ b < W.heap.size ∧ ¬ X b ∧ ∀ j u, xs[j]? = some u → W.cell? ⟨b, off + j, none⟩ = some u)
section
variable {X Y : Nat → Prop} {W W' : World} {A : Option Addr} {n : Nat} {xs : List Value}
theorem RdX.rd (h : RdX X W A n xs) : Rd W W.heap.size A n xs := ⟨h.1, fun hn => by
  obtain ⟨b, off, e, hb, _, hc⟩ := h.2 hn
  exact ⟨b, off, e, hb, hc⟩⟩
theorem RdX.below (h : RdX X W A n xs) (hb : Below W.heap.size W W') : RdX X W' A n xs := ⟨h.1, fun hn => by
  obtain ⟨b, off, e, hl, hx, hc⟩ := h.2 hn
  exact ⟨b, off, e, Nat.lt_of_lt_of_le hl hb.size, hx, fun j u hu => (hb.cell (p := ⟨b, off + j, none⟩) hl).trans (hc j u hu)⟩⟩
theorem RdX.far {g : Nat} (h : RdX X W A n xs) (hg : W.grownBy W' (some g)) (hX : X g) : RdX X W' A n xs := ⟨h.1, fun hn => by
  obtain ⟨b, off, e, hl, hx, hc⟩ := h.2 hn
  exact ⟨b, off, e, Nat.lt_of_lt_of_le hl hg.size, hx, fun j u hu => (hg.cell_far ⟨b, off + j, none⟩ hl (fun e => by injection e with e; have e2 : b = g := e; rw [e2] at hx; exact hx hX)).trans (hc j u hu)⟩⟩
theorem RdX.set {b i : Nat} {u : Value} (h : RdX X W A n xs) (hX : X b) : RdX X (W.setCell ⟨b, i, none⟩ u) A n xs := ⟨h.1, fun hn => by
  obtain ⟨b', off, e, hl, hx, hc⟩ := h.2 hn
  exact ⟨b', off, e, by simpa [World.setCell] using hl, hx, fun j v hv => cell_other (hc j v hv) (fun e => by rw [e] at hx; exact hx hX)⟩⟩
theorem RdX.set3 {b : Nat} {x y z : Value} (h : RdX X W A n xs) (hX : X b) : RdX X (((W.setCell ⟨b, 0, none⟩ x).setCell ⟨b, 1, none⟩ y).setCell ⟨b, 2, none⟩ z) A n xs := ((h.set hX).set hX).set hX
theorem RdX.of_rd (h : Rd W W.heap.size A n xs) (hX : 0 < n → ∀ a, A = some a → ¬ X a.block) : RdX X W A n xs := ⟨h.1, fun hn => by
  obtain ⟨b, off, e, hl, hc⟩ := h.2 hn
  exact ⟨b, off, e, hl, hX hn _ e, hc⟩⟩
end
/-- A row of numbers, calls or motions never lies in a source's block. -/
theorem own_not_src {W : World} {base n size B g c : Nat} {e : TypeId} {A : Option Addr} {xs : List Value} (h : W.ownsRow base e size (.slice A n c) n xs) (hS : Src W B g) (hs : 0 < size) (h0 : ∀ u, xs[0]? = some u → ∃ z, u = .int .i64 z) (hn : 0 < n) : ∀ a, A = some a → a.block ≠ g := by
  intro a ha hag
  obtain ⟨k, rfl, _, hk⟩ := own_head h hn
  injection ha with ha
  subst ha
  have hkg : k = g := hag
  subst hkg
  have hp : 0 < n * size := Nat.mul_pos hn hs
  have hc := h.cellAt 0 hp
  have hlen : 0 < xs.length := by rw [h.1]; exact hp
  obtain ⟨z, hz⟩ := h0 _ (List.getElem?_eq_getElem hlen)
  rw [List.getElem?_eq_getElem hlen, hz] at hc
  obtain ⟨A', c', L', p, q, _, _, hc0, _⟩ := hS
  rw [hc0] at hc
  cases hc
/-- What the draw hands back: a desk whose lists can be read. -/
def DesQ (w : World) (e : Ending) (w' : World) : Prop := ∃ A1 A2 A3 c1 c2 c3 H K M, e = .returned (.agg #[.slice A1 (List.length H) c1, .slice A2 (List.length K) c2, .slice A3 (List.length M) c3]) ∧ Rd w' w'.heap.size A1 H.length (H.map (Value.int .i64)) ∧ Rd w' w'.heap.size A2 (K.length * 4) (K.flatMap callC) ∧ Rd w' w'.heap.size A3 (M.length * 6) (M.flatMap motionC) ∧
  (H.length ≤ 50 ∧ K.length ≤ 50 ∧ M.length ≤ 50) ∧ (H.length ≤ c1 ∧ K.length ≤ c2 ∧ M.length ≤ c3) ∧ (∀ x ∈ M, MotionW x) ∧ Below w.heap.size w w'
/-- A desk's three lists, outside of X. -/
def D3 (X : Nat → Prop) (A1 A2 A3 : Option Addr) (c1 c2 c3 : Nat) (H : List Int) (K : List CallD) (M : List MotionD) (W : World) : Prop :=
  RdX X W A1 H.length (H.map (Value.int .i64)) ∧ RdX X W A2 (K.length * 4) (K.flatMap callC) ∧ RdX X W A3 (M.length * 6) (M.flatMap motionC) ∧ (H.length ≤ 50 ∧ K.length ≤ 50 ∧ M.length ≤ 50) ∧ (H.length ≤ c1 ∧ K.length ≤ c2 ∧ M.length ≤ c3) ∧ (∀ x ∈ M, MotionW x)
section
variable {X : Nat → Prop} {A1 A2 A3 : Option Addr} {c1 c2 c3 : Nat} {H : List Int} {K : List CallD} {M : List MotionD} {W W' : World}
theorem D3.below (h : D3 X A1 A2 A3 c1 c2 c3 H K M W) (hb : Below W.heap.size W W') : D3 X A1 A2 A3 c1 c2 c3 H K M W' := ⟨h.1.below hb, h.2.1.below hb, h.2.2.1.below hb, h.2.2.2⟩
theorem D3.far {g : Nat} (h : D3 X A1 A2 A3 c1 c2 c3 H K M W) (hg : W.grownBy W' (some g)) (hX : X g) : D3 X A1 A2 A3 c1 c2 c3 H K M W' := ⟨h.1.far hg hX, h.2.1.far hg hX, h.2.2.1.far hg hX, h.2.2.2⟩
theorem D3.set {b i : Nat} {u : Value} (h : D3 X A1 A2 A3 c1 c2 c3 H K M W) (hX : X b) : D3 X A1 A2 A3 c1 c2 c3 H K M (W.setCell ⟨b, i, none⟩ u) := ⟨h.1.set hX, h.2.1.set hX, h.2.2.1.set hX, h.2.2.2⟩
theorem D3.setH {A : Option Addr} {c : Nat} {L : List Int} (h : D3 X A1 A2 A3 c1 c2 c3 H K M W) (hr : RdX X W A L.length (L.map (Value.int .i64))) (hl : L.length ≤ 50) (hc : L.length ≤ c) : D3 X A A2 A3 c c2 c3 L K M W := ⟨hr, h.2.1, h.2.2.1, ⟨hl, h.2.2.2.1.2⟩, ⟨hc, h.2.2.2.2.1.2⟩, h.2.2.2.2.2⟩
theorem D3.setK {A : Option Addr} {c : Nat} {L : List CallD} (h : D3 X A1 A2 A3 c1 c2 c3 H K M W) (hr : RdX X W A (L.length * 4) (L.flatMap callC)) (hl : L.length ≤ 50) (hc : L.length ≤ c) : D3 X A1 A A3 c1 c c3 H L M W := ⟨h.1, hr, h.2.2.1, ⟨h.2.2.2.1.1, hl, h.2.2.2.1.2.2⟩, ⟨h.2.2.2.2.1.1, hc, h.2.2.2.2.1.2.2⟩, h.2.2.2.2.2⟩
theorem D3.setM {A : Option Addr} {c : Nat} {L : List MotionD} (h : D3 X A1 A2 A3 c1 c2 c3 H K M W) (hr : RdX X W A (L.length * 6) (L.flatMap motionC)) (hl : L.length ≤ 50) (hc : L.length ≤ c) (hW : ∀ x ∈ L, MotionW x) : D3 X A1 A2 A c1 c2 c H K L W := ⟨h.1, h.2.1, hr, ⟨h.2.2.2.1.1, h.2.2.2.1.2.1, hl⟩, ⟨h.2.2.2.2.1.1, h.2.2.2.2.1.2.1, hc⟩, hW⟩
end
theorem first_int (H : List Int) : ∀ u, (H.map (Value.int .i64))[0]? = some u → ∃ z, u = .int .i64 z := by
  intro u hu
  cases H with
  | nil => cases hu
  | cons a t => simp at hu; exact ⟨a, hu.symm⟩
theorem first_call (K : List CallD) : ∀ u, (K.flatMap callC)[0]? = some u → ∃ z, u = .int .i64 z := by
  intro u hu
  cases K with
  | nil => cases hu
  | cons a t => simp [callC] at hu; exact ⟨_, hu.symm⟩
theorem first_motion (M : List MotionD) : ∀ u, (M.flatMap motionC)[0]? = some u → ∃ z, u = .int .i64 z := by
  intro u hu
  cases M with
  | nil => cases hu
  | cons a t => simp [motionC] at hu; exact ⟨_, hu.symm⟩
theorem rdx_row {X : Nat → Prop} {W : World} {base n size B g b2 b4 c : Nat} {e : TypeId} {A : Option Addr} {xs : List Value} {v0 v1 v2 : Value} (h : W.ownsRow base e size (.slice A n c) n xs) (hS : Src W B g) (hs : 0 < size) (h0 : ∀ u, xs[0]? = some u → ∃ z, u = .int .i64 z) (h2 : BD W b2 v0 v1 v2) (hne : e ≠ 34) (h4 : W.heap.size ≤ b4) :
    RdX (fun k => k = g ∨ k = b2 ∨ k = b4) W A (n * size) xs :=
  RdX.of_rd (Rd.of_own h) fun hn a ha => by
    have hn' : 0 < n := by cases n with
      | zero => simp at hn
      | succ n => omega
    have k1 := own_not_src h hS hs h0 hn' a ha
    have k2 : a.block ≠ b2 := own_not_box h h2 hne a.block (by rw [ha]; rfl)
    have k3 : a.block < W.heap.size := (h.lt a.block (by rw [ha]; rfl)).2
    rintro (h | h | h)
    · exact k1 h
    · exact k2 h
    · omega
theorem rdx_new {X : Nat → Prop} {W : World} {base n size c : Nat} {e : TypeId} {A : Option Addr} {xs : List Value} (h : W.ownsRow base e size (.slice A n c) n xs) (hX : ∀ k, X k → k < base) : RdX X W A (n * size) xs :=
  RdX.of_rd (Rd.of_own h) fun hn a ha hx => by
    have := (h.lt a.block (by rw [ha]; rfl)).1
    have := hX _ hx
    omega
set_option maxRecDepth 100000 in
set_option maxHeartbeats 8000000 in
theorem DrawIsDesk_c (A : Option Addr) (c : Nat) (L : List Int) (w : World) (hr : Rd w w.heap.size A L.length (L.map (Value.int .u8))) (hx : ∀ x ∈ L, 0 ≤ x ∧ x ≤ 255) (hL : L.length ≤ 4096) (hc : L.length ≤ c) : Calls Tryz.prog 21 #[.slice A L.length c] w (DesQ w) := by
  go_enter Tryz.func21, Tryz.ntmps21
  go_wp2_with fail
  generalize hW0 : w.alloc (.cells #[.slice none 0 0, .slice none 0 0, .slice none 0 0] 34) = W0
  have hbW0 : Below w.heap.size w W0 := by subst hW0; exact (Below.refl _ _).alloc (Nat.le_refl _) _
  have X2 := Lib.hid (show BD W0 w.heap.size (.slice none 0 0) (.slice none 0 0) (.slice none 0 0) by subst hW0; exact BD.new _ _ _ _)
  clear hW0
  have hz0 := X2.out.lt
  refine (l01From_c A c L W0 (rdW hbW0 hr) hx hL hc).mono ?_
  rintro e w1 ⟨rfl, hS, hb1⟩
  have HQ1 := Lib.hid hS
  have HB1 := bt hbW0 hb1
  replace X2 := Lib.hid (X2.out.below hb1)
  clear hr hx hS
  go_wp2_with fail
  refine (l34Draw_c _ _ w1 HQ1.out).mono ?_
  rintro e w2 ⟨t, rfl, ht, hq2, hg2⟩
  have HQ2 := Lib.hid hq2
  have HB2 : Below w.heap.size w w2 := below_grown HB1 hg2 (Nat.le_refl _) (fun g h => by injection h with h; omega)
  replace X2 := Lib.hid (X2.out.far hg2 (fun e => by injection e with e; omega))
  clear hq2 hg2
  go_wp2_with fail
  refine (spec_DeskAfter t w2 (by omega)).mono ?_
  rintro e w3 ⟨v, rfl, ⟨A1, A2, A3, c1, c2, c3, rfl, hr3⟩, hb3⟩
  have HB3 := bt HB2 hb3
  have HQ3 := Lib.hid (HQ2.out.below hb3)
  replace X2 := Lib.hid (X2.out.below hb3)
  have hG := deskT_good t
  generalize deskT t = d at *
  generalize codeT t = q at *
  have hcap := hr3.caps
  have hlen := hG.lens
  have hg3 := HQ3.out.lt
  have HD3 : Hid (D3 (fun k => k = W0.heap.size ∨ k = w.heap.size ∨ k = w3.heap.size) A1 A2 A3 c1 c2 c3 d.H d.K d.M w3) :=
    ⟨by have h := rdx_row (X := (fun k => k = W0.heap.size ∨ k = w.heap.size ∨ k = w3.heap.size)) hr3.1 HQ3.out (by omega) (first_int _) X2.out (by decide) (Nat.le_refl _); rw [Nat.mul_one] at h; exact h, rdx_row (X := (fun k => k = W0.heap.size ∨ k = w.heap.size ∨ k = w3.heap.size)) hr3.2.1 HQ3.out (by omega) (first_call _) X2.out (by decide) (Nat.le_refl _), rdx_row (X := (fun k => k = W0.heap.size ∨ k = w.heap.size ∨ k = w3.heap.size)) hr3.2.2 HQ3.out (by omega) (first_motion _) X2.out (by decide) (Nat.le_refl _), by omega, hcap, hG.2.2.2⟩
  clear hr3 hb3 hG
  go_upto_region 3 with fail
  have X4 := Lib.hid (BD.new w3 (.slice A1 d.H.length c1) (.slice A2 d.K.length c2) (.slice A3 d.M.length c3))
  have hb4 : Below w3.heap.size w3 (w3.alloc (.cells #[.slice A1 d.H.length c1, .slice A2 d.K.length c2, .slice A3 d.M.length c3] 34)) := (Below.refl _ _).alloc (Nat.le_refl _) _
  have HQ4 := Lib.hid (HQ3.out.below hb4)
  have HD4 := Lib.hid (HD3.out.below hb4)
  have HB4 := bt HB3 hb4
  replace X2 := Lib.hid (X2.out.below hb4)
  generalize w3.alloc (.cells #[.slice A1 d.H.length c1, .slice A2 d.K.length c2, .slice A3 d.M.length c3] 34) = W4 at *
  clear hb4 HQ3 HD3
  generalize d.H = H at *
  generalize d.K = K at *
  generalize d.M = M at *
  have hg4 := HQ4.out.lt
  have hx4 := X4.out.lt
  go_wp2_with fail
  refine (l01Next_c _ _ 12 W4 HQ4.out (by omega)).mono ?_
  rintro e w5 ⟨k, rfl, ⟨hk0, hk1⟩, hq5, hg5⟩
  have HQ5 := Lib.hid hq5
  have HD5 := Lib.hid (HD4.out.far hg5 (.inl rfl))
  have HB5 : Below w.heap.size w w5 := below_grown HB4 hg5 (Nat.le_refl _) (fun g h => by injection h with h; omega)
  replace X2 := Lib.hid (X2.out.far hg5 (fun e => by injection e with e; omega))
  replace X4 := Lib.hid (X4.out.far hg5 (fun e => by injection e with e; omega))
  have hz5 := hg5.size
  clear hq5 hg5 HD4 HQ4
  have END : Hid (∀ (W : World) (A1 A2 A3 : Option Addr) (c1 c2 c3 : Nat) (H : List Int) (K : List CallD) (M : List MotionD), D3 (fun k => k = W0.heap.size ∨ k = w.heap.size ∨ k = w3.heap.size) A1 A2 A3 c1 c2 c3 H K M W → Below w.heap.size w W → DesQ w (.returned (.agg #[.slice A1 H.length c1, .slice A2 K.length c2, .slice A3 M.length c3])) (((W.setCell ⟨w.heap.size, 0, none⟩ (.slice A1 H.length c1)).setCell ⟨w.heap.size, 1, none⟩ (.slice A2 K.length c2)).setCell ⟨w.heap.size, 2, none⟩ (.slice A3 M.length c3))) := fun W A1 A2 A3 c1 c2 c3 H K M h hB =>
    ⟨A1, A2, A3, c1, c2, c3, H, K, M, rfl, (h.1.set3 (.inr (.inl rfl))).rd, (h.2.1.set3 (.inr (.inl rfl))).rd, (h.2.2.1.set3 (.inr (.inl rfl))).rd, h.2.2.2.1, h.2.2.2.2.1, h.2.2.2.2.2, bel3 hB (Nat.le_refl _) _ _ _⟩
  by_cases k0 : k = 0
  · subst k0
    go_wp2_with fail
    refine (l02Holidays_c _ _ w5 HQ5.out).mono ?_
    rintro e w6 ⟨A9, c9, L9, rfl, ho9, hl9, hq6, hg6⟩
    have HD6 := Lib.hid ((HD5.out.far hg6 (.inl rfl)).setH (A := A9) (c := c9) (L := L9) (by have h := rdx_new (X := (fun k => k = W0.heap.size ∨ k = w.heap.size ∨ k = w3.heap.size)) ho9 (by rintro k (h | h | h) <;> omega); rw [Nat.mul_one] at h; exact h) (by omega) (own_cap ho9).1)
    have HB6 : Below w.heap.size w w6 := below_grown HB5 hg6 (Nat.le_refl _) (fun g h => by injection h with h; omega)
    replace X2 := Lib.hid (X2.out.far hg6 (fun e => by injection e with e; omega))
    replace X4 := Lib.hid (X4.out.far hg6 (fun e => by injection e with e; omega))
    clear ho9 hq6 hg6 HD5 HQ5
    have f0 := X4.out.c0
    have zf := X4.out.frozen
    go_upto_region 10 with fail
    have HD7 := Lib.hid (HD6.out.set (b := w3.heap.size) (i := 0) (u := .slice A9 L9.length c9) (.inr (.inr rfl)))
    have HB7 := HB6.setCell (p := ⟨w3.heap.size, 0, none⟩) (by simp only; omega) (.slice A9 L9.length c9)
    have X2n := Lib.hid (X2.out.other (c := w3.heap.size) (j := 0) (x := .slice A9 L9.length c9) (by omega))
    have X4n := Lib.hid (X4.out.set0 (.slice A9 L9.length c9))
    generalize w6.setCell ⟨w3.heap.size, 0, none⟩ (.slice A9 L9.length c9) = W7 at *
    clear f0 zf X2 X4 HD6 HB6
    have e0 := X4n.out.c0; have e1 := X4n.out.c1; have e2 := X4n.out.c2
    have r0 := X2n.out.c0; have r1 := X2n.out.c1; have r2 := X2n.out.c2
    have zr := X2n.out.frozen
    go_wp2
    refine bodyPost_ret (v := .agg #[.slice A9 L9.length c9, .slice A2 K.length c2, .slice A3 M.length c3]) (by simp [results, Tryz.results21, go_sem, r0, r1, r2]) rfl ?_
    exact END.out W7 _ _ _ _ _ _ _ _ _ HD7.out HB7
  by_cases k1 : k = 1
  · subst k1
    go_wp2_with fail
    refine (l10List_c _ _ w5 HQ5.out).mono ?_
    rintro e w6 ⟨A9, c9, L9, rfl, ho9, hl9, -, hq6, hg6⟩
    have HD6 := Lib.hid ((HD5.out.far hg6 (.inl rfl)).setK (A := A9) (c := c9) (L := L9) (rdx_new (X := (fun k => k = W0.heap.size ∨ k = w.heap.size ∨ k = w3.heap.size)) ho9 (by rintro k (h | h | h) <;> omega)) (by omega) (own_cap ho9).1)
    have HB6 : Below w.heap.size w w6 := below_grown HB5 hg6 (Nat.le_refl _) (fun g h => by injection h with h; omega)
    replace X2 := Lib.hid (X2.out.far hg6 (fun e => by injection e with e; omega))
    replace X4 := Lib.hid (X4.out.far hg6 (fun e => by injection e with e; omega))
    clear ho9 hq6 hg6 HD5 HQ5
    have f1 := X4.out.c1
    have zf := X4.out.frozen
    go_upto_region 10 with fail
    have HD7 := Lib.hid (HD6.out.set (b := w3.heap.size) (i := 1) (u := .slice A9 L9.length c9) (.inr (.inr rfl)))
    have HB7 := HB6.setCell (p := ⟨w3.heap.size, 1, none⟩) (by simp only; omega) (.slice A9 L9.length c9)
    have X2n := Lib.hid (X2.out.other (c := w3.heap.size) (j := 1) (x := .slice A9 L9.length c9) (by omega))
    have X4n := Lib.hid (X4.out.set1 (.slice A9 L9.length c9))
    generalize w6.setCell ⟨w3.heap.size, 1, none⟩ (.slice A9 L9.length c9) = W7 at *
    clear f1 zf X2 X4 HD6 HB6
    have e0 := X4n.out.c0; have e1 := X4n.out.c1; have e2 := X4n.out.c2
    have r0 := X2n.out.c0; have r1 := X2n.out.c1; have r2 := X2n.out.c2
    have zr := X2n.out.frozen
    go_wp2
    refine bodyPost_ret (v := .agg #[.slice A1 H.length c1, .slice A9 L9.length c9, .slice A3 M.length c3]) (by simp [results, Tryz.results21, go_sem, r0, r1, r2]) rfl ?_
    exact END.out W7 _ _ _ _ _ _ _ _ _ HD7.out HB7
  by_cases k2 : k = 2
  · subst k2
    go_wp2_with fail
    refine (l30List_c _ _ w5 HQ5.out).mono ?_
    rintro e w6 ⟨A9, c9, L9, rfl, ho9, hl9, hW9, hq6, hg6⟩
    have HD6 := Lib.hid ((HD5.out.far hg6 (.inl rfl)).setM (A := A9) (c := c9) (L := L9) (rdx_new (X := (fun k => k = W0.heap.size ∨ k = w.heap.size ∨ k = w3.heap.size)) ho9 (by rintro k (h | h | h) <;> omega)) (by omega) (own_cap ho9).1 hW9)
    have HB6 : Below w.heap.size w w6 := below_grown HB5 hg6 (Nat.le_refl _) (fun g h => by injection h with h; omega)
    replace X2 := Lib.hid (X2.out.far hg6 (fun e => by injection e with e; omega))
    replace X4 := Lib.hid (X4.out.far hg6 (fun e => by injection e with e; omega))
    clear ho9 hq6 hg6 HD5 HQ5 hW9
    have f2 := X4.out.c2
    have zf := X4.out.frozen
    go_upto_region 10 with fail
    have HD7 := Lib.hid (HD6.out.set (b := w3.heap.size) (i := 2) (u := .slice A9 L9.length c9) (.inr (.inr rfl)))
    have HB7 := HB6.setCell (p := ⟨w3.heap.size, 2, none⟩) (by simp only; omega) (.slice A9 L9.length c9)
    have X2n := Lib.hid (X2.out.other (c := w3.heap.size) (j := 2) (x := .slice A9 L9.length c9) (by omega))
    have X4n := Lib.hid (X4.out.set2 (.slice A9 L9.length c9))
    generalize w6.setCell ⟨w3.heap.size, 2, none⟩ (.slice A9 L9.length c9) = W7 at *
    clear f2 zf X2 X4 HD6 HB6
    have e0 := X4n.out.c0; have e1 := X4n.out.c1; have e2 := X4n.out.c2
    have r0 := X2n.out.c0; have r1 := X2n.out.c1; have r2 := X2n.out.c2
    have zr := X2n.out.frozen
    go_wp2
    refine bodyPost_ret (v := .agg #[.slice A1 H.length c1, .slice A2 K.length c2, .slice A9 L9.length c9]) (by simp [results, Tryz.results21, go_sem, r0, r1, r2]) rfl ?_
    exact END.out W7 _ _ _ _ _ _ _ _ _ HD7.out HB7
  have k3 : 3 ≤ k := by omega
  have e0 := X4.out.c0; have e1 := X4.out.c1; have e2 := X4.out.c2
  have r0 := X2.out.c0; have r1 := X2.out.c1; have r2 := X2.out.c2
  have zr := X2.out.frozen
  go_wp2
  refine bodyPost_ret (v := .agg #[.slice A1 H.length c1, .slice A2 K.length c2, .slice A3 M.length c3]) (by simp [results, Tryz.results21, go_sem, r0, r1, r2]) rfl ?_
  exact END.out w5 _ _ _ _ _ _ _ _ _ HD5.out HB5
end Go.Proofs.YtiamignopfhkfaaGreatDoor
