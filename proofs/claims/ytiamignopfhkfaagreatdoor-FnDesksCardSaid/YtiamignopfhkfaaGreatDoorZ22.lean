/- What the world's shape gives: the variable MaxLen holds some number. Contract: a line of the console, of the program. Plain: a block that holds a desk, told by its object; rows of other types are never that block. -/
import Derived.Test.YtiamignopfhkfaaGreatDoorZ2
import Derived.Shelf.Vars
import Derived.HandedShaped
import Derived.Test.YtiamignopfhkfaaGreatDoorZ18
import Derived.Test.YtiamignopfhkfaaGreatDoorZExecI2
import Derived.Test.YtiamignopfhkfaaGreatDoorZ21
import Derived.Test.YtiamignopfhkfaaGreatDoorZ6
section
namespace Go.Proofs.YtiamignopfhkfaaGreatDoor
open Go.RowKit
set_option linter.unusedVariables false
/-- The variable MaxLen holds some number. -/
def MaxW (w : World) : Prop := ∃ m, w.cell? ⟨0, 0, none⟩ = some (.int .i64 m)
theorem max_of_shape {w : World} (h : w.ShapedOpen Tryz.prog) : MaxW w :=
  cell_of_shapedOpen_int (zero := #[.int .i64 0]) (t := 3) h (of_decide_eq_true (by kernel_rfl)) (by kernel_rfl) rfl (by kernel_rfl) (by kernel_rfl) Tryz.underlying3
end Go.Proofs.YtiamignopfhkfaaGreatDoor
end
section
namespace Go.Proofs.YtiamignopfhkfaaGreatDoor
open Go.RowKit
set_option linter.unusedVariables false
theorem cm_text {s : ByteArray} {m : Cm} (h : cmOf s = some m) : (textC m).size ≤ s.size := by
  have hl : lineB s = true := by
    cases hl : lineB s
    · rw [cmOf_no hl] at h; cases h
    · rfl
  obtain ⟨k, m2, _, _, h3, _, _, _, _, h8⟩ := cmOf_yes hl
  rw [h] at h3
  injection h3 with h3
  subst h3
  cases m with
  | fil t a b =>
    obtain ⟨e, h1⟩ := h8 t a b rfl
    show t.size ≤ s.size
    rw [← e, getD_at h1]
    exact words_sz s _ (List.getElem_mem h1)
  | _ => exact Nat.zero_le _
theorem exec_all (g : Nat) (F : Nat → Prop) (d : DeskD) (w0 w : World) (hE : JEnv w0) (h0 : Below w0.heap.size w0 w) (hD : DeskIn w0.heap.size g F d w) (m : Cm) (A : Option Addr) (c : Nat) (hm : CmB m) (ht : (textC m).size ≤ 2000000) (hN : Rd w w.heap.size A (numsC m).length ((numsC m).map (Value.int .i64))) (hc : (numsC m).length ≤ c) :
    Calls Tryz.prog 85 #[.pointer (some ⟨g, 0, none⟩), .agg #[.string (wordC m), .string (textC m), .slice A (numsC m).length c]] w (ExecPost w0.heap.size g F d m w) := by
  cases m with
  | opn => exact exec_opn g F d _ A c w0 w hE h0 hD hc
  | hol a => exact exec_hol g F d _ A c w0 w hE h0 hD a hN hc
  | onD a => exact exec_onD g F d _ A c w0 w hE h0 hD a hN hc
  | due a b => exact exec_due g F d _ A c w0 w hE h0 hD a b hN hc
  | plu a b => exact exec_plu g F d _ A c w0 w hE h0 hD a b hN hc
  | cal a b => exact exec_cal g F d _ A c w0 w hE h0 hD a b hN hc
  | mov a b => exact exec_mov g F d _ A c w0 w hE h0 hD a b hN hc
  | fre a b => exact exec_fre g F d _ A c w0 w hE h0 hD a b hN hc
  | nex a b => exact exec_nex g F d _ A c w0 w hE h0 hD a b hN hc
  | sta a b x => exact exec_sta g F d _ A c w0 w hE h0 hD a b x hN hc
  | dra a b x => exact exec_dra g F d _ A c w0 w hE h0 hD a b x hN hc
  | cha a b x y => exact exec_cha g F d _ A c w0 w hE h0 hD a b x y hN hc
  | fil t a b => exact exec_fil g F d t A c w0 w hE h0 hD a b hN hc (by have : t.size ≤ 2000000 := ht; omega) (hm b (by simp [numsC]))
def LineP (B g : Nat) (F : Nat → Prop) (d : DeskD) (s : ByteArray) (w : World) (e : Ending) (w' : World) : Prop :=
  e = .returned (.string (lineD d s).2) ∧ DeskIn B g F (lineD d s).1 w' ∧ w.grownBy w' (some g)
theorem errT_cut (q : Int) : ({ data := #[101, 114, 114, 111, 114, 32] } : ByteArray) ++ decI q = errT q := rfl
set_option maxRecDepth 100000 in
set_option maxHeartbeats 4000000 in
theorem line_c (g : Nat) (F : Nat → Prop) (d : DeskD) (w0 w : World) (hE : JEnv w0) (h0 : Below w0.heap.size w0 w) (hD : DeskIn w0.heap.size g F d w) (hM : MaxW w0) (s : ByteArray) (hs : s.size ≤ 2000000) : Calls Tryz.prog 62 #[.pointer (some ⟨g, 0, none⟩), .string s] w (LineP w0.heap.size g F d s w) := by
  have HE := Lib.hid (fun (W1 : World) (hb : Below w0.heap.size w0 W1) => hE.below hb)
  have HD := Lib.hid hD
  obtain ⟨mx, hmx⟩ := hM
  have HRC := Lib.hid (readCommand_v s w hs (hE.below h0) mx ((h0.cell (block_lt_of_cell hmx)).trans hmx))
  have HDEC := Lib.hid (fun (q : Int) (hq : CB q) (W1 : World) (hT : TabW W1) => decimalI_c q (by have := hq.1; omega) (by have := hq.2; omega) W1 hT)
  have H0 := Lib.hid h0
  have HT : Hid (∀ W1 : World, Below w.heap.size w W1 → TabW W1) := fun W1 hb => (hE.below (bt h0 hb)).1
  clear hmx
  cases hl : lineB s
  · have HX := Lib.hid (lineD_none (d := d) (cmOf_no hl))
    rw [hl] at HRC
    have HZ := Lib.hid (errT_sz (q := 6) ⟨by decide, by decide⟩)
    have HC6 := Lib.hid (errT_cut 6)
    have HD6 := Lib.hid (HDEC.out 6 ⟨by decide, by decide⟩)
    have hz6 := decI_sz (n := 6) ⟨by decide, by decide⟩
    generalize decI 6 = t6 at *
    generalize errT 6 = e6 at *
    clear hE hD h0
    go_enter Tryz.func62, Tryz.ntmps62
    go_wp2_with fail
    refine HRC.out.mono ?_
    rintro e w1 ⟨a1, a2, A3, n3, c3, rfl, hb1, -⟩
    go_wp2_with fail
    generalize hW2 : w1.alloc _ = W2
    have hbW2 : Below w1.heap.size w1 W2 := by subst hW2; exact (Below.refl _ _).alloc (Nat.le_refl _) _
    have hsW2 : W2.heap.size = w1.heap.size + 1 := by subst hW2; simp
    have cxW2_0 : ∀ i, W2.cell? ⟨w1.heap.size, i, none⟩ = (#[.string a1, .string a2, .slice A3 n3 c3] : Array Value)[i]? := by intro i; subst hW2; simp [go_sem]
    have HSW2 := Lib.hid hsW2; clear hW2 hsW2
    replace hb1 := bt hb1 hbW2
    refine (HD6.out W2 (HT.out W2 hb1)).mono ?_
    rintro e w2 ⟨rfl, hb2⟩
    go_wp2
    go_ret
    exact ⟨by rw [HX.out, ← HC6.out]; rfl, by rw [HX.out]; exact HD.out.below (bt hb1 hb2), grown_of_below (bt hb1 hb2) _⟩
  · rw [hl] at HRC
    go_enter Tryz.func62, Tryz.ntmps62
    go_wp2_with fail
    refine HRC.out.mono ?_
    rintro e w1 ⟨a1, a2, A3, n3, c3, rfl, hb1, hX⟩
    obtain ⟨m, hcm, rfl, rfl, rfl, hc3, hN, hmB⟩ := hX hl
    have HEX := Lib.hid (fun (W2 : World) (hb : Below w1.heap.size w1 W2) => exec_all g F d w0 W2 hE (bt h0 (bt hb1 hb)) (hD.below (bt hb1 hb)) m A3 c3 hmB (Nat.le_trans (cm_text hcm) hs) (rdW hb hN) hc3)
    have hcb := exec_cb d m
    have HCB := Lib.hid hcb
    have hG1 := grown_of_below hb1 (some g)
    by_cases hq : (exec d m).2.2 = 0
    · have HX := Lib.hid (lineD_ok hcm hq)
      have HP : Hid (∀ (W2 : World) e w', ExecPost w0.heap.size g F d m W2 e w' → e = .returned (.tuple #[.string (exec d m).2.1, .int .i64 0]) ∧ DeskIn w0.heap.size g F (exec d m).1 w' ∧ W2.grownBy w' (some g)) := by
        rintro W2 e w' ⟨o, rfl, ho, h1, h2, _⟩
        exact ⟨by rw [ho hq, hq], h1, h2⟩
      have HSZ := Lib.hid (exec_sz hD.good m)
      generalize hR : exec d m = R at *
      obtain ⟨dd, o, q⟩ := R
      simp only at hq
      subst hq
      clear hE hD h0 hN hX hl hR
      generalize textC m = tt at *
      generalize (numsC m).length = nn at *
      generalize wordC m = ww at *
      go_wp2_with fail
      generalize hW2 : w1.alloc _ = W2
      have hbW2 : Below w1.heap.size w1 W2 := by subst hW2; exact (Below.refl _ _).alloc (Nat.le_refl _) _
      have hsW2 : W2.heap.size = w1.heap.size + 1 := by subst hW2; simp
      have cxW2_0 : ∀ i, W2.cell? ⟨w1.heap.size, i, none⟩ = (#[.string ww, .string tt, .slice A3 nn c3] : Array Value)[i]? := by intro i; subst hW2; simp [go_sem]
      have HSW2 := Lib.hid hsW2; clear hW2 hsW2
      replace hG1 := grown_trans' hG1 (grown_of_below hbW2 (some g))
      refine (HEX.out W2 hbW2).mono ?_
      intro e w2 hp
      obtain ⟨rfl, h1, h2⟩ := HP.out W2 e w2 hp
      clear hp
      go_wp2
      go_ret
      exact ⟨by rw [HX.out]; rfl, by rw [HX.out]; exact h1, grown_trans' hG1 h2⟩
    · have HX := Lib.hid (lineD_err hcm hq)
      have HP : Hid (∀ (W2 : World) e w', ExecPost w0.heap.size g F d m W2 e w' → ∃ o, e = .returned (.tuple #[.string o, .int .i64 (exec d m).2.2]) ∧ DeskIn w0.heap.size g F d w' ∧ W2.grownBy w' (some g)) := by
        rintro W2 e w' ⟨o, rfl, ho, h1, h2, _⟩
        exact ⟨o, rfl, exec_same hq ▸ h1, h2⟩
      have HZ := Lib.hid (errT_sz hcb)
      have HCT := Lib.hid (errT_cut (exec d m).2.2)
      have HDQ := Lib.hid (fun (W1 : World) hT => HDEC.out (exec d m).2.2 HCB.out W1 hT)
      have hzq := decI_sz (n := (exec d m).2.2) ⟨hcb.1, by have := hcb.2; omega⟩
      have HTW : Hid (∀ W2 w2 : World, Below w1.heap.size w1 W2 → W2.grownBy w2 (some g) → TabW w2) := fun W2 w2 hb hg => (hE.below (below_grown (bt h0 (bt hb1 hb)) hg (Nat.le_refl _) (fun k hk => by injection hk with hk; rw [← hk]; exact hD.bds.1))).1
      generalize (exec d m).2.2 = q at *
      have hqn : (q != 0) = true := bne_iff_ne.2 hq
      have hqb : (q == 0) = false := beq_eq_false_iff_ne.2 hq
      generalize decI q = t6 at *
      generalize errT q = e6 at *
      clear hE hD h0 hN hX hl hcb
      generalize textC m = tt at *
      generalize (numsC m).length = nn at *
      generalize wordC m = ww at *
      go_wp2_with fail
      generalize hW2 : w1.alloc _ = W2
      have hbW2 : Below w1.heap.size w1 W2 := by subst hW2; exact (Below.refl _ _).alloc (Nat.le_refl _) _
      have hsW2 : W2.heap.size = w1.heap.size + 1 := by subst hW2; simp
      have cxW2_0 : ∀ i, W2.cell? ⟨w1.heap.size, i, none⟩ = (#[.string ww, .string tt, .slice A3 nn c3] : Array Value)[i]? := by intro i; subst hW2; simp [go_sem]
      have HSW2 := Lib.hid hsW2; clear hW2 hsW2
      replace hG1 := grown_trans' hG1 (grown_of_below hbW2 (some g))
      refine (HEX.out W2 hbW2).mono ?_
      intro e w2 hp
      obtain ⟨o, rfl, h1, h2⟩ := HP.out W2 e w2 hp
      clear hp
      go_wp2_with fail
      refine (HDQ.out w2 (HTW.out W2 w2 hbW2 h2)).mono ?_
      rintro e w3 ⟨rfl, hb3⟩
      go_wp2
      go_ret
      exact ⟨by rw [HX.out, ← HCT.out]; rfl, by rw [HX.out]; exact h1.below hb3, grown_trans' hG1 (grown_trans' h2 (grown_of_below hb3 _))⟩
end Go.Proofs.YtiamignopfhkfaaGreatDoor
end
section
namespace Go.Proofs.YtiamignopfhkfaaGreatDoor
open Go.RowKit
set_option linter.unusedVariables false
/-- Block b holds a desk of these three slices. -/
def BD (W : World) (b : Nat) (v0 v1 v2 : Value) : Prop := W.heap[b]? = some (.cells #[v0, v1, v2] 34 (0, 0))
section
variable {W W' : World} {b : Nat} {v0 v1 v2 : Value}
theorem BD.lt (h : BD W b v0 v1 v2) : b < W.heap.size := (Array.getElem?_eq_some_iff.1 h).1
theorem BD.cell (h : BD W b v0 v1 v2) (i : Nat) : W.cell? ⟨b, i, none⟩ = (#[v0, v1, v2] : Array Value)[i]? := by
  unfold BD at h
  simp [World.cell?, h]
theorem BD.c0 (h : BD W b v0 v1 v2) : W.cell? ⟨b, 0, none⟩ = some v0 := h.cell 0
theorem BD.c1 (h : BD W b v0 v1 v2) : W.cell? ⟨b, 1, none⟩ = some v1 := h.cell 1
theorem BD.c2 (h : BD W b v0 v1 v2) : W.cell? ⟨b, 2, none⟩ = some v2 := h.cell 2
theorem BD.frozen (h : BD W b v0 v1 v2) (i : Nat) : W.frozen? ⟨b, i, none⟩ = false := by
  unfold BD at h
  simp [World.frozen?, h]
theorem BD.drew (h : BD W b v0 v1 v2) : BD W.drew b v0 v1 v2 := h
theorem BD.below (h : BD W b v0 v1 v2) (hb : Below W.heap.size W W') : BD W' b v0 v1 v2 := (hb.block b h.lt).trans h
theorem BD.far {row : Option Nat} (h : BD W b v0 v1 v2) (hg : W.grownBy W' row) (hne : some b ≠ row) : BD W' b v0 v1 v2 := (hg.block b h.lt hne).trans h
theorem BD.other {c j : Nat} {x : Value} (h : BD W b v0 v1 v2) (hne : b ≠ c) : BD (W.setCell ⟨c, j, none⟩ x) b v0 v1 v2 := (Below.heap_setCell W ⟨c, j, none⟩ x b hne).trans h
theorem BD.set0 (h : BD W b v0 v1 v2) (x : Value) : BD (W.setCell ⟨b, 0, none⟩ x) b x v1 v2 := by
  unfold BD at h ⊢
  simp [World.setCell, Array.getElem?_modify, h]
theorem BD.set1 (h : BD W b v0 v1 v2) (x : Value) : BD (W.setCell ⟨b, 1, none⟩ x) b v0 x v2 := by
  unfold BD at h ⊢
  simp [World.setCell, Array.getElem?_modify, h]
theorem BD.set2 (h : BD W b v0 v1 v2) (x : Value) : BD (W.setCell ⟨b, 2, none⟩ x) b v0 v1 x := by
  unfold BD at h ⊢
  simp [World.setCell, Array.getElem?_modify, h]
theorem BD.put (h : BD W b v0 v1 v2) (x y z : Value) : BD (((W.setCell ⟨b, 0, none⟩ x).setCell ⟨b, 1, none⟩ y).setCell ⟨b, 2, none⟩ z) b x y z := ((h.set0 x).set1 y).set2 z
theorem BD.other3 {c : Nat} {x y z : Value} (h : BD W b v0 v1 v2) (hne : b ≠ c) : BD (((W.setCell ⟨c, 0, none⟩ x).setCell ⟨c, 1, none⟩ y).setCell ⟨c, 2, none⟩ z) b v0 v1 v2 := ((h.other hne).other hne).other hne
theorem BD.new (W : World) (v0 v1 v2 : Value) : BD (W.alloc (.cells #[v0, v1, v2] 34)) W.heap.size v0 v1 v2 := heap_alloc_new W _
theorem own_not_box {base : Nat} {e : TypeId} {size n : Nat} {v : Value} {xs : List Value} (h : W.ownsRow base e size v n xs) (hB : BD W b v0 v1 v2) (hne : e ≠ 34) : ∀ k, v.ownBlock = some k → k ≠ b := by
  rintro k hk rfl
  rcases h.2 with ⟨rfl, _⟩ | ⟨g, cap, cur, rfl, _, hg, _⟩
  · cases hk
  · injection hk with hk
    have hk : g = k := hk
    subst hk
    unfold BD at hB
    rw [hB] at hg
    injection hg with hg
    injection hg with _ h2 _
    exact hne h2.symm
theorem own_not_own {b1 b2 s1 s2 n1 n2 : Nat} {e1 e2 : TypeId} {u v : Value} {xs ys : List Value} (h1 : W.ownsRow b1 e1 s1 u n1 xs) (h2 : W.ownsRow b2 e2 s2 v n2 ys) (hne : e1 ≠ e2) : u.ownBlock = none ∨ u.ownBlock ≠ v.ownBlock := by
  rcases h1.2 with ⟨rfl, _⟩ | ⟨g, cap, cur, rfl, _, hg, _⟩
  · exact .inl rfl
  · refine .inr fun e => ?_
    rcases h2.2 with ⟨rfl, _⟩ | ⟨g2, cap2, cur2, rfl, _, hg2, _⟩
    · cases e
    · injection e with e
      have e : g = g2 := e
      subst e
      rw [hg] at hg2
      injection hg2 with hg2
      injection hg2 with _ h3 _
      exact hne h3
end
section
variable {W : World} {B b : Nat} {d : DeskD} {A1 A2 A3 : Option Addr} {c1 c2 c3 : Nat} {v0 v1 v2 : Value}
theorem RowsW.put1 (h : RowsW B d A1 A2 A3 c1 c2 c3 W) (hB : BD W b v0 v1 v2) (j : Nat) (x : Value) : RowsW B d A1 A2 A3 c1 c2 c3 (W.setCell ⟨b, j, none⟩ x) :=
  ⟨own_set h.1 (own_not_box h.1 hB (by decide)) j x, own_set h.2.1 (own_not_box h.2.1 hB (by decide)) j x, own_set h.2.2 (own_not_box h.2.2 hB (by decide)) j x⟩
theorem RowsW.put (h : RowsW B d A1 A2 A3 c1 c2 c3 W) (hB : BD W b v0 v1 v2) (x y z : Value) : RowsW B d A1 A2 A3 c1 c2 c3 (((W.setCell ⟨b, 0, none⟩ x).setCell ⟨b, 1, none⟩ y).setCell ⟨b, 2, none⟩ z) :=
  ((h.put1 hB 0 x).put1 (hB.set0 x) 1 y).put1 ((hB.set0 x).set1 y) 2 z
/-- The rows stay while a row of another type grows. -/
theorem RowsW.far {W' : World} {base size n : Nat} {e : TypeId} {v : Value} {xs : List Value} (h : RowsW B d A1 A2 A3 c1 c2 c3 W) (ho : W.ownsRow base e size v n xs) (hg : W.grownBy W' v.ownBlock) (h1 : 2 ≠ e) (h2 : 68 ≠ e) (h3 : 70 ≠ e) : RowsW B d A1 A2 A3 c1 c2 c3 W' :=
  ⟨h.1.kept hg (own_not_own h.1 ho h1), h.2.1.kept hg (own_not_own h.2.1 ho h2), h.2.2.kept hg (own_not_own h.2.2 ho h3)⟩
theorem BD.farOwn {W' : World} {base size n : Nat} {e : TypeId} {v : Value} {xs : List Value} (hB : BD W b v0 v1 v2) (ho : W.ownsRow base e size v n xs) (hg : W.grownBy W' v.ownBlock) (hne : e ≠ 34) : BD W' b v0 v1 v2 :=
  hB.far hg (fun he => own_not_box ho hB hne b he.symm rfl)
end
end Go.Proofs.YtiamignopfhkfaaGreatDoor
end
