/- Contracts: l34Set, at every command that changes the desk without an output of its own. -/
import Derived.Test.YtiamignopfhkfaaGreatDoorZExecS1
import Derived.Test.YtiamignopfhkfaaGreatDoorZL07x
import Derived.Test.YtiamignopfhkfaaGreatDoorZInsC
import Derived.Test.YtiamignopfhkfaaGreatDoorZ21
namespace Go.Proofs.YtiamignopfhkfaaGreatDoor
open Go.RowKit
set_option linter.unusedVariables false
set_option linter.unusedSimpArgs false
/-- What l34Set hands back. -/
def SetPost (d : DeskD) (m : Cm) (w : World) (e : Ending) (w' : World) : Prop :=
  ∃ v, e = .returned (.tuple #[v, .int .i64 (exec d m).2.2]) ∧ DeskV v (exec d m).1 w' ∧ Below w.heap.size w w'
theorem own4 {w1 : World} {base : Nat} {e : TypeId} {size n : Nat} {v : Value} {xs : List Value} (h : w1.ownsRow base e size v n xs) {a b i : Nat} (ha : a < base) (hb : b < base) (u u0 u1 u2 : Value) : ((((w1.setCell ⟨a, i, none⟩ u).setCell ⟨b, 0, none⟩ u0).setCell ⟨b, 1, none⟩ u1).setCell ⟨b, 2, none⟩ u2).ownsRow 0 e size v n xs :=
  own_mono (own_other (own_other (own_other (own_other h ha _ _) hb _ _) hb _ _) hb _ _) (Nat.zero_le _)
theorem bel4 {w w1 : World} (h : Below w.heap.size w w1) {a b i : Nat} (ha : w.heap.size ≤ a) (hb : w.heap.size ≤ b) (u u0 u1 u2 : Value) : Below w.heap.size w ((((w1.setCell ⟨a, i, none⟩ u).setCell ⟨b, 0, none⟩ u0).setCell ⟨b, 1, none⟩ u1).setCell ⟨b, 2, none⟩ u2) :=
  (((h.setCell (p := ⟨a, i, none⟩) ha _).setCell (p := ⟨b, 0, none⟩) hb _).setCell (p := ⟨b, 1, none⟩) hb _).setCell (p := ⟨b, 2, none⟩) hb _
theorem bel3 {w w1 : World} (h : Below w.heap.size w w1) {b : Nat} (hb : w.heap.size ≤ b) (u0 u1 u2 : Value) : Below w.heap.size w (((w1.setCell ⟨b, 0, none⟩ u0).setCell ⟨b, 1, none⟩ u1).setCell ⟨b, 2, none⟩ u2) :=
  ((h.setCell (p := ⟨b, 0, none⟩) hb _).setCell (p := ⟨b, 1, none⟩) hb _).setCell (p := ⟨b, 2, none⟩) hb _

/-- A row's block lies below n or from m on. -/
def ApN (n m : Nat) (v : Value) : Prop := ∀ k, v.ownBlock = some k → k < n ∨ m ≤ k
theorem ApN.more {n m m' : Nat} {v : Value} (h : ApN n m v) (hm : m' ≤ m) : ApN n m' v := fun k hk => by
  rcases h k hk with h | h
  · exact .inl h
  · exact .inr (by omega)
theorem own4n {w1 : World} {e : TypeId} {size n N : Nat} {v : Value} {xs : List Value} (h : w1.ownsRow 0 e size v n xs) (ha : ApN N (N + 2) v) {i : Nat} (u u0 u1 u2 : Value) : ((((w1.setCell ⟨N, i, none⟩ u).setCell ⟨N + 1, 0, none⟩ u0).setCell ⟨N + 1, 1, none⟩ u1).setCell ⟨N + 1, 2, none⟩ u2).ownsRow 0 e size v n xs := by
  have h1 : ∀ k, v.ownBlock = some k → k ≠ N := fun k hk => by have := ha k hk; omega
  have h2 : ∀ k, v.ownBlock = some k → k ≠ N + 1 := fun k hk => by have := ha k hk; omega
  exact own_set (own_set (own_set (own_set h h1 _ _) h2 _ _) h2 _ _) h2 _ _


set_option maxRecDepth 100000 in
set_option maxHeartbeats 4000000 in
theorem set_hol (A1 A2 A3 : Option Addr) (c1 c2 c3 : Nat) (d : DeskD) (A : Option Addr) (c : Nat) (w : World) (hgd : DGood d) (hrw : RowsW 0 d A1 A2 A3 c1 c2 c3 w) (qa : Int) (hN : Rd w w.heap.size A 1 [.int .i64 qa]) (hc : 1 ≤ c) : Calls Tryz.prog 87 #[.agg #[.slice A1 d.H.length c1, .slice A2 d.K.length c2, .slice A3 d.M.length c3], .string { data := #[104, 111, 108, 105, 100, 97, 121] }, .slice A 1 c] w (SetPost d (.hol qa) w) := by
  have HRW := Lib.hid hrw
  have hcap := hrw.caps
  have hlen := hgd.lens
  have HGD := Lib.hid hgd
  obtain ⟨b, off, rfl, hbl, hcn⟩ := hN.at_ (by omega)
  have n0 : w.cell? ⟨b, off, none⟩ = some (.int .i64 qa) := hcn 0 _ rfl
  clear hcn hN
  clear hrw hgd
  have HC := Lib.hid (fun (W1 : World) (hb : Below w.heap.size w W1) => l07Insert_x 0 A1 c1 d.H qa W1 (own_below HRW.out.1 hb) (Nat.zero_le _) (by omega))
  have hil := insN_len d.H qa
  have HOE : Hid (∀ (W1 W2 : World) (A' : Option Addr) (c' : Nat), Below w.heap.size w W1 → Below W1.heap.size W1 W2 → ((A' = A1 ∧ c' = c1 ∧ insN d.H qa = d.H) ∨ W2.ownsRow W1.heap.size 2 1 (.slice A' (insN d.H qa).length c') (insN d.H qa).length ((insN d.H qa).map (Value.int .i64))) → W2.ownsRow 0 2 1 (.slice A' (insN d.H qa).length c') (insN d.H qa).length ((insN d.H qa).map (Value.int .i64)) ∧ ApN w.heap.size W1.heap.size (.slice A' (insN d.H qa).length c')) := fun W1 W2 A' c' hb hb2 h => by
    rcases h with ⟨rfl, rfl, e⟩ | h
    · rw [e]; exact ⟨own_below HRW.out.1 (bt hb hb2), fun k hk => .inl (HRW.out.1.lt k hk).2⟩
    · exact ⟨own_mono h (Nat.zero_le _), fun k hk => .inr (h.lt k hk).1⟩
  have HAH := Lib.hid (fun (W1 : World) (A' : Option Addr) (c' : Nat) (ho : W1.ownsRow 0 2 1 (.slice A' (insN d.H qa).length c') (insN d.H qa).length ((insN d.H qa).map (Value.int .i64))) => spec_AreHolidays A' c' (insN d.H qa) _ W1 (Rd.of_own1 ho) (by omega) (own_cap ho).1 rfl)
  cases hok : holOk (insN d.H qa)
  · have HX : Hid (exec d (.hol qa) = (d, okT, 1)) := by unfold Hid; simp only [exec, holP]; rw [hok]; rfl
    rw [hok] at HAH
    generalize insN d.H qa = L at *
    go_enter Tryz.func87, Tryz.ntmps87
    go_wp2_with fail
    generalize hW0 : (w.alloc _).alloc _ = W0
    have hbW0 : Below w.heap.size w W0 := by subst hW0; exact ((Below.refl _ _).alloc (Nat.le_refl _) _).alloc (by (try simp) <;> (try omega)) _
    have hsW0 : W0.heap.size = w.heap.size + 2 := by subst hW0; simp
    have cxW0_0 : ∀ i, W0.cell? ⟨w.heap.size, i, none⟩ = (#[.slice A1 d.H.length c1, .slice A2 d.K.length c2, .slice A3 d.M.length c3] : Array Value)[i]? := by intro i; subst hW0; simp [go_sem]
    have fzW0_0 : ∀ i, W0.frozen? ⟨w.heap.size, i, none⟩ = false := by intro i; subst hW0; simp [go_sem]
    have cxW0_1 : ∀ i, W0.cell? ⟨w.heap.size + 1, i, none⟩ = (#[.slice none 0 0, .slice none 0 0, .slice none 0 0] : Array Value)[i]? := by intro i; subst hW0; simp [go_sem]
    have fzW0_1 : ∀ i, W0.frozen? ⟨w.heap.size + 1, i, none⟩ = false := by intro i; subst hW0; simp [go_sem]
    have HSW0 := Lib.hid hsW0; clear hW0 hsW0
    have hz0w := HSW0.out
    have HKd : Hid (∀ W1 : World, Below W0.heap.size W0 W1 → ((W1.cell? ⟨w.heap.size, 0, none⟩ = some (.slice A1 d.H.length c1)) ∧ (W1.cell? ⟨b, off, none⟩ = some (.int .i64 qa)) ∧ Below W0.heap.size W0 W1)) := fun W1 h => ⟨(h.cell (p := ⟨w.heap.size, 0, none⟩) (by simp only; omega)).trans (cxW0_0 0), (h.cell (p := ⟨b, off, none⟩) (by simp only; omega)).trans ((hbW0.cell (p := ⟨b, off, none⟩) hbl).trans n0), h⟩
    go_region_held3 (fun W1 => (W1.cell? ⟨w.heap.size, 0, none⟩ = some (.slice A1 d.H.length c1)) ∧ (W1.cell? ⟨b, off, none⟩ = some (.int .i64 qa)) ∧ Below W0.heap.size W0 W1) (first | exact HKd.out _ ((Below.refl _ _).drew) | exact HKd.out _ (bt (by assumption) hb1))
      ((first
        | (go_at_call 111; go_split_ands; refine (HC.out _ (bt hbW0 (by assumption))).mono ?_; rintro e w1 ⟨A9, c9, rfl, ho9, hb1⟩)))
    all_goals
      obtain ⟨ho8, -⟩ := HOE.out _ w1 A9 c9 (bt hbW0 (by assumption)) hb1 ho9
      have HO8 := Lib.hid ho8
      have hBA := bt hbW0 (bt (by assumption) hb1)
      have hB0 : Below W0.heap.size W0 w1 := bt (by assumption) hb1
      clear ho8 ho9 HOE
      go_wp2_with fail
      refine (HAH.out w1 A9 c9 HO8.out).mono ?_
      rintro e w2 ⟨rfl, hb2⟩
      have hBB := bt hBA hb2
      have hB1 := bt hB0 hb2
      have f0 := (hB1.cell (p := ⟨w.heap.size, 0, none⟩) (by simp only; omega)).trans (cxW0_0 0)
      have f1 := (hB1.cell (p := ⟨w.heap.size, 1, none⟩) (by simp only; omega)).trans (cxW0_0 1)
      have f2 := (hB1.cell (p := ⟨w.heap.size, 2, none⟩) (by simp only; omega)).trans (cxW0_0 2)
      have r0 := (hB1.cell (p := ⟨w.heap.size + 1, 0, none⟩) (by simp only; omega)).trans (cxW0_1 0)
      have r1 := (hB1.cell (p := ⟨w.heap.size + 1, 1, none⟩) (by simp only; omega)).trans (cxW0_1 1)
      have r2 := (hB1.cell (p := ⟨w.heap.size + 1, 2, none⟩) (by simp only; omega)).trans (cxW0_1 2)
      have zf := fun i => (hB1.frozen (p := ⟨w.heap.size, i, none⟩) (by simp only; omega)).trans (fzW0_0 i)
      have zr := fun i => (hB1.frozen (p := ⟨w.heap.size + 1, i, none⟩) (by simp only; omega)).trans (fzW0_1 i)
      simp only [List.getElem?_toArray, List.getElem?_cons_zero, List.getElem?_cons_succ] at f0 f1 f2 r0 r1 r2
      clear cxW0_0 cxW0_1 fzW0_0 fzW0_1
      go_wp2
      have hB4 := bel3 hBB (b := w.heap.size + 1) (by omega) (.slice A1 d.H.length c1) (.slice A2 d.K.length c2) (.slice A3 d.M.length c3)
      refine bodyPost_ret (v := .tuple #[.agg #[.slice A1 d.H.length c1, .slice A2 d.K.length c2, .slice A3 d.M.length c3], .int .i64 1]) (by simp [results, Tryz.results87, go_sem, r0, r1, r2]) rfl ?_
      exact ⟨_, by rw [HX.out], by rw [HX.out]; exact ⟨A1, A2, A3, c1, c2, c3, rfl, HRW.out.below hB4⟩, hB4⟩
  · have HX : Hid (exec d (.hol qa) = (⟨insN d.H qa, d.K, d.M⟩, okT, 0)) := by unfold Hid; simp only [exec, holP]; rw [hok]; rfl
    rw [hok] at HAH
    generalize insN d.H qa = L at *
    go_enter Tryz.func87, Tryz.ntmps87
    go_wp2_with fail
    generalize hW0 : (w.alloc _).alloc _ = W0
    have hbW0 : Below w.heap.size w W0 := by subst hW0; exact ((Below.refl _ _).alloc (Nat.le_refl _) _).alloc (by (try simp) <;> (try omega)) _
    have hsW0 : W0.heap.size = w.heap.size + 2 := by subst hW0; simp
    have cxW0_0 : ∀ i, W0.cell? ⟨w.heap.size, i, none⟩ = (#[.slice A1 d.H.length c1, .slice A2 d.K.length c2, .slice A3 d.M.length c3] : Array Value)[i]? := by intro i; subst hW0; simp [go_sem]
    have fzW0_0 : ∀ i, W0.frozen? ⟨w.heap.size, i, none⟩ = false := by intro i; subst hW0; simp [go_sem]
    have cxW0_1 : ∀ i, W0.cell? ⟨w.heap.size + 1, i, none⟩ = (#[.slice none 0 0, .slice none 0 0, .slice none 0 0] : Array Value)[i]? := by intro i; subst hW0; simp [go_sem]
    have fzW0_1 : ∀ i, W0.frozen? ⟨w.heap.size + 1, i, none⟩ = false := by intro i; subst hW0; simp [go_sem]
    have HSW0 := Lib.hid hsW0; clear hW0 hsW0
    have hz0w := HSW0.out
    have HKd : Hid (∀ W1 : World, Below W0.heap.size W0 W1 → ((W1.cell? ⟨w.heap.size, 0, none⟩ = some (.slice A1 d.H.length c1)) ∧ (W1.cell? ⟨b, off, none⟩ = some (.int .i64 qa)) ∧ Below W0.heap.size W0 W1)) := fun W1 h => ⟨(h.cell (p := ⟨w.heap.size, 0, none⟩) (by simp only; omega)).trans (cxW0_0 0), (h.cell (p := ⟨b, off, none⟩) (by simp only; omega)).trans ((hbW0.cell (p := ⟨b, off, none⟩) hbl).trans n0), h⟩
    go_region_held3 (fun W1 => (W1.cell? ⟨w.heap.size, 0, none⟩ = some (.slice A1 d.H.length c1)) ∧ (W1.cell? ⟨b, off, none⟩ = some (.int .i64 qa)) ∧ Below W0.heap.size W0 W1) (first | exact HKd.out _ ((Below.refl _ _).drew) | exact HKd.out _ (bt (by assumption) hb1))
      ((first
        | (go_at_call 111; go_split_ands; refine (HC.out _ (bt hbW0 (by assumption))).mono ?_; rintro e w1 ⟨A9, c9, rfl, ho9, hb1⟩)))
    all_goals
      obtain ⟨ho8, hap⟩ := HOE.out _ w1 A9 c9 (bt hbW0 (by assumption)) hb1 ho9
      have HAP := Lib.hid (hap.more (Nat.le_trans (Nat.le_of_eq hz0w.symm) (Below.size (B := W0.heap.size) (w := W0) (by assumption))))
      have HO8 := Lib.hid ho8
      have hBA := bt hbW0 (bt (by assumption) hb1)
      have hB0 : Below W0.heap.size W0 w1 := bt (by assumption) hb1
      clear ho8 ho9 hap HOE
      go_wp2_with fail
      refine (HAH.out w1 A9 c9 HO8.out).mono ?_
      rintro e w2 ⟨rfl, hb2⟩
      have HO9 := Lib.hid (own_below HO8.out hb2)
      have hBB := bt hBA hb2
      have hB1 := bt hB0 hb2
      have f0 := (hB1.cell (p := ⟨w.heap.size, 0, none⟩) (by simp only; omega)).trans (cxW0_0 0)
      have f1 := (hB1.cell (p := ⟨w.heap.size, 1, none⟩) (by simp only; omega)).trans (cxW0_0 1)
      have f2 := (hB1.cell (p := ⟨w.heap.size, 2, none⟩) (by simp only; omega)).trans (cxW0_0 2)
      have r0 := (hB1.cell (p := ⟨w.heap.size + 1, 0, none⟩) (by simp only; omega)).trans (cxW0_1 0)
      have r1 := (hB1.cell (p := ⟨w.heap.size + 1, 1, none⟩) (by simp only; omega)).trans (cxW0_1 1)
      have r2 := (hB1.cell (p := ⟨w.heap.size + 1, 2, none⟩) (by simp only; omega)).trans (cxW0_1 2)
      have zf := fun i => (hB1.frozen (p := ⟨w.heap.size, i, none⟩) (by simp only; omega)).trans (fzW0_0 i)
      have zr := fun i => (hB1.frozen (p := ⟨w.heap.size + 1, i, none⟩) (by simp only; omega)).trans (fzW0_1 i)
      simp only [List.getElem?_toArray, List.getElem?_cons_zero, List.getElem?_cons_succ] at f0 f1 f2 r0 r1 r2
      clear cxW0_0 cxW0_1 fzW0_0 fzW0_1
      go_wp2
      have hB4 := bel4 hBB (a := w.heap.size) (b := w.heap.size + 1) (i := 0) (Nat.le_refl _) (by omega) (.slice A9 L.length c9) (.slice A9 L.length c9) (.slice A2 d.K.length c2) (.slice A3 d.M.length c3)
      refine bodyPost_ret (v := .tuple #[.agg #[.slice A9 L.length c9, .slice A2 d.K.length c2, .slice A3 d.M.length c3], .int .i64 0]) (by simp [results, Tryz.results87, go_sem, r0, r1, r2]) rfl ?_
      exact ⟨_, by rw [HX.out], by rw [HX.out]; exact ⟨A9, A2, A3, c9, c2, c3, rfl, ⟨own4n HO9.out HAP.out _ _ _ _, own_below HRW.out.2.1 hB4, own_below HRW.out.2.2 hB4⟩⟩, hB4⟩


set_option maxRecDepth 100000 in
set_option maxHeartbeats 4000000 in
theorem set_cal (A1 A2 A3 : Option Addr) (c1 c2 c3 : Nat) (d : DeskD) (A : Option Addr) (c : Nat) (w : World) (hgd : DGood d) (hrw : RowsW 0 d A1 A2 A3 c1 c2 c3 w) (qa qb : Int) (hN : Rd w w.heap.size A 2 [.int .i64 qa, .int .i64 qb]) (hc : 2 ≤ c) : Calls Tryz.prog 87 #[.agg #[.slice A1 d.H.length c1, .slice A2 d.K.length c2, .slice A3 d.M.length c3], .string { data := #[99, 97, 108, 108] }, .slice A 2 c] w (SetPost d (.cal qa qb) w) := by
  have HRW := Lib.hid hrw
  have hcap := hrw.caps
  have hlen := hgd.lens
  have HGD := Lib.hid hgd
  obtain ⟨b, off, rfl, hbl, hcn⟩ := hN.at_ (by omega)
  have n0 : w.cell? ⟨b, off, none⟩ = some (.int .i64 qa) := hcn 0 _ rfl
  have n1 : w.cell? ⟨b, off + 1, none⟩ = some (.int .i64 qb) := hcn 1 _ rfl
  clear hcn hN
  clear hrw hgd
  have HC := Lib.hid (fun (W1 : World) (hb : Below w.heap.size w W1) => spec_AddCall A1 c1 d.H A2 c2 d.K qa qb W1 (rdW hb HRW.out.rd2) (by omega) hcap.2.1 (rdW hb HRW.out.rd1) (by omega) hcap.1 (own_hA1 HRW.out.2.1))
  by_cases hq : (addC d.H d.K qa qb).2 = 0
  · have HX : Hid (exec d (.cal qa qb) = (⟨d.H, (addC d.H d.K qa qb).1, d.M⟩, okT, 0)) := by unfold Hid; simp only [exec]; rw [if_pos hq]
    rw [hq] at HC
    generalize (addC d.H d.K qa qb).1 = L at *
    clear hq
    go_enter Tryz.func87, Tryz.ntmps87
    go_wp2_with fail
    generalize hW0 : (w.alloc _).alloc _ = W0
    have hbW0 : Below w.heap.size w W0 := by subst hW0; exact ((Below.refl _ _).alloc (Nat.le_refl _) _).alloc (by (try simp) <;> (try omega)) _
    have hsW0 : W0.heap.size = w.heap.size + 2 := by subst hW0; simp
    have cxW0_0 : ∀ i, W0.cell? ⟨w.heap.size, i, none⟩ = (#[.slice A1 d.H.length c1, .slice A2 d.K.length c2, .slice A3 d.M.length c3] : Array Value)[i]? := by intro i; subst hW0; simp [go_sem]
    have fzW0_0 : ∀ i, W0.frozen? ⟨w.heap.size, i, none⟩ = false := by intro i; subst hW0; simp [go_sem]
    have cxW0_1 : ∀ i, W0.cell? ⟨w.heap.size + 1, i, none⟩ = (#[.slice none 0 0, .slice none 0 0, .slice none 0 0] : Array Value)[i]? := by intro i; subst hW0; simp [go_sem]
    have fzW0_1 : ∀ i, W0.frozen? ⟨w.heap.size + 1, i, none⟩ = false := by intro i; subst hW0; simp [go_sem]
    have HSW0 := Lib.hid hsW0; clear hW0 hsW0
    have hz0w := HSW0.out
    have HKd : Hid (∀ W1 : World, Below W0.heap.size W0 W1 → ((W1.cell? ⟨w.heap.size, 0, none⟩ = some (.slice A1 d.H.length c1)) ∧ (W1.cell? ⟨w.heap.size, 1, none⟩ = some (.slice A2 d.K.length c2)) ∧ (W1.cell? ⟨b, off, none⟩ = some (.int .i64 qa)) ∧ (W1.cell? ⟨b, off + 1, none⟩ = some (.int .i64 qb)) ∧ Below W0.heap.size W0 W1)) := fun W1 h => ⟨(h.cell (p := ⟨w.heap.size, 0, none⟩) (by simp only; omega)).trans (cxW0_0 0), (h.cell (p := ⟨w.heap.size, 1, none⟩) (by simp only; omega)).trans (cxW0_0 1), (h.cell (p := ⟨b, off, none⟩) (by simp only; omega)).trans ((hbW0.cell (p := ⟨b, off, none⟩) hbl).trans n0), (h.cell (p := ⟨b, off + 1, none⟩) (by simp only; omega)).trans ((hbW0.cell (p := ⟨b, off + 1, none⟩) hbl).trans n1), h⟩
    go_region_held3 (fun W1 => (W1.cell? ⟨w.heap.size, 0, none⟩ = some (.slice A1 d.H.length c1)) ∧ (W1.cell? ⟨w.heap.size, 1, none⟩ = some (.slice A2 d.K.length c2)) ∧ (W1.cell? ⟨b, off, none⟩ = some (.int .i64 qa)) ∧ (W1.cell? ⟨b, off + 1, none⟩ = some (.int .i64 qb)) ∧ Below W0.heap.size W0 W1) (first | exact HKd.out _ ((Below.refl _ _).drew) | exact HKd.out _ (bt (by assumption) hb1))
      ((first
        | (go_at_call 112; go_split_ands; refine (HC.out _ (bt hbW0 (by assumption))).mono ?_; rintro e w1 ⟨A9, c9, rfl, ho9, hb1, hc9, hm9⟩)))
    all_goals
      have HO9 := Lib.hid (own_mono ho9 (Nat.le_trans (Nat.le_of_eq hz0w.symm) (Below.size (B := W0.heap.size) (w := W0) (by assumption))))
      have hBB := bt hbW0 (bt (by assumption) hb1)
      have hB1 : Below W0.heap.size W0 w1 := bt (by assumption) hb1
      have f0 := (hB1.cell (p := ⟨w.heap.size, 0, none⟩) (by simp only; omega)).trans (cxW0_0 0)
      have f1 := (hB1.cell (p := ⟨w.heap.size, 1, none⟩) (by simp only; omega)).trans (cxW0_0 1)
      have f2 := (hB1.cell (p := ⟨w.heap.size, 2, none⟩) (by simp only; omega)).trans (cxW0_0 2)
      have r0 := (hB1.cell (p := ⟨w.heap.size + 1, 0, none⟩) (by simp only; omega)).trans (cxW0_1 0)
      have r1 := (hB1.cell (p := ⟨w.heap.size + 1, 1, none⟩) (by simp only; omega)).trans (cxW0_1 1)
      have r2 := (hB1.cell (p := ⟨w.heap.size + 1, 2, none⟩) (by simp only; omega)).trans (cxW0_1 2)
      have zf := fun i => (hB1.frozen (p := ⟨w.heap.size, i, none⟩) (by simp only; omega)).trans (fzW0_0 i)
      have zr := fun i => (hB1.frozen (p := ⟨w.heap.size + 1, i, none⟩) (by simp only; omega)).trans (fzW0_1 i)
      simp only [List.getElem?_toArray, List.getElem?_cons_zero, List.getElem?_cons_succ] at f0 f1 f2 r0 r1 r2
      clear cxW0_0 cxW0_1 fzW0_0 fzW0_1
      clear ho9
      go_wp2
      have hB4 := bel4 hBB (a := w.heap.size) (b := w.heap.size + 1) (i := 1) (Nat.le_refl _) (by omega) (.slice A9 L.length c9) (.slice A1 d.H.length c1) (.slice A9 L.length c9) (.slice A3 d.M.length c3)
      refine bodyPost_ret (v := .tuple #[.agg #[.slice A1 d.H.length c1, .slice A9 L.length c9, .slice A3 d.M.length c3], .int .i64 0]) (by simp [results, Tryz.results87, go_sem, r0, r1, r2]) rfl ?_
      exact ⟨_, by rw [HX.out], by rw [HX.out]; exact ⟨A1, A9, A3, c1, c9, c3, rfl, ⟨own_below HRW.out.1 hB4, own4 HO9.out (by omega) (by omega) _ _ _ _, own_below HRW.out.2.2 hB4⟩⟩, hB4⟩
  · have HX : Hid (exec d (.cal qa qb) = (d, okT, (addC d.H d.K qa qb).2)) := by unfold Hid; simp only [exec]; rw [if_neg hq]
    generalize addC d.H d.K qa qb = p at *
    obtain ⟨L, q⟩ := p
    simp only at hq
    have hqb : (q == 0) = false := beq_eq_false_iff_ne.2 hq
    clear hq
    go_enter Tryz.func87, Tryz.ntmps87
    go_wp2_with fail
    generalize hW0 : (w.alloc _).alloc _ = W0
    have hbW0 : Below w.heap.size w W0 := by subst hW0; exact ((Below.refl _ _).alloc (Nat.le_refl _) _).alloc (by (try simp) <;> (try omega)) _
    have hsW0 : W0.heap.size = w.heap.size + 2 := by subst hW0; simp
    have cxW0_0 : ∀ i, W0.cell? ⟨w.heap.size, i, none⟩ = (#[.slice A1 d.H.length c1, .slice A2 d.K.length c2, .slice A3 d.M.length c3] : Array Value)[i]? := by intro i; subst hW0; simp [go_sem]
    have fzW0_0 : ∀ i, W0.frozen? ⟨w.heap.size, i, none⟩ = false := by intro i; subst hW0; simp [go_sem]
    have cxW0_1 : ∀ i, W0.cell? ⟨w.heap.size + 1, i, none⟩ = (#[.slice none 0 0, .slice none 0 0, .slice none 0 0] : Array Value)[i]? := by intro i; subst hW0; simp [go_sem]
    have fzW0_1 : ∀ i, W0.frozen? ⟨w.heap.size + 1, i, none⟩ = false := by intro i; subst hW0; simp [go_sem]
    have HSW0 := Lib.hid hsW0; clear hW0 hsW0
    have hz0w := HSW0.out
    have HKd : Hid (∀ W1 : World, Below W0.heap.size W0 W1 → ((W1.cell? ⟨w.heap.size, 0, none⟩ = some (.slice A1 d.H.length c1)) ∧ (W1.cell? ⟨w.heap.size, 1, none⟩ = some (.slice A2 d.K.length c2)) ∧ (W1.cell? ⟨b, off, none⟩ = some (.int .i64 qa)) ∧ (W1.cell? ⟨b, off + 1, none⟩ = some (.int .i64 qb)) ∧ Below W0.heap.size W0 W1)) := fun W1 h => ⟨(h.cell (p := ⟨w.heap.size, 0, none⟩) (by simp only; omega)).trans (cxW0_0 0), (h.cell (p := ⟨w.heap.size, 1, none⟩) (by simp only; omega)).trans (cxW0_0 1), (h.cell (p := ⟨b, off, none⟩) (by simp only; omega)).trans ((hbW0.cell (p := ⟨b, off, none⟩) hbl).trans n0), (h.cell (p := ⟨b, off + 1, none⟩) (by simp only; omega)).trans ((hbW0.cell (p := ⟨b, off + 1, none⟩) hbl).trans n1), h⟩
    go_region_held3 (fun W1 => (W1.cell? ⟨w.heap.size, 0, none⟩ = some (.slice A1 d.H.length c1)) ∧ (W1.cell? ⟨w.heap.size, 1, none⟩ = some (.slice A2 d.K.length c2)) ∧ (W1.cell? ⟨b, off, none⟩ = some (.int .i64 qa)) ∧ (W1.cell? ⟨b, off + 1, none⟩ = some (.int .i64 qb)) ∧ Below W0.heap.size W0 W1) (first | exact HKd.out _ ((Below.refl _ _).drew) | exact HKd.out _ (bt (by assumption) hb1))
      ((first
        | (go_at_call 112; go_split_ands; refine (HC.out _ (bt hbW0 (by assumption))).mono ?_; rintro e w1 ⟨A9, c9, rfl, ho9, hb1, hc9, hm9⟩)))
    all_goals
      have hBB := bt hbW0 (bt (by assumption) hb1)
      have hB1 : Below W0.heap.size W0 w1 := bt (by assumption) hb1
      have f0 := (hB1.cell (p := ⟨w.heap.size, 0, none⟩) (by simp only; omega)).trans (cxW0_0 0)
      have f1 := (hB1.cell (p := ⟨w.heap.size, 1, none⟩) (by simp only; omega)).trans (cxW0_0 1)
      have f2 := (hB1.cell (p := ⟨w.heap.size, 2, none⟩) (by simp only; omega)).trans (cxW0_0 2)
      have r0 := (hB1.cell (p := ⟨w.heap.size + 1, 0, none⟩) (by simp only; omega)).trans (cxW0_1 0)
      have r1 := (hB1.cell (p := ⟨w.heap.size + 1, 1, none⟩) (by simp only; omega)).trans (cxW0_1 1)
      have r2 := (hB1.cell (p := ⟨w.heap.size + 1, 2, none⟩) (by simp only; omega)).trans (cxW0_1 2)
      have zf := fun i => (hB1.frozen (p := ⟨w.heap.size, i, none⟩) (by simp only; omega)).trans (fzW0_0 i)
      have zr := fun i => (hB1.frozen (p := ⟨w.heap.size + 1, i, none⟩) (by simp only; omega)).trans (fzW0_1 i)
      simp only [List.getElem?_toArray, List.getElem?_cons_zero, List.getElem?_cons_succ] at f0 f1 f2 r0 r1 r2
      clear cxW0_0 cxW0_1 fzW0_0 fzW0_1
      clear ho9
      go_wp2
      have hB4 := bel3 hBB (b := w.heap.size + 1) (by omega) (.slice A1 d.H.length c1) (.slice A2 d.K.length c2) (.slice A3 d.M.length c3)
      refine bodyPost_ret (v := .tuple #[.agg #[.slice A1 d.H.length c1, .slice A2 d.K.length c2, .slice A3 d.M.length c3], .int .i64 q]) (by simp [results, Tryz.results87, go_sem, r0, r1, r2]) rfl ?_
      exact ⟨_, by rw [HX.out], by rw [HX.out]; exact ⟨A1, A2, A3, c1, c2, c3, rfl, HRW.out.below hB4⟩, hB4⟩


set_option maxRecDepth 100000 in
set_option maxHeartbeats 4000000 in
theorem set_mov (A1 A2 A3 : Option Addr) (c1 c2 c3 : Nat) (d : DeskD) (A : Option Addr) (c : Nat) (w : World) (hgd : DGood d) (hrw : RowsW 0 d A1 A2 A3 c1 c2 c3 w) (qa qb : Int) (hN : Rd w w.heap.size A 2 [.int .i64 qa, .int .i64 qb]) (hc : 2 ≤ c) : Calls Tryz.prog 87 #[.agg #[.slice A1 d.H.length c1, .slice A2 d.K.length c2, .slice A3 d.M.length c3], .string { data := #[109, 111, 118, 101] }, .slice A 2 c] w (SetPost d (.mov qa qb) w) := by
  have HRW := Lib.hid hrw
  have hcap := hrw.caps
  have hlen := hgd.lens
  have HGD := Lib.hid hgd
  obtain ⟨b, off, rfl, hbl, hcn⟩ := hN.at_ (by omega)
  have n0 : w.cell? ⟨b, off, none⟩ = some (.int .i64 qa) := hcn 0 _ rfl
  have n1 : w.cell? ⟨b, off + 1, none⟩ = some (.int .i64 qb) := hcn 1 _ rfl
  clear hcn hN
  clear hrw hgd
  have HC := Lib.hid (fun (W1 : World) (hb : Below w.heap.size w W1) => spec_MoveCall A1 c1 d.H A2 c2 d.K qa qb W1 (rdW hb HRW.out.rd2) (by omega) hcap.2.1 (rdW hb HRW.out.rd1) (by omega) hcap.1)
  by_cases hq : (moveC d.H d.K qa qb).2 = 0
  · have HX : Hid (exec d (.mov qa qb) = (⟨d.H, (moveC d.H d.K qa qb).1, d.M⟩, okT, 0)) := by unfold Hid; simp only [exec]; rw [if_pos hq]
    rw [hq] at HC
    generalize (moveC d.H d.K qa qb).1 = L at *
    clear hq
    go_enter Tryz.func87, Tryz.ntmps87
    go_wp2_with fail
    generalize hW0 : (w.alloc _).alloc _ = W0
    have hbW0 : Below w.heap.size w W0 := by subst hW0; exact ((Below.refl _ _).alloc (Nat.le_refl _) _).alloc (by (try simp) <;> (try omega)) _
    have hsW0 : W0.heap.size = w.heap.size + 2 := by subst hW0; simp
    have cxW0_0 : ∀ i, W0.cell? ⟨w.heap.size, i, none⟩ = (#[.slice A1 d.H.length c1, .slice A2 d.K.length c2, .slice A3 d.M.length c3] : Array Value)[i]? := by intro i; subst hW0; simp [go_sem]
    have fzW0_0 : ∀ i, W0.frozen? ⟨w.heap.size, i, none⟩ = false := by intro i; subst hW0; simp [go_sem]
    have cxW0_1 : ∀ i, W0.cell? ⟨w.heap.size + 1, i, none⟩ = (#[.slice none 0 0, .slice none 0 0, .slice none 0 0] : Array Value)[i]? := by intro i; subst hW0; simp [go_sem]
    have fzW0_1 : ∀ i, W0.frozen? ⟨w.heap.size + 1, i, none⟩ = false := by intro i; subst hW0; simp [go_sem]
    have HSW0 := Lib.hid hsW0; clear hW0 hsW0
    have hz0w := HSW0.out
    have HKd : Hid (∀ W1 : World, Below W0.heap.size W0 W1 → ((W1.cell? ⟨w.heap.size, 0, none⟩ = some (.slice A1 d.H.length c1)) ∧ (W1.cell? ⟨w.heap.size, 1, none⟩ = some (.slice A2 d.K.length c2)) ∧ (W1.cell? ⟨b, off, none⟩ = some (.int .i64 qa)) ∧ (W1.cell? ⟨b, off + 1, none⟩ = some (.int .i64 qb)) ∧ Below W0.heap.size W0 W1)) := fun W1 h => ⟨(h.cell (p := ⟨w.heap.size, 0, none⟩) (by simp only; omega)).trans (cxW0_0 0), (h.cell (p := ⟨w.heap.size, 1, none⟩) (by simp only; omega)).trans (cxW0_0 1), (h.cell (p := ⟨b, off, none⟩) (by simp only; omega)).trans ((hbW0.cell (p := ⟨b, off, none⟩) hbl).trans n0), (h.cell (p := ⟨b, off + 1, none⟩) (by simp only; omega)).trans ((hbW0.cell (p := ⟨b, off + 1, none⟩) hbl).trans n1), h⟩
    go_region_held3 (fun W1 => (W1.cell? ⟨w.heap.size, 0, none⟩ = some (.slice A1 d.H.length c1)) ∧ (W1.cell? ⟨w.heap.size, 1, none⟩ = some (.slice A2 d.K.length c2)) ∧ (W1.cell? ⟨b, off, none⟩ = some (.int .i64 qa)) ∧ (W1.cell? ⟨b, off + 1, none⟩ = some (.int .i64 qb)) ∧ Below W0.heap.size W0 W1) (first | exact HKd.out _ ((Below.refl _ _).drew) | exact HKd.out _ (bt (by assumption) hb1))
      ((first
        | (go_at_call 113; go_split_ands; refine (HC.out _ (bt hbW0 (by assumption))).mono ?_; rintro e w1 ⟨A9, c9, rfl, ho9, hb1, hc9, hm9⟩)))
    all_goals
      have HO9 := Lib.hid (own_mono ho9 (Nat.le_trans (Nat.le_of_eq hz0w.symm) (Below.size (B := W0.heap.size) (w := W0) (by assumption))))
      have hBB := bt hbW0 (bt (by assumption) hb1)
      have hB1 : Below W0.heap.size W0 w1 := bt (by assumption) hb1
      have f0 := (hB1.cell (p := ⟨w.heap.size, 0, none⟩) (by simp only; omega)).trans (cxW0_0 0)
      have f1 := (hB1.cell (p := ⟨w.heap.size, 1, none⟩) (by simp only; omega)).trans (cxW0_0 1)
      have f2 := (hB1.cell (p := ⟨w.heap.size, 2, none⟩) (by simp only; omega)).trans (cxW0_0 2)
      have r0 := (hB1.cell (p := ⟨w.heap.size + 1, 0, none⟩) (by simp only; omega)).trans (cxW0_1 0)
      have r1 := (hB1.cell (p := ⟨w.heap.size + 1, 1, none⟩) (by simp only; omega)).trans (cxW0_1 1)
      have r2 := (hB1.cell (p := ⟨w.heap.size + 1, 2, none⟩) (by simp only; omega)).trans (cxW0_1 2)
      have zf := fun i => (hB1.frozen (p := ⟨w.heap.size, i, none⟩) (by simp only; omega)).trans (fzW0_0 i)
      have zr := fun i => (hB1.frozen (p := ⟨w.heap.size + 1, i, none⟩) (by simp only; omega)).trans (fzW0_1 i)
      simp only [List.getElem?_toArray, List.getElem?_cons_zero, List.getElem?_cons_succ] at f0 f1 f2 r0 r1 r2
      clear cxW0_0 cxW0_1 fzW0_0 fzW0_1
      clear ho9
      go_wp2
      have hB4 := bel4 hBB (a := w.heap.size) (b := w.heap.size + 1) (i := 1) (Nat.le_refl _) (by omega) (.slice A9 L.length c9) (.slice A1 d.H.length c1) (.slice A9 L.length c9) (.slice A3 d.M.length c3)
      refine bodyPost_ret (v := .tuple #[.agg #[.slice A1 d.H.length c1, .slice A9 L.length c9, .slice A3 d.M.length c3], .int .i64 0]) (by simp [results, Tryz.results87, go_sem, r0, r1, r2]) rfl ?_
      exact ⟨_, by rw [HX.out], by rw [HX.out]; exact ⟨A1, A9, A3, c1, c9, c3, rfl, ⟨own_below HRW.out.1 hB4, own4 HO9.out (by omega) (by omega) _ _ _ _, own_below HRW.out.2.2 hB4⟩⟩, hB4⟩
  · have HX : Hid (exec d (.mov qa qb) = (d, okT, (moveC d.H d.K qa qb).2)) := by unfold Hid; simp only [exec]; rw [if_neg hq]
    generalize moveC d.H d.K qa qb = p at *
    obtain ⟨L, q⟩ := p
    simp only at hq
    have hqb : (q == 0) = false := beq_eq_false_iff_ne.2 hq
    clear hq
    go_enter Tryz.func87, Tryz.ntmps87
    go_wp2_with fail
    generalize hW0 : (w.alloc _).alloc _ = W0
    have hbW0 : Below w.heap.size w W0 := by subst hW0; exact ((Below.refl _ _).alloc (Nat.le_refl _) _).alloc (by (try simp) <;> (try omega)) _
    have hsW0 : W0.heap.size = w.heap.size + 2 := by subst hW0; simp
    have cxW0_0 : ∀ i, W0.cell? ⟨w.heap.size, i, none⟩ = (#[.slice A1 d.H.length c1, .slice A2 d.K.length c2, .slice A3 d.M.length c3] : Array Value)[i]? := by intro i; subst hW0; simp [go_sem]
    have fzW0_0 : ∀ i, W0.frozen? ⟨w.heap.size, i, none⟩ = false := by intro i; subst hW0; simp [go_sem]
    have cxW0_1 : ∀ i, W0.cell? ⟨w.heap.size + 1, i, none⟩ = (#[.slice none 0 0, .slice none 0 0, .slice none 0 0] : Array Value)[i]? := by intro i; subst hW0; simp [go_sem]
    have fzW0_1 : ∀ i, W0.frozen? ⟨w.heap.size + 1, i, none⟩ = false := by intro i; subst hW0; simp [go_sem]
    have HSW0 := Lib.hid hsW0; clear hW0 hsW0
    have hz0w := HSW0.out
    have HKd : Hid (∀ W1 : World, Below W0.heap.size W0 W1 → ((W1.cell? ⟨w.heap.size, 0, none⟩ = some (.slice A1 d.H.length c1)) ∧ (W1.cell? ⟨w.heap.size, 1, none⟩ = some (.slice A2 d.K.length c2)) ∧ (W1.cell? ⟨b, off, none⟩ = some (.int .i64 qa)) ∧ (W1.cell? ⟨b, off + 1, none⟩ = some (.int .i64 qb)) ∧ Below W0.heap.size W0 W1)) := fun W1 h => ⟨(h.cell (p := ⟨w.heap.size, 0, none⟩) (by simp only; omega)).trans (cxW0_0 0), (h.cell (p := ⟨w.heap.size, 1, none⟩) (by simp only; omega)).trans (cxW0_0 1), (h.cell (p := ⟨b, off, none⟩) (by simp only; omega)).trans ((hbW0.cell (p := ⟨b, off, none⟩) hbl).trans n0), (h.cell (p := ⟨b, off + 1, none⟩) (by simp only; omega)).trans ((hbW0.cell (p := ⟨b, off + 1, none⟩) hbl).trans n1), h⟩
    go_region_held3 (fun W1 => (W1.cell? ⟨w.heap.size, 0, none⟩ = some (.slice A1 d.H.length c1)) ∧ (W1.cell? ⟨w.heap.size, 1, none⟩ = some (.slice A2 d.K.length c2)) ∧ (W1.cell? ⟨b, off, none⟩ = some (.int .i64 qa)) ∧ (W1.cell? ⟨b, off + 1, none⟩ = some (.int .i64 qb)) ∧ Below W0.heap.size W0 W1) (first | exact HKd.out _ ((Below.refl _ _).drew) | exact HKd.out _ (bt (by assumption) hb1))
      ((first
        | (go_at_call 113; go_split_ands; refine (HC.out _ (bt hbW0 (by assumption))).mono ?_; rintro e w1 ⟨A9, c9, rfl, ho9, hb1, hc9, hm9⟩)))
    all_goals
      have hBB := bt hbW0 (bt (by assumption) hb1)
      have hB1 : Below W0.heap.size W0 w1 := bt (by assumption) hb1
      have f0 := (hB1.cell (p := ⟨w.heap.size, 0, none⟩) (by simp only; omega)).trans (cxW0_0 0)
      have f1 := (hB1.cell (p := ⟨w.heap.size, 1, none⟩) (by simp only; omega)).trans (cxW0_0 1)
      have f2 := (hB1.cell (p := ⟨w.heap.size, 2, none⟩) (by simp only; omega)).trans (cxW0_0 2)
      have r0 := (hB1.cell (p := ⟨w.heap.size + 1, 0, none⟩) (by simp only; omega)).trans (cxW0_1 0)
      have r1 := (hB1.cell (p := ⟨w.heap.size + 1, 1, none⟩) (by simp only; omega)).trans (cxW0_1 1)
      have r2 := (hB1.cell (p := ⟨w.heap.size + 1, 2, none⟩) (by simp only; omega)).trans (cxW0_1 2)
      have zf := fun i => (hB1.frozen (p := ⟨w.heap.size, i, none⟩) (by simp only; omega)).trans (fzW0_0 i)
      have zr := fun i => (hB1.frozen (p := ⟨w.heap.size + 1, i, none⟩) (by simp only; omega)).trans (fzW0_1 i)
      simp only [List.getElem?_toArray, List.getElem?_cons_zero, List.getElem?_cons_succ] at f0 f1 f2 r0 r1 r2
      clear cxW0_0 cxW0_1 fzW0_0 fzW0_1
      clear ho9
      go_wp2
      have hB4 := bel3 hBB (b := w.heap.size + 1) (by omega) (.slice A1 d.H.length c1) (.slice A2 d.K.length c2) (.slice A3 d.M.length c3)
      refine bodyPost_ret (v := .tuple #[.agg #[.slice A1 d.H.length c1, .slice A2 d.K.length c2, .slice A3 d.M.length c3], .int .i64 q]) (by simp [results, Tryz.results87, go_sem, r0, r1, r2]) rfl ?_
      exact ⟨_, by rw [HX.out], by rw [HX.out]; exact ⟨A1, A2, A3, c1, c2, c3, rfl, HRW.out.below hB4⟩, hB4⟩


set_option maxRecDepth 100000 in
set_option maxHeartbeats 4000000 in
theorem set_sta (A1 A2 A3 : Option Addr) (c1 c2 c3 : Nat) (d : DeskD) (A : Option Addr) (c : Nat) (w : World) (hgd : DGood d) (hrw : RowsW 0 d A1 A2 A3 c1 c2 c3 w) (qa qb qc : Int) (hN : Rd w w.heap.size A 3 [.int .i64 qa, .int .i64 qb, .int .i64 qc]) (hc : 3 ≤ c) : Calls Tryz.prog 87 #[.agg #[.slice A1 d.H.length c1, .slice A2 d.K.length c2, .slice A3 d.M.length c3], .string { data := #[115, 101, 116] }, .slice A 3 c] w (SetPost d (.sta qa qb qc) w) := by
  have HRW := Lib.hid hrw
  have hcap := hrw.caps
  have hlen := hgd.lens
  have HGD := Lib.hid hgd
  obtain ⟨b, off, rfl, hbl, hcn⟩ := hN.at_ (by omega)
  have n0 : w.cell? ⟨b, off, none⟩ = some (.int .i64 qa) := hcn 0 _ rfl
  have n1 : w.cell? ⟨b, off + 1, none⟩ = some (.int .i64 qb) := hcn 1 _ rfl
  have n2 : w.cell? ⟨b, off + 2, none⟩ = some (.int .i64 qc) := hcn 2 _ rfl
  clear hcn hN
  clear hrw hgd
  have HC := Lib.hid (fun (W1 : World) (hb : Below w.heap.size w W1) => spec_ChangeMotion A3 c3 d.M qa qb qc W1 (rdW hb HRW.out.rd3) (by omega) hcap.2.2 HGD.out.2.2.2)
  by_cases hq : (chgM d.M qa qb qc).2 = 0
  · have HX : Hid (exec d (.sta qa qb qc) = (⟨d.H, d.K, (chgM d.M qa qb qc).1⟩, okT, 0)) := by unfold Hid; simp only [exec]; rw [if_pos hq]
    rw [hq] at HC
    generalize (chgM d.M qa qb qc).1 = L at *
    clear hq
    go_enter Tryz.func87, Tryz.ntmps87
    go_wp2_with fail
    generalize hW0 : (w.alloc _).alloc _ = W0
    have hbW0 : Below w.heap.size w W0 := by subst hW0; exact ((Below.refl _ _).alloc (Nat.le_refl _) _).alloc (by (try simp) <;> (try omega)) _
    have hsW0 : W0.heap.size = w.heap.size + 2 := by subst hW0; simp
    have cxW0_0 : ∀ i, W0.cell? ⟨w.heap.size, i, none⟩ = (#[.slice A1 d.H.length c1, .slice A2 d.K.length c2, .slice A3 d.M.length c3] : Array Value)[i]? := by intro i; subst hW0; simp [go_sem]
    have fzW0_0 : ∀ i, W0.frozen? ⟨w.heap.size, i, none⟩ = false := by intro i; subst hW0; simp [go_sem]
    have cxW0_1 : ∀ i, W0.cell? ⟨w.heap.size + 1, i, none⟩ = (#[.slice none 0 0, .slice none 0 0, .slice none 0 0] : Array Value)[i]? := by intro i; subst hW0; simp [go_sem]
    have fzW0_1 : ∀ i, W0.frozen? ⟨w.heap.size + 1, i, none⟩ = false := by intro i; subst hW0; simp [go_sem]
    have HSW0 := Lib.hid hsW0; clear hW0 hsW0
    have hz0w := HSW0.out
    have HKd : Hid (∀ W1 : World, Below W0.heap.size W0 W1 → ((W1.cell? ⟨w.heap.size, 2, none⟩ = some (.slice A3 d.M.length c3)) ∧ (W1.cell? ⟨b, off, none⟩ = some (.int .i64 qa)) ∧ (W1.cell? ⟨b, off + 1, none⟩ = some (.int .i64 qb)) ∧ (W1.cell? ⟨b, off + 2, none⟩ = some (.int .i64 qc)) ∧ Below W0.heap.size W0 W1)) := fun W1 h => ⟨(h.cell (p := ⟨w.heap.size, 2, none⟩) (by simp only; omega)).trans (cxW0_0 2), (h.cell (p := ⟨b, off, none⟩) (by simp only; omega)).trans ((hbW0.cell (p := ⟨b, off, none⟩) hbl).trans n0), (h.cell (p := ⟨b, off + 1, none⟩) (by simp only; omega)).trans ((hbW0.cell (p := ⟨b, off + 1, none⟩) hbl).trans n1), (h.cell (p := ⟨b, off + 2, none⟩) (by simp only; omega)).trans ((hbW0.cell (p := ⟨b, off + 2, none⟩) hbl).trans n2), h⟩
    go_region_held3 (fun W1 => (W1.cell? ⟨w.heap.size, 2, none⟩ = some (.slice A3 d.M.length c3)) ∧ (W1.cell? ⟨b, off, none⟩ = some (.int .i64 qa)) ∧ (W1.cell? ⟨b, off + 1, none⟩ = some (.int .i64 qb)) ∧ (W1.cell? ⟨b, off + 2, none⟩ = some (.int .i64 qc)) ∧ Below W0.heap.size W0 W1) (first | exact HKd.out _ ((Below.refl _ _).drew) | exact HKd.out _ (bt (by assumption) hb1))
      ((first
        | (go_at_call 91; go_split_ands; refine (HC.out _ (bt hbW0 (by assumption))).mono ?_; rintro e w1 ⟨A9, c9, rfl, ho9, hb1, hc9, hm9⟩)))
    all_goals
      have HO9 := Lib.hid (own_mono ho9 (Nat.le_trans (Nat.le_of_eq hz0w.symm) (Below.size (B := W0.heap.size) (w := W0) (by assumption))))
      have hBB := bt hbW0 (bt (by assumption) hb1)
      have hB1 : Below W0.heap.size W0 w1 := bt (by assumption) hb1
      have f0 := (hB1.cell (p := ⟨w.heap.size, 0, none⟩) (by simp only; omega)).trans (cxW0_0 0)
      have f1 := (hB1.cell (p := ⟨w.heap.size, 1, none⟩) (by simp only; omega)).trans (cxW0_0 1)
      have f2 := (hB1.cell (p := ⟨w.heap.size, 2, none⟩) (by simp only; omega)).trans (cxW0_0 2)
      have r0 := (hB1.cell (p := ⟨w.heap.size + 1, 0, none⟩) (by simp only; omega)).trans (cxW0_1 0)
      have r1 := (hB1.cell (p := ⟨w.heap.size + 1, 1, none⟩) (by simp only; omega)).trans (cxW0_1 1)
      have r2 := (hB1.cell (p := ⟨w.heap.size + 1, 2, none⟩) (by simp only; omega)).trans (cxW0_1 2)
      have zf := fun i => (hB1.frozen (p := ⟨w.heap.size, i, none⟩) (by simp only; omega)).trans (fzW0_0 i)
      have zr := fun i => (hB1.frozen (p := ⟨w.heap.size + 1, i, none⟩) (by simp only; omega)).trans (fzW0_1 i)
      simp only [List.getElem?_toArray, List.getElem?_cons_zero, List.getElem?_cons_succ] at f0 f1 f2 r0 r1 r2
      clear cxW0_0 cxW0_1 fzW0_0 fzW0_1
      clear ho9
      go_wp2
      have hB4 := bel4 hBB (a := w.heap.size) (b := w.heap.size + 1) (i := 2) (Nat.le_refl _) (by omega) (.slice A9 L.length c9) (.slice A1 d.H.length c1) (.slice A2 d.K.length c2) (.slice A9 L.length c9)
      refine bodyPost_ret (v := .tuple #[.agg #[.slice A1 d.H.length c1, .slice A2 d.K.length c2, .slice A9 L.length c9], .int .i64 0]) (by simp [results, Tryz.results87, go_sem, r0, r1, r2]) rfl ?_
      exact ⟨_, by rw [HX.out], by rw [HX.out]; exact ⟨A1, A2, A9, c1, c2, c9, rfl, ⟨own_below HRW.out.1 hB4, own_below HRW.out.2.1 hB4, own4 HO9.out (by omega) (by omega) _ _ _ _⟩⟩, hB4⟩
  · have HX : Hid (exec d (.sta qa qb qc) = (d, okT, (chgM d.M qa qb qc).2)) := by unfold Hid; simp only [exec]; rw [if_neg hq]
    generalize chgM d.M qa qb qc = p at *
    obtain ⟨L, q⟩ := p
    simp only at hq
    have hqb : (q == 0) = false := beq_eq_false_iff_ne.2 hq
    clear hq
    go_enter Tryz.func87, Tryz.ntmps87
    go_wp2_with fail
    generalize hW0 : (w.alloc _).alloc _ = W0
    have hbW0 : Below w.heap.size w W0 := by subst hW0; exact ((Below.refl _ _).alloc (Nat.le_refl _) _).alloc (by (try simp) <;> (try omega)) _
    have hsW0 : W0.heap.size = w.heap.size + 2 := by subst hW0; simp
    have cxW0_0 : ∀ i, W0.cell? ⟨w.heap.size, i, none⟩ = (#[.slice A1 d.H.length c1, .slice A2 d.K.length c2, .slice A3 d.M.length c3] : Array Value)[i]? := by intro i; subst hW0; simp [go_sem]
    have fzW0_0 : ∀ i, W0.frozen? ⟨w.heap.size, i, none⟩ = false := by intro i; subst hW0; simp [go_sem]
    have cxW0_1 : ∀ i, W0.cell? ⟨w.heap.size + 1, i, none⟩ = (#[.slice none 0 0, .slice none 0 0, .slice none 0 0] : Array Value)[i]? := by intro i; subst hW0; simp [go_sem]
    have fzW0_1 : ∀ i, W0.frozen? ⟨w.heap.size + 1, i, none⟩ = false := by intro i; subst hW0; simp [go_sem]
    have HSW0 := Lib.hid hsW0; clear hW0 hsW0
    have hz0w := HSW0.out
    have HKd : Hid (∀ W1 : World, Below W0.heap.size W0 W1 → ((W1.cell? ⟨w.heap.size, 2, none⟩ = some (.slice A3 d.M.length c3)) ∧ (W1.cell? ⟨b, off, none⟩ = some (.int .i64 qa)) ∧ (W1.cell? ⟨b, off + 1, none⟩ = some (.int .i64 qb)) ∧ (W1.cell? ⟨b, off + 2, none⟩ = some (.int .i64 qc)) ∧ Below W0.heap.size W0 W1)) := fun W1 h => ⟨(h.cell (p := ⟨w.heap.size, 2, none⟩) (by simp only; omega)).trans (cxW0_0 2), (h.cell (p := ⟨b, off, none⟩) (by simp only; omega)).trans ((hbW0.cell (p := ⟨b, off, none⟩) hbl).trans n0), (h.cell (p := ⟨b, off + 1, none⟩) (by simp only; omega)).trans ((hbW0.cell (p := ⟨b, off + 1, none⟩) hbl).trans n1), (h.cell (p := ⟨b, off + 2, none⟩) (by simp only; omega)).trans ((hbW0.cell (p := ⟨b, off + 2, none⟩) hbl).trans n2), h⟩
    go_region_held3 (fun W1 => (W1.cell? ⟨w.heap.size, 2, none⟩ = some (.slice A3 d.M.length c3)) ∧ (W1.cell? ⟨b, off, none⟩ = some (.int .i64 qa)) ∧ (W1.cell? ⟨b, off + 1, none⟩ = some (.int .i64 qb)) ∧ (W1.cell? ⟨b, off + 2, none⟩ = some (.int .i64 qc)) ∧ Below W0.heap.size W0 W1) (first | exact HKd.out _ ((Below.refl _ _).drew) | exact HKd.out _ (bt (by assumption) hb1))
      ((first
        | (go_at_call 91; go_split_ands; refine (HC.out _ (bt hbW0 (by assumption))).mono ?_; rintro e w1 ⟨A9, c9, rfl, ho9, hb1, hc9, hm9⟩)))
    all_goals
      have hBB := bt hbW0 (bt (by assumption) hb1)
      have hB1 : Below W0.heap.size W0 w1 := bt (by assumption) hb1
      have f0 := (hB1.cell (p := ⟨w.heap.size, 0, none⟩) (by simp only; omega)).trans (cxW0_0 0)
      have f1 := (hB1.cell (p := ⟨w.heap.size, 1, none⟩) (by simp only; omega)).trans (cxW0_0 1)
      have f2 := (hB1.cell (p := ⟨w.heap.size, 2, none⟩) (by simp only; omega)).trans (cxW0_0 2)
      have r0 := (hB1.cell (p := ⟨w.heap.size + 1, 0, none⟩) (by simp only; omega)).trans (cxW0_1 0)
      have r1 := (hB1.cell (p := ⟨w.heap.size + 1, 1, none⟩) (by simp only; omega)).trans (cxW0_1 1)
      have r2 := (hB1.cell (p := ⟨w.heap.size + 1, 2, none⟩) (by simp only; omega)).trans (cxW0_1 2)
      have zf := fun i => (hB1.frozen (p := ⟨w.heap.size, i, none⟩) (by simp only; omega)).trans (fzW0_0 i)
      have zr := fun i => (hB1.frozen (p := ⟨w.heap.size + 1, i, none⟩) (by simp only; omega)).trans (fzW0_1 i)
      simp only [List.getElem?_toArray, List.getElem?_cons_zero, List.getElem?_cons_succ] at f0 f1 f2 r0 r1 r2
      clear cxW0_0 cxW0_1 fzW0_0 fzW0_1
      clear ho9
      go_wp2
      have hB4 := bel3 hBB (b := w.heap.size + 1) (by omega) (.slice A1 d.H.length c1) (.slice A2 d.K.length c2) (.slice A3 d.M.length c3)
      refine bodyPost_ret (v := .tuple #[.agg #[.slice A1 d.H.length c1, .slice A2 d.K.length c2, .slice A3 d.M.length c3], .int .i64 q]) (by simp [results, Tryz.results87, go_sem, r0, r1, r2]) rfl ?_
      exact ⟨_, by rw [HX.out], by rw [HX.out]; exact ⟨A1, A2, A3, c1, c2, c3, rfl, HRW.out.below hB4⟩, hB4⟩

end Go.Proofs.YtiamignopfhkfaaGreatDoor
