/- Contracts: motionCode, mayGo, NextStates of both texts. -/
import Derived.Test.YtdohegpbdlcnjaaMotCode
namespace Go.Proofs.Ytdohegpbdlcnjaa
open Go.RowKit
set_option linter.unusedVariables false


set_option maxRecDepth 100000 in
set_option maxHeartbeats 4000000 in
theorem mayGo_c (A : Option Addr) (c : Nat) (L : List MotionD) (a0 : Int) (a1 : ByteArray) (a2 a3 a4 a5 : Int) (s day : Int) (b : Bool) (w : World) (hr : Rd w w.heap.size A (L.length * 6) (L.flatMap motionC)) (hl : L.length ≤ 140737488355328) (hcap : L.length ≤ c) (hf : 0 ≤ a2 ∧ a2 ≤ 20000) (ha : a5 = 0 ∨ 0 ≤ findM a5 L 0) (h : mayM L ⟨a0, a1, a2, a3, a4, a5⟩ s day = b) :
    Calls Try.prog 70 #[.slice A L.length c, .agg #[.int .i64 a0, .string a1, .int .i64 a2, .int .i64 a3, .int .i64 a4, .int .i64 a5], .int .i64 s, .int .i64 day] w fun e w' => e = .returned (.bool b) ∧ Below w.heap.size w w' := by
  have HB := Lib.hid h; clear h
  by_cases e5 : a5 = 0
  · subst e5
    have hfr : freeM L 0 = true := by simp [freeM]
    by_cases hd : day < a3
    · go_enter Try.func70, Try.ntmps70
      go_wp2
      go_ret
      exact ⟨ret_bool (by rw [← HB.out]; simp [mayM, hd]), (Below.refl _ _).alloc (Nat.le_refl _) _⟩
    · cases hc : decide (3 ≤ a4)
      all_goals
        go_enter Try.func70, Try.ntmps70
        go_wp2_with fail
        generalize hW0 : w.alloc _ = W0
        have hbW0 : Below w.heap.size w W0 := by subst hW0; exact (Below.refl _ _).alloc (Nat.le_refl _) _
        have hsW0 : W0.heap.size = w.heap.size + 1 := by subst hW0; simp
        have cxW0_0 : ∀ i, W0.cell? ⟨w.heap.size, i, none⟩ = (#[.int .i64 a0, .string a1, .int .i64 a2, .int .i64 a3, .int .i64 a4, .int .i64 0] : Array Value)[i]? := by intro i; subst hW0; simp [go_sem]
        have HSW0 := Lib.hid hsW0; clear hW0 hsW0
        refine (closed_b _ _ _ _ _ _ _ W0 hc).mono ?_
        rintro e w1 ⟨rfl, hb1⟩
        replace cxW0_0 := fun i => (hb1.cell (by (try simp only); have := HSW0.out; omega)).trans (cxW0_0 i)
        go_wp2
        all_goals (go_ret; exact ⟨ret_bool (by rw [← HB.out]; clear HB; (first | (simp_all [mayM, closedB]; done) | (simp_all [mayM, closedB]; rw [Bool.eq_iff_iff]; simp; omega) | (simp_all [mayM, closedB]; omega))), bt hbW0 hb1⟩)
  · obtain ⟨j, hj, hjl⟩ := findM_idx (Int.not_lt.2 (ha.resolve_left e5))
    have HG := Lib.hid (getM_at hj hjl)
    have hj0 : (0 : Int) ≤ (j : Int) := by omega
    have hjL : (j : Int) < L.length := by omega
    have hjc : (j : Int) ≤ (c : Int) := by omega
    cases hq : decide (3 ≤ L[j].state)
    all_goals
      have HFR : Hid (freeM L a5 = _) := Lib.hid (show freeM L a5 = _ by rw [freeM, HG.out, closedB, hq, beq_eq_false_iff_ne.2 e5])
      cases hdc : decide (day < a3)
      · cases hc : decide (3 ≤ a4)
        all_goals
          go_enter Try.func70, Try.ntmps70
          go_wp2_with fail
          generalize hW0 : w.alloc _ = W0
          have hbW0 : Below w.heap.size w W0 := by subst hW0; exact (Below.refl _ _).alloc (Nat.le_refl _) _
          have hsW0 : W0.heap.size = w.heap.size + 1 := by subst hW0; simp
          have cxW0_0 : ∀ i, W0.cell? ⟨w.heap.size, i, none⟩ = (#[.int .i64 a0, .string a1, .int .i64 a2, .int .i64 a3, .int .i64 a4, .int .i64 a5] : Array Value)[i]? := by intro i; subst hW0; simp [go_sem]
          have HSW0 := Lib.hid hsW0; clear hW0 hsW0
          refine (motionOf_c A L.length c L a5 W0 rfl (rdW hbW0 hr) hl).mono ?_
          rintro e w1 ⟨rfl, hb1⟩
          rw [hj]
          replace cxW0_0 := fun i => (hb1.cell (by (try simp only); have := HSW0.out; omega)).trans (cxW0_0 i)
          have hB1 := bt hbW0 hb1
          have hz1 := Lib.hid hb1.size
          obtain ⟨bf, offf, rfl, hbf, hcf⟩ := Rd.elem motionC 6 (fun _ => rfl) (rdW hB1 hr) (by omega) hjl
          have f0 : w1.cell? ⟨bf, offf + j * 6, none⟩ = some (.int .i64 L[j].number) := hcf j hjl 0 _ rfl
          have f1 : w1.cell? ⟨bf, offf + j * 6 + 1, none⟩ = some (.string L[j].party) := hcf j hjl 1 _ rfl
          have f2 : w1.cell? ⟨bf, offf + j * 6 + 2, none⟩ = some (.int .i64 L[j].filed) := hcf j hjl 2 _ rfl
          have f3 : w1.cell? ⟨bf, offf + j * 6 + 3, none⟩ = some (.int .i64 L[j].changed) := hcf j hjl 3 _ rfl
          have f4 : w1.cell? ⟨bf, offf + j * 6 + 4, none⟩ = some (.int .i64 L[j].state) := hcf j hjl 4 _ rfl
          have f5 : w1.cell? ⟨bf, offf + j * 6 + 5, none⟩ = some (.int .i64 L[j].after) := hcf j hjl 5 _ rfl
          clear hcf HG
          generalize L[j] = x at *
          obtain ⟨x0, x1, x2, x3, x4, x5⟩ := x
          go_wp2_with fail
          refine (closed_b _ _ _ _ _ _ _ w1 hq).mono ?_
          rintro e w2 ⟨rfl, hb2⟩
          replace cxW0_0 := fun i => (hb2.cell (by (try simp only); have := HSW0.out; have := hz1.out; omega)).trans (cxW0_0 i)
          have hB2 := bt hB1 hb2
          have hz2 := Lib.hid hb2.size
          go_wp2_with fail
          refine (closed_b _ _ _ _ _ _ _ w2 hc).mono ?_
          rintro e w3 ⟨rfl, hb3⟩
          replace cxW0_0 := fun i => (hb3.cell (by (try simp only); have := HSW0.out; have := hz1.out; have := hz2.out; omega)).trans (cxW0_0 i)
          go_wp2
          all_goals (go_ret; exact ⟨ret_bool (by rw [← HB.out]; clear HB; have HFR := HFR.out; (first | (simp_all [mayM, closedB]; done) | (simp_all [mayM, closedB]; rw [Bool.eq_iff_iff]; simp; omega) | (simp_all [mayM, closedB]; omega))), bt hB2 hb3⟩)
      · go_enter Try.func70, Try.ntmps70
        go_wp2_with fail
        generalize hW0 : w.alloc _ = W0
        have hbW0 : Below w.heap.size w W0 := by subst hW0; exact (Below.refl _ _).alloc (Nat.le_refl _) _
        have hsW0 : W0.heap.size = w.heap.size + 1 := by subst hW0; simp
        have cxW0_0 : ∀ i, W0.cell? ⟨w.heap.size, i, none⟩ = (#[.int .i64 a0, .string a1, .int .i64 a2, .int .i64 a3, .int .i64 a4, .int .i64 a5] : Array Value)[i]? := by intro i; subst hW0; simp [go_sem]
        have HSW0 := Lib.hid hsW0; clear hW0 hsW0
        refine (motionOf_c A L.length c L a5 W0 rfl (rdW hbW0 hr) hl).mono ?_
        rintro e w1 ⟨rfl, hb1⟩
        rw [hj]
        replace cxW0_0 := fun i => (hb1.cell (by (try simp only); have := HSW0.out; omega)).trans (cxW0_0 i)
        have hB1 := bt hbW0 hb1
        have hz1 := Lib.hid hb1.size
        obtain ⟨bf, offf, rfl, hbf, hcf⟩ := Rd.elem motionC 6 (fun _ => rfl) (rdW hB1 hr) (by omega) hjl
        have f0 : w1.cell? ⟨bf, offf + j * 6, none⟩ = some (.int .i64 L[j].number) := hcf j hjl 0 _ rfl
        have f1 : w1.cell? ⟨bf, offf + j * 6 + 1, none⟩ = some (.string L[j].party) := hcf j hjl 1 _ rfl
        have f2 : w1.cell? ⟨bf, offf + j * 6 + 2, none⟩ = some (.int .i64 L[j].filed) := hcf j hjl 2 _ rfl
        have f3 : w1.cell? ⟨bf, offf + j * 6 + 3, none⟩ = some (.int .i64 L[j].changed) := hcf j hjl 3 _ rfl
        have f4 : w1.cell? ⟨bf, offf + j * 6 + 4, none⟩ = some (.int .i64 L[j].state) := hcf j hjl 4 _ rfl
        have f5 : w1.cell? ⟨bf, offf + j * 6 + 5, none⟩ = some (.int .i64 L[j].after) := hcf j hjl 5 _ rfl
        clear hcf HG
        generalize L[j] = x at *
        obtain ⟨x0, x1, x2, x3, x4, x5⟩ := x
        go_wp2_with fail
        refine (closed_b _ _ _ _ _ _ _ w1 hq).mono ?_
        rintro e w2 ⟨rfl, hb2⟩
        replace cxW0_0 := fun i => (hb2.cell (by (try simp only); have := HSW0.out; have := hz1.out; omega)).trans (cxW0_0 i)
        have hB2 := bt hB1 hb2
        go_wp2
        all_goals (go_ret; exact ⟨ret_bool (by rw [← HB.out]; clear HB; (first | (simp_all [mayM, closedB]; done) | (simp_all [mayM, closedB]; rw [Bool.eq_iff_iff]; simp; omega) | (simp_all [mayM, closedB]; omega))), hB2⟩)

end Go.Proofs.Ytdohegpbdlcnjaa
