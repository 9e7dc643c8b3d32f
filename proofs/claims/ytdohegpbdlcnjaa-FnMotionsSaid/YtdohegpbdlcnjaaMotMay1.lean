/- Contracts: motionCode, mayGo, NextStates of both texts. -/
import Derived.Test.YtdohegpbdlcnjaaMotCode
namespace Go.Proofs.Ytdohegpbdlcnjaa
open Go.RowKit
set_option linter.unusedVariables false


set_option maxRecDepth 100000 in
set_option maxHeartbeats 4000000 in
theorem l30May_c (A : Option Addr) (c : Nat) (L : List MotionD) (a0 : Int) (a1 : ByteArray) (a2 a3 a4 a5 : Int) (s day : Int) (b : Bool) (w : World) (hr : Rd w w.heap.size A (L.length * 6) (L.flatMap motionC)) (hl : L.length ≤ 140737488355328) (hcap : L.length ≤ c) (hf : 0 ≤ a2 ∧ a2 ≤ 20000) (ha : a5 = 0 ∨ 0 ≤ findM a5 L 0) (h : mayM L ⟨a0, a1, a2, a3, a4, a5⟩ s day = b) :
    Calls Try.prog 71 #[.slice A L.length c, .agg #[.int .i64 a0, .string a1, .int .i64 a2, .int .i64 a3, .int .i64 a4, .int .i64 a5], .int .i64 s, .int .i64 day] w fun e w' => e = .returned (.bool b) ∧ Below w.heap.size w w' := by
  have HB := Lib.hid h; clear h
  by_cases hd : day < a3
  · go_enter Try.func71, Try.ntmps71
    go_wp2
    go_ret
    exact ⟨ret_bool (by rw [← HB.out]; simp [mayM, hd]), (Below.refl _ _).alloc (Nat.le_refl _) _⟩
  · cases hc : decide (3 ≤ a4)
    · by_cases h2 : s = 2
      · cases hfr : freeM L a5
        all_goals
          go_enter Try.func71, Try.ntmps71
          go_wp2_with fail
          generalize hW0 : w.alloc _ = W0
          have hbW0 : Below w.heap.size w W0 := by subst hW0; exact (Below.refl _ _).alloc (Nat.le_refl _) _
          have hsW0 : W0.heap.size = w.heap.size + 1 := by subst hW0; simp
          have cxW0_0 : ∀ i, W0.cell? ⟨w.heap.size, i, none⟩ = (#[.int .i64 a0, .string a1, .int .i64 a2, .int .i64 a3, .int .i64 a4, .int .i64 a5] : Array Value)[i]? := by intro i; subst hW0; simp [go_sem]
          have HSW0 := Lib.hid hsW0; clear hW0 hsW0
          refine (l30Closed_b _ _ _ _ _ _ _ W0 hc).mono ?_
          rintro e w1 ⟨rfl, hb1⟩
          replace cxW0_0 := fun i => (hb1.cell (by (try simp only); have := HSW0.out; omega)).trans (cxW0_0 i)
          have hB1 := bt hbW0 hb1
          have hz1 := Lib.hid hb1.size
          go_wp2_with fail
          refine (l30Free_c A c L _ _ _ _ _ _ _ w1 (rdW hB1 hr) hl hcap ha hfr).mono ?_
          rintro e w2 ⟨rfl, hb2⟩
          replace cxW0_0 := fun i => (hb2.cell (by (try simp only); have := HSW0.out; have := hz1.out; omega)).trans (cxW0_0 i)
          go_wp2
          all_goals (go_ret; exact ⟨ret_bool (by rw [← HB.out]; clear HB; (first | (simp_all [mayM, closedB]; done) | (simp_all [mayM, closedB]; rw [Bool.eq_iff_iff]; simp; omega) | (simp_all [mayM, closedB]; omega))), bt hB1 hb2⟩)
      · go_enter Try.func71, Try.ntmps71
        go_wp2_with fail
        generalize hW0 : w.alloc _ = W0
        have hbW0 : Below w.heap.size w W0 := by subst hW0; exact (Below.refl _ _).alloc (Nat.le_refl _) _
        have hsW0 : W0.heap.size = w.heap.size + 1 := by subst hW0; simp
        have cxW0_0 : ∀ i, W0.cell? ⟨w.heap.size, i, none⟩ = (#[.int .i64 a0, .string a1, .int .i64 a2, .int .i64 a3, .int .i64 a4, .int .i64 a5] : Array Value)[i]? := by intro i; subst hW0; simp [go_sem]
        have HSW0 := Lib.hid hsW0; clear hW0 hsW0
        refine (l30Closed_b _ _ _ _ _ _ _ W0 hc).mono ?_
        rintro e w1 ⟨rfl, hb1⟩
        replace cxW0_0 := fun i => (hb1.cell (by (try simp only); have := HSW0.out; omega)).trans (cxW0_0 i)
        go_wp2
        all_goals (go_ret; exact ⟨ret_bool (by rw [← HB.out]; clear HB; (first | (simp_all [mayM, closedB]; done) | (simp_all [mayM, closedB]; rw [Bool.eq_iff_iff]; simp; omega) | (simp_all [mayM, closedB]; omega))), bt hbW0 hb1⟩)
    · go_enter Try.func71, Try.ntmps71
      go_wp2_with fail
      generalize hW0 : w.alloc _ = W0
      have hbW0 : Below w.heap.size w W0 := by subst hW0; exact (Below.refl _ _).alloc (Nat.le_refl _) _
      have hsW0 : W0.heap.size = w.heap.size + 1 := by subst hW0; simp
      have cxW0_0 : ∀ i, W0.cell? ⟨w.heap.size, i, none⟩ = (#[.int .i64 a0, .string a1, .int .i64 a2, .int .i64 a3, .int .i64 a4, .int .i64 a5] : Array Value)[i]? := by intro i; subst hW0; simp [go_sem]
      have HSW0 := Lib.hid hsW0; clear hW0 hsW0
      refine (l30Closed_b _ _ _ _ _ _ _ W0 hc).mono ?_
      rintro e w1 ⟨rfl, hb1⟩
      go_wp2
      go_ret
      exact ⟨ret_bool (by rw [← HB.out]; clear HB; (first | (simp_all [mayM, closedB]; done) | (simp_all [mayM, closedB]; rw [Bool.eq_iff_iff]; simp; omega) | (simp_all [mayM, closedB]; omega))), bt hbW0 hb1⟩


end Go.Proofs.Ytdohegpbdlcnjaa
