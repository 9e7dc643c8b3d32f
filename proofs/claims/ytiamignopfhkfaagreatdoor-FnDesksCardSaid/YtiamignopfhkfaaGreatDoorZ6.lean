/- Contracts: motionCode, mayGo, NextStates of both texts. Contracts: motionCode, mayGo, NextStates of both texts. Contracts: ChangeMotion of both texts. Plain: calls that are added, moved, called on a day. The desk in memory: its three lists, each a row of the call's own. -/
import Derived.Test.YtiamignopfhkfaaGreatDoorZ4
import Derived.Test.YtiamignopfhkfaaGreatDoorZ5
import Derived.Test.YtiamignopfhkfaaGreatDoorZ2
section
namespace Go.Proofs.YtiamignopfhkfaaGreatDoor
open Go.RowKit
set_option linter.unusedVariables false


set_option maxRecDepth 100000 in
set_option maxHeartbeats 4000000 in
theorem l30May_c (A : Option Addr) (c : Nat) (L : List MotionD) (a0 : Int) (a1 : ByteArray) (a2 a3 a4 a5 : Int) (s day : Int) (b : Bool) (w : World) (hr : Rd w w.heap.size A (L.length * 6) (L.flatMap motionC)) (hl : L.length ≤ 140737488355328) (hcap : L.length ≤ c) (hf : 0 ≤ a2 ∧ a2 ≤ 20000) (ha : a5 = 0 ∨ 0 ≤ findM a5 L 0) (h : mayM L ⟨a0, a1, a2, a3, a4, a5⟩ s day = b) :
    Calls Tryz.prog 125 #[.slice A L.length c, .agg #[.int .i64 a0, .string a1, .int .i64 a2, .int .i64 a3, .int .i64 a4, .int .i64 a5], .int .i64 s, .int .i64 day] w fun e w' => e = .returned (.bool b) ∧ Below w.heap.size w w' := by
  have HB := Lib.hid h; clear h
  by_cases hd : day < a3
  · go_enter Tryz.func125, Tryz.ntmps125
    go_wp2
    go_ret
    exact ⟨ret_bool (by rw [← HB.out]; simp [mayM, hd]), (Below.refl _ _).alloc (Nat.le_refl _) _⟩
  · cases hc : decide (3 ≤ a4)
    · by_cases h2 : s = 2
      · cases hfr : freeM L a5
        all_goals
          go_enter Tryz.func125, Tryz.ntmps125
          go_wp2_with fail
          generalize hW0 : w.alloc _ = W0
          have hbW0 : Below w.heap.size w W0 := by subst hW0; exact (Below.refl _ _).alloc (Nat.le_refl _) _
          have hsW0 : W0.heap.size = w.heap.size + 1 := by subst hW0; simp
          have cxW0_0 : ∀ i, W0.cell? ⟨w.heap.size, i, none⟩ = (#[.int .i64 a0, .string a1, .int .i64 a2, .int .i64 a3, .int .i64 a4, .int .i64 a5] : Array Value)[i]? := by intro i; subst hW0; simp [go_sem]
          have HSW0 := Lib.hid hsW0; clear hW0 hsW0
          refine (l30Closed_b _ _ _ _ _ _ _ W0 hc).mono ?_
          rintro e w1 ⟨rfl, hb1⟩
          replace cxW0_0 := fun i => (hb1.cell (by (try simp only); have := HSW0.out; omega)).trans (cxW0_0 i)
          have hB1 := bt hbW0 hb1
          have hz1 := Lib.hid hb1.size
          go_wp2_with fail
          refine (l30Free_c A c L _ _ _ _ _ _ _ w1 (rdW hB1 hr) hl hcap ha hfr).mono ?_
          rintro e w2 ⟨rfl, hb2⟩
          replace cxW0_0 := fun i => (hb2.cell (by (try simp only); have := HSW0.out; have := hz1.out; omega)).trans (cxW0_0 i)
          go_wp2
          all_goals (go_ret; exact ⟨ret_bool (by rw [← HB.out]; clear HB; (first | (simp_all [mayM, closedB]; done) | (simp_all [mayM, closedB]; rw [Bool.eq_iff_iff]; simp; omega) | (simp_all [mayM, closedB]; omega))), bt hB1 hb2⟩)
      · go_enter Tryz.func125, Tryz.ntmps125
        go_wp2_with fail
        generalize hW0 : w.alloc _ = W0
        have hbW0 : Below w.heap.size w W0 := by subst hW0; exact (Below.refl _ _).alloc (Nat.le_refl _) _
        have hsW0 : W0.heap.size = w.heap.size + 1 := by subst hW0; simp
        have cxW0_0 : ∀ i, W0.cell? ⟨w.heap.size, i, none⟩ = (#[.int .i64 a0, .string a1, .int .i64 a2, .int .i64 a3, .int .i64 a4, .int .i64 a5] : Array Value)[i]? := by intro i; subst hW0; simp [go_sem]
        have HSW0 := Lib.hid hsW0; clear hW0 hsW0
        refine (l30Closed_b _ _ _ _ _ _ _ W0 hc).mono ?_
        rintro e w1 ⟨rfl, hb1⟩
        replace cxW0_0 := fun i => (hb1.cell (by (try simp only); have := HSW0.out; omega)).trans (cxW0_0 i)
        go_wp2
        all_goals (go_ret; exact ⟨ret_bool (by rw [← HB.out]; clear HB; (first | (simp_all [mayM, closedB]; done) | (simp_all [mayM, closedB]; rw [Bool.eq_iff_iff]; simp; omega) | (simp_all [mayM, closedB]; omega))), bt hbW0 hb1⟩)
    · go_enter Tryz.func125, Tryz.ntmps125
      go_wp2_with fail
      generalize hW0 : w.alloc _ = W0
      have hbW0 : Below w.heap.size w W0 := by subst hW0; exact (Below.refl _ _).alloc (Nat.le_refl _) _
      have hsW0 : W0.heap.size = w.heap.size + 1 := by subst hW0; simp
      have cxW0_0 : ∀ i, W0.cell? ⟨w.heap.size, i, none⟩ = (#[.int .i64 a0, .string a1, .int .i64 a2, .int .i64 a3, .int .i64 a4, .int .i64 a5] : Array Value)[i]? := by intro i; subst hW0; simp [go_sem]
      have HSW0 := Lib.hid hsW0; clear hW0 hsW0
      refine (l30Closed_b _ _ _ _ _ _ _ W0 hc).mono ?_
      rintro e w1 ⟨rfl, hb1⟩
      go_wp2
      go_ret
      exact ⟨ret_bool (by rw [← HB.out]; clear HB; (first | (simp_all [mayM, closedB]; done) | (simp_all [mayM, closedB]; rw [Bool.eq_iff_iff]; simp; omega) | (simp_all [mayM, closedB]; omega))), bt hbW0 hb1⟩


end Go.Proofs.YtiamignopfhkfaaGreatDoor
end
section
namespace Go.Proofs.YtiamignopfhkfaaGreatDoor
open Go.RowKit
set_option linter.unusedVariables false


set_option maxRecDepth 100000 in
set_option maxHeartbeats 4000000 in
theorem mayGo_c (A : Option Addr) (c : Nat) (L : List MotionD) (a0 : Int) (a1 : ByteArray) (a2 a3 a4 a5 : Int) (s day : Int) (b : Bool) (w : World) (hr : Rd w w.heap.size A (L.length * 6) (L.flatMap motionC)) (hl : L.length ≤ 140737488355328) (hcap : L.length ≤ c) (hf : 0 ≤ a2 ∧ a2 ≤ 20000) (ha : a5 = 0 ∨ 0 ≤ findM a5 L 0) (h : mayM L ⟨a0, a1, a2, a3, a4, a5⟩ s day = b) :
    Calls Tryz.prog 139 #[.slice A L.length c, .agg #[.int .i64 a0, .string a1, .int .i64 a2, .int .i64 a3, .int .i64 a4, .int .i64 a5], .int .i64 s, .int .i64 day] w fun e w' => e = .returned (.bool b) ∧ Below w.heap.size w w' := by
  have HB := Lib.hid h; clear h
  by_cases e5 : a5 = 0
  · subst e5
    have hfr : freeM L 0 = true := by simp [freeM]
    by_cases hd : day < a3
    · go_enter Tryz.func139, Tryz.ntmps139
      go_wp2
      go_ret
      exact ⟨ret_bool (by rw [← HB.out]; simp [mayM, hd]), (Below.refl _ _).alloc (Nat.le_refl _) _⟩
    · cases hc : decide (3 ≤ a4)
      all_goals
        go_enter Tryz.func139, Tryz.ntmps139
        go_wp2_with fail
        generalize hW0 : w.alloc _ = W0
        have hbW0 : Below w.heap.size w W0 := by subst hW0; exact (Below.refl _ _).alloc (Nat.le_refl _) _
        have hsW0 : W0.heap.size = w.heap.size + 1 := by subst hW0; simp
        have cxW0_0 : ∀ i, W0.cell? ⟨w.heap.size, i, none⟩ = (#[.int .i64 a0, .string a1, .int .i64 a2, .int .i64 a3, .int .i64 a4, .int .i64 0] : Array Value)[i]? := by intro i; subst hW0; simp [go_sem]
        have HSW0 := Lib.hid hsW0; clear hW0 hsW0
        refine (closed_b _ _ _ _ _ _ _ W0 hc).mono ?_
        rintro e w1 ⟨rfl, hb1⟩
        replace cxW0_0 := fun i => (hb1.cell (by (try simp only); have := HSW0.out; omega)).trans (cxW0_0 i)
        go_wp2
        all_goals (go_ret; exact ⟨ret_bool (by rw [← HB.out]; clear HB; (first | (simp_all [mayM, closedB]; done) | (simp_all [mayM, closedB]; rw [Bool.eq_iff_iff]; simp; omega) | (simp_all [mayM, closedB]; omega))), bt hbW0 hb1⟩)
  · obtain ⟨j, hj, hjl⟩ := findM_idx (Int.not_lt.2 (ha.resolve_left e5))
    have HG := Lib.hid (getM_at hj hjl)
    have hj0 : (0 : Int) ≤ (j : Int) := by omega
    have hjL : (j : Int) < L.length := by omega
    have hjc : (j : Int) ≤ (c : Int) := by omega
    cases hq : decide (3 ≤ L[j].state)
    all_goals
      have HFR : Hid (freeM L a5 = _) := Lib.hid (show freeM L a5 = _ by rw [freeM, HG.out, closedB, hq, beq_eq_false_iff_ne.2 e5])
      cases hdc : decide (day < a3)
      · cases hc : decide (3 ≤ a4)
        all_goals
          go_enter Tryz.func139, Tryz.ntmps139
          go_wp2_with fail
          generalize hW0 : w.alloc _ = W0
          have hbW0 : Below w.heap.size w W0 := by subst hW0; exact (Below.refl _ _).alloc (Nat.le_refl _) _
          have hsW0 : W0.heap.size = w.heap.size + 1 := by subst hW0; simp
          have cxW0_0 : ∀ i, W0.cell? ⟨w.heap.size, i, none⟩ = (#[.int .i64 a0, .string a1, .int .i64 a2, .int .i64 a3, .int .i64 a4, .int .i64 a5] : Array Value)[i]? := by intro i; subst hW0; simp [go_sem]
          have HSW0 := Lib.hid hsW0; clear hW0 hsW0
          refine (motionOf_c A L.length c L a5 W0 rfl (rdW hbW0 hr) hl).mono ?_
          rintro e w1 ⟨rfl, hb1⟩
          rw [hj]
          replace cxW0_0 := fun i => (hb1.cell (by (try simp only); have := HSW0.out; omega)).trans (cxW0_0 i)
          have hB1 := bt hbW0 hb1
          have hz1 := Lib.hid hb1.size
          obtain ⟨bf, offf, rfl, hbf, hcf⟩ := Rd.elem motionC 6 (fun _ => rfl) (rdW hB1 hr) (by omega) hjl
          have f0 : w1.cell? ⟨bf, offf + j * 6, none⟩ = some (.int .i64 L[j].number) := hcf j hjl 0 _ rfl
          have f1 : w1.cell? ⟨bf, offf + j * 6 + 1, none⟩ = some (.string L[j].party) := hcf j hjl 1 _ rfl
          have f2 : w1.cell? ⟨bf, offf + j * 6 + 2, none⟩ = some (.int .i64 L[j].filed) := hcf j hjl 2 _ rfl
          have f3 : w1.cell? ⟨bf, offf + j * 6 + 3, none⟩ = some (.int .i64 L[j].changed) := hcf j hjl 3 _ rfl
          have f4 : w1.cell? ⟨bf, offf + j * 6 + 4, none⟩ = some (.int .i64 L[j].state) := hcf j hjl 4 _ rfl
          have f5 : w1.cell? ⟨bf, offf + j * 6 + 5, none⟩ = some (.int .i64 L[j].after) := hcf j hjl 5 _ rfl
          clear hcf HG
          generalize L[j] = x at *
          obtain ⟨x0, x1, x2, x3, x4, x5⟩ := x
          go_wp2_with fail
          refine (closed_b _ _ _ _ _ _ _ w1 hq).mono ?_
          rintro e w2 ⟨rfl, hb2⟩
          replace cxW0_0 := fun i => (hb2.cell (by (try simp only); have := HSW0.out; have := hz1.out; omega)).trans (cxW0_0 i)
          have hB2 := bt hB1 hb2
          have hz2 := Lib.hid hb2.size
          go_wp2_with fail
          refine (closed_b _ _ _ _ _ _ _ w2 hc).mono ?_
          rintro e w3 ⟨rfl, hb3⟩
          replace cxW0_0 := fun i => (hb3.cell (by (try simp only); have := HSW0.out; have := hz1.out; have := hz2.out; omega)).trans (cxW0_0 i)
          go_wp2
          all_goals (go_ret; exact ⟨ret_bool (by rw [← HB.out]; clear HB; have HFR := HFR.out; (first | (simp_all [mayM, closedB]; done) | (simp_all [mayM, closedB]; rw [Bool.eq_iff_iff]; simp; omega) | (simp_all [mayM, closedB]; omega))), bt hB2 hb3⟩)
      · go_enter Tryz.func139, Tryz.ntmps139
        go_wp2_with fail
        generalize hW0 : w.alloc _ = W0
        have hbW0 : Below w.heap.size w W0 := by subst hW0; exact (Below.refl _ _).alloc (Nat.le_refl _) _
        have hsW0 : W0.heap.size = w.heap.size + 1 := by subst hW0; simp
        have cxW0_0 : ∀ i, W0.cell? ⟨w.heap.size, i, none⟩ = (#[.int .i64 a0, .string a1, .int .i64 a2, .int .i64 a3, .int .i64 a4, .int .i64 a5] : Array Value)[i]? := by intro i; subst hW0; simp [go_sem]
        have HSW0 := Lib.hid hsW0; clear hW0 hsW0
        refine (motionOf_c A L.length c L a5 W0 rfl (rdW hbW0 hr) hl).mono ?_
        rintro e w1 ⟨rfl, hb1⟩
        rw [hj]
        replace cxW0_0 := fun i => (hb1.cell (by (try simp only); have := HSW0.out; omega)).trans (cxW0_0 i)
        have hB1 := bt hbW0 hb1
        have hz1 := Lib.hid hb1.size
        obtain ⟨bf, offf, rfl, hbf, hcf⟩ := Rd.elem motionC 6 (fun _ => rfl) (rdW hB1 hr) (by omega) hjl
        have f0 : w1.cell? ⟨bf, offf + j * 6, none⟩ = some (.int .i64 L[j].number) := hcf j hjl 0 _ rfl
        have f1 : w1.cell? ⟨bf, offf + j * 6 + 1, none⟩ = some (.string L[j].party) := hcf j hjl 1 _ rfl
        have f2 : w1.cell? ⟨bf, offf + j * 6 + 2, none⟩ = some (.int .i64 L[j].filed) := hcf j hjl 2 _ rfl
        have f3 : w1.cell? ⟨bf, offf + j * 6 + 3, none⟩ = some (.int .i64 L[j].changed) := hcf j hjl 3 _ rfl
        have f4 : w1.cell? ⟨bf, offf + j * 6 + 4, none⟩ = some (.int .i64 L[j].state) := hcf j hjl 4 _ rfl
        have f5 : w1.cell? ⟨bf, offf + j * 6 + 5, none⟩ = some (.int .i64 L[j].after) := hcf j hjl 5 _ rfl
        clear hcf HG
        generalize L[j] = x at *
        obtain ⟨x0, x1, x2, x3, x4, x5⟩ := x
        go_wp2_with fail
        refine (closed_b _ _ _ _ _ _ _ w1 hq).mono ?_
        rintro e w2 ⟨rfl, hb2⟩
        replace cxW0_0 := fun i => (hb2.cell (by (try simp only); have := HSW0.out; have := hz1.out; omega)).trans (cxW0_0 i)
        have hB2 := bt hB1 hb2
        go_wp2
        all_goals (go_ret; exact ⟨ret_bool (by rw [← HB.out]; clear HB; (first | (simp_all [mayM, closedB]; done) | (simp_all [mayM, closedB]; rw [Bool.eq_iff_iff]; simp; omega) | (simp_all [mayM, closedB]; omega))), hB2⟩)

end Go.Proofs.YtiamignopfhkfaaGreatDoor
end
section
namespace Go.Proofs.YtiamignopfhkfaaGreatDoor
open Go.RowKit
set_option linter.unusedVariables false
theorem flat_set_at {α : Type} {f : α → List Value} {m : Nat} (hf : ∀ a, (f a).length = m) : ∀ {L : List α} {j i : Nat} {y : α} {v : Value} (hj : j < L.length), i < m → (f L[j]).set i v = f y → (L.flatMap f).set (j * m + i) v = (L.set j y).flatMap f
  | [], j, i, y, v, hj, _, _ => absurd hj (by simp)
  | a :: L, 0, i, y, v, hj, hi, h => by
    rw [List.flatMap_cons, Nat.zero_mul, Nat.zero_add, List.set_append_left _ _ (by rw [hf]; exact hi), List.set_cons_zero, List.flatMap_cons]
    rw [show (f a).set i v = f y from h]
  | a :: L, j + 1, i, y, v, hj, hi, h => by
    have e : (j + 1) * m + i = m + (j * m + i) := by rw [Nat.add_mul]; omega
    rw [List.flatMap_cons, e, List.set_append_right _ _ (by rw [hf]; omega), hf, Nat.add_sub_cancel_left, flat_set_at hf (L := L) (j := j) (y := y) (by simpa using hj) hi (by simpa using h), List.set_cons_succ, List.flatMap_cons]
def upM (x : MotionD) (s day : Int) : MotionD := ⟨x.number, x.party, x.filed, day, s, x.after⟩
def chgM (L : List MotionD) (n s day : Int) : List MotionD × Int :=
  if motsOk L = true ∧ inB s 0 5 = false then ([], 2)
  else if codeM L n day = 0 then (if mayM L (getM L (findM n L 0)) s day then (L.set (findM n L 0).toNat (upM (getM L (findM n L 0)) s day), 0) else ([], 5))
  else ([], codeM L n day)
theorem chgM_2 {L : List MotionD} {n s day : Int} (h : motsOk L = true) (hs : inB s 0 5 = false) : chgM L n s day = ([], 2) := by rw [chgM, if_pos ⟨h, hs⟩]
theorem chgM_c {L : List MotionD} {n s day : Int} (h : motsOk L = false ∨ inB s 0 5 = true) (hc : codeM L n day ≠ 0) : chgM L n s day = ([], codeM L n day) := by
  rw [chgM, if_neg (by rintro ⟨h1, h2⟩; rcases h with h | h <;> simp_all), if_neg hc]
theorem chgM_5 {L : List MotionD} {n s day : Int} (hs : inB s 0 5 = true) (hc : codeM L n day = 0) {j : Nat} (hj : findM n L 0 = (j : Int)) (hjl : j < L.length) (hm : mayM L L[j] s day = false) : chgM L n s day = ([], 5) := by
  rw [chgM, if_neg (by rintro ⟨_, h2⟩; rw [hs] at h2; cases h2), if_pos hc, getM_at hj hjl, hm]; rfl
theorem chgM_0 {L : List MotionD} {n s day : Int} (hs : inB s 0 5 = true) (hc : codeM L n day = 0) {j : Nat} (hj : findM n L 0 = (j : Int)) (hjl : j < L.length) (hm : mayM L L[j] s day = true) : chgM L n s day = (L.set j (upM L[j] s day), 0) := by
  rw [chgM, if_neg (by rintro ⟨_, h2⟩; rw [hs] at h2; cases h2), if_pos hc, getM_at hj hjl, hm, hj]; rfl
theorem codeM_0 {L : List MotionD} {n day : Int} (h0 : codeM L n day = 0) : motsOk L = true ∧ inB day 0 20000 = true ∧ ∃ j : Nat, findM n L 0 = (j : Int) ∧ j < L.length := by
  unfold codeM at h0
  split at h0
  · rename_i h1
    split at h0
    · rename_i h2
      split at h0
      · omega
      · rename_i h3; exact ⟨h1, h2, findM_idx h3⟩
    · omega
  · omega
theorem chgM_len (L : List MotionD) (n s day : Int) : (chgM L n s day).1.length ≤ 12 := by
  unfold chgM
  split
  · simp
  · split
    · rename_i h
      have := mots_len (codeM_0 h).1
      split
      · simpa using this
      · simp
    · simp
theorem codeM_m1 {L : List MotionD} {n : Int} : codeM L n (-1) = if motsOk L then 2 else 1 := by
  unfold codeM
  rw [show inB (-1) 0 20000 = false from by decide]
  simp


set_option maxRecDepth 100000 in
set_option maxHeartbeats 2000000 in
theorem impl_ChangeMotion (A : Option Addr) (c : Nat) (L : List MotionD) (n s day : Int) (w : World) (hr : Rd w w.heap.size A (L.length * 6) (L.flatMap motionC)) (hl : L.length ≤ 140737488355328) (hcap : L.length ≤ c) (hW : ∀ x ∈ L, MotionW x) :
    Calls Tryz.prog 152 #[.slice A L.length c, .int .i64 n, .int .i64 s, .int .i64 day] w (RowPost2 70 6 (chgM L n s day).1.length ((chgM L n s day).1.flatMap motionC) (chgM L n s day).2 w) := by
  have hcode := fun (W : World) a => motionCode_c A c L n day W a hl hcap hW
  cases hT : motsOk L
  · have hc1 : codeM L n day = 1 := by simp [codeM, hT]
    rw [chgM_c (.inl hT) (by omega), hc1]
    rw [hc1] at hcode
    have HCODE := Lib.hid hcode
    have HC1 := Lib.hid hc1
    clear hc1 hcode
    go_enter Tryz.func152, Tryz.ntmps152
    go_wp2_with fail
    refine (impl_AreMotions A c L _ w hr hl hcap hW hT).mono ?_
    rintro e w0 ⟨rfl, hb0⟩
    go_wp2_with fail
    refine (HCODE.out w0 (rdW hb0 hr)).mono ?_
    rintro e w1 ⟨rfl, hb1⟩
    go_wp2
    go_ret2
    exact rowPost2_nil (bt hb0 hb1)
  cases hS : inB s 0 5
  · rw [chgM_2 hT hS]
    clear hcode
    go_enter Tryz.func152, Tryz.ntmps152
    go_wp2_with fail
    refine (impl_AreMotions A c L _ w hr hl hcap hW hT).mono ?_
    rintro e w0 ⟨rfl, hb0⟩
    go_wp2_with (first | (go_at_call 92; refine (within_b _ _ _ _ _ hS).mono ?_; rintro e w' ⟨rfl, rfl⟩))
    go_ret2
    exact rowPost2_nil hb0
  by_cases h0 : codeM L n day = 0
  · clear hT
    obtain ⟨hT, hD, j, hj, hjl⟩ := codeM_0 h0
    have h12 := mots_len hT
    have HBD := Lib.hid (mots_bds hT hjl)
    have HAF := Lib.hid (mots_after hT hjl)
    have hj0 : (0 : Int) ≤ (j : Int) := by omega
    have hjL : (j : Int) < L.length := by omega
    have hjc : (j : Int) ≤ (c : Int) := by omega
    have hL0 : 0 < L.length := by omega
    obtain ⟨i0, hi, hz0, hz1, hz2⟩ := info_parts motion_info
    have HO := Lib.hid (one_flat (fun a u hu => by simp only [motionC, List.mem_cons, List.not_mem_nil, or_false] at hu; rcases hu with rfl | rfl | rfl | rfl | rfl | rfl <;> rfl) L : ∀ u ∈ L.flatMap motionC, u.oneCell' = true)
    rw [h0] at hcode
    try rw [if_pos rfl] at hcode
    have HL := Lib.hid hL0
    have HCODE := Lib.hid hcode
    have HT := Lib.hid hT
    have HW := Lib.hid hW
    clear hcode hL0 hD hW
    cases hm : mayM L L[j] s day
    · rw [chgM_5 hS h0 hj hjl hm]
      have H0 := Lib.hid h0
      clear h0
      have HM := Lib.hid hm
      obtain ⟨bf, offf, rfl, hbf, hcf⟩ := Rd.elem motionC 6 (fun _ => rfl) (hr) (by omega) hjl
      have f0 : w.cell? ⟨bf, offf + j * 6, none⟩ = some (.int .i64 L[j].number) := hcf j hjl 0 _ rfl
      have f1 : w.cell? ⟨bf, offf + j * 6 + 1, none⟩ = some (.string L[j].party) := hcf j hjl 1 _ rfl
      have f2 : w.cell? ⟨bf, offf + j * 6 + 2, none⟩ = some (.int .i64 L[j].filed) := hcf j hjl 2 _ rfl
      have f3 : w.cell? ⟨bf, offf + j * 6 + 3, none⟩ = some (.int .i64 L[j].changed) := hcf j hjl 3 _ rfl
      have f4 : w.cell? ⟨bf, offf + j * 6 + 4, none⟩ = some (.int .i64 L[j].state) := hcf j hjl 4 _ rfl
      have f5 : w.cell? ⟨bf, offf + j * 6 + 5, none⟩ = some (.int .i64 L[j].after) := hcf j hjl 5 _ rfl
      have hb := HBD.out.2.1
      have hab := HAF.out
      clear hcf
      generalize hx : L[j] = x at *
      obtain ⟨x0, x1, x2, x3, x4, x5⟩ := x
      have HX := Lib.hid hx
      clear hx
      go_enter Tryz.func152, Tryz.ntmps152
      go_wp2_with fail
      refine (impl_AreMotions _ c L _ w hr hl hcap HW.out HT.out).mono ?_
      rintro e w0 ⟨rfl, hb0⟩
      have hlt0 := hb0.size
      replace f0 := (hb0.cell (by (try simp only); omega)).trans f0
      replace f1 := (hb0.cell (by (try simp only); omega)).trans f1
      replace f2 := (hb0.cell (by (try simp only); omega)).trans f2
      replace f3 := (hb0.cell (by (try simp only); omega)).trans f3
      replace f4 := (hb0.cell (by (try simp only); omega)).trans f4
      replace f5 := (hb0.cell (by (try simp only); omega)).trans f5
      go_wp2_with (first | (go_at_call 92; refine (within_b _ _ _ _ _ hS).mono ?_; rintro e w' ⟨rfl, rfl⟩))
      refine (HCODE.out w0 (rdW hb0 hr)).mono ?_
      rintro e w1 ⟨rfl, hb1⟩
      try rw [hj]
      have hlt1 := hb1.size
      replace f0 := (hb1.cell (by (try simp only); omega)).trans f0
      replace f1 := (hb1.cell (by (try simp only); omega)).trans f1
      replace f2 := (hb1.cell (by (try simp only); omega)).trans f2
      replace f3 := (hb1.cell (by (try simp only); omega)).trans f3
      replace f4 := (hb1.cell (by (try simp only); omega)).trans f4
      replace f5 := (hb1.cell (by (try simp only); omega)).trans f5
      have hB1 := bt hb0 hb1
      go_wp2_with fail
      refine (mayGo_c _ c L _ _ _ _ _ _ _ _ _ w1 (rdW hB1 hr) hl hcap hb hab hm).mono ?_
      rintro e w2 ⟨rfl, hb2⟩
      have hB2 := bt hB1 hb2
      go_wp2
      go_ret2
      exact rowPost2_nil hB2
    · rw [chgM_0 hS h0 hj hjl hm]
      have H0 := Lib.hid h0
      clear h0
      have HM := Lib.hid hm
      obtain ⟨bf, offf, rfl, hbf, hcf⟩ := Rd.elem motionC 6 (fun _ => rfl) (hr) (by omega) hjl
      have f0 : w.cell? ⟨bf, offf + j * 6, none⟩ = some (.int .i64 L[j].number) := hcf j hjl 0 _ rfl
      have f1 : w.cell? ⟨bf, offf + j * 6 + 1, none⟩ = some (.string L[j].party) := hcf j hjl 1 _ rfl
      have f2 : w.cell? ⟨bf, offf + j * 6 + 2, none⟩ = some (.int .i64 L[j].filed) := hcf j hjl 2 _ rfl
      have f3 : w.cell? ⟨bf, offf + j * 6 + 3, none⟩ = some (.int .i64 L[j].changed) := hcf j hjl 3 _ rfl
      have f4 : w.cell? ⟨bf, offf + j * 6 + 4, none⟩ = some (.int .i64 L[j].state) := hcf j hjl 4 _ rfl
      have f5 : w.cell? ⟨bf, offf + j * 6 + 5, none⟩ = some (.int .i64 L[j].after) := hcf j hjl 5 _ rfl
      have hb := HBD.out.2.1
      have hab := HAF.out
      clear hcf
      generalize hx : L[j] = x at *
      obtain ⟨x0, x1, x2, x3, x4, x5⟩ := x
      have HX := Lib.hid hx
      clear hx
      go_enter Tryz.func152, Tryz.ntmps152
      go_wp2_with fail
      refine (impl_AreMotions _ c L _ w hr hl hcap HW.out HT.out).mono ?_
      rintro e w0 ⟨rfl, hb0⟩
      have hlt0 := hb0.size
      replace f0 := (hb0.cell (by (try simp only); omega)).trans f0
      replace f1 := (hb0.cell (by (try simp only); omega)).trans f1
      replace f2 := (hb0.cell (by (try simp only); omega)).trans f2
      replace f3 := (hb0.cell (by (try simp only); omega)).trans f3
      replace f4 := (hb0.cell (by (try simp only); omega)).trans f4
      replace f5 := (hb0.cell (by (try simp only); omega)).trans f5
      go_wp2_with (first | (go_at_call 92; refine (within_b _ _ _ _ _ hS).mono ?_; rintro e w' ⟨rfl, rfl⟩))
      refine (HCODE.out w0 (rdW hb0 hr)).mono ?_
      rintro e w1 ⟨rfl, hb1⟩
      try rw [hj]
      have hlt1 := hb1.size
      replace f0 := (hb1.cell (by (try simp only); omega)).trans f0
      replace f1 := (hb1.cell (by (try simp only); omega)).trans f1
      replace f2 := (hb1.cell (by (try simp only); omega)).trans f2
      replace f3 := (hb1.cell (by (try simp only); omega)).trans f3
      replace f4 := (hb1.cell (by (try simp only); omega)).trans f4
      replace f5 := (hb1.cell (by (try simp only); omega)).trans f5
      have hB1 := bt hb0 hb1
      go_wp2_with fail
      refine (mayGo_c _ c L _ _ _ _ _ _ _ _ _ w1 (rdW hB1 hr) hl hcap hb hab hm).mono ?_
      rintro e w2 ⟨rfl, hb2⟩
      have hB2 := bt hB1 hb2
      clear f0 f1 f2 f3 f4 f5
      go_wp2_with fail
      refine (cloneMotion_c _ c L w2 (rdW hB2 hr) (by omega)).mono ?_
      rintro e w3 ⟨A3, c3, rfl, ho3, hb3, hc3, hd3⟩
      have hB3 := bt hB2 hb3
      obtain ⟨g, rfl, hg1, hg2⟩ := own_head ho3 HL.out
      obtain ⟨u4, f4⟩ := own_cell ho3 (j := j * 6 + 4) (by omega)
      obtain ⟨u3, f3⟩ := own_cell ho3 (j := j * 6 + 3) (by omega)
      have hz4 := ho3.frozenAt (j * 6 + 4)
      have hz3 := ho3.frozenAt (j * 6 + 3)
      have hs1 := ho3.stored (j * 6 + 4) (.int .i64 s)
      have hs2 := hs1.1.stored (j * 6 + 3) (.int .i64 day)
      have HS1 := Lib.hid hs1.2
      have HS2 := Lib.hid hs2
      clear hs1 hs2 ho3
      go_wp2
      go_ret2
      have e2 : ((L.flatMap motionC).set (j * 6 + 4) (.int .i64 s)).set (j * 6 + 3) (.int .i64 day) = (L.set j (upM (⟨x0, x1, x2, x3, x4, x5⟩ : MotionD) s day)).flatMap motionC := by
        have hx := HX.out
        rw [flat_set_at (f := motionC) (m := 6) (fun _ => rfl) (L := L) (j := j) (i := 4) (y := ⟨x0, x1, x2, x3, s, x5⟩) hjl (by omega) (by rw [hx]; rfl)]
        rw [flat_set_at (f := motionC) (m := 6) (fun _ => rfl) (L := L.set j ⟨x0, x1, x2, x3, s, x5⟩) (j := j) (i := 3) (y := ⟨x0, x1, x2, day, s, x5⟩) (by simpa using hjl) (by omega) (by simp [motionC])]
        rw [List.set_set]; rfl
      have hfin := (HS2.out).1
      rw [e2] at hfin
      have el : (L.set j (upM (⟨x0, x1, x2, x3, x4, x5⟩ : MotionD) s day)).length = L.length := by simp
      rw [el]
      exact rowPost2_mk (own_mono hfin hB2.size) (below_grown (below_grown hB3 HS1.out (Nat.le_refl _) (fun k hk => by cases hk; have := hB2.size; omega)) (HS2.out).2 (Nat.le_refl _) (fun k hk => by cases hk; have := hB2.size; omega))
  · rw [chgM_c (.inr hS) h0]
    rw [if_neg h0] at hcode
    have hne : (codeM L n day != 0) = true := by rw [bne_iff_ne]; exact h0
    have hne2 : (codeM L n day == 0) = false := by rw [beq_eq_false_iff_ne]; exact h0
    generalize codeM L n day = q at *
    have HCODE := Lib.hid hcode
    clear hcode h0
    go_enter Tryz.func152, Tryz.ntmps152
    go_wp2_with fail
    refine (impl_AreMotions A c L _ w hr hl hcap hW hT).mono ?_
    rintro e w0 ⟨rfl, hb0⟩
    go_wp2_with (first | (go_at_call 92; refine (within_b _ _ _ _ _ hS).mono ?_; rintro e w' ⟨rfl, rfl⟩))
    refine (HCODE.out w0 (rdW hb0 hr)).mono ?_
    rintro e w1 ⟨rfl, hb1⟩
    go_wp2
    go_ret2
    exact rowPost2_nil (bt hb0 hb1)


set_option maxRecDepth 100000 in
set_option maxHeartbeats 2000000 in
theorem spec_ChangeMotion (A : Option Addr) (c : Nat) (L : List MotionD) (n s day : Int) (w : World) (hr : Rd w w.heap.size A (L.length * 6) (L.flatMap motionC)) (hl : L.length ≤ 140737488355328) (hcap : L.length ≤ c) (hW : ∀ x ∈ L, MotionW x) :
    Calls Tryz.prog 91 #[.slice A L.length c, .int .i64 n, .int .i64 s, .int .i64 day] w (RowPost2 70 6 (chgM L n s day).1.length ((chgM L n s day).1.flatMap motionC) (chgM L n s day).2 w) := by
  cases hS : inB s 0 5
  · have hcode := l30Code_c A c L n (-1) w hr hl hcap hW
    rw [codeM_m1] at hcode
    cases hT : motsOk L
    · have hc1 : codeM L n day = 1 := by simp [codeM, hT]
      rw [chgM_c (.inl hT) (by omega), hc1]
      rw [hT, if_neg (by decide)] at hcode
      have HCODE := Lib.hid hcode
      have HC1 := Lib.hid hc1
      clear hc1 hcode
      go_enter Tryz.func91, Tryz.ntmps91
      go_wp2_with (first | (go_at_call 81; refine (l01In_b _ _ _ _ _ hS).mono ?_; rintro e w' ⟨rfl, rfl⟩))
      refine HCODE.out.mono ?_
      rintro e w1 ⟨rfl, hb1⟩
      go_wp2
      go_ret2
      exact rowPost2_nil hb1
    · rw [chgM_2 hT hS]
      rw [hT, if_pos rfl] at hcode
      have HCODE := Lib.hid hcode
      clear hcode
      go_enter Tryz.func91, Tryz.ntmps91
      go_wp2_with (first | (go_at_call 81; refine (l01In_b _ _ _ _ _ hS).mono ?_; rintro e w' ⟨rfl, rfl⟩))
      refine HCODE.out.mono ?_
      rintro e w1 ⟨rfl, hb1⟩
      go_wp2
      go_ret2
      exact rowPost2_nil hb1
  have hcode := l30Code_c A c L n day w hr hl hcap hW
  by_cases h0 : codeM L n day = 0
  · skip
    obtain ⟨hT, hD, j, hj, hjl⟩ := codeM_0 h0
    have h12 := mots_len hT
    have HBD := Lib.hid (mots_bds hT hjl)
    have HAF := Lib.hid (mots_after hT hjl)
    have hj0 : (0 : Int) ≤ (j : Int) := by omega
    have hjL : (j : Int) < L.length := by omega
    have hjc : (j : Int) ≤ (c : Int) := by omega
    have hL0 : 0 < L.length := by omega
    obtain ⟨i0, hi, hz0, hz1, hz2⟩ := info_parts motion_info
    have HO := Lib.hid (one_flat (fun a u hu => by simp only [motionC, List.mem_cons, List.not_mem_nil, or_false] at hu; rcases hu with rfl | rfl | rfl | rfl | rfl | rfl <;> rfl) L : ∀ u ∈ L.flatMap motionC, u.oneCell' = true)
    rw [h0] at hcode
    try rw [if_pos rfl] at hcode
    have HL := Lib.hid hL0
    have HCODE := Lib.hid hcode
    have HT := Lib.hid hT
    have HW := Lib.hid hW
    clear hcode hL0 hD hW
    cases hm : mayM L L[j] s day
    · rw [chgM_5 hS h0 hj hjl hm]
      have H0 := Lib.hid h0
      clear h0
      have HM := Lib.hid hm
      obtain ⟨bf, offf, rfl, hbf, hcf⟩ := Rd.elem motionC 6 (fun _ => rfl) (hr) (by omega) hjl
      have f0 : w.cell? ⟨bf, offf + j * 6, none⟩ = some (.int .i64 L[j].number) := hcf j hjl 0 _ rfl
      have f1 : w.cell? ⟨bf, offf + j * 6 + 1, none⟩ = some (.string L[j].party) := hcf j hjl 1 _ rfl
      have f2 : w.cell? ⟨bf, offf + j * 6 + 2, none⟩ = some (.int .i64 L[j].filed) := hcf j hjl 2 _ rfl
      have f3 : w.cell? ⟨bf, offf + j * 6 + 3, none⟩ = some (.int .i64 L[j].changed) := hcf j hjl 3 _ rfl
      have f4 : w.cell? ⟨bf, offf + j * 6 + 4, none⟩ = some (.int .i64 L[j].state) := hcf j hjl 4 _ rfl
      have f5 : w.cell? ⟨bf, offf + j * 6 + 5, none⟩ = some (.int .i64 L[j].after) := hcf j hjl 5 _ rfl
      have hb := HBD.out.2.1
      have hab := HAF.out
      clear hcf
      generalize hx : L[j] = x at *
      obtain ⟨x0, x1, x2, x3, x4, x5⟩ := x
      have HX := Lib.hid hx
      clear hx
      go_enter Tryz.func91, Tryz.ntmps91
      go_wp2_with (first | (go_at_call 81; refine (l01In_b _ _ _ _ _ hS).mono ?_; rintro e w' ⟨rfl, rfl⟩))
      refine HCODE.out.mono ?_
      rintro e w1 ⟨rfl, hb1⟩
      have hlt1 := hb1.size
      replace f0 := (hb1.cell (by (try simp only); omega)).trans f0
      replace f1 := (hb1.cell (by (try simp only); omega)).trans f1
      replace f2 := (hb1.cell (by (try simp only); omega)).trans f2
      replace f3 := (hb1.cell (by (try simp only); omega)).trans f3
      replace f4 := (hb1.cell (by (try simp only); omega)).trans f4
      replace f5 := (hb1.cell (by (try simp only); omega)).trans f5
      go_wp2_with fail
      refine (l30Find_c _ L.length c L n w1 rfl (rdW hb1 hr) hl).mono ?_
      rintro e w' ⟨rfl, rfl⟩
      try rw [hj]
      go_wp2_with fail
      refine (l30May_c _ c L _ _ _ _ _ _ _ _ _ w1 (rdW hb1 hr) hl hcap hb hab hm).mono ?_
      rintro e w2 ⟨rfl, hb2⟩
      have hB2 := bt hb1 hb2
      go_wp2
      go_ret2
      exact rowPost2_nil hB2
    · rw [chgM_0 hS h0 hj hjl hm]
      have H0 := Lib.hid h0
      clear h0
      have HM := Lib.hid hm
      obtain ⟨bf, offf, rfl, hbf, hcf⟩ := Rd.elem motionC 6 (fun _ => rfl) (hr) (by omega) hjl
      have f0 : w.cell? ⟨bf, offf + j * 6, none⟩ = some (.int .i64 L[j].number) := hcf j hjl 0 _ rfl
      have f1 : w.cell? ⟨bf, offf + j * 6 + 1, none⟩ = some (.string L[j].party) := hcf j hjl 1 _ rfl
      have f2 : w.cell? ⟨bf, offf + j * 6 + 2, none⟩ = some (.int .i64 L[j].filed) := hcf j hjl 2 _ rfl
      have f3 : w.cell? ⟨bf, offf + j * 6 + 3, none⟩ = some (.int .i64 L[j].changed) := hcf j hjl 3 _ rfl
      have f4 : w.cell? ⟨bf, offf + j * 6 + 4, none⟩ = some (.int .i64 L[j].state) := hcf j hjl 4 _ rfl
      have f5 : w.cell? ⟨bf, offf + j * 6 + 5, none⟩ = some (.int .i64 L[j].after) := hcf j hjl 5 _ rfl
      have hb := HBD.out.2.1
      have hab := HAF.out
      clear hcf
      generalize hx : L[j] = x at *
      obtain ⟨x0, x1, x2, x3, x4, x5⟩ := x
      have HX := Lib.hid hx
      clear hx
      go_enter Tryz.func91, Tryz.ntmps91
      go_wp2_with (first | (go_at_call 81; refine (l01In_b _ _ _ _ _ hS).mono ?_; rintro e w' ⟨rfl, rfl⟩))
      refine HCODE.out.mono ?_
      rintro e w1 ⟨rfl, hb1⟩
      have hlt1 := hb1.size
      replace f0 := (hb1.cell (by (try simp only); omega)).trans f0
      replace f1 := (hb1.cell (by (try simp only); omega)).trans f1
      replace f2 := (hb1.cell (by (try simp only); omega)).trans f2
      replace f3 := (hb1.cell (by (try simp only); omega)).trans f3
      replace f4 := (hb1.cell (by (try simp only); omega)).trans f4
      replace f5 := (hb1.cell (by (try simp only); omega)).trans f5
      go_wp2_with fail
      refine (l30Find_c _ L.length c L n w1 rfl (rdW hb1 hr) hl).mono ?_
      rintro e w' ⟨rfl, rfl⟩
      try rw [hj]
      go_wp2_with fail
      refine (l30May_c _ c L _ _ _ _ _ _ _ _ _ w1 (rdW hb1 hr) hl hcap hb hab hm).mono ?_
      rintro e w2 ⟨rfl, hb2⟩
      have hB2 := bt hb1 hb2
      clear f0 f1 f2 f3 f4 f5
      have HLI := Lib.hid (World.ownsRow_lit (base := w2.heap.size) (size := 6) (e := 70) w2 #[] 0 (Nat.le_refl _) (by unfold maxLen; omega) rfl)
      have HR := Lib.hid ((rdW hB2 hr).alloc (Nat.le_refl _) (.cells #[] 70))
      have hBx : Below w.heap.size w (w2.alloc (.cells #[] 70)) := hB2.alloc hB2.size _
      have HFIX : Hid (∀ (A2 : Option Addr) (c2 : Nat) (w3 : World), w3.ownsRow w2.heap.size 70 6 (.slice A2 L.length c2) L.length (L.flatMap motionC) → ∃ g u4 u3, A2 = some ⟨g, 0, none⟩ ∧ w2.heap.size ≤ g ∧ g < w3.heap.size ∧ w3.cell? ⟨g, j * 6 + 4, none⟩ = some u4 ∧ w3.cell? ⟨g, j * 6 + 3, none⟩ = some u3 ∧ w3.frozen? ⟨g, j * 6 + 4, none⟩ = false ∧ w3.frozen? ⟨g, j * 6 + 3, none⟩ = false ∧ L.length ≤ c2) := fun A2 c2 w3 ho => by
        obtain ⟨g, rfl, hg1, hg2⟩ := own_head ho HL.out
        obtain ⟨u4, f4⟩ := own_cell ho (j := j * 6 + 4) (by omega)
        obtain ⟨u3, f3⟩ := own_cell ho (j := j * 6 + 3) (by omega)
        exact ⟨g, u4, u3, rfl, hg1, hg2, f4, f3, ho.frozenAt _, ho.frozenAt _, (own_cap ho).1⟩
      go_wp2_with (first | (at_builtin; refine wpList_cat _ rfl (.tmp 35) (.tmp 36) 32 rfl w2.heap.size 70 i0 _ 6 56 Tryz.underlying32 hi hz0 hz1 hz2 rfl (by decide) (.slice (some ⟨w2.heap.size, 0, none⟩) 0 0) (0) ([]) (by rfl) HLI.out _ (L.length) c w2.heap.size (L.flatMap motionC) (by rfl) HR.out HO.out (by unfold maxLen; omega) (by omega) (by simp) ?_; intro A2 c2 w3 ho3 hg3; simp only [Nat.zero_add, List.nil_append] at ho3; obtain ⟨g, u4, u3, rfl, hg1, hg2, f4, f3, hz4, hz3, hcc⟩ := HFIX.out A2 c2 w3 ho3; have HO3 := Lib.hid ho3; clear ho3))
      have hB3 : Below w.heap.size w w3 := below_grown hBx hg3 (Nat.le_refl _) (fun k hk => by cases hk; exact hB2.size)
      have ho3 := HO3.out
      have hs1 := ho3.stored (j * 6 + 4) (.int .i64 s)
      have hs2 := hs1.1.stored (j * 6 + 3) (.int .i64 day)
      have HS1 := Lib.hid hs1.2
      have HS2 := Lib.hid hs2
      clear hs1 hs2 ho3
      go_ret2
      have e2 : ((L.flatMap motionC).set (j * 6 + 4) (.int .i64 s)).set (j * 6 + 3) (.int .i64 day) = (L.set j (upM (⟨x0, x1, x2, x3, x4, x5⟩ : MotionD) s day)).flatMap motionC := by
        have hx := HX.out
        rw [flat_set_at (f := motionC) (m := 6) (fun _ => rfl) (L := L) (j := j) (i := 4) (y := ⟨x0, x1, x2, x3, s, x5⟩) hjl (by omega) (by rw [hx]; rfl)]
        rw [flat_set_at (f := motionC) (m := 6) (fun _ => rfl) (L := L.set j ⟨x0, x1, x2, x3, s, x5⟩) (j := j) (i := 3) (y := ⟨x0, x1, x2, day, s, x5⟩) (by simpa using hjl) (by omega) (by simp [motionC])]
        rw [List.set_set]; rfl
      have hfin := (HS2.out).1
      rw [e2] at hfin
      have el : (L.set j (upM (⟨x0, x1, x2, x3, x4, x5⟩ : MotionD) s day)).length = L.length := by simp
      rw [el]
      exact rowPost2_mk (own_mono hfin hB2.size) (below_grown (below_grown hB3 HS1.out (Nat.le_refl _) (fun k hk => by cases hk; have := hB2.size; omega)) (HS2.out).2 (Nat.le_refl _) (fun k hk => by cases hk; have := hB2.size; omega))
  · rw [chgM_c (.inr hS) h0]
    have hne : (codeM L n day != 0) = true := by rw [bne_iff_ne]; exact h0
    have hne2 : (codeM L n day == 0) = false := by rw [beq_eq_false_iff_ne]; exact h0
    generalize codeM L n day = q at *
    have HCODE := Lib.hid hcode
    clear hcode h0
    go_enter Tryz.func91, Tryz.ntmps91
    go_wp2_with (first | (go_at_call 81; refine (l01In_b _ _ _ _ _ hS).mono ?_; rintro e w' ⟨rfl, rfl⟩))
    refine HCODE.out.mono ?_
    rintro e w1 ⟨rfl, hb1⟩
    go_wp2
    go_ret2
    exact rowPost2_nil hb1

end Go.Proofs.YtiamignopfhkfaaGreatDoor
end
section
namespace Go.Proofs.YtiamignopfhkfaaGreatDoor
open Go.RowKit
set_option linter.unusedVariables false
theorem calls_len {K : List CallD} (h : callsOk K = true) : K.length ≤ 20 := by
  simp only [callsOk, Bool.and_eq_true, decide_eq_true_eq] at h; exact h.2
theorem calls_at {K : List CallD} (h : callsOk K = true) {k : Nat} (hk : k < K.length) : callAt K k = true := by
  rcases hh : callAt K k with _ | _
  · rw [calls_false hk hh] at h; cases h
  · rfl
theorem calls_ok {K : List CallD} (h : callsOk K = true) {k : Nat} (hk : k < K.length) : callOk K[k] = true := by
  have := calls_at h hk
  rw [callAt_eq hk, Bool.and_eq_true] at this; exact this.1
theorem call_bds {x : CallD} (h : callOk x = true) : (1 ≤ x.number ∧ x.number ≤ 1000000) ∧ (0 ≤ x.day ∧ x.day ≤ 20000) ∧ (0 ≤ x.first ∧ x.first ≤ x.day) ∧ (0 ≤ x.moves ∧ x.moves ≤ 2) := by
  simp only [callOk, Bool.and_eq_true] at h
  exact ⟨inB_iff.1 h.1.1.1.1, inB_iff.1 h.1.1.1.2, inB_iff.1 h.1.1.2, inB_iff.1 h.1.2⟩
theorem calls_bds {K : List CallD} (h : callsOk K = true) {k : Nat} (hk : k < K.length) : (1 ≤ K[k].number ∧ K[k].number ≤ 1000000) ∧ (0 ≤ K[k].day ∧ K[k].day ≤ 20000) ∧ (0 ≤ K[k].first ∧ K[k].first ≤ K[k].day) ∧ (0 ≤ K[k].moves ∧ K[k].moves ≤ 2) := call_bds (calls_ok h hk)
def ltC (x y : CallD) : Prop := x.number < y.number
theorem calls_iff {K : List CallD} : callsOk K = true ↔ K.length ≤ 20 ∧ (∀ x ∈ K, callOk x = true) ∧ K.Pairwise ltC := by
  constructor
  · intro h
    refine ⟨calls_len h, fun x hx => ?_, ?_⟩
    · obtain ⟨i, hi, rfl⟩ := List.getElem_of_mem hx
      exact calls_ok h hi
    · rw [List.pairwise_iff_getElem]
      have step : ∀ i (hi : i + 1 < K.length), K[i].number < K[i + 1].number := fun i hi => by
        have := calls_at h hi
        rw [callAt_eq hi, Bool.and_eq_true, Bool.or_eq_true] at this
        rcases this.2 with h1 | h1
        · simp at h1
        · have h2 := of_decide_eq_true h1
          rw [List.getD_eq_getElem?_getD, show i + 1 - 1 = i by omega, List.getElem?_eq_getElem (show i < K.length by omega)] at h2
          simpa using h2
      have far : ∀ (m i : Nat) (hi : i + m + 1 < K.length), K[i].number < K[i + m + 1].number := by
        intro m
        induction m with
        | zero => intro i hi; exact step i hi
        | succ m ih =>
          intro i hi
          have h1 := ih i (by omega)
          have h2 := step (i + m + 1) (by omega)
          have e : i + (m + 1) + 1 = i + m + 1 + 1 := by omega
          simp only [e]; omega
      intro i j hi hj hij
      obtain ⟨m, rfl⟩ : ∃ m, j = i + m + 1 := ⟨j - i - 1, by omega⟩
      exact far m i hj
  · rintro ⟨h1, h2, h3⟩
    rw [calls_all (fun j hj => ?_)]
    · simpa using h1
    · rw [callAt_eq hj, h2 _ (List.getElem_mem hj)]
      by_cases h0 : j = 0
      · simp [h0]
      · rw [List.pairwise_iff_getElem] at h3
        have := h3 (j - 1) j (by omega) hj (by omega)
        rw [List.getD_eq_getElem?_getD, List.getElem?_eq_getElem (show j - 1 < K.length by omega)]
        have h4 : K[j - 1].number < K[j].number := this
        simp [h4]
/-- Where a call with a number is or would be; whether it is there. -/
def idxC (n : Int) (K : List CallD) : Nat := (K.takeWhile fun x => decide (x.number < n)).length
def hasC (n : Int) (K : List CallD) : Bool := match K[idxC n K]? with | none => false | some x => x.number == n
theorem idxC_le (n : Int) (K : List CallD) : idxC n K ≤ K.length := (List.takeWhile_sublist _).length_le
theorem idxC_eq {n : Int} : ∀ {K : List CallD} {k : Nat}, k ≤ K.length → (∀ j (hj : j < K.length), j < k → K[j].number < n) → (∀ hk : k < K.length, ¬ K[k].number < n) → idxC n K = k
  | [], k, hk, _, _ => by simp at hk; subst hk; rfl
  | a :: K, 0, _, _, E => by have := E (by simp); simp at this; simp [idxC, this]
  | a :: K, k + 1, hk, T, E => by
    have h0 : a.number < n := T 0 (by simp) (by omega)
    have ih := idxC_eq (n := n) (K := K) (k := k) (by simpa using hk) (fun j hj hlt => by have := T (j + 1) (by simp; omega) (by omega); simpa using this) (fun h => by have := E (by simp; omega); simpa using this)
    unfold idxC at ih ⊢
    rw [List.takeWhile_cons, if_pos (by simpa using h0)]
    simp [ih]
theorem idxC_below {n : Int} : ∀ {K : List CallD} {j : Nat} (hj : j < K.length), j < idxC n K → K[j].number < n
  | a :: K, 0, _, h => by
    unfold idxC at h
    rw [List.takeWhile_cons] at h
    split at h
    · rename_i h1; simpa using h1
    · simp at h
  | a :: K, j + 1, hj, h => by
    unfold idxC at h
    rw [List.takeWhile_cons] at h
    split at h
    · exact idxC_below (K := K) (j := j) (by simpa using hj) (by unfold idxC; simpa using h)
    · simp at h
theorem idxC_at {n : Int} : ∀ {K : List CallD} (hj : idxC n K < K.length), ¬ (K[idxC n K]'hj).number < n
  | a :: K, h => by
    by_cases h0 : a.number < n
    · have e : idxC n (a :: K) = idxC n K + 1 := by unfold idxC; rw [List.takeWhile_cons, if_pos (by simpa using h0)]; rfl
      have h1 : idxC n K < K.length := by rw [e] at h; simpa using h
      have := idxC_at (n := n) (K := K) h1
      simp only [e]
      simpa using this
    · have e : idxC n (a :: K) = 0 := by unfold idxC; rw [List.takeWhile_cons, if_neg (by simpa using h0)]; rfl
      simp only [e]; exact h0
theorem hasC_at {n : Int} {K : List CallD} (h : idxC n K < K.length) : hasC n K = (K[idxC n K].number == n) := by
  unfold hasC; rw [List.getElem?_eq_getElem h]
theorem hasC_end {n : Int} {K : List CallD} (h : ¬ idxC n K < K.length) : hasC n K = false := by
  unfold hasC; rw [List.getElem?_eq_none (by omega)]
theorem hasC_idx {n : Int} {K : List CallD} (h : hasC n K = true) : ∃ hj : idxC n K < K.length, (K[idxC n K]'hj).number = n := by
  by_cases h1 : idxC n K < K.length
  · rw [hasC_at h1] at h; exact ⟨h1, by simpa using h⟩
  · rw [hasC_end h1] at h; cases h
/-- The index of the call with a number, or -1. -/
def findC (n : Int) : List CallD → Int → Int
  | [], _ => -1
  | m :: L, i => if m.number = n then i else findC n L (i + 1)
theorem findC_hit {n : Int} {L : List CallD} {k : Nat} (hk : k < L.length) (h : L[k].number = n) (i : Int) : findC n (L.drop k) i = i := by
  rw [List.drop_eq_getElem_cons hk, findC, if_pos h]
theorem findC_miss {n : Int} {L : List CallD} {k : Nat} (hk : k < L.length) (h : L[k].number ≠ n) (i : Int) : findC n (L.drop k) i = findC n (L.drop (k + 1)) (i + 1) := by
  rw [List.drop_eq_getElem_cons hk, findC, if_neg h]
theorem findC_end {n : Int} {L : List CallD} {k : Nat} (hk : L.length ≤ k) (i : Int) : findC n (L.drop k) i = -1 := by
  rw [List.drop_of_length_le hk, findC]
theorem findC_none {n : Int} : ∀ (K : List CallD) (i : Int), (∀ x ∈ K, x.number ≠ n) → findC n K i = -1
  | [], _, _ => rfl
  | a :: K, i, h => by rw [findC, if_neg (h a (by simp))]; exact findC_none K _ (fun x hx => h x (by simp [hx]))
theorem findC_some {n : Int} : ∀ (K : List CallD) (j : Nat) (i : Int) (hj : j < K.length), (∀ m (hm : m < K.length), m < j → K[m].number ≠ n) → K[j].number = n → findC n K i = i + j
  | a :: K, 0, i, _, _, h => by rw [findC, if_pos (by simpa using h)]; simp
  | a :: K, j + 1, i, hj, h0, h => by
    rw [findC, if_neg (by have := h0 0 (by simp) (by omega); simpa using this), findC_some K j (i + 1) (by simpa using hj) (fun m hm hlt => by have := h0 (m + 1) (by simpa using hm) (by omega); simpa using this) (by simpa using h)]
    omega
theorem findC_eq {n : Int} {K : List CallD} (h : callsOk K = true) : findC n K 0 = if hasC n K then (idxC n K : Int) else -1 := by
  cases hh : hasC n K
  · refine findC_none K 0 (fun x hx e => ?_)
    obtain ⟨i, hi, rfl⟩ := List.getElem_of_mem hx
    have hp := (calls_iff.1 h).2.2
    rw [List.pairwise_iff_getElem] at hp
    by_cases h1 : i < idxC n K
    · have := idxC_below hi h1; omega
    · have h2 : idxC n K < K.length := by omega
      rw [hasC_at h2] at hh
      have h3 : K[idxC n K].number ≠ n := by simpa using hh
      have h4 := idxC_at h2
      by_cases h5 : idxC n K = i
      · subst h5; exact h3 e
      · have h6 : K[idxC n K].number < K[i].number := hp _ _ h2 hi (by omega)
        omega
  · obtain ⟨hj, e⟩ := hasC_idx hh
    rw [if_pos rfl, findC_some K _ 0 hj (fun m hm hlt => by have := idxC_below hm hlt; omega) e]
    omega
def insC (i : Nat) (K : List CallD) (x : CallD) : List CallD := K.take i ++ x :: K.drop i
theorem insC_len {i : Nat} {K : List CallD} (h : i ≤ K.length) (x : CallD) : (insC i K x).length = K.length + 1 := by simp [insC]; omega
theorem insC_ok {K : List CallD} (h : callsOk K = true) {n d : Int} (hn : inB n 1 1000000 = true) (hd : inB d 0 20000 = true) :
    callsOk (insC (idxC n K) K ⟨n, d, d, 0⟩) = (!hasC n K && decide (K.length ≠ 20)) := by
  obtain ⟨h1, h2, h3⟩ := calls_iff.1 h
  have hx : callOk ⟨n, d, d, 0⟩ = true := by
    have hd2 := inB_iff.1 hd
    simp [callOk, hn, hd, inB_true (Int.le_refl d |> fun _ => hd2.1) (Int.le_refl d), inB_true (show (0 : Int) ≤ 0 by omega) (show (0 : Int) ≤ 2 by omega)]
  rw [List.pairwise_iff_getElem] at h3
  by_cases hh : hasC n K = true
  · rw [hh]
    obtain ⟨hj, e⟩ := hasC_idx hh
    rw [show (!true && decide (K.length ≠ 20)) = false from rfl, ← Bool.not_eq_true]
    intro hc
    have hp := (calls_iff.1 hc).2.2
    rw [insC, List.pairwise_append] at hp
    have h4 := (List.pairwise_cons.1 hp.2.1).1 K[idxC n K] (by
      rw [List.drop_eq_getElem_cons hj]; exact List.mem_cons_self)
    have h5 : n < K[idxC n K].number := h4
    omega
  · have hh' : hasC n K = false := by simpa using hh
    rw [hh']
    by_cases h20 : K.length = 20
    · rw [show (!false && decide (K.length ≠ 20)) = false by simp [h20], ← Bool.not_eq_true]
      intro hc
      have := calls_len hc
      rw [insC_len (idxC_le n K)] at this
      omega
    · rw [show (!false && decide (K.length ≠ 20)) = true by simp [h20], calls_iff]
      refine ⟨by rw [insC_len (idxC_le n K)]; omega, fun x hx2 => ?_, ?_⟩
      · rw [insC] at hx2
        rcases List.mem_append.1 hx2 with hm | hm
        · exact h2 x (List.mem_of_mem_take hm)
        · rcases List.mem_cons.1 hm with hm | hm
          · rw [hm]; exact hx
          · exact h2 x (List.mem_of_mem_drop hm)
      · have hgt : ∀ x ∈ K.drop (idxC n K), n < x.number := fun x hm => by
          obtain ⟨i, hi, rfl⟩ := List.getElem_of_mem hm
          have hl : idxC n K < K.length := by simp at hi; omega
          rw [hasC_at hl] at hh'
          have e1 : K[idxC n K].number ≠ n := by simpa using hh'
          have e2 := idxC_at hl
          rw [List.getElem_drop]
          by_cases hi0 : i = 0
          · subst hi0; simp only [Nat.add_zero]; omega
          · have hi2 : idxC n K + i < K.length := by simp at hi; omega
            have : K[idxC n K].number < K[idxC n K + i].number := h3 _ _ hl hi2 (by omega)
            omega
        have hlt : ∀ x ∈ K.take (idxC n K), x.number < n := fun x hm => by
          obtain ⟨i, hi, rfl⟩ := List.getElem_of_mem hm
          rw [List.getElem_take]
          exact idxC_below (by simp at hi; omega) (by simp at hi; omega)
        have hp := (calls_iff.1 h).2.2
        rw [insC, List.pairwise_append]
        refine ⟨hp.sublist (List.take_sublist _ _), List.pairwise_cons.2 ⟨fun x hm => hgt x hm, hp.sublist (List.drop_sublist _ _)⟩, fun x hm y hy => ?_⟩
        have e1 := hlt x hm
        rcases List.mem_cons.1 hy with rfl | hy
        · exact e1
        · have := hgt y hy
          show x.number < y.number; omega
def addC (H : List Int) (K : List CallD) (n d : Int) : List CallD × Int :=
  if (holOk H && callsOk K) = true then (if (inB n 1 1000000 && inB d 0 20000) = true then (if (courtB H d && (!hasC n K && decide (K.length ≠ 20))) = true then (insC (idxC n K) K ⟨n, d, d, 0⟩, 0) else ([], 5)) else ([], 2)) else ([], 1)
def mayV (H : List Int) (x : CallD) (d : Int) : Bool := decide (x.moves < 2) && inB d (x.day + 1) (x.first + 180) && courtB H d
def codeC (H : List Int) (K : List CallD) (n d : Int) : Int :=
  if (holOk H && callsOk K) = true then (if inB d 0 20000 then (if hasC n K then 0 else 4) else 2) else 1
def getC (K : List CallD) (i : Nat) : CallD := K.getD i ⟨0, 0, 0, 0⟩
def upC (x : CallD) (d : Int) : CallD := ⟨x.number, x.first, d, x.moves + 1⟩
def moveC (H : List Int) (K : List CallD) (n d : Int) : List CallD × Int :=
  if codeC H K n d = 0 then (if mayV H (getC K (idxC n K)) d then (K.set (idxC n K) (upC (getC K (idxC n K)) d), 0) else ([], 5)) else ([], codeC H K n d)
def onC (K : List CallD) (d : Int) : List Int := (K.filter fun x => x.day == d).map (·.number)
def onP (K : List CallD) (d : Int) : List Int := if callsOk K then (if inB d 0 20000 then onC K d else []) else []
def onCode (K : List CallD) (d : Int) : Int := if callsOk K then (if inB d 0 20000 then 0 else 2) else 1
def roomB (H : List Int) (K : List CallD) (x : CallD) (room d : Int) : Bool := mayV H x d && decide (((onC K d).length : Int) < room)
def roomS (H : List Int) (K : List CallD) (x : CallD) (room : Int) : Nat → Int → Option Int
  | 0, _ => none
  | f + 1, d => if roomB H K x room d then some d else roomS H K x room f (d + 1)
def lastD (x : CallD) : Int := min (x.first + 180) 20000
def roomP (H : List Int) (K : List CallD) (n room : Int) : Int × Int :=
  if codeC H K n (if inB room 0 20 then 0 else -1) = 0 then (match roomS H K (getC K (idxC n K)) room (lastD (getC K (idxC n K)) - (getC K (idxC n K)).day).toNat ((getC K (idxC n K)).day + 1) with | some d => (d, 0) | none => (0, 5)) else (0, codeC H K n (if inB room 0 20 then 0 else -1))
theorem codeC_0 {H : List Int} {K : List CallD} {n d : Int} (h : codeC H K n d = 0) : (holOk H && callsOk K) = true ∧ inB d 0 20000 = true ∧ hasC n K = true := by
  unfold codeC at h
  split at h
  · rename_i h1
    split at h
    · rename_i h2
      split at h
      · rename_i h3; exact ⟨h1, h2, h3⟩
      · omega
    · omega
  · omega
theorem getC_at {K : List CallD} {i : Nat} (h : i < K.length) : getC K i = K[i] := by
  unfold getC; rw [List.getD_eq_getElem?_getD, List.getElem?_eq_getElem h]; rfl
theorem addC_good {H : List Int} {K : List CallD} {n d : Int} (h : (addC H K n d).2 = 0) : callsOk (addC H K n d).1 = true := by
  unfold addC at h ⊢
  split at h
  · rename_i h1
    rw [if_pos h1]
    split at h
    · rename_i h2
      rw [if_pos h2]
      split at h
      · rename_i h3
        rw [if_pos h3]
        simp only [Bool.and_eq_true] at h1 h2 h3
        rw [insC_ok h1.2 h2.1 h2.2]
        simp only [Bool.and_eq_true]
        exact h3.2
      · simp at h
    · simp at h
  · simp at h
theorem moveC_good {H : List Int} {K : List CallD} {n d : Int} (h : (moveC H K n d).2 = 0) : callsOk (moveC H K n d).1 = true := by
  unfold moveC at h ⊢
  split at h
  · rename_i h1
    rw [if_pos h1]
    split at h
    · rename_i h2
      rw [if_pos h2]
      obtain ⟨h3, h4, h5⟩ := codeC_0 h1
      simp only [Bool.and_eq_true] at h3
      obtain ⟨hj, e⟩ := hasC_idx h5
      rw [getC_at hj] at h2 ⊢
      simp only [mayV, Bool.and_eq_true, decide_eq_true_eq] at h2
      obtain ⟨⟨m1, m2⟩, m3⟩ := h2
      have m2' := inB_iff.1 m2
      have hb := calls_bds h3.2 hj
      have hd := inB_iff.1 h4
      obtain ⟨p1, p2, p3⟩ := calls_iff.1 h3.2
      rw [calls_iff]
      refine ⟨by simpa using p1, fun x hx => ?_, ?_⟩
      · rcases List.mem_or_eq_of_mem_set hx with hm | rfl
        · exact p2 x hm
        · have e1 : inB K[idxC n K].number 1 1000000 = true := inB_true hb.1.1 hb.1.2
          have e2 : inB K[idxC n K].first 0 d = true := inB_true hb.2.2.1.1 (by omega)
          have e3 : inB (K[idxC n K].moves + 1) 0 2 = true := inB_true (by omega) (by omega)
          have e4 : (d == K[idxC n K].first) = false := beq_eq_false_iff_ne.2 (by omega)
          have e5 : (K[idxC n K].moves + 1 == 0) = false := beq_eq_false_iff_ne.2 (by omega)
          simp only [callOk, upC, e1, h4, e2, e3, e4, e5]; rfl
      · rw [List.pairwise_iff_getElem] at p3 ⊢
        intro i j hi hj2 hij
        have q := p3 i j (by simpa using hi) (by simpa using hj2) hij
        have key : ∀ m (hm : m < (K.set (idxC n K) (upC K[idxC n K] d)).length), (K.set (idxC n K) (upC K[idxC n K] d))[m].number = (K[m]'(by simpa using hm)).number := fun m hm => by
          rw [List.getElem_set]
          split
          · rename_i e6; subst e6; rfl
          · rfl
        show _ < _
        rw [key i hi, key j hj2]; exact q
    · simp at h
  · rename_i h1; simp at h; exact absurd h h1
theorem addC_len {H : List Int} {K : List CallD} {n d : Int} : (addC H K n d).1.length ≤ 21 := by
  unfold addC
  split
  · rename_i h1
    simp only [Bool.and_eq_true] at h1
    have := calls_len h1.2
    split
    · split
      · rw [insC_len (idxC_le n K)]; omega
      · simp
    · simp
  · simp
theorem moveC_len {H : List Int} {K : List CallD} {n d : Int} : (moveC H K n d).1.length ≤ 20 := by
  unfold moveC
  split
  · rename_i h1
    have h3 := (codeC_0 h1).1
    simp only [Bool.and_eq_true] at h3
    have := calls_len h3.2
    split
    · simpa using this
    · simp
  · simp
theorem onC_len (K : List CallD) (d : Int) : (onC K d).length ≤ K.length := by
  rw [onC, List.length_map]; exact List.length_filter_le _ _
theorem onC_snoc {K : List CallD} {d : Int} {k : Nat} (hk : k < K.length) : onC (K.take (k + 1)) d = onC (K.take k) d ++ (if K[k].day == d then [K[k].number] else []) := by
  rw [List.take_succ_eq_append_getElem hk, onC, List.filter_append, List.map_append]
  cases h : K[k].day == d <;> simp [onC, h]
theorem roomS_hit {H : List Int} {K : List CallD} {x : CallD} {room d : Int} {f : Nat} (h : roomB H K x room d = true) : roomS H K x room (f + 1) d = some d := by rw [roomS, if_pos h]
theorem roomS_miss {H : List Int} {K : List CallD} {x : CallD} {room d : Int} {f : Nat} (h : roomB H K x room d = false) : roomS H K x room (f + 1) d = roomS H K x room f (d + 1) := by rw [roomS, if_neg (by rw [h]; simp)]
end Go.Proofs.YtiamignopfhkfaaGreatDoor
end
section
namespace Go.Proofs.YtiamignopfhkfaaGreatDoor
open Go.RowKit
set_option linter.unusedVariables false
structure DeskD where
  H : List Int
  K : List CallD
  M : List MotionD
def DGood (d : DeskD) : Prop := holOk d.H = true ∧ callsOk d.K = true ∧ motsOk d.M = true ∧ ∀ x ∈ d.M, MotionW x
theorem DGood.lens {d : DeskD} (h : DGood d) : d.H.length ≤ 40 ∧ d.K.length ≤ 20 ∧ d.M.length ≤ 12 := ⟨hol_len h.1, calls_len h.2.1, mots_len h.2.2.1⟩
def d0 : DeskD := ⟨[], [], []⟩
theorem d0_good : DGood d0 := ⟨rfl, rfl, rfl, fun x hx => by cases hx⟩
/-- The three rows. -/
def RowsW (B : Nat) (d : DeskD) (A1 A2 A3 : Option Addr) (c1 c2 c3 : Nat) (W : World) : Prop :=
  W.ownsRow B 2 1 (.slice A1 d.H.length c1) d.H.length (d.H.map (Value.int .i64)) ∧ W.ownsRow B 68 4 (.slice A2 d.K.length c2) d.K.length (d.K.flatMap callC) ∧ W.ownsRow B 70 6 (.slice A3 d.M.length c3) d.M.length (d.M.flatMap motionC)
theorem RowsW.below {B : Nat} {d : DeskD} {A1 A2 A3 : Option Addr} {c1 c2 c3 : Nat} {W W' : World} (h : RowsW B d A1 A2 A3 c1 c2 c3 W) (hb : Below W.heap.size W W') : RowsW B d A1 A2 A3 c1 c2 c3 W' :=
  ⟨own_below h.1 hb, own_below h.2.1 hb, own_below h.2.2 hb⟩
theorem RowsW.rd1 {B : Nat} {d : DeskD} {A1 A2 A3 : Option Addr} {c1 c2 c3 : Nat} {W : World} (h : RowsW B d A1 A2 A3 c1 c2 c3 W) : Rd W W.heap.size A1 d.H.length (d.H.map (Value.int .i64)) := Rd.of_own1 h.1
theorem RowsW.rd2 {B : Nat} {d : DeskD} {A1 A2 A3 : Option Addr} {c1 c2 c3 : Nat} {W : World} (h : RowsW B d A1 A2 A3 c1 c2 c3 W) : Rd W W.heap.size A2 (d.K.length * 4) (d.K.flatMap callC) := Rd.of_own h.2.1
theorem RowsW.rd3 {B : Nat} {d : DeskD} {A1 A2 A3 : Option Addr} {c1 c2 c3 : Nat} {W : World} (h : RowsW B d A1 A2 A3 c1 c2 c3 W) : Rd W W.heap.size A3 (d.M.length * 6) (d.M.flatMap motionC) := Rd.of_own h.2.2
theorem RowsW.caps {B : Nat} {d : DeskD} {A1 A2 A3 : Option Addr} {c1 c2 c3 : Nat} {W : World} (h : RowsW B d A1 A2 A3 c1 c2 c3 W) : d.H.length ≤ c1 ∧ d.K.length ≤ c2 ∧ d.M.length ≤ c3 := ⟨(own_cap h.1).1, (own_cap h.2.1).1, (own_cap h.2.2).1⟩
/-- A row's block is neither the desk's nor one of F. -/
def ApV (g : Nat) (F : Nat → Prop) (v : Value) : Prop := ∀ k, v.ownBlock = some k → k ≠ g ∧ ¬ F k
def DisV (v u : Value) : Prop := ∀ k, v.ownBlock = some k → u.ownBlock ≠ some k
/-- Block g holds a desk whose rows are the call's own, apart from one another and from the blocks F. -/
def DeskIn (B g : Nat) (F : Nat → Prop) (d : DeskD) (W : World) : Prop :=
  DGood d ∧ (B ≤ g ∧ g < W.heap.size ∧ ¬ F g ∧ ∀ k, F k → k < W.heap.size) ∧ (∀ i, W.frozen? ⟨g, i, none⟩ = false) ∧ ∃ A1 A2 A3 c1 c2 c3,
    (W.cell? ⟨g, 0, none⟩ = some (.slice A1 d.H.length c1) ∧ W.cell? ⟨g, 1, none⟩ = some (.slice A2 d.K.length c2) ∧ W.cell? ⟨g, 2, none⟩ = some (.slice A3 d.M.length c3)) ∧ RowsW B d A1 A2 A3 c1 c2 c3 W ∧
    (ApV g F (.slice A1 d.H.length c1) ∧ ApV g F (.slice A2 d.K.length c2) ∧ ApV g F (.slice A3 d.M.length c3)) ∧ DisV (.slice A1 d.H.length c1) (.slice A2 d.K.length c2) ∧ DisV (.slice A1 d.H.length c1) (.slice A3 d.M.length c3) ∧ DisV (.slice A2 d.K.length c2) (.slice A3 d.M.length c3)
theorem DeskIn.good {B g : Nat} {F : Nat → Prop} {d : DeskD} {W : World} (h : DeskIn B g F d W) : DGood d := h.1
theorem DeskIn.bds {B g : Nat} {F : Nat → Prop} {d : DeskD} {W : World} (h : DeskIn B g F d W) : B ≤ g ∧ g < W.heap.size := ⟨h.2.1.1, h.2.1.2.1⟩
theorem DeskIn.below {B g : Nat} {F : Nat → Prop} {d : DeskD} {W W' : World} (h : DeskIn B g F d W) (hb : Below W.heap.size W W') : DeskIn B g F d W' := by
  obtain ⟨h1, ⟨h2, h3, h4, h5⟩, h6, A1, A2, A3, c1, c2, c3, ⟨k1, k2, k3⟩, hr, ha, hd⟩ := h
  have hz := hb.size
  exact ⟨h1, ⟨h2, by omega, h4, fun k hk => by have := h5 k hk; omega⟩, fun i => (hb.frozen (p := ⟨g, i, none⟩) h3).trans (h6 i), A1, A2, A3, c1, c2, c3,
    ⟨(hb.cell (p := ⟨g, 0, none⟩) h3).trans k1, (hb.cell (p := ⟨g, 1, none⟩) h3).trans k2, (hb.cell (p := ⟨g, 2, none⟩) h3).trans k3⟩, hr.below hb, ha, hd⟩
theorem own_set {W : World} {base : Nat} {e : TypeId} {size n : Nat} {v : Value} {xs : List Value} (h : W.ownsRow base e size v n xs) {b : Nat} (hne : ∀ k, v.ownBlock = some k → k ≠ b) (j : Nat) (u : Value) : (W.setCell ⟨b, j, none⟩ u).ownsRow base e size v n xs :=
  h.kept (grown_set (World.grownBy.refl _ _)) (by
    cases e : v.ownBlock with
    | none => exact .inl rfl
    | some k => exact .inr (fun e2 => by injection e2 with e2; exact hne k e e2))
theorem RowsW.set {B g : Nat} {F : Nat → Prop} {d : DeskD} {A1 A2 A3 : Option Addr} {c1 c2 c3 : Nat} {W : World} (h : RowsW B d A1 A2 A3 c1 c2 c3 W) (ha : ApV g F (.slice A1 d.H.length c1) ∧ ApV g F (.slice A2 d.K.length c2) ∧ ApV g F (.slice A3 d.M.length c3)) (j : Nat) (u : Value) : RowsW B d A1 A2 A3 c1 c2 c3 (W.setCell ⟨g, j, none⟩ u) :=
  ⟨own_set h.1 (fun k hk => (ha.1 k hk).1) j u, own_set h.2.1 (fun k hk => (ha.2.1 k hk).1) j u, own_set h.2.2 (fun k hk => (ha.2.2 k hk).1) j u⟩
theorem own_blk {W : World} {base : Nat} {e : TypeId} {size n : Nat} {v : Value} {xs : List Value} (h : W.ownsRow base e size v n xs) : ∀ k, v.ownBlock = some k → base ≤ k ∧ k < W.heap.size := fun k hk => h.lt k hk
theorem DeskIn.setH {B g : Nat} {F : Nat → Prop} {d : DeskD} {W W' : World} {L : List Int} {A : Option Addr} {c : Nat} (h : DeskIn B g F d W) (hb : Below W.heap.size W W') (ho : W'.ownsRow W.heap.size 2 1 (.slice A L.length c) L.length (L.map (Value.int .i64))) (hg : holOk L = true) :
    DeskIn B g F ⟨L, d.K, d.M⟩ (W'.setCell ⟨g, 0, none⟩ (.slice A L.length c)) := by
  obtain ⟨h1, ⟨h2, h3, h4, h5⟩, h6, A1, A2, A3, c1, c2, c3, ⟨k1, k2, k3⟩, hr, ha, hd1, hd2, hd3⟩ := h
  have hz := hb.size
  have hn := own_blk ho
  have hAp : ApV g F (.slice A L.length c) := fun k hk => by
    have h9 := hn k hk
    exact ⟨by omega, fun hF => by have := h5 k hF; omega⟩
  have hr' := (hr.below hb).set ha 0 (.slice A L.length c)
  refine ⟨⟨hg, h1.2⟩, ⟨h2, by simp [World.setCell]; omega, h4, fun k hk => by have := h5 k hk; simp [World.setCell]; omega⟩, fun i => by rw [World.frozen?_setCell]; exact (hb.frozen (p := ⟨g, i, none⟩) h3).trans (h6 i), A, A2, A3, c, c2, c3, ?_, ⟨own_mono (own_set ho (fun k hk => (hAp k hk).1) _ _) (by omega), hr'.2.1, hr'.2.2⟩, ⟨hAp, ha.2⟩, ?_, ?_, hd3⟩
  · have f0 := (hb.cell (p := ⟨g, 0, none⟩) h3).trans k1
    have f1 := (hb.cell (p := ⟨g, 1, none⟩) h3).trans k2
    have f2 := (hb.cell (p := ⟨g, 2, none⟩) h3).trans k3
    exact ⟨by simp [go_sem, f0], by simp [go_sem, f1], by simp [go_sem, f2]⟩
  · intro k hk e
    have h9 := hn k hk
    have h10 := own_blk hr.2.1 k e
    omega
  · intro k hk e
    have h9 := hn k hk
    have h10 := own_blk hr.2.2 k e
    omega
theorem DeskIn.setK {B g : Nat} {F : Nat → Prop} {d : DeskD} {W W' : World} {L : List CallD} {A : Option Addr} {c : Nat} (h : DeskIn B g F d W) (hb : Below W.heap.size W W') (ho : W'.ownsRow W.heap.size 68 4 (.slice A L.length c) L.length (L.flatMap callC)) (hg : callsOk L = true) :
    DeskIn B g F ⟨d.H, L, d.M⟩ (W'.setCell ⟨g, 1, none⟩ (.slice A L.length c)) := by
  obtain ⟨h1, ⟨h2, h3, h4, h5⟩, h6, A1, A2, A3, c1, c2, c3, ⟨k1, k2, k3⟩, hr, ha, hd1, hd2, hd3⟩ := h
  have hz := hb.size
  have hn := own_blk ho
  have hAp : ApV g F (.slice A L.length c) := fun k hk => by
    have h9 := hn k hk
    exact ⟨by omega, fun hF => by have := h5 k hF; omega⟩
  have hr' := (hr.below hb).set ha 1 (.slice A L.length c)
  refine ⟨⟨h1.1, hg, h1.2.2⟩, ⟨h2, by simp [World.setCell]; omega, h4, fun k hk => by have := h5 k hk; simp [World.setCell]; omega⟩, fun i => by rw [World.frozen?_setCell]; exact (hb.frozen (p := ⟨g, i, none⟩) h3).trans (h6 i), A1, A, A3, c1, c, c3, ?_, ⟨hr'.1, own_mono (own_set ho (fun k hk => (hAp k hk).1) _ _) (by omega), hr'.2.2⟩, ⟨ha.1, hAp, ha.2.2⟩, ?_, hd2, ?_⟩
  · have f0 := (hb.cell (p := ⟨g, 0, none⟩) h3).trans k1
    have f1 := (hb.cell (p := ⟨g, 1, none⟩) h3).trans k2
    have f2 := (hb.cell (p := ⟨g, 2, none⟩) h3).trans k3
    exact ⟨by simp [go_sem, f0], by simp [go_sem, f1], by simp [go_sem, f2]⟩
  · intro k hk e
    have h9 := hn k e
    have h10 := own_blk hr.1 k hk
    omega
  · intro k hk e
    have h9 := hn k hk
    have h10 := own_blk hr.2.2 k e
    omega
theorem DeskIn.setM {B g : Nat} {F : Nat → Prop} {d : DeskD} {W W' : World} {L : List MotionD} {A : Option Addr} {c : Nat} (h : DeskIn B g F d W) (hb : Below W.heap.size W W') (ho : W'.ownsRow W.heap.size 70 6 (.slice A L.length c) L.length (L.flatMap motionC)) (hg : motsOk L = true) (hW : ∀ x ∈ L, MotionW x) :
    DeskIn B g F ⟨d.H, d.K, L⟩ (W'.setCell ⟨g, 2, none⟩ (.slice A L.length c)) := by
  obtain ⟨h1, ⟨h2, h3, h4, h5⟩, h6, A1, A2, A3, c1, c2, c3, ⟨k1, k2, k3⟩, hr, ha, hd1, hd2, hd3⟩ := h
  have hz := hb.size
  have hn := own_blk ho
  have hAp : ApV g F (.slice A L.length c) := fun k hk => by
    have h9 := hn k hk
    exact ⟨by omega, fun hF => by have := h5 k hF; omega⟩
  have hr' := (hr.below hb).set ha 2 (.slice A L.length c)
  refine ⟨⟨h1.1, h1.2.1, hg, hW⟩, ⟨h2, by simp [World.setCell]; omega, h4, fun k hk => by have := h5 k hk; simp [World.setCell]; omega⟩, fun i => by rw [World.frozen?_setCell]; exact (hb.frozen (p := ⟨g, i, none⟩) h3).trans (h6 i), A1, A2, A, c1, c2, c, ?_, ⟨hr'.1, hr'.2.1, own_mono (own_set ho (fun k hk => (hAp k hk).1) _ _) (by omega)⟩, ⟨ha.1, ha.2.1, hAp⟩, hd1, ?_, ?_⟩
  · have f0 := (hb.cell (p := ⟨g, 0, none⟩) h3).trans k1
    have f1 := (hb.cell (p := ⟨g, 1, none⟩) h3).trans k2
    have f2 := (hb.cell (p := ⟨g, 2, none⟩) h3).trans k3
    exact ⟨by simp [go_sem, f0], by simp [go_sem, f1], by simp [go_sem, f2]⟩
  · intro k hk e
    have h9 := hn k e
    have h10 := own_blk hr.1 k hk
    omega
  · intro k hk e
    have h9 := hn k e
    have h10 := own_blk hr.2.1 k hk
    omega
/-- The blocks F may be changed for others that lie behind all memory, or for fewer. -/
theorem DeskIn.apart {B g : Nat} {F G : Nat → Prop} {d : DeskD} {W : World} (h : DeskIn B g F d W) (hG : ∀ k, G k → F k) : DeskIn B g G d W := by
  obtain ⟨h1, ⟨h2, h3, h4, h5⟩, h6, A1, A2, A3, c1, c2, c3, hk, hr, ⟨a1, a2, a3⟩, hd⟩ := h
  exact ⟨h1, ⟨h2, h3, fun hh => h4 (hG _ hh), fun k hk => h5 k (hG k hk)⟩, h6, A1, A2, A3, c1, c2, c3, hk, hr, ⟨fun k hk => ⟨(a1 k hk).1, fun hh => (a1 k hk).2 (hG _ hh)⟩, fun k hk => ⟨(a2 k hk).1, fun hh => (a2 k hk).2 (hG _ hh)⟩, fun k hk => ⟨(a3 k hk).1, fun hh => (a3 k hk).2 (hG _ hh)⟩⟩, hd⟩
/-- A change of one block of F, or of new memory. -/
theorem DeskIn.far {B g : Nat} {F G : Nat → Prop} {d : DeskD} {W W' : World} {row : Option Nat} (h : DeskIn B g F d W) (hg : W.grownBy W' row) (hrow : ∀ k, row = some k → F k) (hG : ∀ k, G k → (F k ∨ W.heap.size ≤ k) ∧ k < W'.heap.size) : DeskIn B g G d W' := by
  obtain ⟨h1, ⟨h2, h3, h4, h5⟩, h6, A1, A2, A3, c1, c2, c3, ⟨k1, k2, k3⟩, hr, ⟨a1, a2, a3⟩, hd⟩ := h
  have hz := hg.size
  have hgr : some g ≠ row := fun e => h4 (hrow g e.symm)
  have nb : ∀ v, ApV g F v → v.ownBlock = none ∨ v.ownBlock ≠ row := fun v hv => by
    cases e : v.ownBlock with
    | none => exact .inl rfl
    | some k => exact .inr (fun e2 => (hv k e).2 (hrow k e2.symm))
  have ap : ∀ v n xs e size, W.ownsRow B e size v n xs → ApV g F v → ApV g G v := fun v n xs e size ho hv k hk => ⟨(hv k hk).1, fun hh => by
    rcases (hG k hh).1 with h9 | h9
    · exact (hv k hk).2 h9
    · have := (own_blk ho k hk).2; omega⟩
  exact ⟨h1, ⟨h2, by omega, fun hh => by
      rcases (hG g hh).1 with h9 | h9
      · exact h4 h9
      · omega, fun k hk => (hG k hk).2⟩, fun i => (hg.frozen_far ⟨g, i, none⟩ h3 hgr).trans (h6 i), A1, A2, A3, c1, c2, c3,
    ⟨(hg.cell_far ⟨g, 0, none⟩ h3 hgr).trans k1, (hg.cell_far ⟨g, 1, none⟩ h3 hgr).trans k2, (hg.cell_far ⟨g, 2, none⟩ h3 hgr).trans k3⟩,
    ⟨hr.1.kept hg (nb _ a1), hr.2.1.kept hg (nb _ a2), hr.2.2.kept hg (nb _ a3)⟩, ⟨ap _ _ _ _ _ hr.1 a1, ap _ _ _ _ _ hr.2.1 a2, ap _ _ _ _ _ hr.2.2 a3⟩, hd⟩
end Go.Proofs.YtiamignopfhkfaaGreatDoor
end
