/- Contracts: motions: isMotion, motionOf, AreMotions of both texts. -/
import Derived.Test.YtiamignopfhkfaaGreatDoorZ2
namespace Go.Proofs.YtiamignopfhkfaaGreatDoor
open Go.RowKit

def motOk (m : MotionD) : Bool := inB m.number 1 1000 && isWordB m.party && inB m.filed 0 20000 && inB m.changed m.filed 20000 && inB m.state 0 5 && (m.state != 0 || m.changed == m.filed)
def findM (n : Int) : List MotionD → Int → Int
  | [], _ => -1
  | m :: L, i => if m.number = n then i else findM n L (i + 1)
theorem findM_hit {n : Int} {L : List MotionD} {k : Nat} (hk : k < L.length) (h : L[k].number = n) (i : Int) : findM n (L.drop k) i = i := by
  rw [List.drop_eq_getElem_cons hk, findM, if_pos h]
theorem findM_miss {n : Int} {L : List MotionD} {k : Nat} (hk : k < L.length) (h : L[k].number ≠ n) (i : Int) : findM n (L.drop k) i = findM n (L.drop (k + 1)) (i + 1) := by
  rw [List.drop_eq_getElem_cons hk, findM, if_neg h]
theorem findM_end {n : Int} {L : List MotionD} {k : Nat} (hk : L.length ≤ k) (i : Int) : findM n (L.drop k) i = -1 := by
  rw [List.drop_eq_nil_of_le hk]; rfl
def motAt (L : List MotionD) (k : Nat) : Bool :=
  match L[k]? with
  | none => true
  | some m => motOk m && (decide (k = 0) || decide ((L.getD (k - 1) default).number < m.number)) && (m.after == 0 || decide (0 ≤ findM m.after (L.take k) 0))
def motsOk (L : List MotionD) : Bool := (List.range L.length).all (motAt L) && decide (L.length ≤ 12)
theorem motAt_eq {L : List MotionD} {k : Nat} (hk : k < L.length) :
    motAt L k = (motOk L[k] && (decide (k = 0) || decide ((L.getD (k - 1) default).number < L[k].number)) && (L[k].after == 0 || decide (0 ≤ findM L[k].after (L.take k) 0))) := by
  simp [motAt, List.getElem?_eq_getElem hk]
theorem mots_false {L : List MotionD} {k : Nat} (hk : k < L.length) (h : motAt L k = false) : motsOk L = false := by
  have : (List.range L.length).all (motAt L) = false := by
    rw [← Bool.not_eq_true, List.all_eq_true]
    intro hh
    have := hh k (by simp [hk])
    rw [h] at this; cases this
  simp [motsOk, this]
theorem mots_all {L : List MotionD} (h : ∀ j, j < L.length → motAt L j = true) : motsOk L = decide (L.length ≤ 12) := by
  have : (List.range L.length).all (motAt L) = true := by
    rw [List.all_eq_true]; intro x hx; exact h x (by simpa using hx)
  simp [motsOk, this]
theorem motAt_step {L : List MotionD} {k : Nat} (H : Hid (∀ j, j < k → motAt L j = true)) (h : motAt L k = true) : Hid (∀ j, j < k + 1 → motAt L j = true) := by
  intro j hj
  by_cases e : j = k
  · subst e; exact h
  · exact H.out j (by omega)

theorem isMotion_b (a0 : Int) (a1 : ByteArray) (a2 a3 a4 a5 : Int) (b : Bool) (w : World) (hs : a1.size ≤ 9223372036854775807) (h : motOk ⟨a0, a1, a2, a3, a4, a5⟩ = b) : Calls Tryz.prog 78 #[.agg #[.int .i64 a0, .string a1, .int .i64 a2, .int .i64 a3, .int .i64 a4, .int .i64 a5]] w fun e w' => e = .returned (.bool b) ∧ Below w.heap.size w w' := by
  have HB := Lib.hid h; clear h
  go_enter Tryz.func78, Tryz.ntmps78
  go_wp2_with (first | (go_at_call 92; refine (within_b _ _ _ _ _ rfl).mono ?_; rintro e w' ⟨rfl, rfl⟩) | (go_at_call 94; refine (isDay_b _ _ _ rfl).mono ?_; rintro e w' ⟨rfl, rfl⟩) | (go_at_call 95; refine (impl_IsWord _ _ _ (by assumption) rfl).mono ?_; rintro e w' ⟨rfl, rfl⟩))
  all_goals (go_ret; exact ⟨ret_bool (by rw [← HB.out]; unfold motOk; simp_all), (Below.refl _ _).alloc (Nat.le_refl _) _⟩)

theorem motionOf_c (A : Option Addr) (n c : Nat) (L : List MotionD) (q : Int) (w : World) (hn : L.length = n) (hr : Rd w w.heap.size A (n * 6) (L.flatMap motionC)) (hl : n ≤ 140737488355328) :
    Calls Tryz.prog 79 #[.slice A n c, .int .i64 q] w fun e w' => e = .returned (.int .i64 (findM q L 0)) ∧ Below w.heap.size w w' := by
  subst hn
  go_enter Tryz.func79, Tryz.ntmps79
  go_wp2
  go_loopw [9] (fun i wr => ∃ k : Nat, k ≤ L.length ∧ i = .int .i64 k ∧ Below w.heap.size w wr ∧ Hid (findM q L 0 = findM q (L.drop k) k)) (fun i _ => L.length - (intOf i).toNat)
  case atStart => exact ⟨0, by omega, rfl, Below.refl _ _, rfl⟩
  case round =>
    obtain ⟨k, hk, rfl, hB, HF⟩ := hrel
    by_cases hlt : k < L.length
    · obtain ⟨bf, offf, rfl, hbf, hcf⟩ := Rd.elem motionC 6 (fun _ => rfl) (hr.below hB) (by omega) hlt
      have f0 : wr.cell? ⟨bf, offf + k * 6, none⟩ = some (.int .i64 L[k].number) := hcf k hlt 0 _ rfl
      have f1 : wr.cell? ⟨bf, offf + k * 6 + 1, none⟩ = some (.string L[k].party) := hcf k hlt 1 _ rfl
      have f2 : wr.cell? ⟨bf, offf + k * 6 + 2, none⟩ = some (.int .i64 L[k].filed) := hcf k hlt 2 _ rfl
      have f3 : wr.cell? ⟨bf, offf + k * 6 + 3, none⟩ = some (.int .i64 L[k].changed) := hcf k hlt 3 _ rfl
      have f4 : wr.cell? ⟨bf, offf + k * 6 + 4, none⟩ = some (.int .i64 L[k].state) := hcf k hlt 4 _ rfl
      have f5 : wr.cell? ⟨bf, offf + k * 6 + 5, none⟩ = some (.int .i64 L[k].after) := hcf k hlt 5 _ rfl
      have hk' : (k : Int) < L.length := by omega
      clear hcf
      by_cases he : L[k].number = q
      · have HR := Lib.hid (findM_hit hlt he (k : Int))
        have hb : (L[k].number == q) = true := by simp [he]
        have HE := Lib.hid he; clear he
        go_wp2
        go_ret
        exact ⟨ret_int (by rw [HF.out, HR.out]), hB.alloc hB.size _⟩
      · have HR := Lib.hid (findM_miss hlt he (k : Int))
        have hb : (L[k].number == q) = false := by simp [he]
        have HE := Lib.hid he; clear he
        go_wp2
        go_roundw
        case rel => exact ⟨k + 1, by omega, by go_num, hB.alloc hB.size _, HF.out.trans HR.out⟩
        case measure => simp [intOf]; omega
    · have HR := Lib.hid (findM_end (n := q) (L := L) (k := k) (by omega) (k : Int))
      go_wp2
      go_ret
      exact ⟨ret_int (by rw [HF.out, HR.out]), hB⟩

theorem l30Find_c (A : Option Addr) (n c : Nat) (L : List MotionD) (q : Int) (w : World) (hn : L.length = n) (hr : Rd w w.heap.size A (n * 6) (L.flatMap motionC)) (hl : n ≤ 140737488355328) :
    Calls Tryz.prog 83 #[.slice A n c, .int .i64 q] w fun e w' => e = .returned (.int .i64 (findM q L 0)) ∧ w = w' := by
  subst hn
  go_enter Tryz.func83, Tryz.ntmps83
  go_wp2
  go_loop [5] (fun i => ∃ k : Nat, k ≤ L.length ∧ i = .int .i64 k ∧ Hid (findM q L 0 = findM q (L.drop k) k)) (fun i => L.length - (intOf i).toNat)
  case atStart => exact ⟨0, by omega, rfl, rfl⟩
  case round =>
    obtain ⟨k, hk, rfl, HF⟩ := hrel
    by_cases hlt : k < L.length
    · obtain ⟨bf, offf, rfl, hbf, hcf⟩ := Rd.elem motionC 6 (fun _ => rfl) (hr) (by omega) hlt
      have f0 : w.cell? ⟨bf, offf + k * 6, none⟩ = some (.int .i64 L[k].number) := hcf k hlt 0 _ rfl
      have f1 : w.cell? ⟨bf, offf + k * 6 + 1, none⟩ = some (.string L[k].party) := hcf k hlt 1 _ rfl
      have f2 : w.cell? ⟨bf, offf + k * 6 + 2, none⟩ = some (.int .i64 L[k].filed) := hcf k hlt 2 _ rfl
      have f3 : w.cell? ⟨bf, offf + k * 6 + 3, none⟩ = some (.int .i64 L[k].changed) := hcf k hlt 3 _ rfl
      have f4 : w.cell? ⟨bf, offf + k * 6 + 4, none⟩ = some (.int .i64 L[k].state) := hcf k hlt 4 _ rfl
      have f5 : w.cell? ⟨bf, offf + k * 6 + 5, none⟩ = some (.int .i64 L[k].after) := hcf k hlt 5 _ rfl
      clear hcf
      by_cases he : L[k].number = q
      · have HR := Lib.hid (findM_hit hlt he (k : Int))
        have hb : (L[k].number == q) = true := by simp [he]
        have HE := Lib.hid he; clear he
        go_wp2
        go_ret
        exact ⟨ret_int (by rw [HF.out, HR.out]), rfl⟩
      · have HR := Lib.hid (findM_miss hlt he (k : Int))
        have hb : (L[k].number == q) = false := by simp [he]
        have HE := Lib.hid he; clear he
        go_wp2
        go_round
        case rel => exact ⟨k + 1, by omega, by go_num, HF.out.trans HR.out⟩
        case measure => simp [intOf]; omega
    · have HR := Lib.hid (findM_end (n := q) (L := L) (k := k) (by omega) (k : Int))
      go_wp2
      go_ret
      exact ⟨ret_int (by rw [HF.out, HR.out]), rfl⟩

set_option maxHeartbeats 4000000 in
theorem impl_AreMotions (A : Option Addr) (c : Nat) (L : List MotionD) (b : Bool) (w : World) (hr : Rd w w.heap.size A (L.length * 6) (L.flatMap motionC)) (hl : L.length ≤ 140737488355328) (hcap : L.length ≤ c) (hW : ∀ x ∈ L, MotionW x) (h : motsOk L = b) :
    Calls Tryz.prog 55 #[.slice A L.length c] w fun e w' => e = .returned (.bool b) ∧ Below w.heap.size w w' := by
  have HB := Lib.hid h; have HW := Lib.hid hW; clear h hW
  go_enter Tryz.func55, Tryz.ntmps55
  go_wp2
  go_loopw [7] (fun i wr => ∃ k : Nat, k ≤ L.length ∧ i = .int .i64 k ∧ Below w.heap.size w wr ∧ Hid (∀ j, j < k → motAt L j = true)) (fun i _ => L.length - (intOf i).toNat)
  case atStart => exact ⟨0, by omega, rfl, Below.refl _ _, fun j hj => absurd hj (by omega)⟩
  case round =>
    obtain ⟨k, hk, rfl, hB, HT⟩ := hrel
    by_cases hlt : k < L.length
    · have HR := Lib.hid (Rd.take_ (f := motionC) (m := 6) (fun _ => rfl) (rdW hB hr) (Nat.le_of_lt hlt))
      have HLk := Lib.hid (show (L.take k).length = k by rw [List.length_take]; omega)
      obtain ⟨bf, offf, rfl, hbf, hcf⟩ := Rd.elem motionC 6 (fun _ => rfl) (rdW hB hr) (by omega) hlt
      have f0 : wr.cell? ⟨bf, offf + k * 6, none⟩ = some (.int .i64 L[k].number) := hcf k hlt 0 _ rfl
      have f1 : wr.cell? ⟨bf, offf + k * 6 + 1, none⟩ = some (.string L[k].party) := hcf k hlt 1 _ rfl
      have f2 : wr.cell? ⟨bf, offf + k * 6 + 2, none⟩ = some (.int .i64 L[k].filed) := hcf k hlt 2 _ rfl
      have f3 : wr.cell? ⟨bf, offf + k * 6 + 3, none⟩ = some (.int .i64 L[k].changed) := hcf k hlt 3 _ rfl
      have f4 : wr.cell? ⟨bf, offf + k * 6 + 4, none⟩ = some (.int .i64 L[k].state) := hcf k hlt 4 _ rfl
      have f5 : wr.cell? ⟨bf, offf + k * 6 + 5, none⟩ = some (.int .i64 L[k].after) := hcf k hlt 5 _ rfl
      have hp0 : 0 < k → wr.cell? ⟨bf, offf + (k - 1) * 6, none⟩ = some (.int .i64 (L.getD (k - 1) default).number) := by
        intro h0
        rw [List.getD_eq_getElem?_getD, List.getElem?_eq_getElem (show k - 1 < L.length by omega)]
        exact hcf (k - 1) (by omega) 0 _ rfl
      have T := Lib.hid (motAt_eq hlt)
      obtain ⟨_, hs, _⟩ := HW.out _ (List.getElem_mem hlt)
      unfold maxLen at hs
      have hk' : (k : Int) < L.length := by omega
      have hk0 : (0 : Int) ≤ (k : Int) := by omega
      have hkc : (k : Int) ≤ (c : Int) := by omega
      have HM : Hid (motOk L[k] = motOk ⟨L[k].number, L[k].party, L[k].filed, L[k].changed, L[k].state, L[k].after⟩) := rfl
      clear hcf
      generalize L[k] = x at *
      generalize (L.getD (k - 1) default).number = p at *
      obtain ⟨x0, x1, x2, x3, x4, x5⟩ := x
      go_wp2_with fail
      generalize hW1 : wr.alloc _ = W1
      have hbW1 : Below wr.heap.size wr W1 := by subst hW1; exact (Below.refl _ _).alloc (Nat.le_refl _) _
      have hsW1 : W1.heap.size = wr.heap.size + 1 := by subst hW1; simp
      have cxW1_0 : ∀ i, W1.cell? ⟨wr.heap.size, i, none⟩ = (#[.int .i64 x0, .string x1, .int .i64 x2, .int .i64 x3, .int .i64 x4, .int .i64 x5] : Array Value)[i]? := by intro i; subst hW1; simp [go_sem]
      have HSW1 := Lib.hid hsW1; clear hW1 hsW1
      have g3 := fun h => (hbW1.cell (by exact hbf)).trans (hp0 h)
      have hbb := bt hB hbW1
      have hs4 := HSW1.out
      have k0 := block_regrown cxW1_0 (by omega)
      have k3 := fun h => cell_regrown (g3 h)
      have HR1 := Lib.hid (rdW hbW1 HR.out)
      clear g3 hp0 f0 f1 f2 f3 f4 f5 cxW1_0 hs4
      refine wp_region_bel mixed (by kernel_rfl) ?_
      repeat (any_goals (first | go_big_quiet_step ((first | exact rg_below (isMotion_b _ _ _ _ _ _ _ _ (by assumption) rfl) | exact rg_below (motionOf_c _ _ _ (L.take k) _ _ HLk.out (by exact rdW (below_regrown _ _ _) HR1.out) (by omega)))) | quiet_step ((first | exact rg_below (isMotion_b _ _ _ _ _ _ _ _ (by assumption) rfl) | exact rg_below (motionOf_c _ _ _ (L.take k) _ _ HLk.out (by exact rdW (below_regrown _ _ _) HR1.out) (by omega)))) | (refine wpQuiet_step (fun K hK => ?_); go_simp; (split <;> first | (refine hK _ ?_; clear hK K) | (apply Exists.intro; refine ⟨fun _ => ?_, hK _ ?_⟩; ((first | exact rg_below (isMotion_b _ _ _ _ _ _ _ _ (by assumption) rfl) | exact rg_below (motionOf_c _ _ _ (L.take k) _ _ HLk.out (by exact rdW (below_regrown _ _ _) HR1.out) (by omega)))); clear hK K)))))
      all_goals (refine wpQuiet_nil ?_; intro w1 hw1)
      all_goals go_wp2
      all_goals first
        | (go_ret
           exact ⟨ret_bool (by rw [← HB.out]; exact (mots_false hlt (by rw [T.out]; simp_all <;> omega)).symm), bt hbb hw1⟩)
        | (go_roundw
           case rel => exact ⟨k + 1, by omega, by go_num, bt hbb hw1, motAt_step HT (by rw [T.out]; simp_all <;> omega)⟩
           case measure => simp [intOf]; omega)
    · have hkl : k = L.length := by omega
      subst hkl
      have HF := Lib.hid (mots_all HT.out)
      clear hlt HT
      go_wp2_with (first | (go_at_call 61; refine (few_b _ _ _ _ rfl).mono ?_; rintro e w' ⟨rfl, rfl⟩))
      go_ret
      exact ⟨ret_bool (by rw [← HB.out, HF.out]; congr 1; simp <;> omega), hB⟩

set_option maxRecDepth 100000 in
set_option maxHeartbeats 8000000 in
theorem spec_AreMotions (A : Option Addr) (c : Nat) (L : List MotionD) (b : Bool) (w : World) (hr : Rd w w.heap.size A (L.length * 6) (L.flatMap motionC)) (hl : L.length ≤ 140737488355328) (hcap : L.length ≤ c) (hW : ∀ x ∈ L, MotionW x) (h : motsOk L = b) :
    Calls Tryz.prog 58 #[.slice A L.length c] w fun e w' => e = .returned (.bool b) ∧ Below w.heap.size w w' := by
  have HB := Lib.hid h; have HW := Lib.hid hW; clear h hW
  go_enter Tryz.func58, Tryz.ntmps58
  go_wp2
  go_loopw [3] (fun i wr => ∃ k : Nat, k ≤ L.length ∧ i = .int .i64 k ∧ Below w.heap.size w wr ∧ Hid (∀ j, j < k → motAt L j = true)) (fun i _ => L.length - (intOf i).toNat)
  case atStart => exact ⟨0, by omega, rfl, Below.refl _ _, fun j hj => absurd hj (by omega)⟩
  case round =>
    obtain ⟨k, hk, rfl, hB, HT⟩ := hrel
    by_cases hlt : k < L.length
    · have HR := Lib.hid (Rd.take_ (f := motionC) (m := 6) (fun _ => rfl) (rdW hB hr) (Nat.le_of_lt hlt))
      have HLk := Lib.hid (show (L.take k).length = k by rw [List.length_take]; omega)
      obtain ⟨bf, offf, rfl, hbf, hcf⟩ := Rd.elem motionC 6 (fun _ => rfl) (rdW hB hr) (by omega) hlt
      have f0 : wr.cell? ⟨bf, offf + k * 6, none⟩ = some (.int .i64 L[k].number) := hcf k hlt 0 _ rfl
      have f1 : wr.cell? ⟨bf, offf + k * 6 + 1, none⟩ = some (.string L[k].party) := hcf k hlt 1 _ rfl
      have f2 : wr.cell? ⟨bf, offf + k * 6 + 2, none⟩ = some (.int .i64 L[k].filed) := hcf k hlt 2 _ rfl
      have f3 : wr.cell? ⟨bf, offf + k * 6 + 3, none⟩ = some (.int .i64 L[k].changed) := hcf k hlt 3 _ rfl
      have f4 : wr.cell? ⟨bf, offf + k * 6 + 4, none⟩ = some (.int .i64 L[k].state) := hcf k hlt 4 _ rfl
      have f5 : wr.cell? ⟨bf, offf + k * 6 + 5, none⟩ = some (.int .i64 L[k].after) := hcf k hlt 5 _ rfl
      have hp0 : 0 < k → wr.cell? ⟨bf, offf + (k - 1) * 6, none⟩ = some (.int .i64 (L.getD (k - 1) default).number) := by
        intro h0
        rw [List.getD_eq_getElem?_getD, List.getElem?_eq_getElem (show k - 1 < L.length by omega)]
        exact hcf (k - 1) (by omega) 0 _ rfl
      have T := Lib.hid (motAt_eq hlt)
      obtain ⟨_, hs, _⟩ := HW.out _ (List.getElem_mem hlt)
      unfold maxLen at hs
      have hk' : (k : Int) < L.length := by omega
      have hk0 : (0 : Int) ≤ (k : Int) := by omega
      have hkc : (k : Int) ≤ (c : Int) := by omega
      clear hcf
      generalize L[k] = x at *
      generalize (L.getD (k - 1) default).number = p at *
      obtain ⟨x0, x1, x2, x3, x4, x5⟩ := x
      go_wp2_with fail
      generalize hW1 : wr.alloc _ = W1
      have hbW1 : Below wr.heap.size wr W1 := by subst hW1; exact (Below.refl _ _).alloc (Nat.le_refl _) _
      have hsW1 : W1.heap.size = wr.heap.size + 1 := by subst hW1; simp
      have cxW1_0 : ∀ i, W1.cell? ⟨wr.heap.size, i, none⟩ = (#[.int .i64 x0, .string x1, .int .i64 x2, .int .i64 x3, .int .i64 x4, .int .i64 x5] : Array Value)[i]? := by intro i; subst hW1; simp [go_sem]
      have HSW1 := Lib.hid hsW1; clear hW1 hsW1
      have g3 := fun h => (hbW1.cell (by exact hbf)).trans (hp0 h)
      have hbb := bt hB hbW1
      have hs4 := HSW1.out
      have k0 := block_regrown cxW1_0 (by omega)
      have k3 := fun h => cell_regrown (g3 h)
      have HR1 := Lib.hid (rdW hbW1 HR.out)
      clear g3 hp0 f0 f1 f2 f3 f4 f5 hs4
      go_wp2_with (first | (go_at_call 81; refine (l01In_b _ _ _ _ _ rfl).mono ?_; rintro e w' ⟨rfl, rfl⟩) | (go_at_call 80; refine (l02Is_b _ _ _ rfl).mono ?_; rintro e w' ⟨rfl, rfl⟩) | (go_at_call 82; refine (spec_IsWord _ _ _ (by assumption) rfl).mono ?_; rintro e w' ⟨rfl, rfl⟩))
      all_goals first
        | (go_ret
           exact ⟨ret_bool (by rw [← HB.out]; exact (mots_false hlt (by rw [T.out]; unfold motOk; simp_all)).symm), hbb⟩)
        | (refine wp_region_bel mixed (by kernel_rfl) ?_
           repeat (any_goals (first | go_big_quiet_step ((first | exact rg_same (l30Find_c _ _ _ (L.take k) _ _ HLk.out (by exact rdW (below_regrown _ _ _) HR1.out) (by omega)))) | quiet_step ((first | exact rg_same (l30Find_c _ _ _ (L.take k) _ _ HLk.out (by exact rdW (below_regrown _ _ _) HR1.out) (by omega)))) | (refine wpQuiet_step (fun K hK => ?_); go_simp; (split <;> first | (refine hK _ ?_; clear hK K) | (apply Exists.intro; refine ⟨fun _ => ?_, hK _ ?_⟩; ((first | exact rg_same (l30Find_c _ _ _ (L.take k) _ _ HLk.out (by exact rdW (below_regrown _ _ _) HR1.out) (by omega)))); clear hK K)))))
           all_goals (refine wpQuiet_nil ?_; intro w1 hw1)
           all_goals go_wp2
           all_goals first
             | (go_ret
                exact ⟨ret_bool (by rw [← HB.out]; exact (mots_false hlt (by rw [T.out]; unfold motOk; simp_all <;> omega)).symm), bt hbb hw1⟩)
             | (go_roundw
                case rel => exact ⟨k + 1, by omega, by go_num, bt hbb hw1, motAt_step HT (by rw [T.out]; unfold motOk; simp_all <;> omega)⟩
                case measure => simp [intOf]; omega))
    · have hkl : k = L.length := by omega
      subst hkl
      have HF := Lib.hid (mots_all HT.out)
      clear hlt HT
      go_wp2
      go_ret
      exact ⟨ret_bool (by rw [← HB.out, HF.out]; congr 1; simp <;> omega), hB⟩
end Go.Proofs.YtiamignopfhkfaaGreatDoor
