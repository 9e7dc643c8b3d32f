/- Contracts: AreCalls of both texts. -/
import Derived.Test.YteecdkaajcijpaaCall
import Derived.Test.YteecdkaajcijpaaWord
namespace Go.Proofs.Yteecdkaajcijpaa
open Go.RowKit
def callOk (m : CallD) : Bool := inB m.number 1 1000000 && inB m.day 0 20000 && inB m.first 0 m.day && inB m.moves 0 2 && ((m.day == m.first) == (m.moves == 0))
def callAt (L : List CallD) (k : Nat) : Bool :=
  match L[k]? with
  | none => true
  | some m => callOk m && (decide (k = 0) || decide ((L.getD (k - 1) default).number < m.number))
def callsOk (L : List CallD) : Bool := (List.range L.length).all (callAt L) && decide (L.length ≤ 20)
theorem callAt_eq {L : List CallD} {k : Nat} (hk : k < L.length) :
    callAt L k = (callOk L[k] && (decide (k = 0) || decide ((L.getD (k - 1) default).number < L[k].number))) := by
  simp [callAt, List.getElem?_eq_getElem hk]
theorem calls_false {L : List CallD} {k : Nat} (hk : k < L.length) (h : callAt L k = false) : callsOk L = false := by
  have : (List.range L.length).all (callAt L) = false := by
    rw [← Bool.not_eq_true, List.all_eq_true]
    intro hh
    have := hh k (by simp [hk])
    rw [h] at this; cases this
  simp [callsOk, this]
theorem calls_all {L : List CallD} (h : ∀ j, j < L.length → callAt L j = true) : callsOk L = decide (L.length ≤ 20) := by
  have : (List.range L.length).all (callAt L) = true := by
    rw [List.all_eq_true]; intro x hx; exact h x (by simpa using hx)
  simp [callsOk, this]
theorem callAt_step {L : List CallD} {k : Nat} (H : Hid (∀ j, j < k → callAt L j = true)) (h : callAt L k = true) : Hid (∀ j, j < k + 1 → callAt L j = true) := by
  intro j hj
  by_cases e : j = k
  · subst e; exact h
  · exact H.out j (by omega)

theorem isNumber_b (n : Int) (b : Bool) (w : World) (h : inB n 1 1000000 = b) : Calls Try.prog 39 #[.int .i64 n] w fun e w' => e = .returned (.bool b) ∧ w = w' := by
  go_enter Try.func39, Try.ntmps39
  go_wp2_with fail
  refine (within_b _ _ _ _ _ h).mono ?_
  rintro e w' ⟨rfl, rfl⟩
  go_wp2
  go_ret
  exact ⟨rfl, rfl⟩
theorem callValid_b (a0 a1 a2 a3 : Int) (b : Bool) (w : World) (h : callOk ⟨a0, a1, a2, a3⟩ = b) : Calls Try.prog 33 #[.agg #[.int .i64 a0, .int .i64 a1, .int .i64 a2, .int .i64 a3]] w fun e w' => e = .returned (.bool b) ∧ Below w.heap.size w w' := by
  have HB := Lib.hid h; clear h
  go_enter Try.func33, Try.ntmps33
  go_wp2_with (first | (go_at_call 39; refine (isNumber_b _ _ _ rfl).mono ?_; rintro e w' ⟨rfl, rfl⟩) | (go_at_call 38; refine (within_b _ _ _ _ _ rfl).mono ?_; rintro e w' ⟨rfl, rfl⟩) | (go_at_call 40; refine (isDay_b _ _ _ rfl).mono ?_; rintro e w' ⟨rfl, rfl⟩))
  all_goals (go_ret; exact ⟨ret_bool (by rw [← HB.out]; unfold callOk; simp_all), (Below.refl _ _).alloc (Nat.le_refl _) _⟩)

set_option maxHeartbeats 4000000 in
theorem impl_AreCalls (A : Option Addr) (c : Nat) (L : List CallD) (b : Bool) (w : World) (hr : Rd w w.heap.size A (L.length * 4) (L.flatMap callC)) (hl : L.length ≤ 140737488355328) (hcap : L.length ≤ c) (h : callsOk L = b) :
    Calls Try.prog 19 #[.slice A L.length c] w fun e w' => e = .returned (.bool b) ∧ Below w.heap.size w w' := by
  have HB := Lib.hid h; clear h
  go_enter Try.func19, Try.ntmps19
  go_wp2
  go_loopw [7] (fun i wr => ∃ k : Nat, k ≤ L.length ∧ i = .int .i64 k ∧ Below w.heap.size w wr ∧ Hid (∀ j, j < k → callAt L j = true)) (fun i _ => L.length - (intOf i).toNat)
  case atStart => exact ⟨0, by omega, rfl, Below.refl _ _, fun j hj => absurd hj (by omega)⟩
  case round =>
    obtain ⟨k, hk, rfl, hB, HT⟩ := hrel
    by_cases hlt : k < L.length
    · obtain ⟨bf, offf, rfl, hbf, hcf⟩ := Rd.elem callC 4 (fun _ => rfl) (rdW hB hr) (by omega) hlt
      have f0 : wr.cell? ⟨bf, offf + k * 4, none⟩ = some (.int .i64 L[k].number) := hcf k hlt 0 _ rfl
      have f1 : wr.cell? ⟨bf, offf + k * 4 + 1, none⟩ = some (.int .i64 L[k].first) := hcf k hlt 1 _ rfl
      have f2 : wr.cell? ⟨bf, offf + k * 4 + 2, none⟩ = some (.int .i64 L[k].day) := hcf k hlt 2 _ rfl
      have f3 : wr.cell? ⟨bf, offf + k * 4 + 3, none⟩ = some (.int .i64 L[k].moves) := hcf k hlt 3 _ rfl
      have hp0 : 0 < k → wr.cell? ⟨bf, offf + (k - 1) * 4, none⟩ = some (.int .i64 (L.getD (k - 1) default).number) := by
        intro h0
        rw [List.getD_eq_getElem?_getD, List.getElem?_eq_getElem (show k - 1 < L.length by omega)]
        exact hcf (k - 1) (by omega) 0 _ rfl
      have T := Lib.hid (callAt_eq hlt)
      have hk' : (k : Int) < L.length := by omega
      have hk0 : (0 : Int) ≤ (k : Int) := by omega
      have hkc : (k : Int) ≤ (c : Int) := by omega
      clear hcf
      generalize L[k] = x at *
      generalize (L.getD (k - 1) default).number = p at *
      obtain ⟨x0, x1, x2, x3⟩ := x
      go_wp2_with fail
      generalize hW1 : wr.alloc _ = W1
      have hbW1 : Below wr.heap.size wr W1 := by subst hW1; exact (Below.refl _ _).alloc (Nat.le_refl _) _
      have hsW1 : W1.heap.size = wr.heap.size + 1 := by subst hW1; simp
      have cxW1_0 : ∀ i, W1.cell? ⟨wr.heap.size, i, none⟩ = (#[.int .i64 x0, .int .i64 x1, .int .i64 x2, .int .i64 x3] : Array Value)[i]? := by intro i; subst hW1; simp [go_sem]
      have HSW1 := Lib.hid hsW1; clear hW1 hsW1
      have g3 := fun h => (hbW1.cell (by exact hbf)).trans (hp0 h)
      have hbb := bt hB hbW1
      have hs4 := HSW1.out
      have k0 := block_regrown cxW1_0 (by omega)
      have k3 := fun h => cell_regrown (g3 h)
      clear g3 hp0 f0 f1 f2 f3 cxW1_0 hs4
      refine wp_region_bel mixed (by kernel_rfl) ?_
      repeat (any_goals (first | go_big_quiet_step ((first | exact rg_below (callValid_b _ _ _ _ _ _ rfl))) | quiet_step ((first | exact rg_below (callValid_b _ _ _ _ _ _ rfl))) | (refine wpQuiet_step (fun K hK => ?_); go_simp; (split <;> first | (refine hK _ ?_; clear hK K) | (apply Exists.intro; refine ⟨fun _ => ?_, hK _ ?_⟩; ((first | exact rg_below (callValid_b _ _ _ _ _ _ rfl))); clear hK K)))))
      all_goals (refine wpQuiet_nil ?_; intro w1 hw1)
      all_goals go_wp2
      all_goals first
        | (go_ret
           exact ⟨ret_bool (by rw [← HB.out]; exact (calls_false hlt (by rw [T.out]; simp_all <;> omega)).symm), bt hbb hw1⟩)
        | (go_roundw
           case rel => exact ⟨k + 1, by omega, by go_num, bt hbb hw1, callAt_step HT (by rw [T.out]; simp_all <;> omega)⟩
           case measure => simp [intOf]; omega)
    · have hkl : k = L.length := by omega
      subst hkl
      have HF := Lib.hid (calls_all HT.out)
      clear hlt HT
      go_wp2_with (first | (go_at_call 31; refine (few_b _ _ _ _ rfl).mono ?_; rintro e w' ⟨rfl, rfl⟩))
      go_ret
      exact ⟨ret_bool (by rw [← HB.out, HF.out]; congr 1; simp <;> omega), hB⟩

set_option maxRecDepth 100000 in
set_option maxHeartbeats 8000000 in
theorem spec_AreCalls (A : Option Addr) (c : Nat) (L : List CallD) (b : Bool) (w : World) (hr : Rd w w.heap.size A (L.length * 4) (L.flatMap callC)) (hl : L.length ≤ 140737488355328) (hcap : L.length ≤ c) (h : callsOk L = b) :
    Calls Try.prog 13 #[.slice A L.length c] w fun e w' => e = .returned (.bool b) ∧ Below w.heap.size w w' := by
  have HB := Lib.hid h; clear h
  go_enter Try.func13, Try.ntmps13
  go_wp2
  go_loopw [3] (fun i wr => ∃ k : Nat, k ≤ L.length ∧ i = .int .i64 k ∧ Below w.heap.size w wr ∧ Hid (∀ j, j < k → callAt L j = true)) (fun i _ => L.length - (intOf i).toNat)
  case atStart => exact ⟨0, by omega, rfl, Below.refl _ _, fun j hj => absurd hj (by omega)⟩
  case round =>
    obtain ⟨k, hk, rfl, hB, HT⟩ := hrel
    by_cases hlt : k < L.length
    · obtain ⟨bf, offf, rfl, hbf, hcf⟩ := Rd.elem callC 4 (fun _ => rfl) (rdW hB hr) (by omega) hlt
      have f0 : wr.cell? ⟨bf, offf + k * 4, none⟩ = some (.int .i64 L[k].number) := hcf k hlt 0 _ rfl
      have f1 : wr.cell? ⟨bf, offf + k * 4 + 1, none⟩ = some (.int .i64 L[k].first) := hcf k hlt 1 _ rfl
      have f2 : wr.cell? ⟨bf, offf + k * 4 + 2, none⟩ = some (.int .i64 L[k].day) := hcf k hlt 2 _ rfl
      have f3 : wr.cell? ⟨bf, offf + k * 4 + 3, none⟩ = some (.int .i64 L[k].moves) := hcf k hlt 3 _ rfl
      have hp0 : 0 < k → wr.cell? ⟨bf, offf + (k - 1) * 4, none⟩ = some (.int .i64 (L.getD (k - 1) default).number) := by
        intro h0
        rw [List.getD_eq_getElem?_getD, List.getElem?_eq_getElem (show k - 1 < L.length by omega)]
        exact hcf (k - 1) (by omega) 0 _ rfl
      have T := Lib.hid (callAt_eq hlt)
      have hk' : (k : Int) < L.length := by omega
      have hk0 : (0 : Int) ≤ (k : Int) := by omega
      have hkc : (k : Int) ≤ (c : Int) := by omega
      clear hcf
      generalize L[k] = x at *
      generalize (L.getD (k - 1) default).number = p at *
      obtain ⟨x0, x1, x2, x3⟩ := x
      have he : (x2 == x1) = (x1 == x2) := Bool.beq_comm
      have HE := Lib.hid he; clear he
      go_wp2_with fail
      generalize hW1 : wr.alloc _ = W1
      have hbW1 : Below wr.heap.size wr W1 := by subst hW1; exact (Below.refl _ _).alloc (Nat.le_refl _) _
      have hsW1 : W1.heap.size = wr.heap.size + 1 := by subst hW1; simp
      have cxW1_0 : ∀ i, W1.cell? ⟨wr.heap.size, i, none⟩ = (#[.int .i64 x0, .int .i64 x1, .int .i64 x2, .int .i64 x3] : Array Value)[i]? := by intro i; subst hW1; simp [go_sem]
      have HSW1 := Lib.hid hsW1; clear hW1 hsW1
      have g3 := fun h => (hbW1.cell (by exact hbf)).trans (hp0 h)
      have hbb := bt hB hbW1
      have hs4 := HSW1.out
      have k0 := block_regrown cxW1_0 (by omega)
      have k3 := fun h => cell_regrown (g3 h)
      clear g3 hp0 f0 f1 f2 f3 cxW1_0 hs4
      refine wp_region_bel mixed (by kernel_rfl) ?_
      repeat (any_goals (first | go_big_quiet_step ((first | exact rg_same (l01In_b _ _ _ _ _ rfl) | exact rg_same (l02Is_b _ _ _ rfl))) | quiet_step ((first | exact rg_same (l01In_b _ _ _ _ _ rfl) | exact rg_same (l02Is_b _ _ _ rfl))) | (refine wpQuiet_step (fun K hK => ?_); go_simp; (split <;> first | (refine hK _ ?_; clear hK K) | (apply Exists.intro; refine ⟨fun _ => ?_, hK _ ?_⟩; ((first | exact rg_same (l01In_b _ _ _ _ _ rfl) | exact rg_same (l02Is_b _ _ _ rfl))); clear hK K)))))
      all_goals (refine wpQuiet_nil ?_; intro w1 hw1)
      all_goals go_wp2
      all_goals first
        | (go_ret
           exact ⟨ret_bool (by rw [← HB.out]; exact (calls_false hlt (by rw [T.out]; unfold callOk; simp only [HE.out]; by_cases hm : x3 = 0 <;> by_cases hf : x1 = x2 <;> simp_all <;> (first | omega | (intro h; exact absurd h.symm (by assumption))))).symm), bt hbb hw1⟩)
        | (go_roundw
           case rel => exact ⟨k + 1, by omega, by go_num, bt hbb hw1, callAt_step HT (by rw [T.out]; unfold callOk; simp only [HE.out]; by_cases hm : x3 = 0 <;> by_cases hf : x1 = x2 <;> simp_all <;> (first | omega | (intro h; exact absurd h.symm (by assumption))))⟩
           case measure => simp [intOf]; omega)
    · have hkl : k = L.length := by omega
      subst hkl
      have HF := Lib.hid (calls_all HT.out)
      clear hlt HT
      go_wp2
      go_ret
      exact ⟨ret_bool (by rw [← HB.out, HF.out]; congr 1; simp <;> omega), hB⟩
end Go.Proofs.Yteecdkaajcijpaa
