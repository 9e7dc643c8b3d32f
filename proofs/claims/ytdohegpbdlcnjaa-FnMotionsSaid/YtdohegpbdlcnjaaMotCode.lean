/- Contracts: motionCode, l30Free of both texts. -/
import Derived.Test.YtdohegpbdlcnjaaMotLists
namespace Go.Proofs.Ytdohegpbdlcnjaa
open Go.RowKit
set_option linter.unusedVariables false
def codeM (L : List MotionD) (n day : Int) : Int := if motsOk L then (if inB day 0 20000 then (if findM n L 0 < 0 then 4 else 0) else 2) else 1
def getM (L : List MotionD) (i : Int) : MotionD := L.getD i.toNat default
def freeM (L : List MotionD) (q : Int) : Bool := q == 0 || closedB (getM L (findM q L 0))
def mayM (L : List MotionD) (m : MotionD) (s day : Int) : Bool :=
  if day < m.changed ∨ closedB m = true then false else
  if s = 1 then m.state == 0 && decide (day ≤ m.filed + 14) else
  if s = 2 then freeM L m.after && (m.state == 1 || m.state == 0 && decide (m.filed + 14 < day)) else
  if s = 3 ∨ s = 4 then m.state == 2 else s == 5
def stsL (f : Int → Bool) (k : Nat) : List Int := ((List.range k).filter fun (s : Nat) => f (s : Int)).map fun (s : Nat) => (s : Int)
theorem stsL_snoc (f : Int → Bool) (k : Nat) : stsL f (k + 1) = stsL f k ++ (if f (k : Int) then [(k : Int)] else []) := by
  unfold stsL
  rw [List.range_succ, List.filter_append, List.map_append]
  cases h : f (k : Int) <;> simp [h]
theorem stsL_len (f : Int → Bool) (k : Nat) : (stsL f k).length ≤ k := by
  unfold stsL
  rw [List.length_map]
  exact Nat.le_trans (List.length_filter_le _ _) (by simp)
def nextFor (L : List MotionD) (n day : Int) : List Int := if codeM L n day = 0 then stsL (fun s => mayM L (getM L (findM n L 0)) s day) 6 else []
theorem nextFor_len (L : List MotionD) (n day : Int) : (nextFor L n day).length ≤ 6 := by
  unfold nextFor; split
  · exact stsL_len _ _
  · simp
theorem findM_rng (q : Int) : ∀ (L : List MotionD) (i : Int), findM q L i = -1 ∨ (i ≤ findM q L i ∧ findM q L i < i + L.length)
  | [], i => Or.inl rfl
  | m :: L, i => by
    unfold findM
    split
    · right; simp only [List.length_cons]; omega
    · rcases findM_rng q L (i + 1) with h | h
      · left; exact h
      · right; simp only [List.length_cons]; omega
theorem findM_idx {q : Int} {L : List MotionD} (h : ¬ findM q L 0 < 0) : ∃ j : Nat, findM q L 0 = (j : Int) ∧ j < L.length := by
  rcases findM_rng q L 0 with h1 | h1
  · omega
  · exact ⟨(findM q L 0).toNat, by omega, by omega⟩
theorem findM_take {q : Int} : ∀ {L : List MotionD} {k : Nat} {i : Int}, 0 ≤ i → 0 ≤ findM q (L.take k) i → findM q L i = findM q (L.take k) i
  | [], k, i, _, h => by rw [List.take_nil]
  | m :: L, 0, i, _, h => by simp [findM] at h
  | m :: L, k + 1, i, hi, h => by
    rw [List.take_succ_cons] at h ⊢
    unfold findM at h ⊢
    split at h
    · rename_i e; rw [if_pos e, if_pos e]
    · rename_i e; rw [if_neg e, if_neg e]; exact findM_take (by omega) h
theorem mots_after {L : List MotionD} (h : motsOk L = true) {k : Nat} (hk : k < L.length) : L[k].after = 0 ∨ 0 ≤ findM L[k].after L 0 := by
  have := mots_ok h hk
  rw [motAt_eq hk, Bool.and_eq_true, Bool.or_eq_true, decide_eq_true_eq] at this
  rcases this.2 with e | e
  · left; simpa using e
  · right; rw [findM_take (Int.le_refl 0) e]; exact e
theorem getM_at {L : List MotionD} {q : Int} {j : Nat} (h : findM q L 0 = (j : Int)) (hj : j < L.length) : getM L (findM q L 0) = L[j] := by
  rw [h, getM, List.getD_eq_getElem?_getD, Int.toNat_natCast, List.getElem?_eq_getElem hj]; rfl


set_option maxHeartbeats 2000000 in
theorem motionCode_c (A : Option Addr) (c : Nat) (L : List MotionD) (n day : Int) (w : World) (hr : Rd w w.heap.size A (L.length * 6) (L.flatMap motionC)) (hl : L.length ≤ 140737488355328) (hcap : L.length ≤ c) (hW : ∀ x ∈ L, MotionW x) :
    Calls Try.prog 57 #[.slice A L.length c, .int .i64 n, .int .i64 day] w fun e w' => e = .returned (.tuple #[.int .i64 (if codeM L n day = 0 then findM n L 0 else 0), .int .i64 (codeM L n day)]) ∧ Below w.heap.size w w' := by
  cases hT : motsOk L
  · have e2 : codeM L n day = 1 := by simp [codeM, hT]
    rw [e2, if_neg (by decide)]
    go_enter Try.func57, Try.ntmps57
    go_wp2_with fail
    refine (impl_AreMotions A c L _ w hr hl hcap hW hT).mono ?_
    rintro e w1 ⟨rfl, hb1⟩
    go_wp2
    go_ret2
    exact ⟨rfl, hb1⟩
  · cases hS : inB day 0 20000
    · have e2 : codeM L n day = 2 := by simp [codeM, hT, hS]
      rw [e2, if_neg (by decide)]
      go_enter Try.func57, Try.ntmps57
      go_wp2_with fail
      refine (impl_AreMotions A c L _ w hr hl hcap hW hT).mono ?_
      rintro e w1 ⟨rfl, hb1⟩
      go_wp2_with fail
      refine (isDay_b _ _ w1 hS).mono ?_
      rintro e w' ⟨rfl, rfl⟩
      go_wp2
      go_ret2
      exact ⟨rfl, hb1⟩
    · by_cases hF : findM n L 0 < 0
      · have e2 : codeM L n day = 4 := by simp [codeM, hT, hS, hF]
        rw [e2, if_neg (by decide)]
        go_enter Try.func57, Try.ntmps57
        go_wp2_with fail
        refine (impl_AreMotions A c L _ w hr hl hcap hW hT).mono ?_
        rintro e w1 ⟨rfl, hb1⟩
        go_wp2_with fail
        refine (isDay_b _ _ w1 hS).mono ?_
        rintro e w' ⟨rfl, rfl⟩
        go_wp2_with fail
        refine (motionOf_c A L.length c L n w1 rfl (rdW hb1 hr) hl).mono ?_
        rintro e w2 ⟨rfl, hb2⟩
        go_wp2
        go_ret2
        exact ⟨rfl, bt hb1 hb2⟩
      · have e2 : codeM L n day = 0 := by simp [codeM, hT, hS, hF]
        rw [e2, if_pos rfl]
        have hrng := findM_rng n L 0
        go_enter Try.func57, Try.ntmps57
        go_wp2_with fail
        refine (impl_AreMotions A c L _ w hr hl hcap hW hT).mono ?_
        rintro e w1 ⟨rfl, hb1⟩
        go_wp2_with fail
        refine (isDay_b _ _ w1 hS).mono ?_
        rintro e w' ⟨rfl, rfl⟩
        go_wp2_with fail
        refine (motionOf_c A L.length c L n w1 rfl (rdW hb1 hr) hl).mono ?_
        rintro e w2 ⟨rfl, hb2⟩
        go_wp2
        go_ret2
        exact ⟨rfl, bt hb1 hb2⟩

set_option maxHeartbeats 2000000 in
theorem l30Code_c (A : Option Addr) (c : Nat) (L : List MotionD) (n day : Int) (w : World) (hr : Rd w w.heap.size A (L.length * 6) (L.flatMap motionC)) (hl : L.length ≤ 140737488355328) (hcap : L.length ≤ c) (hW : ∀ x ∈ L, MotionW x) :
    Calls Try.prog 60 #[.slice A L.length c, .int .i64 n, .int .i64 day] w fun e w' => e = .returned (.int .i64 (codeM L n day)) ∧ Below w.heap.size w w' := by
  cases hT : motsOk L
  · have e2 : codeM L n day = 1 := by simp [codeM, hT]
    rw [e2]
    go_enter Try.func60, Try.ntmps60
    go_wp2_with fail
    refine (spec_AreMotions A c L _ w hr hl hcap hW hT).mono ?_
    rintro e w1 ⟨rfl, hb1⟩
    go_wp2
    go_ret
    exact ⟨rfl, hb1⟩
  · cases hS : inB day 0 20000
    · have e2 : codeM L n day = 2 := by simp [codeM, hT, hS]
      rw [e2]
      go_enter Try.func60, Try.ntmps60
      go_wp2_with fail
      refine (spec_AreMotions A c L _ w hr hl hcap hW hT).mono ?_
      rintro e w1 ⟨rfl, hb1⟩
      go_wp2_with fail
      refine (l02Is_b _ _ w1 hS).mono ?_
      rintro e w' ⟨rfl, rfl⟩
      go_wp2
      go_ret
      exact ⟨rfl, hb1⟩
    · have e2 : codeM L n day = (if findM n L 0 < 0 then 4 else 0) := by simp [codeM, hT, hS]
      rw [e2]
      by_cases hF : findM n L 0 < 0
      · rw [if_pos hF]
        go_enter Try.func60, Try.ntmps60
        go_wp2_with fail
        refine (spec_AreMotions A c L _ w hr hl hcap hW hT).mono ?_
        rintro e w1 ⟨rfl, hb1⟩
        go_wp2_with fail
        refine (l02Is_b _ _ w1 hS).mono ?_
        rintro e w' ⟨rfl, rfl⟩
        go_wp2_with fail
        refine (l30Find_c A L.length c L n w1 rfl (rdW hb1 hr) hl).mono ?_
        rintro e w2 ⟨rfl, rfl⟩
        go_wp2
        go_ret
        exact ⟨rfl, hb1⟩
      · rw [if_neg hF]
        go_enter Try.func60, Try.ntmps60
        go_wp2_with fail
        refine (spec_AreMotions A c L _ w hr hl hcap hW hT).mono ?_
        rintro e w1 ⟨rfl, hb1⟩
        go_wp2_with fail
        refine (l02Is_b _ _ w1 hS).mono ?_
        rintro e w' ⟨rfl, rfl⟩
        go_wp2_with fail
        refine (l30Find_c A L.length c L n w1 rfl (rdW hb1 hr) hl).mono ?_
        rintro e w2 ⟨rfl, rfl⟩
        go_wp2
        go_ret
        exact ⟨rfl, hb1⟩


set_option maxHeartbeats 2000000 in
theorem l30Free_c (A : Option Addr) (c : Nat) (L : List MotionD) (a0 : Int) (a1 : ByteArray) (a2 a3 a4 a5 : Int) (b : Bool) (w : World) (hr : Rd w w.heap.size A (L.length * 6) (L.flatMap motionC)) (hl : L.length ≤ 140737488355328) (hcap : L.length ≤ c) (ha : a5 = 0 ∨ 0 ≤ findM a5 L 0) (h : freeM L a5 = b) :
    Calls Try.prog 97 #[.slice A L.length c, .agg #[.int .i64 a0, .string a1, .int .i64 a2, .int .i64 a3, .int .i64 a4, .int .i64 a5]] w fun e w' => e = .returned (.bool b) ∧ Below w.heap.size w w' := by
  by_cases e5 : a5 = 0
  · subst e5
    have : b = true := by rw [← h]; simp [freeM]
    subst this
    clear h
    go_enter Try.func97, Try.ntmps97
    go_wp2
    go_ret
    exact ⟨rfl, (Below.refl _ _).alloc (Nat.le_refl _) _⟩
  · obtain ⟨j, hj, hjl⟩ := findM_idx (Int.not_lt.2 (ha.resolve_left e5))
    have hc : decide (3 ≤ L[j].state) = b := by rw [← h, freeM, getM_at hj hjl]; simp [e5, closedB]
    have hj0 : (0 : Int) ≤ (j : Int) := by omega
    have hjL : (j : Int) < L.length := by omega
    have hjc : (j : Int) ≤ (c : Int) := by omega
    clear h
    go_enter Try.func97, Try.ntmps97
    go_wp2_with fail
    generalize hW0 : w.alloc _ = W0
    have hbW0 : Below w.heap.size w W0 := by subst hW0; exact (Below.refl _ _).alloc (Nat.le_refl _) _
    have hsW0 : W0.heap.size = w.heap.size + 1 := by subst hW0; simp
    have cxW0_0 : ∀ i, W0.cell? ⟨w.heap.size, i, none⟩ = (#[.int .i64 a0, .string a1, .int .i64 a2, .int .i64 a3, .int .i64 a4, .int .i64 a5] : Array Value)[i]? := by intro i; subst hW0; simp [go_sem]
    have HSW0 := Lib.hid hsW0; clear hW0 hsW0
    refine (l30Find_c A L.length c L a5 W0 rfl (rdW hbW0 hr) hl).mono ?_
    rintro e w2 ⟨rfl, rfl⟩
    rw [hj]
    obtain ⟨bf, offf, rfl, hbf, hcf⟩ := Rd.elem motionC 6 (fun _ => rfl) (rdW hbW0 hr) (by omega) hjl
    have f0 : W0.cell? ⟨bf, offf + j * 6, none⟩ = some (.int .i64 L[j].number) := hcf j hjl 0 _ rfl
    have f1 : W0.cell? ⟨bf, offf + j * 6 + 1, none⟩ = some (.string L[j].party) := hcf j hjl 1 _ rfl
    have f2 : W0.cell? ⟨bf, offf + j * 6 + 2, none⟩ = some (.int .i64 L[j].filed) := hcf j hjl 2 _ rfl
    have f3 : W0.cell? ⟨bf, offf + j * 6 + 3, none⟩ = some (.int .i64 L[j].changed) := hcf j hjl 3 _ rfl
    have f4 : W0.cell? ⟨bf, offf + j * 6 + 4, none⟩ = some (.int .i64 L[j].state) := hcf j hjl 4 _ rfl
    have f5 : W0.cell? ⟨bf, offf + j * 6 + 5, none⟩ = some (.int .i64 L[j].after) := hcf j hjl 5 _ rfl
    clear hcf
    generalize L[j] = x at *
    obtain ⟨x0, x1, x2, x3, x4, x5⟩ := x
    go_wp2_with fail
    refine (l30Closed_b _ _ _ _ _ _ _ W0 hc).mono ?_
    rintro e w2 ⟨rfl, hb2⟩
    go_wp2
    all_goals (go_ret; exact ⟨ret_bool (by simp_all), bt hbW0 hb2⟩)

end Go.Proofs.Ytdohegpbdlcnjaa
