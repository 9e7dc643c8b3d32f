/- Contracts: WaitingFor of both texts. -/
import Derived.Test.YtdohegpbdlcnjaaMotCode
namespace Go.Proofs.Ytdohegpbdlcnjaa
open Go.RowKit
set_option linter.unusedVariables false
def waitL (L : List MotionD) : Nat → Int → List Int
  | 0, _ => []
  | f + 1, q => if findM q L 0 < 0 then [] else if closedB (getM L (findM q L 0)) then [] else q :: waitL L f (getM L (findM q L 0)).after
theorem waitL_len (L : List MotionD) : ∀ (f : Nat) (q : Int), (waitL L f q).length ≤ f
  | 0, q => by simp [waitL]
  | f + 1, q => by
    unfold waitL
    split
    · simp
    · split
      · simp
      · have := waitL_len L f (getM L (findM q L 0)).after
        simp only [List.length_cons]; omega
theorem waitL_neg {L : List MotionD} {q : Int} (h : findM q L 0 < 0) : ∀ f, waitL L f q = []
  | 0 => rfl
  | f + 1 => by rw [waitL, if_pos h]
theorem waitL_shut {L : List MotionD} {q : Int} {j f : Nat} (h : findM q L 0 = (j : Int)) (hj : j < L.length) (hc : decide (3 ≤ L[j].state) = true) : waitL L (f + 1) q = [] := by
  rw [waitL, if_neg (by omega), getM_at h hj, closedB, if_pos hc]
theorem waitL_go {L : List MotionD} {q : Int} {j f : Nat} (h : findM q L 0 = (j : Int)) (hj : j < L.length) (hc : decide (3 ≤ L[j].state) = false) : waitL L (f + 1) q = q :: waitL L f L[j].after := by
  rw [waitL, if_neg (by omega), getM_at h hj, closedB, if_neg (by rw [hc]; simp)]
theorem findM_num {q : Int} : ∀ {L : List MotionD} {i : Int} {j : Nat}, 0 ≤ i → findM q L i = i + j → (hj : j < L.length) → L[j].number = q
  | [], i, j, _, h, hj => by simp at hj
  | m :: L, i, j, hi, h, hj => by
    unfold findM at h
    split at h
    · rename_i e
      have : j = 0 := by omega
      subst this; exact e
    · rename_i e
      cases j with
      | zero => rcases findM_rng q L (i + 1) with h1 | h1 <;> omega
      | succ j =>
        have hj' : j < L.length := by simpa using hj
        exact findM_num (L := L) (i := i + 1) (j := j) (by omega) (by rw [h]; omega) hj'
theorem find_num {q : Int} {L : List MotionD} {j : Nat} (h : findM q L 0 = (j : Int)) (hj : j < L.length) : L[j].number = q := findM_num (Int.le_refl 0) (by rw [h]; omega) hj
theorem find_zero {L : List MotionD} (h : motsOk L = true) : findM 0 L 0 < 0 := by
  rcases Int.lt_or_le (findM 0 L 0) 0 with h1 | h1
  · exact h1
  · obtain ⟨j, hj, hjl⟩ := findM_idx (Int.not_lt.2 h1)
    have := find_num hj hjl
    have := (mots_bds h hjl).1
    omega
theorem find_after {L : List MotionD} (h : motsOk L = true) {k : Nat} (hk : k < L.length) : findM L[k].after L 0 < k := by
  have := mots_ok h hk
  rw [motAt_eq hk, Bool.and_eq_true, Bool.or_eq_true, decide_eq_true_eq] at this
  rcases this.2 with e | e
  · have e : L[k].after = 0 := by simpa using e
    rw [e]; have := find_zero h; omega
  · rw [findM_take (Int.le_refl 0) e]
    have := List.length_take_le k L
    rcases findM_rng L[k].after (L.take k) 0 with h1 | h1 <;> omega
def waitFor (L : List MotionD) (n : Int) : List Int := if codeM L n 0 = 0 then waitL L L.length n else []
theorem waitFor_len (L : List MotionD) (n : Int) : (waitFor L n).length ≤ L.length := by
  unfold waitFor; split
  · exact waitL_len _ _ _
  · simp


set_option maxRecDepth 100000 in
set_option maxHeartbeats 1000000 in
theorem impl_WaitingFor (A : Option Addr) (c : Nat) (L : List MotionD) (n : Int) (w : World) (hr : Rd w w.heap.size A (L.length * 6) (L.flatMap motionC)) (hl : L.length ≤ 140737488355328) (hcap : L.length ≤ c) (hW : ∀ x ∈ L, MotionW x) :
    Calls Try.prog 9 #[.slice A L.length c, .int .i64 n] w (RowPost2 2 1 (waitFor L n).length ((waitFor L n).map (Value.int .i64)) (codeM L n 0) w) := by
  have hcode := motionCode_c A c L n 0 w hr hl hcap hW
  by_cases h0 : codeM L n 0 = 0
  · have e1 : waitFor L n = waitL L L.length n := by rw [waitFor, if_pos h0]
    have HT : Hid (motsOk L = true) := by
      rcases hT : motsOk L with _ | _
      · simp [codeM, hT] at h0
      · exact Lib.hid rfl
    have hF : ¬ findM n L 0 < 0 := by
      intro hh
      unfold codeM at h0
      rw [HT.out, if_pos rfl] at h0
      split at h0
      · first | omega | (rw [if_pos hh] at h0; omega)
      · omega
    have hF0 : 0 ≤ findM n L 0 := by omega
    have hrng : findM n L 0 < L.length := by rcases findM_rng n L 0 with h1 | h1 <;> omega
    have h12 := mots_len HT.out
    rw [e1, h0]
    obtain ⟨i0, hi, hz0, hz1, hz2⟩ := info_parts int_info
    rw [h0] at hcode
    try rw [if_pos rfl] at hcode
    clear e1 h0 hF
    go_enter Try.func9, Try.ntmps9
    go_wp2_with fail
    refine hcode.mono ?_
    rintro e w1 ⟨rfl, hb1⟩
    clear hcode
    go_wp2
    have hown0 := own_mono (World.ownsRow_lit (e := 2) (size := 1) w1 #[] 0 (Nat.le_refl _) (by unfold maxLen; omega) rfl) hb1.size
    go_loopw [6, 8] (fun i v wr => ∃ (q : Int) (F : Nat) (R : List Int) (A2 : Option Addr) (c2 : Nat), i = .int .i64 (findM q L 0) ∧ v = .slice A2 R.length c2 ∧ R.length + F ≤ L.length ∧ findM q L 0 < F ∧ Below w.heap.size w wr ∧ Hid (wr.ownsRow w.heap.size 2 1 (.slice A2 R.length c2) R.length (R.map (Value.int .i64))) ∧ Hid (R ++ waitL L F q = waitL L L.length n)) (fun i _ _ => (intOf i + 1).toNat)
    case atStart => exact ⟨n, L.length, [], _, _, rfl, rfl, by simp, by omega, hb1.alloc hb1.size _, hown0, by simp [Hid]⟩
    case round =>
      obtain ⟨q, F, R, A2, c2, rfl, rfl, hRF, hqF, hB, HO, HR⟩ := hrel
      clear hown0
      by_cases hq : findM q L 0 < 0
      · have HE := Lib.hid (waitL_neg hq F)
        go_wp2
        go_ret2
        obtain rfl : R = waitL L L.length n := by rw [← HR.out, HE.out, List.append_nil]
        exact rowPost2_mk HO.out hB
      · obtain ⟨j, hj, hjl⟩ := findM_idx hq
        obtain ⟨F, rfl⟩ : ∃ F', F = F' + 1 := ⟨F - 1, by omega⟩
        have HLT := Lib.hid (find_after HT.out hjl)
        have HN := Lib.hid (find_num hj hjl)
        have hj0 : (0 : Int) ≤ (j : Int) := by omega
        have hjL : (j : Int) < L.length := by omega
        have hjc : (j : Int) ≤ (c : Int) := by omega
        have hjF : j ≤ F := by omega
        rw [hj]
        obtain ⟨be, offe, rfl, hbe, hce⟩ := Rd.elem motionC 6 (fun _ => rfl) (hr) (by omega) hjl
        have e0 : w.cell? ⟨be, offe + j * 6, none⟩ = some (.int .i64 L[j].number) := hce j hjl 0 _ rfl
        have e1 : w.cell? ⟨be, offe + j * 6 + 1, none⟩ = some (.string L[j].party) := hce j hjl 1 _ rfl
        have e2 : w.cell? ⟨be, offe + j * 6 + 2, none⟩ = some (.int .i64 L[j].filed) := hce j hjl 2 _ rfl
        have e3 : w.cell? ⟨be, offe + j * 6 + 3, none⟩ = some (.int .i64 L[j].changed) := hce j hjl 3 _ rfl
        have e4 : w.cell? ⟨be, offe + j * 6 + 4, none⟩ = some (.int .i64 L[j].state) := hce j hjl 4 _ rfl
        have e5 : w.cell? ⟨be, offe + j * 6 + 5, none⟩ = some (.int .i64 L[j].after) := hce j hjl 5 _ rfl
        clear hce hqF hrng hF0
        have f0 := (hB.cell (by exact hbe)).trans e0
        have f1 := (hB.cell (by exact hbe)).trans e1
        have f2 := (hB.cell (by exact hbe)).trans e2
        have f3 := (hB.cell (by exact hbe)).trans e3
        have f4 := (hB.cell (by exact hbe)).trans e4
        have f5 := (hB.cell (by exact hbe)).trans e5
        have E0 := Lib.hid e0
        have E5 := Lib.hid e5
        clear e0 e1 e2 e3 e4 e5
        cases hc : decide (3 ≤ L[j].state)
        · have HS := Lib.hid (waitL_go (f := F) hj hjl hc)
          clear hj hq
          generalize L[j] = x at *
          obtain ⟨x0, x1, x2, x3, x4, x5⟩ := x
          go_wp2_with fail
          refine (closed_b _ _ _ _ _ _ _ wr hc).mono ?_
          rintro e w2 ⟨rfl, hb2⟩
          have hB2 := bt hB hb2
          have hsz2 := hB2.size
          replace HO := Lib.hid (own_below HO.out hb2)
          clear f0 f1 f2 f3 f4 f5
          have f0 := (hB2.cell (by exact hbe)).trans E0.out
          go_wp2_with (first | (at_builtin; refine wpList_push _ rfl _ _ 27 rfl w.heap.size 2 i0 _ 1 8 Try.underlying27 hi hz0 hz1 hz2 rfl (by decide) _ _ _ rfl HO.out [.int .i64 x0] 2 rfl rfl (by simp [Value.oneCell']) (by unfold maxLen; omega) (by omega) (by omega) ?_; intro A3 c3 w3 hown3 hg3; have hB3 := below_grown hB2 hg3 (Nat.le_refl _) (fun g h => (HO.out.lt g h).1); have f5 := (hB3.cell (by exact hbe)).trans E5.out))
          refine (motionOf_c _ L.length c L x5 w3 rfl (rdW hB3 hr) hl).mono ?_
          rintro e w4 ⟨rfl, hb4⟩
          have hB4 := bt hB3 hb4
          have ho4 := own_below hown3 hb4
          go_wp2
          go_roundw
          case measure => simp [intOf]; have := HLT.out; omega
          case rel => exact ⟨x5, F, R ++ [x0], A3, c3, rfl, by rw [List.length_append]; rfl, by rw [List.length_append]; simp; omega, by have := HLT.out; omega, hB4, by rw [List.length_append, List.map_append]; exact ho4, by unfold Hid; rw [List.append_assoc, ← HR.out, HS.out]; have := HN.out; rw [this]; rfl⟩
        · have HS := Lib.hid (waitL_shut (f := F) hj hjl hc)
          clear hj hq
          generalize L[j] = x at *
          obtain ⟨x0, x1, x2, x3, x4, x5⟩ := x
          go_wp2_with fail
          refine (closed_b _ _ _ _ _ _ _ wr hc).mono ?_
          rintro e w2 ⟨rfl, hb2⟩
          have hB2 := bt hB hb2
          replace HO := Lib.hid (own_below HO.out hb2)
          go_wp2
          go_ret2
          obtain rfl : R = waitL L L.length n := by rw [← HR.out, HS.out, List.append_nil]
          exact rowPost2_mk HO.out hB2
  · have e1 : waitFor L n = [] := by rw [waitFor, if_neg h0]
    rw [e1]
    rw [if_neg h0] at hcode
    have hne : (codeM L n 0 == 0) = false := by simp [h0]
    generalize codeM L n 0 = q at *
    go_enter Try.func9, Try.ntmps9
    go_wp2_with fail
    refine hcode.mono ?_
    rintro e w1 ⟨rfl, hb1⟩
    go_wp2
    go_ret2
    exact rowPost2_nil hb1
end Go.Proofs.Ytdohegpbdlcnjaa
