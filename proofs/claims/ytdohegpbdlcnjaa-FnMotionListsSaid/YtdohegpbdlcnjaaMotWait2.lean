/- Contracts: WaitingFor of both texts. -/
import Derived.Test.YtdohegpbdlcnjaaMotWait
namespace Go.Proofs.Ytdohegpbdlcnjaa
open Go.RowKit
set_option linter.unusedVariables false

set_option maxRecDepth 100000 in
set_option maxHeartbeats 1000000 in
theorem spec_WaitingFor (A : Option Addr) (c : Nat) (L : List MotionD) (n : Int) (w : World) (hr : Rd w w.heap.size A (L.length * 6) (L.flatMap motionC)) (hl : L.length ≤ 140737488355328) (hcap : L.length ≤ c) (hW : ∀ x ∈ L, MotionW x) :
    Calls Try.prog 10 #[.slice A L.length c, .int .i64 n] w (RowPost2 2 1 (waitFor L n).length ((waitFor L n).map (Value.int .i64)) (codeM L n 0) w) := by
  have hcode := l30Code_c A c L n 0 w hr hl hcap hW
  by_cases h0 : codeM L n 0 = 0
  · have e1 : waitFor L n = waitL L L.length n := by rw [waitFor, if_pos h0]
    have HT : Hid (motsOk L = true) := by
      rcases hT : motsOk L with _ | _
      · simp [codeM, hT] at h0
      · exact Lib.hid rfl
    have hF : ¬ findM n L 0 < 0 := by
      intro hh
      unfold codeM at h0
      rw [HT.out, if_pos rfl] at h0
      split at h0
      · first | omega | (rw [if_pos hh] at h0; omega)
      · omega
    have hF0 : 0 ≤ findM n L 0 := by omega
    have hrng : findM n L 0 < L.length := by rcases findM_rng n L 0 with h1 | h1 <;> omega
    have h12 := mots_len HT.out
    rw [e1, h0]
    obtain ⟨i0, hi, hz0, hz1, hz2⟩ := info_parts int_info
    rw [h0] at hcode
    try rw [if_pos rfl] at hcode
    clear e1 h0 hF
    go_enter Try.func10, Try.ntmps10
    go_wp2_with fail
    refine hcode.mono ?_
    rintro e w1 ⟨rfl, hb1⟩
    clear hcode
    go_wp2
    have hown0 := own_mono (World.ownsRow_lit (e := 2) (size := 1) w1 #[] 0 (Nat.le_refl _) (by unfold maxLen; omega) rfl) hb1.size
    go_loopw [1, 7] (fun i v wr => ∃ (q : Int) (F : Nat) (R : List Int) (A2 : Option Addr) (c2 : Nat), i = .int .i64 q ∧ v = .slice A2 R.length c2 ∧ R.length + F ≤ L.length ∧ findM q L 0 < F ∧ (q = 0 ∨ 0 ≤ findM q L 0) ∧ Below w.heap.size w wr ∧ Hid (wr.ownsRow w.heap.size 2 1 (.slice A2 R.length c2) R.length (R.map (Value.int .i64))) ∧ Hid (R ++ waitL L F q = waitL L L.length n)) (fun i _ _ => (findM (intOf i) L 0 + 1).toNat)
    case atStart => exact ⟨n, L.length, [], _, _, rfl, rfl, by simp, by omega, Or.inr hF0, hb1.alloc hb1.size _, hown0, by simp [Hid]⟩
    case round =>
      obtain ⟨q, F, R, A2, c2, rfl, rfl, hRF, hqF, hqq, hB, HO, HR⟩ := hrel
      clear hown0
      by_cases hq : q = 0
      · have HE := Lib.hid (waitL_neg (find_zero HT.out) F)
        subst hq
        go_wp2
        go_ret2
        obtain rfl : R = waitL L L.length n := by rw [← HR.out, HE.out, List.append_nil]
        exact rowPost2_mk HO.out hB
      · obtain ⟨j, hj, hjl⟩ := findM_idx (Int.not_lt.2 (hqq.resolve_left hq))
        obtain ⟨F, rfl⟩ : ∃ F', F = F' + 1 := ⟨F - 1, by omega⟩
        have HLT := Lib.hid (find_after HT.out hjl)
        have HAF := Lib.hid (mots_after HT.out hjl)
        have hj0 : (0 : Int) ≤ (j : Int) := by omega
        have hjL : (j : Int) < L.length := by omega
        have hjc : (j : Int) ≤ (c : Int) := by omega
        have hjF : j ≤ F := by omega
        have HJ := Lib.hid hj
        have HLO := Lib.hid (World.ownsRow.lt HO.out)
        obtain ⟨bf, offf, rfl, hbf, hcf⟩ := Rd.elem motionC 6 (fun _ => rfl) (rdW hB hr) (by omega) hjl
        have f0 : wr.cell? ⟨bf, offf + j * 6, none⟩ = some (.int .i64 L[j].number) := hcf j hjl 0 _ rfl
        have f1 : wr.cell? ⟨bf, offf + j * 6 + 1, none⟩ = some (.string L[j].party) := hcf j hjl 1 _ rfl
        have f2 : wr.cell? ⟨bf, offf + j * 6 + 2, none⟩ = some (.int .i64 L[j].filed) := hcf j hjl 2 _ rfl
        have f3 : wr.cell? ⟨bf, offf + j * 6 + 3, none⟩ = some (.int .i64 L[j].changed) := hcf j hjl 3 _ rfl
        have f4 : wr.cell? ⟨bf, offf + j * 6 + 4, none⟩ = some (.int .i64 L[j].state) := hcf j hjl 4 _ rfl
        have f5 : wr.cell? ⟨bf, offf + j * 6 + 5, none⟩ = some (.int .i64 L[j].after) := hcf j hjl 5 _ rfl
        clear hcf hqF hrng hF0 hqq
        cases hc : decide (3 ≤ L[j].state)
        · have HS := Lib.hid (waitL_go (f := F) hj hjl hc)
          clear hj
          generalize L[j] = x at *
          obtain ⟨x0, x1, x2, x3, x4, x5⟩ := x
          go_wp2_with fail
          refine (l30Find_c _ L.length c L q wr rfl (rdW hB hr) hl).mono ?_
          rintro e w1' ⟨rfl, rfl⟩
          rw [HJ.out]
          go_wp2_with fail
          generalize hW1 : wr.alloc _ = W1
          have hbW1 : Below wr.heap.size wr W1 := by subst hW1; exact (Below.refl _ _).alloc (Nat.le_refl _) _
          have hsW1 : W1.heap.size = wr.heap.size + 1 := by subst hW1; simp
          have cxW1_0 : ∀ i, W1.cell? ⟨wr.heap.size, i, none⟩ = (#[.int .i64 x0, .string x1, .int .i64 x2, .int .i64 x3, .int .i64 x4, .int .i64 x5] : Array Value)[i]? := by intro i; subst hW1; simp [go_sem]
          have HSW1 := Lib.hid hsW1; clear hW1 hsW1
          have hB1 := bt hB hbW1
          have hs1 := HSW1.out
          clear f0 f1 f2 f3 f4 f5
          refine (l30Closed_b _ _ _ _ _ _ _ W1 hc).mono ?_
          rintro e w2 ⟨rfl, hb2⟩
          have hB2 := bt hB1 hb2
          have hsz2 := hB2.size
          replace HO := Lib.hid (own_below (own_below HO.out hbW1) hb2)
          replace cxW1_0 := fun i => (hb2.cell (p := ⟨wr.heap.size, i, none⟩) (by (try simp only); omega)).trans (cxW1_0 i)
          have HLO2 := Lib.hid (show wr.heap.size < w2.heap.size by have := hb2.size; omega)
          go_wp2_with (first | (at_builtin; refine wpList_push _ rfl _ _ 27 rfl w.heap.size 2 i0 _ 1 8 Try.underlying27 hi hz0 hz1 hz2 rfl (by decide) _ _ _ rfl HO.out [.int .i64 q] 2 rfl rfl (by simp [Value.oneCell']) (by unfold maxLen; omega) (by omega) (by omega) ?_; intro A3 c3 w3 hown3 hg3; go_loud (replace cxW1_0 := fun i => (World.cell?_of_block (a := ⟨wr.heap.size, i, none⟩) (hg3.block _ HLO2.out (fun e => absurd (HLO.out wr.heap.size e.symm).2 (Nat.lt_irrefl _)))).trans (cxW1_0 i))))
          go_roundw
          case measure => simp [intOf]; have := HLT.out; have := HJ.out; omega
          case rel => exact ⟨x5, F, R ++ [q], A3, c3, rfl, by rw [List.length_append]; rfl, by rw [List.length_append]; simp; omega, by have := HLT.out; omega, HAF.out, below_grown hB2 hg3 (Nat.le_refl _) (fun g h => (HO.out.lt g h).1), by rw [List.length_append, List.map_append]; exact hown3, by unfold Hid; rw [List.append_assoc, ← HR.out, HS.out]; rfl⟩
        · have HS := Lib.hid (waitL_shut (f := F) hj hjl hc)
          clear hj
          generalize L[j] = x at *
          obtain ⟨x0, x1, x2, x3, x4, x5⟩ := x
          go_wp2_with fail
          refine (l30Find_c _ L.length c L q wr rfl (rdW hB hr) hl).mono ?_
          rintro e w1' ⟨rfl, rfl⟩
          rw [HJ.out]
          go_wp2_with fail
          generalize hW1 : wr.alloc _ = W1
          have hbW1 : Below wr.heap.size wr W1 := by subst hW1; exact (Below.refl _ _).alloc (Nat.le_refl _) _
          have hsW1 : W1.heap.size = wr.heap.size + 1 := by subst hW1; simp
          have cxW1_0 : ∀ i, W1.cell? ⟨wr.heap.size, i, none⟩ = (#[.int .i64 x0, .string x1, .int .i64 x2, .int .i64 x3, .int .i64 x4, .int .i64 x5] : Array Value)[i]? := by intro i; subst hW1; simp [go_sem]
          have HSW1 := Lib.hid hsW1; clear hW1 hsW1
          have hB1 := bt hB hbW1
          refine (l30Closed_b _ _ _ _ _ _ _ W1 hc).mono ?_
          rintro e w2 ⟨rfl, hb2⟩
          have hB2 := bt hB1 hb2
          replace HO := Lib.hid (own_below (own_below HO.out hbW1) hb2)
          go_wp2
          go_ret2
          obtain rfl : R = waitL L L.length n := by rw [← HR.out, HS.out, List.append_nil]
          exact rowPost2_mk HO.out hB2
  · have e1 : waitFor L n = [] := by rw [waitFor, if_neg h0]
    rw [e1]
    skip
    have hne : (codeM L n 0 == 0) = false := by simp [h0]
    generalize codeM L n 0 = q at *
    go_enter Try.func10, Try.ntmps10
    go_wp2_with fail
    refine hcode.mono ?_
    rintro e w1 ⟨rfl, hb1⟩
    go_wp2
    go_ret2
    exact rowPost2_nil hb1
end Go.Proofs.Ytdohegpbdlcnjaa
