/- Contracts: motionCode, mayGo, NextStates of both texts. -/
import Derived.Test.YtdohegpbdlcnjaaMotMay1
import Derived.Test.YtdohegpbdlcnjaaMotMay2
namespace Go.Proofs.Ytdohegpbdlcnjaa
open Go.RowKit
set_option linter.unusedVariables false


set_option maxRecDepth 100000 in
set_option maxHeartbeats 4000000 in
theorem impl_NextStates (A : Option Addr) (c : Nat) (L : List MotionD) (n day : Int) (w : World) (hr : Rd w w.heap.size A (L.length * 6) (L.flatMap motionC)) (hl : L.length ≤ 140737488355328) (hcap : L.length ≤ c) (hW : ∀ x ∈ L, MotionW x) :
    Calls Try.prog 22 #[.slice A L.length c, .int .i64 n, .int .i64 day] w (RowPost2 2 1 (nextFor L n day).length ((nextFor L n day).map (Value.int .i64)) (codeM L n day) w) := by
  have hcode := motionCode_c A c L n day w hr hl hcap hW
  by_cases h0 : codeM L n day = 0
  · have e1 : nextFor L n day = stsL (fun s => mayM L (getM L (findM n L 0)) s day) 6 := by rw [nextFor, if_pos h0]
    have HT : Hid (motsOk L = true) := by
      rcases hT : motsOk L with _ | _
      · simp [codeM, hT] at h0
      · exact Lib.hid rfl
    have hF : ¬ findM n L 0 < 0 := by
      intro hh
      unfold codeM at h0
      rw [HT.out, if_pos rfl] at h0
      split at h0
      · first | omega | (rw [if_pos hh] at h0; omega)
      · omega
    obtain ⟨j, hj, hjl⟩ := findM_idx hF
    have h12 := mots_len HT.out
    rw [e1, h0, getM_at hj hjl]
    have HBD := Lib.hid (mots_bds HT.out hjl)
    have HAF := Lib.hid (mots_after HT.out hjl)
    have hj0 : (0 : Int) ≤ (j : Int) := by omega
    have hjL : (j : Int) < L.length := by omega
    have hjc : (j : Int) ≤ (c : Int) := by omega
    obtain ⟨i0, hi, hz0, hz1, hz2⟩ := info_parts int_info
    rw [h0] at hcode
    try rw [if_pos rfl] at hcode
    clear e1 h0 hF
    go_enter Try.func22, Try.ntmps22
    go_wp2_with fail
    refine hcode.mono ?_
    rintro e w1 ⟨rfl, hb1⟩
    try rw [hj]
    clear hcode
    go_wp2
    have hown0 := own_mono (World.ownsRow_lit (e := 2) (size := 1) w1 #[] 0 (Nat.le_refl _) (by unfold maxLen; omega) rfl) hb1.size
    go_loopw [10, 11] (fun v i wr => ∃ (k : Nat) (R : List Int) (A2 : Option Addr) (c2 : Nat), k ≤ 6 ∧ i = .int .i64 k ∧ v = .slice A2 R.length c2 ∧ R.length ≤ k ∧ Below w.heap.size w wr ∧ Hid (wr.ownsRow w.heap.size 2 1 (.slice A2 R.length c2) R.length (R.map (Value.int .i64))) ∧ Hid (R = stsL (fun s => mayM L L[j] s day) k)) (fun _ i _ => 6 - (intOf i).toNat)
    case atStart => exact ⟨0, [], _, _, by omega, rfl, rfl, by simp, hb1.alloc hb1.size _, hown0, by simp [Hid, stsL]⟩
    case round =>
      obtain ⟨k, R, A2, c2, hk, rfl, rfl, hRk, hB, HO, HR⟩ := hrel
      clear hown0
      by_cases hlt : k < 6
      · have HS := Lib.hid (stsL_snoc (fun s => mayM L L[j] s day) k)
        have hk6 : (k : Int) ≤ 5 := by omega
        have hk0 : (0 : Int) ≤ (k : Int) := by omega
        cases hm : mayM L L[j] (k : Int) day
        all_goals
          have HM := Lib.hid hm
          obtain ⟨bf, offf, rfl, hbf, hcf⟩ := Rd.elem motionC 6 (fun _ => rfl) (rdW hB hr) (by omega) hjl
          have f0 : wr.cell? ⟨bf, offf + j * 6, none⟩ = some (.int .i64 L[j].number) := hcf j hjl 0 _ rfl
          have f1 : wr.cell? ⟨bf, offf + j * 6 + 1, none⟩ = some (.string L[j].party) := hcf j hjl 1 _ rfl
          have f2 : wr.cell? ⟨bf, offf + j * 6 + 2, none⟩ = some (.int .i64 L[j].filed) := hcf j hjl 2 _ rfl
          have f3 : wr.cell? ⟨bf, offf + j * 6 + 3, none⟩ = some (.int .i64 L[j].changed) := hcf j hjl 3 _ rfl
          have f4 : wr.cell? ⟨bf, offf + j * 6 + 4, none⟩ = some (.int .i64 L[j].state) := hcf j hjl 4 _ rfl
          have f5 : wr.cell? ⟨bf, offf + j * 6 + 5, none⟩ = some (.int .i64 L[j].after) := hcf j hjl 5 _ rfl
          have hb := HBD.out.2.1
          have hab := HAF.out
          clear hcf
          generalize L[j] = x at *
          obtain ⟨x0, x1, x2, x3, x4, x5⟩ := x
          go_wp2_with fail
          refine (mayGo_c _ c L _ _ _ _ _ _ _ _ _ wr (rdW hB hr) hl hcap hb hab hm).mono ?_
          rintro e w2 ⟨rfl, hb2⟩
          replace HO := Lib.hid (own_below HO.out hb2)
          have hB2 := bt hB hb2
          have hsz2 := hB2.size
          clear hm
          go_wp2_with (first | (at_builtin; refine wpList_push _ rfl _ _ 27 rfl w.heap.size 2 i0 _ 1 8 Try.underlying27 hi hz0 hz1 hz2 rfl (by decide) _ _ _ rfl HO.out [.int .i64 (k : Int)] 2 rfl rfl (by simp [Value.oneCell']) (by unfold maxLen; omega) (by omega) (by omega) ?_; intro A3 c3 w3 hown3 hg3))
          go_roundw
          case measure => simp [intOf]; omega
          case rel => first
            | exact ⟨k + 1, R ++ [(k : Int)], A3, c3, by omega, by go_num, by rw [List.length_append]; rfl, by rw [List.length_append]; simp; omega, below_grown hB2 hg3 (Nat.le_refl _) (fun g h => (HO.out.lt g h).1), by rw [List.length_append, List.map_append]; exact hown3, by unfold Hid; rw [HS.out, ← HR.out, if_pos HM.out]⟩
            | exact ⟨k + 1, R, A2, c2, by omega, by go_num, rfl, by omega, hB2, HO, by unfold Hid; rw [HS.out, ← HR.out, if_neg (by rw [HM.out]; simp)]; simp⟩
      · obtain rfl : k = 6 := by omega
        go_wp2
        go_ret2
        obtain rfl : R = stsL (fun s => mayM L L[j] s day) 6 := HR.out
        exact rowPost2_mk HO.out hB
  · have e1 : nextFor L n day = [] := by rw [nextFor, if_neg h0]
    rw [e1]
    rw [if_neg h0] at hcode
    have hne : (codeM L n day == 0) = false := by simp [h0]
    generalize codeM L n day = q at *
    go_enter Try.func22, Try.ntmps22
    go_wp2_with fail
    refine hcode.mono ?_
    rintro e w1 ⟨rfl, hb1⟩
    go_wp2
    go_ret2
    exact rowPost2_nil hb1

end Go.Proofs.Ytdohegpbdlcnjaa
