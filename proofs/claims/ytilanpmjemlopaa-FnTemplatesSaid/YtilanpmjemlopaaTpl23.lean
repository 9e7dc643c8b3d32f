/- Contract: fill of a row of parts with sections. -/
import Derived.Test.YtilanpmjemlopaaTpl22
namespace Go.Proofs.Ytilanpmjemlopaa
open Go.RowKit
set_option linter.unusedVariables false
theorem tiM_pt {V : List ValueD} {p : PtM} (h : p.sec = false) : txtI V p.d = outI V p.pl := by
  unfold txtI PtM.d; simp only [h]; rfl
theorem tiM_yes {V : List ValueD} {p : PtM} (h : p.sec = true) (ha : accV V p.pl.name = true) : txtI V p.d = textI V p.inner := by
  unfold txtI PtM.d; simp only [h, ha]; rfl
theorem tiM_no {V : List ValueD} {p : PtM} (h : p.sec = true) (ha : accV V p.pl.name = false) : txtI V p.d = [] := by
  unfold txtI PtM.d; simp only [h, ha]; rfl
theorem acc_val_no {V : List ValueD} {n : ByteArray} (h : accV V n = false) : valB V n = ⟨#[]⟩ := by
  unfold accV at h
  rw [decide_eq_false_iff_not] at h
  exact ba_ext (List.length_eq_zero_iff.1 (by rw [len_data]; unfold valB; omega))
theorem acc_val_yes {V : List ValueD} {n : ByteArray} (h : accV V n = true) : ((valB V n).toList == ([] : List UInt8)) = false := by
  unfold accV at h
  rw [decide_eq_true_eq] at h
  rw [beq_eq_false_iff_ne, Go.ByteArray.toList_eq]
  intro e
  exact h (by rw [← len_data]; unfold valB at e; rw [e]; rfl)
def tiK (V : List ValueD) (M : List PtM) (k : Nat) : List UInt8 := textIT V ((M.take k).map PtM.d)
theorem tiM_step {V : List ValueD} {M : List PtM} {k : Nat} (hk : k < M.length) : tiK V M (k + 1) = tiK V M k ++ txtI V M[k].d := by
  unfold tiK textIT
  rw [List.take_succ_eq_append_getElem hk, List.map_append, List.flatMap_append]; simp
set_option maxRecDepth 100000 in
set_option maxHeartbeats 8000000 in
theorem fill_c (A : Option Addr) (c : Nat) (M : List PtM) (vA : Option Addr) (vc : Nat) (V : List ValueD) (w : World) (hr : Rd w w.heap.size A (M.length * 4) (M.flatMap PtM.cells)) (hin : ∀ p ∈ M, Rd w w.heap.size p.A (p.inner.length * 4) (p.inner.flatMap plC)) (hl : wtT (M.map PtM.d) ≤ 4000000) (hT : TxtBT (M.map PtM.d)) (hv : Rd w w.heap.size vA (V.length * 2) (V.flatMap valueC)) (hvl : V.length ≤ 140737488355328) (hvc : V.length ≤ vc) (hVB : ValB V) :
    Calls Try.prog 36 #[.slice A M.length c, .slice vA V.length vc] w fun e w' => e = .returned (.string (mkB (textIT V (M.map PtM.d)))) ∧ Below w.heap.size w w' := by
  have HR := Lib.hid hr; have HIN := Lib.hid hin; have HV := Lib.hid hv; have HVB := Lib.hid hVB; have HTB := Lib.hid hT
  have hml := wt_len (M.map PtM.d)
  rw [List.length_map] at hml
  clear hr hin hv hVB hT
  go_enter Try.func36, Try.ntmps36
  go_wp2
  go_loopw [5, 12] (fun ov i wr => ∃ k : Nat, k ≤ M.length ∧ i = .int .i64 k ∧ ov = .string (mkB (tiK V M k)) ∧ Hid (Below w.heap.size w wr)) (fun _ i _ => M.length - (intOf i).toNat)
  case atStart => exact ⟨0, by omega, rfl, rfl, Below.refl _ _⟩
  case round =>
    obtain ⟨k, hk, rfl, rfl, HB⟩ := hrel
    have hzr := HB.out.size
    have hnl : (tiK V M k).length ≤ wtT ((M.map PtM.d).take k) * 4000000 := by
      unfold tiK; rw [List.map_take]; exact textIT_len HVB.out (HTB.out.take k)
    have hwk := wt_take (M.map PtM.d) k
    have hmz := mkB_size (tiK V M k)
    by_cases hlt : k < M.length
    · obtain ⟨bf, offf, rfl, hbf, hcf⟩ := Rd.elem PtM.cells 4 (fun _ => rfl) (rdW HB.out HR.out) (by omega) hlt
      have f0 : wr.cell? ⟨bf, offf + k * 4, none⟩ = some (.string M[k].pl.text) := hcf k hlt 0 _ rfl
      have f1 : wr.cell? ⟨bf, offf + k * 4 + 1, none⟩ = some (.string M[k].pl.name) := hcf k hlt 1 _ rfl
      have f2 : wr.cell? ⟨bf, offf + k * 4 + 2, none⟩ = some (.bool M[k].sec) := hcf k hlt 2 _ rfl
      have f3 : wr.cell? ⟨bf, offf + k * 4 + 3, none⟩ = some (.slice M[k].A M[k].inner.length M[k].c) := hcf k hlt 3 _ rfl
      clear hcf
      have hki : (k : Int) < (M.length : Int) := by omega
      have hk0 : (0 : Int) ≤ (k : Int) := by omega
      have hts : M[k].pl.text.size ≤ 2000000 := (HTB.out _ (List.mem_map.2 ⟨M[k], List.getElem_mem hlt, rfl⟩)).1
      have hgs : (valB V M[k].pl.name).size ≤ 2000000 := by have := getV_len HVB.out M[k].pl.name; rw [← valB_dl, dl, len_data] at this; exact this
      have HVEQ : Hid ((txtOf V M[k].pl.name).getD ⟨#[]⟩ = valB V M[k].pl.name) := rfl
      have HSTEP := Lib.hid (tiM_step (V := V) hlt)
      cases hsec : M[k].sec with
      | false =>
        rw [hsec] at f2
        have HCAT := Lib.hid ((fill_cat (tiK V M k) M[k].pl.text (valB V M[k].pl.name)).trans (congrArg mkB (HSTEP.out.trans (by rw [tiM_pt hsec]; rfl)).symm))
        go_upto_region 5 with fail
        generalize hW1 : wr.alloc _ = W1
        have hbW1 : Below wr.heap.size wr W1 := by subst hW1; exact (Below.refl _ _).alloc (Nat.le_refl _) _
        have hsW1 : W1.heap.size = wr.heap.size + 1 := by subst hW1; simp
        have cxW1_0 : ∀ i, W1.cell? ⟨wr.heap.size, i, none⟩ = (#[.string M[k].pl.text, .string M[k].pl.name, .bool false, .slice M[k].A M[k].inner.length M[k].c] : Array Value)[i]? := by intro i; subst hW1; simp [go_sem]
        have HSW1 := Lib.hid hsW1; clear hW1 hsW1
        have HBW := Lib.hid (bt HB.out hbW1)
        have hzW : wr.heap.size < W1.heap.size := by have := HSW1.out; omega
        have cx0 := cxW1_0 0
        have cx1 := cxW1_0 1
        have cx2 := cxW1_0 2
        have cx3 := cxW1_0 3
        clear HSW1 cxW1_0
        go_wp2_with fail
        refine (textOf_c vA vc V M[k].pl.name W1 (rdW HBW.out HV.out) hvl hvc).mono ?_
        rintro e w3 ⟨rfl, hb3⟩
        rw [HVEQ.out]
        have HB3 := Lib.hid (bt HBW.out hb3)
        have hz3 := hb3.size
        have hx0 := (hb3.cell (p := ⟨wr.heap.size, 0, none⟩) (by simp only; omega)).trans cx0
        have hx2 := (hb3.cell (p := ⟨wr.heap.size, 2, none⟩) (by simp only; omega)).trans cx2
        have hx3 := (hb3.cell (p := ⟨wr.heap.size, 3, none⟩) (by simp only; omega)).trans cx3
        clear cx0 cx1 cx2 cx3 f0 f1 f2 f3
        go_wp2
        go_roundw
        case rel => exact ⟨k + 1, by omega, by go_num, by rw [HCAT.out], HB3⟩
        case measure => first | (simp [intOf]; done) | (simp [intOf]; omega)
      | true =>
        rw [hsec] at f2
        cases hacc : accV V M[k].pl.name with
        | false =>
          have HCAT := Lib.hid (congrArg mkB (HSTEP.out.trans (by rw [tiM_no hsec hacc, List.append_nil])))
          have hve := acc_val_no hacc
          go_upto_region 5 with fail
          generalize hW1 : wr.alloc _ = W1
          have hbW1 : Below wr.heap.size wr W1 := by subst hW1; exact (Below.refl _ _).alloc (Nat.le_refl _) _
          have hsW1 : W1.heap.size = wr.heap.size + 1 := by subst hW1; simp
          have cxW1_0 : ∀ i, W1.cell? ⟨wr.heap.size, i, none⟩ = (#[.string M[k].pl.text, .string M[k].pl.name, .bool true, .slice M[k].A M[k].inner.length M[k].c] : Array Value)[i]? := by intro i; subst hW1; simp [go_sem]
          have HSW1 := Lib.hid hsW1; clear hW1 hsW1
          have HBW := Lib.hid (bt HB.out hbW1)
          have hzW : wr.heap.size < W1.heap.size := by have := HSW1.out; omega
          have cx0 := cxW1_0 0
          have cx1 := cxW1_0 1
          have cx2 := cxW1_0 2
          have cx3 := cxW1_0 3
          clear HSW1 cxW1_0
          go_wp2_with fail
          refine (textOf_c vA vc V M[k].pl.name W1 (rdW HBW.out HV.out) hvl hvc).mono ?_
          rintro e w3 ⟨rfl, hb3⟩
          rw [HVEQ.out]
          have HB3 := Lib.hid (bt HBW.out hb3)
          have hz3 := hb3.size
          have hx0 := (hb3.cell (p := ⟨wr.heap.size, 0, none⟩) (by simp only; omega)).trans cx0
          have hx2 := (hb3.cell (p := ⟨wr.heap.size, 2, none⟩) (by simp only; omega)).trans cx2
          have hx3 := (hb3.cell (p := ⟨wr.heap.size, 3, none⟩) (by simp only; omega)).trans cx3
          clear cx0 cx1 cx2 cx3 f0 f1 f2 f3
          rw [hve]
          go_wp2
          go_roundw
          case rel => exact ⟨k + 1, by omega, by go_num, by rw [HCAT.out], HB3⟩
          case measure => first | (simp [intOf]; done) | (simp [intOf]; omega)
        | true =>
          have HCAT := Lib.hid ((mkB_app2 (tiK V M k) (textI V M[k].inner)).trans (congrArg mkB (HSTEP.out.trans (by rw [tiM_yes hsec hacc])).symm))
          have hcb := acc_val_yes hacc
          have hil := textI_len HVB.out (HTB.out _ (List.mem_map.2 ⟨M[k], List.getElem_mem hlt, rfl⟩)).2
          have hTk := Lib.hid (HTB.out _ (List.mem_map.2 ⟨M[k], List.getElem_mem hlt, rfl⟩)).2
          have hink := inner_le hlt
          have hiz := mkB_size (textI V M[k].inner)
          change (textI V M[k].inner).length ≤ M[k].inner.length * 4000000 at hil
          go_upto_region 5 with fail
          generalize hW1 : wr.alloc _ = W1
          have hbW1 : Below wr.heap.size wr W1 := by subst hW1; exact (Below.refl _ _).alloc (Nat.le_refl _) _
          have hsW1 : W1.heap.size = wr.heap.size + 1 := by subst hW1; simp
          have cxW1_0 : ∀ i, W1.cell? ⟨wr.heap.size, i, none⟩ = (#[.string M[k].pl.text, .string M[k].pl.name, .bool true, .slice M[k].A M[k].inner.length M[k].c] : Array Value)[i]? := by intro i; subst hW1; simp [go_sem]
          have HSW1 := Lib.hid hsW1; clear hW1 hsW1
          have HBW := Lib.hid (bt HB.out hbW1)
          have hzW : wr.heap.size < W1.heap.size := by have := HSW1.out; omega
          have cx0 := cxW1_0 0
          have cx1 := cxW1_0 1
          have cx2 := cxW1_0 2
          have cx3 := cxW1_0 3
          clear HSW1 cxW1_0
          go_wp2_with fail
          refine (textOf_c vA vc V M[k].pl.name W1 (rdW HBW.out HV.out) hvl hvc).mono ?_
          rintro e w3 ⟨rfl, hb3⟩
          rw [HVEQ.out]
          have HB3 := Lib.hid (bt HBW.out hb3)
          have hz3 := hb3.size
          have hx0 := (hb3.cell (p := ⟨wr.heap.size, 0, none⟩) (by simp only; omega)).trans cx0
          have hx2 := (hb3.cell (p := ⟨wr.heap.size, 2, none⟩) (by simp only; omega)).trans cx2
          have hx3 := (hb3.cell (p := ⟨wr.heap.size, 3, none⟩) (by simp only; omega)).trans cx3
          clear cx0 cx1 cx2 cx3 f0 f1 f2 f3
          go_wp2_with fail
          refine (fillF_c M[k].A M[k].c M[k].inner vA vc V w3 (rdW HB3.out (HIN.out M[k] (List.getElem_mem hlt))) (by omega) hTk.out (rdW HB3.out HV.out) hvl hvc HVB.out).mono ?_
          rintro e w4 ⟨rfl, hb4⟩
          have HB4 := Lib.hid (bt HB3.out hb4)
          have hz4 := hb4.size
          clear hb4
          go_wp2
          go_roundw
          case rel => exact ⟨k + 1, by omega, by go_num, by rw [HCAT.out], HB4⟩
          case measure => first | (simp [intOf]; done) | (simp [intOf]; omega)
    · obtain rfl : k = M.length := by omega
      have HE := Lib.hid (show mkB (tiK V M M.length) = mkB (textIT V (M.map PtM.d)) by unfold tiK; rw [List.take_of_length_le (Nat.le_refl M.length)])
      go_wp2
      go_ret
      exact ⟨by first | (rw [← HE.out]; rfl) | (simp only at HE; rw [← HE.out]), HB.out⟩
end Go.Proofs.Ytilanpmjemlopaa
