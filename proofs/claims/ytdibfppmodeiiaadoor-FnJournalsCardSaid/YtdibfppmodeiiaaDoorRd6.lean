/- Contracts: IsWhole, ReadJournal, LastOfKind, CutJournal, AppendEntry of both texts. -/
import Derived.Test.YtdibfppmodeiiaaDoorRd5
namespace Go.Proofs.YtdibfppmodeiiaaDoor
open Go.RowKit
set_option linter.unusedVariables false
theorem rdAll_len (s : ByteArray) : (rdAll s).1.length ≤ 20 := (rdF_len 20 s 7).1
theorem rdAll_all (s : ByteArray) : entsAll (rdAll s).1 = true := rdF_all
theorem ents_w {L : List EntryD} (h : entsAll L = true) : ∀ x ∈ L, EntryW x := by
  intro x hx
  obtain ⟨i, hi, rfl⟩ := List.getElem_of_mem hx
  have := ent_text h hi
  refine ⟨?_, by unfold maxLen; omega⟩
  simp [Lit.wf, IntKind.min, IntKind.max, IntKind.signed, IntKind.bits]
  omega
def lastAt (L : List EntryD) (kd : Int) : Nat → ByteArray × Int
  | 0 => (⟨#[]⟩, 4)
  | k + 1 => if (L.getD k default).kind = kd then ((L.getD k default).text, 0) else lastAt L kd k
theorem lastAt_succ {L : List EntryD} {kd : Int} {k : Nat} (hk : k < L.length) : lastAt L kd (k + 1) = if L[k].kind = kd then (L[k].text, 0) else lastAt L kd k := by
  rw [lastAt, List.getD_eq_getElem?_getD, List.getElem?_eq_getElem hk]; rfl
noncomputable def lastR (s : ByteArray) (kd : Int) : ByteArray × Int := lastAt (rdAll s).1 kd (rdAll s).1.length
noncomputable def cutR (s : ByteArray) (n : Int) : ByteArray × Int := if inB n 0 (rdAll s).1.length then ((wjAt ((rdAll s).1.take n.toNat) n.toNat).1, 0) else (⟨#[]⟩, 2)
theorem ents_take {L : List EntryD} (h : entsAll L = true) (k : Nat) : entsAll (L.take k) = true := by
  unfold entsAll at *
  rw [List.all_eq_true] at *
  exact fun x hx => h x (List.mem_of_mem_take hx)


theorem impl_IsWhole (s : ByteArray) (b : Bool) (w : World) (hs : s.size ≤ 2000000) (hE : JEnv w) (h : ((((rdAll s).2.size : Nat) : Int) == 0) = b) : Calls Tryd.prog 25 #[.string s] w fun e w' => e = .returned (.bool b) ∧ Below w.heap.size w w' := by
  have HR := Lib.hid (read_c s w hs hE)
  have HB := Lib.hid h
  clear h
  go_enter Tryd.func25, Tryd.ntmps25
  go_wp2_with fail
  refine HR.out.mono ?_
  rintro e w1 ⟨A, c, rfl, ho, hb1, _, _⟩
  go_wp2
  go_ret
  exact ⟨ret_bool HB.out, hb1⟩
theorem impl_ReadJournal (s : ByteArray) (w : World) (hs : s.size ≤ 2000000) (hE : JEnv w) : Calls Tryd.prog 12 #[.string s] w (ReadPost s w) := by
  have HR := Lib.hid (read_c s w hs hE)
  go_enter Tryd.func12, Tryd.ntmps12
  go_wp2_with fail
  refine HR.out.mono ?_
  rintro e w1 ⟨A, c, rfl, ho, hb1, h1, h2⟩
  go_wp2
  go_ret2
  exact ⟨A, c, rfl, ho, hb1, h1, h2⟩
set_option maxRecDepth 100000 in
set_option maxHeartbeats 2000000 in
theorem impl_LastOfKind (s : ByteArray) (kd : Int) (w : World) (hs : s.size ≤ 2000000) (hE : JEnv w) : Calls Tryd.prog 10 #[.string s, .int .u8 kd] w fun e w' => e = .returned (.tuple #[.string (lastR s kd).1, .int .i64 (lastR s kd).2]) ∧ Below w.heap.size w w' := by
  have HR := Lib.hid (read_c s w hs hE)
  have hll := rdAll_len s
  have HD : Hid (lastR s kd = lastAt (rdAll s).1 kd (rdAll s).1.length) := rfl
  go_enter Tryd.func10, Tryd.ntmps10
  go_wp2_with fail
  refine HR.out.mono ?_
  unfold ReadPost
  generalize (rdAll s).2 = rest at *
  generalize (rdAll s).1 = L at *
  rintro e w1 ⟨A, c, rfl, ho, hb1, hcc, _⟩
  have HO := Lib.hid (Rd.of_own ho)
  have hb1' := hb1
  clear ho
  go_wp2
  go_loop [8] (fun i => ∃ k : Nat, k ≤ L.length ∧ i = .int .i64 ((k : Int) - 1) ∧ Hid (lastAt L kd L.length = lastAt L kd k)) (fun i => (intOf i + 1).toNat)
  case atStart => exact ⟨L.length, by omega, rfl, rfl⟩
  case round =>
    obtain ⟨k, hk, rfl, HK⟩ := hrel
    by_cases h0 : k = 0
    · have hneg : (k : Int) - 1 < 0 := by omega
      have HF : Hid (lastAt L kd L.length = (⟨#[]⟩, 4)) := by rw [HK.out, h0]; rfl
      clear h0
      go_wp2
      go_ret2
      exact ⟨by rw [HD.out, HF.out]; rfl, hb1'⟩
    · obtain ⟨j, rfl⟩ : ∃ j, k = j + 1 := ⟨k - 1, by omega⟩
      have hj : j < L.length := by omega
      have HS := Lib.hid (lastAt_succ (kd := kd) hj)
      have hjI : (j : Int) < (L.length : Int) := by omega
      have hj0 : (0 : Int) ≤ (j : Int) := by omega
      have hjc : (j : Int) ≤ (c : Int) := by omega
      have e1 : (((j + 1 : Nat) : Int) - 1) = (j : Int) := by omega
      rw [e1]
      clear e1
      obtain ⟨bf, offf, rfl, hbf, hcf⟩ := Rd.elem entryC 2 (fun _ => rfl) (HO.out) (by omega) hj
      have f0 : w1.cell? ⟨bf, offf + j * 2, none⟩ = some (.int .u8 L[j].kind) := hcf j hj 0 _ rfl
      have f1 : w1.cell? ⟨bf, offf + j * 2 + 1, none⟩ = some (.string L[j].text) := hcf j hj 1 _ rfl
      clear hcf
      generalize L[j] = x at *
      obtain ⟨x0, x1⟩ := x
      cases hq : (x0 == kd)
      · go_wp2
        go_round
        case rel => exact ⟨j, by omega, by go_num, by unfold Hid; rw [HK.out, HS.out, if_neg (by simpa using hq)]⟩
        case measure => simp [intOf] <;> omega
      · go_wp2
        go_ret2
        exact ⟨by rw [HD.out, HK.out, HS.out, if_pos (by simpa using hq)]; rfl, hb1'⟩
set_option maxRecDepth 100000 in
set_option maxHeartbeats 2000000 in
theorem impl_CutJournal (s : ByteArray) (n : Int) (w : World) (hs : s.size ≤ 2000000) (hE : JEnv w) : Calls Tryd.prog 20 #[.string s, .int .i64 n] w fun e w' => e = .returned (.tuple #[.string (cutR s n).1, .int .i64 (cutR s n).2]) ∧ Below w.heap.size w w' := by
  have HR := Lib.hid (read_c s w hs hE)
  have hll := rdAll_len s
  have HAL := Lib.hid (rdAll_all s)
  have HD : Hid (cutR s n = if inB n 0 (rdAll s).1.length then ((wjAt ((rdAll s).1.take n.toNat) n.toNat).1, 0) else (⟨#[]⟩, 2)) := rfl
  have HT := Lib.hid hE.1
  go_enter Tryd.func20, Tryd.ntmps20
  go_wp2_with fail
  refine HR.out.mono ?_
  unfold ReadPost
  generalize (rdAll s).2 = rest at *
  generalize (rdAll s).1 = L at *
  rintro e w1 ⟨A, c, rfl, ho, hb1, hcc, _⟩
  have HO := Lib.hid (Rd.of_own ho)
  have hb1' := hb1
  clear ho
  cases hn : inB n 0 L.length
  · have HD2 : Hid (cutR s n = (⟨#[]⟩, 2)) := by unfold Hid; rw [HD.out, hn]; rfl
    go_wp2_with (first | (go_at_call 39; refine (within_b _ _ _ _ _ hn).mono ?_; rintro e w' ⟨rfl, rfl⟩))
    go_ret2
    exact ⟨by rw [HD2.out]; rfl, hb1'⟩
  · obtain ⟨hn0, hn1⟩ := inB_iff.1 hn
    obtain ⟨k, rfl⟩ := Int.eq_ofNat_of_zero_le hn0
    have hk : k ≤ L.length := by omega
    have HD2 : Hid (cutR s (k : Int) = ((wjAt (L.take k) k).1, 0)) := by unfold Hid; rw [HD.out, hn]; rfl
    have hlk : (L.take k).length = k := by rw [List.length_take]; omega
    have HW := write_c A c (L.take k) w1 (by rw [hlk]; exact Rd.take_ (f := entryC) (m := 2) (fun _ => rfl) HO.out hk) (by omega) (by omega) (ents_w (ents_take HAL.out k)) (ents_take HAL.out k) (by omega) (HT.out.below hb1)
    rw [hlk] at HW
    have HWW := Lib.hid HW
    have hkc : (k : Int) ≤ (c : Int) := by omega
    clear HW hlk
    go_wp2_with (first | (go_at_call 39; refine (within_b _ _ _ _ _ hn).mono ?_; rintro e w' ⟨rfl, rfl⟩))
    refine HWW.out.mono ?_
    rintro e w2 ⟨rfl, hb2⟩
    go_wp2
    go_ret2
    exact ⟨by rw [HD2.out]; rfl, bt hb1' hb2⟩
set_option maxRecDepth 100000 in
set_option maxHeartbeats 2000000 in
theorem impl_AppendEntry (s : ByteArray) (a0 : Int) (a1 : ByteArray) (w : World) (hs : s.size ≤ 2000000) (hk : 0 ≤ a0 ∧ a0 ≤ 255) (h1 : a1.size ≤ maxLen) (hE : JEnv w) : Calls Tryd.prog 7 #[.string s, .agg #[.int .u8 a0, .string a1]] w fun e w' => e = .returned (.tuple #[.string (wjR ((rdAll s).1 ++ [⟨a0, a1⟩])).1, .int .i64 (wjR ((rdAll s).1 ++ [⟨a0, a1⟩])).2]) ∧ Below w.heap.size w w' := by
  have HRR := Lib.hid (fun W h => read_c s W hs h)
  have hll := rdAll_len s
  have HAL := Lib.hid (rdAll_all s)
  obtain ⟨i0, hi, hz0, hz1, hz2⟩ := info_parts entry_info
  have HE := Lib.hid hE
  clear hE
  go_enter Tryd.func7, Tryd.ntmps7
  go_wp2_with fail
  generalize hW0 : w.alloc _ = W0
  have hbW0 : Below w.heap.size w W0 := by subst hW0; exact (Below.refl _ _).alloc (Nat.le_refl _) _
  have hsW0 : W0.heap.size = w.heap.size + 1 := by subst hW0; simp
  have cxW0_0 : ∀ i, W0.cell? ⟨w.heap.size, i, none⟩ = (#[.int .u8 a0, .string a1] : Array Value)[i]? := by intro i; subst hW0; simp [go_sem]
  have HSW0 := Lib.hid hsW0; clear hW0 hsW0
  refine (HRR.out W0 (HE.out.below hbW0)).mono ?_
  unfold ReadPost
  generalize (rdAll s).2 = rest at *
  generalize hL : (rdAll s).1 = L at *
  have HLL := Lib.hid hL
  clear hL
  rintro e w1 ⟨A, c, rfl, ho, hb1, hcc, hcm⟩
  replace cxW0_0 := fun i => (hb1.cell (by (try simp only); have := HSW0.out; omega)).trans (cxW0_0 i)
  have hB1 := bt hbW0 hb1
  have HO := Lib.hid ho
  clear ho
  have HWX : Hid (∀ x ∈ L ++ [(⟨a0, a1⟩ : EntryD)], EntryW x) := by
    intro x hx
    rcases List.mem_append.1 hx with h | h
    · exact ents_w HAL.out x h
    · rw [List.mem_singleton.1 h]
      refine ⟨?_, h1⟩
      simp [Lit.wf, IntKind.min, IntKind.max, IntKind.signed, IntKind.bits]
      omega
  have hbs := hb1.size
  go_wp2_with (at_builtin; refine wpList_push w1 rfl _ _ 33 rfl W0.heap.size 25 i0 _ 2 24 Tryd.underlying33 hi hz0 hz1 hz2 rfl (by decide) (.slice A L.length c) L.length (L.flatMap entryC) (by rfl) HO.out [.int .u8 a0, .string a1] 25 (by rfl) rfl (by simp [Value.oneCell']) (by unfold maxLen; omega) (by omega) hbs ?_; intro A4 c4 w4 ho4 hg4)
  have e1 : ((L ++ [(⟨a0, a1⟩ : EntryD)]) : List EntryD).length = L.length + 1 := by simp
  have e2 : ((L ++ [(⟨a0, a1⟩ : EntryD)]) : List EntryD).flatMap entryC = L.flatMap entryC ++ [.int .u8 a0, .string a1] := by simp [entryC]
  have ho5 : w4.ownsRow W0.heap.size 25 2 (.slice A4 (L ++ [(⟨a0, a1⟩ : EntryD)]).length c4) (L ++ [(⟨a0, a1⟩ : EntryD)]).length ((L ++ [(⟨a0, a1⟩ : EntryD)]).flatMap entryC) := by rw [e1, e2]; exact ho4
  have hc4 := own_cap ho5
  have hB4 : Below w.heap.size w w4 := below_grown hB1 hg4 (Nat.le_refl _) (fun k hk => by have := (World.ownsRow.lt HO.out k hk).1; have := hbW0.size; omega)
  have HA := impl_WriteJournal A4 c4 (L ++ [⟨a0, a1⟩]) w4 (Rd.of_own ho5) (by rw [e1]; omega) hc4.1 HWX.out (HE.out.below hB4).1
  rw [e1] at HA
  clear ho5 ho4 hc4 e1 e2 hg4
  refine HA.mono ?_
  rintro e w5 ⟨rfl, hb5⟩
  go_wp2
  go_ret2
  exact ⟨by rw [HLL.out]; rfl, bt hB4 hb5⟩


theorem spec_ReadJournal (s : ByteArray) (w : World) (hs : s.size ≤ 2000000) : Calls Tryd.prog 13 #[.string s] w (ReadPost s w) := by
  have HR := Lib.hid (l33Read_c s w hs)
  go_enter Tryd.func13, Tryd.ntmps13
  go_wp2_with fail
  refine HR.out.mono ?_
  rintro e w1 ⟨A, c, rfl, ho, hb1, h1, h2⟩
  go_wp2
  go_ret2
  exact ⟨A, c, rfl, ho, hb1, h1, h2⟩
set_option maxRecDepth 100000 in
set_option maxHeartbeats 2000000 in
theorem spec_LastOfKind (s : ByteArray) (kd : Int) (w : World) (hs : s.size ≤ 2000000) : Calls Tryd.prog 11 #[.string s, .int .u8 kd] w fun e w' => e = .returned (.tuple #[.string (lastR s kd).1, .int .i64 (lastR s kd).2]) ∧ Below w.heap.size w w' := by
  have HR := Lib.hid (l33Read_c s w hs)
  have hll := rdAll_len s
  have HD : Hid (lastR s kd = lastAt (rdAll s).1 kd (rdAll s).1.length) := rfl
  go_enter Tryd.func11, Tryd.ntmps11
  go_wp2_with fail
  refine HR.out.mono ?_
  unfold ReadPost
  generalize (rdAll s).2 = rest at *
  generalize (rdAll s).1 = L at *
  rintro e w1 ⟨A, c, rfl, ho, hb1, hcc, _⟩
  have HO := Lib.hid (Rd.of_own ho)
  have hb1' := hb1
  clear ho
  go_wp2
  go_loop [8] (fun i => ∃ k : Nat, k ≤ L.length ∧ i = .int .i64 ((k : Int) - 1) ∧ Hid (lastAt L kd L.length = lastAt L kd k)) (fun i => (intOf i + 1).toNat)
  case atStart => exact ⟨L.length, by omega, rfl, rfl⟩
  case round =>
    obtain ⟨k, hk, rfl, HK⟩ := hrel
    by_cases h0 : k = 0
    · have hneg : (k : Int) - 1 < 0 := by omega
      have HF : Hid (lastAt L kd L.length = (⟨#[]⟩, 4)) := by rw [HK.out, h0]; rfl
      clear h0
      go_wp2
      go_ret2
      exact ⟨by rw [HD.out, HF.out]; rfl, hb1'⟩
    · obtain ⟨j, rfl⟩ : ∃ j, k = j + 1 := ⟨k - 1, by omega⟩
      have hj : j < L.length := by omega
      have HS := Lib.hid (lastAt_succ (kd := kd) hj)
      have hjI : (j : Int) < (L.length : Int) := by omega
      have hj0 : (0 : Int) ≤ (j : Int) := by omega
      have hjc : (j : Int) ≤ (c : Int) := by omega
      have e1 : (((j + 1 : Nat) : Int) - 1) = (j : Int) := by omega
      rw [e1]
      clear e1
      obtain ⟨bf, offf, rfl, hbf, hcf⟩ := Rd.elem entryC 2 (fun _ => rfl) (HO.out) (by omega) hj
      have f0 : w1.cell? ⟨bf, offf + j * 2, none⟩ = some (.int .u8 L[j].kind) := hcf j hj 0 _ rfl
      have f1 : w1.cell? ⟨bf, offf + j * 2 + 1, none⟩ = some (.string L[j].text) := hcf j hj 1 _ rfl
      clear hcf
      generalize L[j] = x at *
      obtain ⟨x0, x1⟩ := x
      cases hq : (x0 == kd)
      · go_wp2
        go_round
        case rel => exact ⟨j, by omega, by go_num, by unfold Hid; rw [HK.out, HS.out, if_neg (by simpa using hq)]⟩
        case measure => simp [intOf] <;> omega
      · go_wp2
        go_ret2
        exact ⟨by rw [HD.out, HK.out, HS.out, if_pos (by simpa using hq)]; rfl, hb1'⟩
set_option maxRecDepth 100000 in
set_option maxHeartbeats 2000000 in
theorem spec_CutJournal (s : ByteArray) (n : Int) (w : World) (hs : s.size ≤ 2000000) : Calls Tryd.prog 21 #[.string s, .int .i64 n] w fun e w' => e = .returned (.tuple #[.string (cutR s n).1, .int .i64 (cutR s n).2]) ∧ Below w.heap.size w w' := by
  have HR := Lib.hid (l33Read_c s w hs)
  have hll := rdAll_len s
  have HAL := Lib.hid (rdAll_all s)
  have HD : Hid (cutR s n = if inB n 0 (rdAll s).1.length then ((wjAt ((rdAll s).1.take n.toNat) n.toNat).1, 0) else (⟨#[]⟩, 2)) := rfl
  go_enter Tryd.func21, Tryd.ntmps21
  go_wp2_with fail
  refine HR.out.mono ?_
  unfold ReadPost
  generalize (rdAll s).2 = rest at *
  generalize (rdAll s).1 = L at *
  rintro e w1 ⟨A, c, rfl, ho, hb1, hcc, _⟩
  have HO := Lib.hid (Rd.of_own ho)
  have hb1' := hb1
  clear ho
  cases hn : inB n 0 L.length
  · have HD2 : Hid (cutR s n = (⟨#[]⟩, 2)) := by unfold Hid; rw [HD.out, hn]; rfl
    go_wp2_with (first | (go_at_call 40; refine (l01In_b _ _ _ _ _ hn).mono ?_; rintro e w' ⟨rfl, rfl⟩))
    go_ret2
    exact ⟨by rw [HD2.out]; rfl, hb1'⟩
  · obtain ⟨hn0, hn1⟩ := inB_iff.1 hn
    obtain ⟨k, rfl⟩ := Int.eq_ofNat_of_zero_le hn0
    have hk : k ≤ L.length := by omega
    have HD2 : Hid (cutR s (k : Int) = ((wjAt (L.take k) k).1, 0)) := by unfold Hid; rw [HD.out, hn]; rfl
    have hlk : (L.take k).length = k := by rw [List.length_take]; omega
    have HW := l33Write_c A c (L.take k) w1 (by rw [hlk]; exact Rd.take_ (f := entryC) (m := 2) (fun _ => rfl) HO.out hk) (by omega) (by omega) (ents_w (ents_take HAL.out k)) (ents_take HAL.out k) (by omega)
    rw [hlk] at HW
    have HWW := Lib.hid HW
    have hkc : (k : Int) ≤ (c : Int) := by omega
    clear HW hlk
    go_wp2_with (first | (go_at_call 40; refine (l01In_b _ _ _ _ _ hn).mono ?_; rintro e w' ⟨rfl, rfl⟩))
    refine HWW.out.mono ?_
    rintro e w2 ⟨rfl, hb2⟩
    go_wp2
    go_ret2
    exact ⟨by rw [HD2.out]; rfl, bt hb1' hb2⟩
set_option maxRecDepth 100000 in
set_option maxHeartbeats 2000000 in
theorem spec_AppendEntry (s : ByteArray) (a0 : Int) (a1 : ByteArray) (w : World) (hs : s.size ≤ 2000000) (hk : 0 ≤ a0 ∧ a0 ≤ 255) (h1 : a1.size ≤ maxLen) : Calls Tryd.prog 8 #[.string s, .agg #[.int .u8 a0, .string a1]] w fun e w' => e = .returned (.tuple #[.string (wjR ((rdAll s).1 ++ [⟨a0, a1⟩])).1, .int .i64 (wjR ((rdAll s).1 ++ [⟨a0, a1⟩])).2]) ∧ Below w.heap.size w w' := by
  have HRR := Lib.hid (fun W => l33Read_c s W hs)
  have hll := rdAll_len s
  have HAL := Lib.hid (rdAll_all s)
  obtain ⟨i0, hi, hz0, hz1, hz2⟩ := info_parts entry_info
  go_enter Tryd.func8, Tryd.ntmps8
  go_wp2_with fail
  generalize hW0 : w.alloc _ = W0
  have hbW0 : Below w.heap.size w W0 := by subst hW0; exact (Below.refl _ _).alloc (Nat.le_refl _) _
  have hsW0 : W0.heap.size = w.heap.size + 1 := by subst hW0; simp
  have cxW0_0 : ∀ i, W0.cell? ⟨w.heap.size, i, none⟩ = (#[.int .u8 a0, .string a1] : Array Value)[i]? := by intro i; subst hW0; simp [go_sem]
  have HSW0 := Lib.hid hsW0; clear hW0 hsW0
  refine (HRR.out W0).mono ?_
  unfold ReadPost
  generalize (rdAll s).2 = rest at *
  generalize hL : (rdAll s).1 = L at *
  have HLL := Lib.hid hL
  clear hL
  rintro e w1 ⟨A, c, rfl, ho, hb1, hcc, hcm⟩
  replace cxW0_0 := fun i => (hb1.cell (by (try simp only); have := HSW0.out; omega)).trans (cxW0_0 i)
  have hB1 := bt hbW0 hb1
  have HO := Lib.hid ho
  clear ho
  have HWX : Hid (∀ x ∈ L ++ [(⟨a0, a1⟩ : EntryD)], EntryW x) := by
    intro x hx
    rcases List.mem_append.1 hx with h | h
    · exact ents_w HAL.out x h
    · rw [List.mem_singleton.1 h]
      refine ⟨?_, h1⟩
      simp [Lit.wf, IntKind.min, IntKind.max, IntKind.signed, IntKind.bits]
      omega
  have hbs := hb1.size
  go_wp2_with (at_builtin; refine wpList_push w1 rfl _ _ 33 rfl W0.heap.size 25 i0 _ 2 24 Tryd.underlying33 hi hz0 hz1 hz2 rfl (by decide) (.slice A L.length c) L.length (L.flatMap entryC) (by rfl) HO.out [.int .u8 a0, .string a1] 25 (by rfl) rfl (by simp [Value.oneCell']) (by unfold maxLen; omega) (by omega) hbs ?_; intro A4 c4 w4 ho4 hg4)
  have e1 : ((L ++ [(⟨a0, a1⟩ : EntryD)]) : List EntryD).length = L.length + 1 := by simp
  have e2 : ((L ++ [(⟨a0, a1⟩ : EntryD)]) : List EntryD).flatMap entryC = L.flatMap entryC ++ [.int .u8 a0, .string a1] := by simp [entryC]
  have ho5 : w4.ownsRow W0.heap.size 25 2 (.slice A4 (L ++ [(⟨a0, a1⟩ : EntryD)]).length c4) (L ++ [(⟨a0, a1⟩ : EntryD)]).length ((L ++ [(⟨a0, a1⟩ : EntryD)]).flatMap entryC) := by rw [e1, e2]; exact ho4
  have hc4 := own_cap ho5
  have hB4 : Below w.heap.size w w4 := below_grown hB1 hg4 (Nat.le_refl _) (fun k hk => by have := (World.ownsRow.lt HO.out k hk).1; have := hbW0.size; omega)
  have HC := l33Code_c A4 c4 (L ++ [⟨a0, a1⟩]) w4 (Rd.of_own ho5) (by rw [e1]; omega) hc4.1 HWX.out
  rw [e1] at HC
  by_cases h0 : entCode (L ++ [⟨a0, a1⟩]) = 0
  · obtain ⟨hall, h20⟩ := entCode_0 h0
    have HR : Hid (wjR (L ++ [⟨a0, a1⟩]) = ((wjAt (L ++ [⟨a0, a1⟩]) (L ++ [(⟨a0, a1⟩ : EntryD)]).length).1, 0)) := by unfold Hid wjR; rw [if_pos h0]
    have HA := fun W (h : Below w4.heap.size w4 W) => l33Write_c A4 c4 (L ++ [⟨a0, a1⟩]) W (rdW h (Rd.of_own ho5)) (by rw [e1]; omega) hc4.1 HWX.out hall h20
    rw [e1] at HA HR
    rw [h0] at HC
    have HAA := Lib.hid HA
    clear ho5 ho4 hc4 e1 e2 hg4 h0 hall HA h20
    refine HC.mono ?_
    rintro e w5 ⟨rfl, hb5⟩
    go_wp2_with fail
    refine (HAA.out w5 hb5).mono ?_
    rintro e w6 ⟨rfl, hb6⟩
    go_wp2
    go_ret2
    exact ⟨by rw [HLL.out, HR.out]; rfl, bt (bt hB4 hb5) hb6⟩
  · have HR : Hid (wjR (L ++ [⟨a0, a1⟩]) = (ByteArray.empty, entCode (L ++ [⟨a0, a1⟩]))) := by unfold Hid wjR; rw [if_neg h0]
    have hne : (entCode (L ++ [⟨a0, a1⟩]) != 0) = true := by rw [bne_iff_ne]; exact h0
    have hne2 : (entCode (L ++ [⟨a0, a1⟩]) == 0) = false := by rw [beq_eq_false_iff_ne]; exact h0
    generalize entCode (L ++ [⟨a0, a1⟩]) = q at *
    clear ho5 ho4 hc4 e1 e2 hg4 h0
    refine HC.mono ?_
    rintro e w5 ⟨rfl, hb5⟩
    go_wp2
    go_ret2
    exact ⟨by rw [HLL.out, HR.out]; rfl, bt hB4 hb5⟩

end Go.Proofs.YtdibfppmodeiiaaDoor
