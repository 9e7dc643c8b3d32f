/- Contracts of the helpers of the laws for Appeal: to, eq, sz, mark, held. Written by gen_mech.py. -/
import Derived.Test.YtmpdbkkaknmdnaaNum
namespace Go.Proofs.Ytmpdbkkaknmdnaa
open Go.RowKit
structure AppealD where
  level : Int
  filed : Int
  replied : Int
  decided : Int
  result : Int
instance : Inhabited AppealD := ⟨⟨0, 0, 0, 0, 0⟩⟩
def appealC (x : AppealD) : List Value := [.int .i64 x.level, .int .i64 x.filed, .int .i64 x.replied, .int .i64 x.decided, .int .i64 x.result]
def AppealW (x : AppealD) : Prop := (Lit.int .i64 x.level).wf = true ∧ (Lit.int .i64 x.filed).wf = true ∧ (Lit.int .i64 x.replied).wf = true ∧ (Lit.int .i64 x.decided).wf = true ∧ (Lit.int .i64 x.result).wf = true
theorem appeal_info : (Try.prog.info? 52).map (fun i => (i.zero, i.size, i.bytes)) = some (some (.agg #[.int .i64 0, .int .i64 0, .int .i64 0, .int .i64 0, .int .i64 0]), 5, 40) := by kernel_rfl

theorem toAppeal_c (a0 : Int) (a1 : Int) (a2 : Int) (a3 : Int) (a4 : Int) (w : World) : Calls Try.prog 47 #[.agg #[.int .i64 a0, .int .i64 a1, .int .i64 a2, .int .i64 a3, .int .i64 a4]] w fun e w' => e = .returned (.agg #[.int .i64 a0, .int .i64 a1, .int .i64 a2, .int .i64 a3, .int .i64 a4]) ∧ Below w.heap.size w w' := by
  go_enter Try.func47, Try.ntmps47
  go_wp2
  exact bodyPost_ret (v := .agg #[.int .i64 a0, .int .i64 a1, .int .i64 a2, .int .i64 a3, .int .i64 a4]) (by simp [results, Try.results47, go_sem]) rfl ⟨rfl, by repeat (first | exact Below.refl _ _ | refine Below.alloc ?_ (by (try simp) <;> (try omega)) _)⟩

set_option maxHeartbeats 1000000 in
theorem toAppealS_c (A : Option Addr) (c : Nat) (L : List AppealD) (w : World) (hr : Rd w w.heap.size A (L.length * 5) (L.flatMap appealC)) (hl : L.length * 40 ≤ 140737488355328) :
    Calls Try.prog 16 #[.slice A L.length c] w fun e w' => ∃ g, e = .returned (.slice (some ⟨g, 0, none⟩) L.length L.length) ∧
      w'.ownsRow w.heap.size 52 5 (.slice (some ⟨g, 0, none⟩) L.length L.length) L.length (L.flatMap appealC) ∧ Below w.heap.size w w' := by
  obtain ⟨i0, hi, hz0, hz1, hz2⟩ := info_parts appeal_info
  go_enter Try.func16, Try.ntmps16
  go_wp2_with (first | (at_make; refine wpList_make_full _ rfl _ _ 27 rfl w.heap.size 52 i0 _ 5 Try.underlying27 hi hz0 hz1 _ _ _ _ L.length rfl rfl rfl rfl (by rw [hz2]; omega) (by unfold maxLen; omega) (Nat.le_refl _) ?_; intro w1 hown hgrow))
  have hb1 : Below w.heap.size w w1 := (Below.refl _ _).grown hgrow (Nat.le_refl _) (fun k hk => by cases hk)
  clear hgrow hi hz0 hz1 hz2
  go_loopw [4] (fun i wr => ∃ k : Nat, k ≤ L.length ∧ i = .int .i64 k ∧ Below w.heap.size w wr ∧ Hid (∃ ys, wr.ownsRow w.heap.size 52 5 (.slice (some ⟨w.heap.size, 0, none⟩) L.length L.length) L.length ys ∧ ys.take (k * 5) = (L.take k).flatMap appealC))
    (fun i _ => L.length - (intOf i).toNat)
  case atStart => exact ⟨0, by omega, rfl, hb1, _, hown, by simp⟩
  case round =>
    obtain ⟨k, hk, rfl, hB, HO⟩ := hrel
    clear hown hb1
    by_cases hlt : k < L.length
    · obtain ⟨b, off, rfl, hb, hc⟩ := Rd.elem appealC 5 (fun _ => rfl) hr (by omega) hlt
      have hf0 : wr.cell? ⟨b, off + k * 5, none⟩ = some (.int .i64 L[k].level) := by rw [hB.cell (by exact hb)]; exact hc k hlt 0 _ rfl
      have hf1 : wr.cell? ⟨b, off + k * 5 + 1, none⟩ = some (.int .i64 L[k].filed) := by rw [hB.cell (by exact hb)]; exact hc k hlt 1 _ rfl
      have hf2 : wr.cell? ⟨b, off + k * 5 + 2, none⟩ = some (.int .i64 L[k].replied) := by rw [hB.cell (by exact hb)]; exact hc k hlt 2 _ rfl
      have hf3 : wr.cell? ⟨b, off + k * 5 + 3, none⟩ = some (.int .i64 L[k].decided) := by rw [hB.cell (by exact hb)]; exact hc k hlt 3 _ rfl
      have hf4 : wr.cell? ⟨b, off + k * 5 + 4, none⟩ = some (.int .i64 L[k].result) := by rw [hB.cell (by exact hb)]; exact hc k hlt 4 _ rfl
      clear hc
      generalize ha0 : L[k].level = a0 at *
      generalize ha1 : L[k].filed = a1 at *
      generalize ha2 : L[k].replied = a2 at *
      generalize ha3 : L[k].decided = a3 at *
      generalize ha4 : L[k].result = a4 at *
      have Ha0 := Lib.hid ha0; have Ha1 := Lib.hid ha1; have Ha2 := Lib.hid ha2; have Ha3 := Lib.hid ha3; have Ha4 := Lib.hid ha4; clear ha0 ha1 ha2 ha3 ha4
      go_wp2_with fail
      refine (toAppeal_c a0 a1 a2 a3 a4 _).mono ?_
      rintro e w2 ⟨rfl, hb2⟩
      obtain ⟨ys, hown, hys⟩ := HO.out
      have ho2 := own_below hown hb2
      obtain ⟨u0, hu0⟩ := own_cell ho2 (j := k * 5) (by omega)
      have hz0 := ho2.frozenAt (k * 5)
      obtain ⟨u1, hu1⟩ := own_cell ho2 (j := k * 5 + 1) (by omega)
      have hz1 := ho2.frozenAt (k * 5 + 1)
      obtain ⟨u2, hu2⟩ := own_cell ho2 (j := k * 5 + 2) (by omega)
      have hz2 := ho2.frozenAt (k * 5 + 2)
      obtain ⟨u3, hu3⟩ := own_cell ho2 (j := k * 5 + 3) (by omega)
      have hz3 := ho2.frozenAt (k * 5 + 3)
      obtain ⟨u4, hu4⟩ := own_cell ho2 (j := k * 5 + 4) (by omega)
      have hz4 := ho2.frozenAt (k * 5 + 4)
      have HY := Lib.hid hys
      clear hown hys
      go_wp2
      go_roundw
      case rel =>
        refine ⟨k + 1, by omega, by go_num, ?_, ?_⟩
        · exact ((((((hB.trans (hb2.mono hB.size)).setCell (Nat.le_refl _) _).setCell (Nat.le_refl _) _).setCell (Nat.le_refl _) _).setCell (Nat.le_refl _) _).setCell (Nat.le_refl _) _)
        · refine ⟨_, (((((ho2.stored (k * 5) (.int .i64 a0)).1.stored (k * 5 + 1) (.int .i64 a1)).1.stored (k * 5 + 2) (.int .i64 a2)).1.stored (k * 5 + 3) (.int .i64 a3)).1.stored (k * 5 + 4) (.int .i64 a4)).1, ?_⟩
          obtain rfl := Ha0.out; obtain rfl := Ha1.out; obtain rfl := Ha2.out; obtain rfl := Ha3.out; obtain rfl := Ha4.out
          exact fill_step appealC 5 (fun _ => rfl) hlt ho2.1 HY.out
      case measure => simp [intOf]; omega
    · obtain rfl : k = L.length := by omega
      go_wp2
      go_ret
      obtain ⟨ys, hown, hys⟩ := HO.out
      obtain rfl := fill_end appealC 5 hown.1 hys
      exact ⟨_, rfl, hown, hB⟩

theorem eqAppeal_c (a0 : Int) (a1 : Int) (a2 : Int) (a3 : Int) (a4 : Int) (w : World) : Calls Try.prog 53 #[.agg #[.int .i64 a0, .int .i64 a1, .int .i64 a2, .int .i64 a3, .int .i64 a4], .agg #[.int .i64 a0, .int .i64 a1, .int .i64 a2, .int .i64 a3, .int .i64 a4]] w fun e w' => e = .returned (.bool true) ∧ Below w.heap.size w w' := by
  go_enter Try.func53, Try.ntmps53
  go_wp2
  go_ret
  exact ⟨rfl, by repeat (first | exact Below.refl _ _ | refine Below.alloc ?_ (by (try simp) <;> (try omega)) _)⟩

set_option maxHeartbeats 1000000 in
theorem eqAppealS_c (A A' : Option Addr) (c c' : Nat) (L : List AppealD) (w : World) (hr : Rd w w.heap.size A (L.length * 5) (L.flatMap appealC)) (hr' : Rd w w.heap.size A' (L.length * 5) (L.flatMap appealC)) (hl : L.length ≤ 140737488355328) :
    Calls Try.prog 19 #[.slice A L.length c, .slice A' L.length c'] w fun e w' => e = .returned (.bool true) ∧ Below w.heap.size w w' := by
  go_enter Try.func19, Try.ntmps19
  go_wp2
  go_loopw [5] (fun i wr => ∃ k : Nat, k ≤ L.length ∧ i = .int .i64 k ∧ Below w.heap.size w wr) (fun i _ => L.length - (intOf i).toNat)
  case atStart => exact ⟨0, by omega, rfl, Below.refl _ _⟩
  case round =>
    obtain ⟨k, hk, rfl, hB⟩ := hrel
    by_cases hlt : k < L.length
    · obtain ⟨b, off, rfl, hb, hc⟩ := Rd.elem appealC 5 (fun _ => rfl) hr (by omega) hlt
      obtain ⟨b', off', rfl, hb', hc'⟩ := Rd.elem appealC 5 (fun _ => rfl) hr' (by omega) hlt
      have hf0 : wr.cell? ⟨b, off + k * 5, none⟩ = some (.int .i64 L[k].level) := by rw [hB.cell (by exact hb)]; exact hc k hlt 0 _ rfl
      have hg0 : wr.cell? ⟨b', off' + k * 5, none⟩ = some (.int .i64 L[k].level) := by rw [hB.cell (by exact hb')]; exact hc' k hlt 0 _ rfl
      have hf1 : wr.cell? ⟨b, off + k * 5 + 1, none⟩ = some (.int .i64 L[k].filed) := by rw [hB.cell (by exact hb)]; exact hc k hlt 1 _ rfl
      have hg1 : wr.cell? ⟨b', off' + k * 5 + 1, none⟩ = some (.int .i64 L[k].filed) := by rw [hB.cell (by exact hb')]; exact hc' k hlt 1 _ rfl
      have hf2 : wr.cell? ⟨b, off + k * 5 + 2, none⟩ = some (.int .i64 L[k].replied) := by rw [hB.cell (by exact hb)]; exact hc k hlt 2 _ rfl
      have hg2 : wr.cell? ⟨b', off' + k * 5 + 2, none⟩ = some (.int .i64 L[k].replied) := by rw [hB.cell (by exact hb')]; exact hc' k hlt 2 _ rfl
      have hf3 : wr.cell? ⟨b, off + k * 5 + 3, none⟩ = some (.int .i64 L[k].decided) := by rw [hB.cell (by exact hb)]; exact hc k hlt 3 _ rfl
      have hg3 : wr.cell? ⟨b', off' + k * 5 + 3, none⟩ = some (.int .i64 L[k].decided) := by rw [hB.cell (by exact hb')]; exact hc' k hlt 3 _ rfl
      have hf4 : wr.cell? ⟨b, off + k * 5 + 4, none⟩ = some (.int .i64 L[k].result) := by rw [hB.cell (by exact hb)]; exact hc k hlt 4 _ rfl
      have hg4 : wr.cell? ⟨b', off' + k * 5 + 4, none⟩ = some (.int .i64 L[k].result) := by rw [hB.cell (by exact hb')]; exact hc' k hlt 4 _ rfl
      clear hc hc'
      generalize L[k].level = a0 at *
      generalize L[k].filed = a1 at *
      generalize L[k].replied = a2 at *
      generalize L[k].decided = a3 at *
      generalize L[k].result = a4 at *
      have hk0 : (0 : Int) ≤ (k : Int) := by omega
      have hk1 : (k : Int) < (L.length : Int) := by omega
      have kf0 := cell_regrown hf0; have kg0 := cell_regrown hg0
      have kf1 := cell_regrown hf1; have kg1 := cell_regrown hg1
      have kf2 := cell_regrown hf2; have kg2 := cell_regrown hg2
      have kf3 := cell_regrown hf3; have kg3 := cell_regrown hg3
      have kf4 := cell_regrown hf4; have kg4 := cell_regrown hg4
      go_wp2_with fail
      refine wp_region_bel mixed (by kernel_rfl) ?_
      repeat (go_big_quiet_step (exact rg_below (eqAppeal_c _ _ _ _ _ _)))
      refine wpQuiet_nil ?_
      intro w1 hw1
      clear hf0 hg0 kf0 kg0 hf1 hg1 kf1 kg1 hf2 hg2 kf2 kg2 hf3 hg3 kf3 kg3 hf4 hg4 kf4 kg4
      go_wp2
      go_roundw
      case rel => exact ⟨k + 1, by omega, by go_num, bt hB hw1⟩
      case measure => simp [intOf]; omega
    · obtain rfl : k = L.length := by omega
      go_wp2
      go_ret
      exact ⟨rfl, hB⟩

theorem szAppealS_c (A : Option Addr) (n c : Nat) (l : Int) (w : World) (hn : n ≤ 9223372036854775807) (h0 : 0 ≤ l) (h1 : l ≤ 1048576) :
    Calls Try.prog 13 #[.slice A n c, .int .i64 l] w (SzPost n l w) := by
  by_cases h : l < n
  · have h' : l - (n : Int) < 0 := by omega
    go_enter Try.func13, Try.ntmps13
    go_wp2
    go_ret
    exact ⟨-1, rfl, by omega, by omega, fun h => by omega, Below.refl _ _⟩
  · have h' : ¬ l - (n : Int) < 0 := by omega
    go_enter Try.func13, Try.ntmps13
    go_wp2
    go_ret
    exact ⟨_, rfl, by omega, by omega, fun h => by omega, Below.refl _ _⟩

def appealMarks (q : Int) (n : Nat) : List AppealD := (List.range n).map fun (i : Nat) => ⟨q + (i : Int) * 5, q + (i : Int) * 5 + 1, q + (i : Int) * 5 + 2, q + (i : Int) * 5 + 3, q + (i : Int) * 5 + 4⟩
theorem appealMarks_len (q : Int) (n : Nat) : (appealMarks q n).length = n := by simp [appealMarks]
theorem appealMarks_0 {q : Int} {n i : Nat} (h : i < (appealMarks q n).length) : (appealMarks q n)[i].level = q + (i : Int) * 5 := by simp [appealMarks]
theorem appealMarks_1 {q : Int} {n i : Nat} (h : i < (appealMarks q n).length) : (appealMarks q n)[i].filed = q + (i : Int) * 5 + 1 := by simp [appealMarks]
theorem appealMarks_2 {q : Int} {n i : Nat} (h : i < (appealMarks q n).length) : (appealMarks q n)[i].replied = q + (i : Int) * 5 + 2 := by simp [appealMarks]
theorem appealMarks_3 {q : Int} {n i : Nat} (h : i < (appealMarks q n).length) : (appealMarks q n)[i].decided = q + (i : Int) * 5 + 3 := by simp [appealMarks]
theorem appealMarks_4 {q : Int} {n i : Nat} (h : i < (appealMarks q n).length) : (appealMarks q n)[i].result = q + (i : Int) * 5 + 4 := by simp [appealMarks]
set_option maxHeartbeats 1000000 in
theorem markAppealS_c (A : Option Addr) (n c base : Nat) (xs : List Value) (q : Int) (w : World) (hown : w.ownsRow base 52 5 (.slice A n c) n xs) (hn : n ≤ 140737488355328) (h0 : 0 ≤ q) (h1 : q ≤ 16777216) :
    Calls Try.prog 31 #[.slice A n c, .int .i64 q] w fun e w' => e = .returned (.int .i64 (q + n * 5)) ∧
      w'.ownsRow base 52 5 (.slice A n c) n ((appealMarks q n).flatMap appealC) ∧ w.grownBy w' (Value.slice A n c).ownBlock := by
  go_enter Try.func31, Try.ntmps31
  go_wp2
  go_loopw [1, 5] (fun v i wr => ∃ k : Nat, k ≤ n ∧ i = .int .i64 k ∧ v = .int .i64 (q + k * 5) ∧ Hid (w.grownBy wr (Value.slice A n c).ownBlock) ∧ Hid (∃ ys, wr.ownsRow base 52 5 (.slice A n c) n ys ∧ ys.take (k * 5) = ((appealMarks q n).take k).flatMap appealC))
    (fun _ i _ => n - (intOf i).toNat)
  case atStart => exact ⟨0, by omega, rfl, by go_num, World.grownBy.refl _ _, xs, hown, by simp⟩
  case round =>
    obtain ⟨k, hk, rfl, rfl, HG, HO⟩ := hrel
    clear hown
    by_cases hlt : k < n
    · obtain ⟨ys, hown, hys⟩ := HO.out
      obtain ⟨g, rfl, hg1, hg2⟩ := own_head hown (by omega)
      obtain ⟨u0, hu0⟩ := own_cell hown (j := k * 5) (by omega)
      have hz0 := hown.frozenAt (k * 5)
      obtain ⟨u1, hu1⟩ := own_cell hown (j := k * 5 + 1) (by omega)
      have hz1 := hown.frozenAt (k * 5 + 1)
      obtain ⟨u2, hu2⟩ := own_cell hown (j := k * 5 + 2) (by omega)
      have hz2 := hown.frozenAt (k * 5 + 2)
      obtain ⟨u3, hu3⟩ := own_cell hown (j := k * 5 + 3) (by omega)
      have hz3 := hown.frozenAt (k * 5 + 3)
      obtain ⟨u4, hu4⟩ := own_cell hown (j := k * 5 + 4) (by omega)
      have hz4 := hown.frozenAt (k * 5 + 4)
      have HY := Lib.hid hys; have HN := Lib.hid hown; have HL := Lib.hid hown.1
      clear hys hown HO
      go_wp2
      go_roundw
      case rel =>
        refine ⟨k + 1, by omega, by go_num, by go_num, ?_, ?_⟩
        · exact (grown_set (grown_set (grown_set (grown_set (grown_set HG.out)))))
        · refine ⟨_, (((((HN.out.stored (k * 5) (_)).1.stored (k * 5 + 1) (_)).1.stored (k * 5 + 2) (_)).1.stored (k * 5 + 3) (_)).1.stored (k * 5 + 4) (_)).1, ?_⟩
          have hl : (appealMarks q n).length = n := appealMarks_len q n
          have hk2 : k < (appealMarks q n).length := by rw [hl]; exact hlt
          have := fill_step appealC 5 (fun _ => rfl) hk2 (by rw [hl]; exact HL.out) HY.out
          rw [appealC, appealMarks_0, appealMarks_1, appealMarks_2, appealMarks_3, appealMarks_4] at this
          simp only [Int.add_assoc, Int.reduceAdd] at this ⊢
          exact this
      case measure => simp [intOf]; omega
    · obtain rfl : k = n := by omega
      go_wp2
      go_ret
      obtain ⟨ys, hown, hys⟩ := HO.out
      have hl : (appealMarks q k).length = k := appealMarks_len q k
      have : ys = (appealMarks q k).flatMap appealC := by
        have h1 := hown.1
        rw [List.take_of_length_le (by omega), List.take_of_length_le (by omega)] at hys
        exact hys
      subst this
      exact ⟨rfl, hown, HG.out⟩

set_option maxHeartbeats 1000000 in
theorem heldAppealS_c (A : Option Addr) (n c : Nat) (q : Int) (w : World) (hr : Rd w w.heap.size A (n * 5) ((appealMarks q n).flatMap appealC)) (hn : n ≤ 140737488355328) (h0 : 0 ≤ q) (h1 : q ≤ 16777216) :
    Calls Try.prog 32 #[.slice A n c, .int .i64 q] w fun e w' => e = .returned (.int .i64 (q + n * 5)) ∧ Below w.heap.size w w' := by
  go_enter Try.func32, Try.ntmps32
  go_wp2
  go_loopw [1, 5] (fun v i wr => ∃ k : Nat, k ≤ n ∧ i = .int .i64 k ∧ v = .int .i64 (q + k * 5) ∧ Below w.heap.size w wr) (fun _ i _ => n - (intOf i).toNat)
  case atStart => exact ⟨0, by omega, rfl, by go_num, Below.refl _ _⟩
  case round =>
    obtain ⟨k, hk, rfl, rfl, hB⟩ := hrel
    by_cases hlt : k < n
    · have hl : (appealMarks q n).length = n := appealMarks_len q n
      have hr' : Rd w w.heap.size A ((appealMarks q n).length * 5) ((appealMarks q n).flatMap appealC) := by rw [hl]; exact hr
      obtain ⟨b, off, rfl, hb, hc⟩ := Rd.elem (L := appealMarks q n) appealC 5 (fun _ => rfl) (hr'.below hB) (by omega) (k := k) (by omega)
      have hk2 : k < (appealMarks q n).length := by omega
      have hbr : b < wr.heap.size := by have := hB.size; omega
      have hf0 : wr.cell? ⟨b, off + k * 5, none⟩ = some (.int .i64 (q + (k : Int) * 5)) := by have h := hc k hk2 0 _ rfl; rw [appealMarks_0] at h; exact h
      have hf1 : wr.cell? ⟨b, off + k * 5 + 1, none⟩ = some (.int .i64 (q + (k : Int) * 5 + 1)) := by have h := hc k hk2 1 _ rfl; rw [appealMarks_1] at h; exact h
      have hf2 : wr.cell? ⟨b, off + k * 5 + 2, none⟩ = some (.int .i64 (q + (k : Int) * 5 + 2)) := by have h := hc k hk2 2 _ rfl; rw [appealMarks_2] at h; exact h
      have hf3 : wr.cell? ⟨b, off + k * 5 + 3, none⟩ = some (.int .i64 (q + (k : Int) * 5 + 3)) := by have h := hc k hk2 3 _ rfl; rw [appealMarks_3] at h; exact h
      have hf4 : wr.cell? ⟨b, off + k * 5 + 4, none⟩ = some (.int .i64 (q + (k : Int) * 5 + 4)) := by have h := hc k hk2 4 _ rfl; rw [appealMarks_4] at h; exact h
      clear hc hl hk2 hr hr'
      go_wp2
      go_roundw
      case rel => exact ⟨k + 1, by omega, by go_num, by go_num, hB⟩
      case measure => simp [intOf]; omega
    · obtain rfl : k = n := by omega
      go_wp2
      go_ret
      exact ⟨rfl, hB⟩
end Go.Proofs.Ytmpdbkkaknmdnaa
