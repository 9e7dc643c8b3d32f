/- Contracts of the helpers of the laws for []string: eq, mark, held. -/
import Derived.Test.YtiamignopfhkfaaGreatDoorZ2
import Derived.Test.YtiamignopfhkfaaGreatDoorZ4
import Derived.Test.YtiamignopfhkfaaGreatDoorZ11
namespace Go.Proofs.YtiamignopfhkfaaGreatDoor
open Go.RowKit
set_option linter.unusedVariables false
theorem str_step {L : List ByteArray} {ys : List Value} {k : Nat} (hk : k < L.length) (hlen : ys.length = L.length * 1) (h : ys.take k = (L.take k).map Value.string) : (ys.set k (.string L[k])).take (k + 1) = (L.take (k + 1)).map Value.string := by
  rw [List.take_add_one, List.getElem?_set_self (by omega), List.take_set_of_le (Nat.le_refl _), h, List.take_succ_eq_append_getElem hk]
  simp only [List.map_append, List.map_cons, List.map_nil]
  rfl
theorem str_end {L : List ByteArray} {ys : List Value} {n : Nat} (hn : L.length = n) (hlen : ys.length = n * 1) (h : ys.take n = (L.take n).map Value.string) : ys = L.map Value.string := by
  rw [List.take_of_length_le (by omega), List.take_of_length_le (by omega)] at h
  exact h
set_option maxHeartbeats 1000000 in
theorem eqStringS_c (A A' : Option Addr) (c c' : Nat) (L : List ByteArray) (w : World) (hr : Rd w w.heap.size A L.length (L.map Value.string)) (hr' : Rd w w.heap.size A' L.length (L.map Value.string)) (hl : L.length ≤ 140737488355328) :
    Calls Tryz.prog 27 #[.slice A L.length c, .slice A' L.length c'] w fun e w' => e = .returned (.bool true) ∧ Below w.heap.size w w' := by
  go_enter Tryz.func27, Tryz.ntmps27
  go_wp2
  go_loopw [5] (fun i wr => ∃ k : Nat, k ≤ L.length ∧ i = .int .i64 k ∧ Below w.heap.size w wr) (fun i _ => L.length - (intOf i).toNat)
  case atStart => exact ⟨0, by omega, rfl, Below.refl _ _⟩
  case round =>
    obtain ⟨k, hk, rfl, hB⟩ := hrel
    by_cases hlt : k < L.length
    · obtain ⟨b, off, rfl, hb, hc⟩ := Rd.strs (hr.below hB) hlt
      obtain ⟨b', off', rfl, hb', hc'⟩ := Rd.strs (hr'.below hB) hlt
      have hf0 : wr.cell? ⟨b, off + k, none⟩ = some (.string L[k]) := hc k hlt
      have hg0 : wr.cell? ⟨b', off' + k, none⟩ = some (.string L[k]) := hc' k hlt
      clear hc hc'
      generalize L[k] = a0 at *
      have hk0 : (0 : Int) ≤ (k : Int) := by omega
      have hk1 : (k : Int) < (L.length : Int) := by omega
      have kf0 := cell_regrown hf0; have kg0 := cell_regrown hg0
      go_wp2_with fail
      refine wp_region_bel mixed (by kernel_rfl) ?_
      repeat (go_big_quiet_step (fail))
      refine wpQuiet_nil ?_
      intro w1 hw1
      clear hf0 hg0 kf0 kg0
      go_wp2
      go_roundw
      case rel => exact ⟨k + 1, by omega, by go_num, bt hB hw1⟩
      case measure => simp [intOf]; omega
    · obtain rfl : k = L.length := by omega
      go_wp2
      go_ret
      exact ⟨rfl, hB⟩

def strMarks (q : Int) (n : Nat) : List ByteArray := (List.range n).map fun (i : Nat) => markT (q + (i : Int))
theorem strMarks_len (q : Int) (n : Nat) : (strMarks q n).length = n := by simp [strMarks]
theorem strMarks_0 {q : Int} {n i : Nat} (h : i < (strMarks q n).length) : (strMarks q n)[i] = markT (q + (i : Int)) := by simp [strMarks]
set_option maxHeartbeats 1000000 in
theorem markStringS_c (A : Option Addr) (n c base : Nat) (xs : List Value) (q : Int) (w : World) (hown : w.ownsRow base 9 1 (.slice A n c) n xs) (hn : n ≤ 140737488355328) (h0 : 0 ≤ q) (h1 : q ≤ 16777216) :
    Calls Tryz.prog 28 #[.slice A n c, .int .i64 q] w fun e w' => e = .returned (.int .i64 (q + n * 1)) ∧
      w'.ownsRow base 9 1 (.slice A n c) n ((strMarks q n).map Value.string) ∧ w.grownBy w' (Value.slice A n c).ownBlock := by
  go_enter Tryz.func28, Tryz.ntmps28
  go_wp2
  go_loopw [1, 5] (fun v i wr => ∃ k : Nat, k ≤ n ∧ i = .int .i64 k ∧ v = .int .i64 (q + k) ∧ Hid (w.grownBy wr (Value.slice A n c).ownBlock) ∧ Hid (∃ ys, wr.ownsRow base 9 1 (.slice A n c) n ys ∧ ys.take k = ((strMarks q n).take k).map Value.string))
    (fun _ i _ => n - (intOf i).toNat)
  case atStart => exact ⟨0, by omega, rfl, by go_num, World.grownBy.refl _ _, xs, hown, by simp⟩
  case round =>
    obtain ⟨k, hk, rfl, rfl, HG, HO⟩ := hrel
    clear hown
    by_cases hlt : k < n
    · obtain ⟨ys, hown, hys⟩ := HO.out
      obtain ⟨g, rfl, hg1, hg2⟩ := own_head hown (by omega)
      have HY := Lib.hid hys; have HN0 := Lib.hid hown
      clear hys hown HO
      go_wp2_with fail
      refine (markText_c _ _ (by omega) (by omega)).mono ?_
      rintro e w10 ⟨rfl, hb10⟩
      have HG10 := Lib.hid (grown_trans' HG.out (grown_of_below hb10 _))
      have hown10 := own_below HN0.out hb10
      obtain ⟨u0, hu0⟩ := own_cell hown10 (j := k) (by omega)
      have hz0 := hown10.frozenAt k
      have HN := Lib.hid hown10
      clear hown10 hb10
      go_wp2
      go_roundw
      case rel =>
        refine ⟨k + 1, by omega, by go_num, by go_num, grown_set HG10.out, _, (HN.out.stored k _).1, ?_⟩
        have hl : (strMarks q n).length = n := strMarks_len q n
        have hk2 : k < (strMarks q n).length := by rw [hl]; exact hlt
        have := str_step hk2 (by rw [hl]; exact HN.out.1) HY.out
        rw [strMarks_0] at this
        exact this
      case measure => simp [intOf]; omega
    · obtain rfl : k = n := by omega
      go_wp2
      go_ret
      obtain ⟨ys, hown, hys⟩ := HO.out
      obtain rfl := str_end (strMarks_len q k) hown.1 hys
      exact ⟨ret_int (by omega), hown, HG.out⟩

set_option maxHeartbeats 1000000 in
theorem heldStringS_c (A : Option Addr) (n c : Nat) (q : Int) (w : World) (hr : Rd w w.heap.size A n ((strMarks q n).map Value.string)) (hn : n ≤ 140737488355328) (h0 : 0 ≤ q) (h1 : q ≤ 16777216) :
    Calls Tryz.prog 29 #[.slice A n c, .int .i64 q] w fun e w' => e = .returned (.int .i64 (q + n * 1)) ∧ Below w.heap.size w w' := by
  go_enter Tryz.func29, Tryz.ntmps29
  go_wp2
  go_loopw [1, 5] (fun v i wr => ∃ k : Nat, k ≤ n ∧ i = .int .i64 k ∧ v = .int .i64 (q + k) ∧ Below w.heap.size w wr) (fun _ i _ => n - (intOf i).toNat)
  case atStart => exact ⟨0, by omega, rfl, by go_num, Below.refl _ _⟩
  case round =>
    obtain ⟨k, hk, rfl, rfl, hB⟩ := hrel
    by_cases hlt : k < n
    · have hl : (strMarks q n).length = n := strMarks_len q n
      have hr' : Rd w w.heap.size A (strMarks q n).length ((strMarks q n).map Value.string) := by rw [hl]; exact hr
      obtain ⟨b, off, rfl, hb, hc⟩ := Rd.strs (L := strMarks q n) hr' (k := k) (by omega)
      have hk2 : k < (strMarks q n).length := by omega
      have hf1 : w.cell? ⟨b, off + k, none⟩ = some (.string (markT (q + (k : Int)))) := by have h := hc k hk2; rw [strMarks_0] at h; exact h
      have hf0 : wr.cell? ⟨b, off + k, none⟩ = some (.string (markT (q + (k : Int)))) := (hB.cell (by exact hb)).trans hf1
      clear hc hl hk2 hr hr' hf1
      have kf0 := cell_regrown hf0
      have hbd : 0 ≤ q + (k : Int) ∧ q + (k : Int) ≤ 1000000000000000 := by omega
      go_wp2_with fail
      refine wp_region_bel mixed (by kernel_rfl) ?_
      repeat (any_goals (first | go_big_quiet_step ((first | exact rg_below (markText_c _ _ hbd.1 hbd.2))) | quiet_step ((first | exact rg_below (markText_c _ _ hbd.1 hbd.2))) | (refine wpQuiet_step (fun K hK => ?_); go_simp; (split <;> first | (refine hK _ ?_; clear hK K) | (apply Exists.intro; refine ⟨fun _ => ?_, hK _ ?_⟩; ((first | exact rg_below (markText_c _ _ hbd.1 hbd.2))); clear hK K)))))
      all_goals (refine wpQuiet_nil ?_; intro w1 hw1)
      all_goals
        clear hf0 kf0
        go_wp2
        go_roundw
        case rel => exact ⟨k + 1, by omega, by go_num, by go_num, bt hB hw1⟩
        case measure => simp [intOf]; omega
    · obtain rfl : k = n := by omega
      go_wp2
      go_ret
      exact ⟨ret_int (by omega), hB⟩
end Go.Proofs.YtiamignopfhkfaaGreatDoor
