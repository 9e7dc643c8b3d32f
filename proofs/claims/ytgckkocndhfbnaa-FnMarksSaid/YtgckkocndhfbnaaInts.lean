/- Contracts of the helpers of the laws for []int64: to, eq, mark, held. -/
import Derived.Test.YtgckkocndhfbnaaNum
namespace Go.Proofs.Ytgckkocndhfbnaa
open Go.RowKit
abbrev intC (L : List Int) : List Value := L.map (Value.int .i64)
theorem int_info : (Try.prog.info? 2).map (fun i => (i.zero, i.size, i.bytes)) = some (some (.int .i64 0), 1, 8) := by kernel_rfl
theorem Rd.ints {w : World} {B : Nat} {A : Option Addr} {L : List Int} (h : Rd w B A L.length (L.map (Value.int .i64))) {k : Nat} (hk : k < L.length) :
    ∃ b off, A = some ⟨b, off, none⟩ ∧ b < B ∧ ∀ i (hi : i < L.length), w.cell? ⟨b, off + i, none⟩ = some (.int .i64 L[i]) := by
  obtain ⟨b, off, e, hb, hc⟩ := h.2 (by omega)
  exact ⟨b, off, e, hb, fun i hi => hc i _ (by simp [List.getElem?_eq_getElem hi])⟩
theorem Rd.of_own1 {w : World} {base : Nat} {e : TypeId} {n c : Nat} {A : Option Addr} {xs : List Value} (h : w.ownsRow base e 1 (.slice A n c) n xs) : Rd w w.heap.size A n xs := by
  have := Rd.of_own h
  rwa [Nat.mul_one] at this
theorem int_step {L : List Int} {ys : List Value} {k : Nat} (hk : k < L.length) (hlen : ys.length = L.length * 1) (h : ys.take k = (L.take k).map (Value.int .i64)) : (ys.set k (.int .i64 L[k])).take (k + 1) = (L.take (k + 1)).map (Value.int .i64) := by
  rw [List.take_add_one, List.getElem?_set_self (by omega), List.take_set_of_le (Nat.le_refl _), h, List.take_succ_eq_append_getElem hk]
  simp only [List.map_append, List.map_cons, List.map_nil]
  rfl
theorem int_end {L : List Int} {ys : List Value} {n : Nat} (hn : L.length = n) (hlen : ys.length = n * 1) (h : ys.take n = (L.take n).map (Value.int .i64)) : ys = L.map (Value.int .i64) := by
  rw [List.take_of_length_le (by omega), List.take_of_length_le (by omega)] at h; exact h


set_option maxHeartbeats 1000000 in
theorem eqInt64S_c (A A' : Option Addr) (c c' : Nat) (L : List Int) (w : World) (hr : Rd w w.heap.size A L.length (L.map (Value.int .i64))) (hr' : Rd w w.heap.size A' L.length (L.map (Value.int .i64))) (hl : L.length ≤ 140737488355328) :
    Calls Try.prog 32 #[.slice A L.length c, .slice A' L.length c'] w fun e w' => e = .returned (.bool true) ∧ Below w.heap.size w w' := by
  go_enter Try.func32, Try.ntmps32
  go_wp2
  go_loopw [5] (fun i wr => ∃ k : Nat, k ≤ L.length ∧ i = .int .i64 k ∧ Below w.heap.size w wr) (fun i _ => L.length - (intOf i).toNat)
  case atStart => exact ⟨0, by omega, rfl, Below.refl _ _⟩
  case round =>
    obtain ⟨k, hk, rfl, hB⟩ := hrel
    by_cases hlt : k < L.length
    · obtain ⟨b, off, rfl, hb, hc⟩ := Rd.ints (hr.below hB) hlt
      obtain ⟨b', off', rfl, hb', hc'⟩ := Rd.ints (hr'.below hB) hlt
      have hf0 : wr.cell? ⟨b, off + k, none⟩ = some (.int .i64 L[k]) := hc k hlt
      have hg0 : wr.cell? ⟨b', off' + k, none⟩ = some (.int .i64 L[k]) := hc' k hlt
      clear hc hc'
      generalize L[k] = a0 at *
      have hk0 : (0 : Int) ≤ (k : Int) := by omega
      have hk1 : (k : Int) < (L.length : Int) := by omega
      have kf0 := cell_regrown hf0; have kg0 := cell_regrown hg0
      go_wp2_with fail
      refine wp_region_bel mixed (by kernel_rfl) ?_
      repeat (go_big_quiet_step (fail))
      refine wpQuiet_nil ?_
      intro w1 hw1
      clear hf0 hg0 kf0 kg0
      go_wp2
      go_roundw
      case rel => exact ⟨k + 1, by omega, by go_num, bt hB hw1⟩
      case measure => simp [intOf]; omega
    · obtain rfl : k = L.length := by omega
      go_wp2
      go_ret
      exact ⟨rfl, hB⟩


def intMarks (q : Int) (n : Nat) : List Int := (List.range n).map fun (i : Nat) => q + (i : Int)
theorem intMarks_len (q : Int) (n : Nat) : (intMarks q n).length = n := by simp [intMarks]
theorem intMarks_0 {q : Int} {n i : Nat} (h : i < (intMarks q n).length) : (intMarks q n)[i] = q + (i : Int) := by simp [intMarks]
set_option maxHeartbeats 1000000 in
theorem markInt64S_c (A : Option Addr) (n c base : Nat) (xs : List Value) (q : Int) (w : World) (hown : w.ownsRow base 2 1 (.slice A n c) n xs) (hn : n ≤ 140737488355328) (h0 : 0 ≤ q) (h1 : q ≤ 16777216) :
    Calls Try.prog 33 #[.slice A n c, .int .i64 q] w fun e w' => e = .returned (.int .i64 (q + n * 1)) ∧
      w'.ownsRow base 2 1 (.slice A n c) n ((intMarks q n).map (Value.int .i64)) ∧ w.grownBy w' (Value.slice A n c).ownBlock := by
  go_enter Try.func33, Try.ntmps33
  go_wp2
  go_loopw [1, 5] (fun v i wr => ∃ k : Nat, k ≤ n ∧ i = .int .i64 k ∧ v = .int .i64 (q + k) ∧ Hid (w.grownBy wr (Value.slice A n c).ownBlock) ∧ Hid (∃ ys, wr.ownsRow base 2 1 (.slice A n c) n ys ∧ ys.take k = ((intMarks q n).take k).map (Value.int .i64)))
    (fun _ i _ => n - (intOf i).toNat)
  case atStart => exact ⟨0, by omega, rfl, by go_num, World.grownBy.refl _ _, xs, hown, by simp⟩
  case round =>
    obtain ⟨k, hk, rfl, rfl, HG, HO⟩ := hrel
    clear hown
    by_cases hlt : k < n
    · obtain ⟨ys, hown, hys⟩ := HO.out
      obtain ⟨g, rfl, hg1, hg2⟩ := own_head hown (by omega)
      obtain ⟨u0, hu0⟩ := own_cell hown (j := k) (by omega)
      have hz0 := hown.frozenAt k
      have HY := Lib.hid hys; have HN := Lib.hid hown
      clear hys hown HO
      go_wp2
      go_roundw
      case rel =>
        refine ⟨k + 1, by omega, by go_num, by go_num, grown_set HG.out, _, (HN.out.stored k _).1, ?_⟩
        have hl : (intMarks q n).length = n := intMarks_len q n
        have hk2 : k < (intMarks q n).length := by rw [hl]; exact hlt
        have := int_step hk2 (by rw [hl]; exact HN.out.1) HY.out
        rw [intMarks_0] at this
        exact this
      case measure => simp [intOf]; omega
    · obtain rfl : k = n := by omega
      go_wp2
      go_ret
      obtain ⟨ys, hown, hys⟩ := HO.out
      obtain rfl := int_end (intMarks_len q k) hown.1 hys
      exact ⟨ret_int (by omega), hown, HG.out⟩

set_option maxHeartbeats 1000000 in
theorem heldInt64S_c (A : Option Addr) (n c : Nat) (q : Int) (w : World) (hr : Rd w w.heap.size A n ((intMarks q n).map (Value.int .i64))) (hn : n ≤ 140737488355328) (h0 : 0 ≤ q) (h1 : q ≤ 16777216) :
    Calls Try.prog 34 #[.slice A n c, .int .i64 q] w fun e w' => e = .returned (.int .i64 (q + n * 1)) ∧ Below w.heap.size w w' := by
  go_enter Try.func34, Try.ntmps34
  go_wp2
  go_loop [1, 5] (fun v i => ∃ k : Nat, k ≤ n ∧ i = .int .i64 k ∧ v = .int .i64 (q + k)) (fun _ i => n - (intOf i).toNat)
  case atStart => exact ⟨0, by omega, rfl, by go_num⟩
  case round =>
    obtain ⟨k, hk, rfl, rfl⟩ := hrel
    by_cases hlt : k < n
    · have hl : (intMarks q n).length = n := intMarks_len q n
      have hr' : Rd w w.heap.size A (intMarks q n).length ((intMarks q n).map (Value.int .i64)) := by rw [hl]; exact hr
      obtain ⟨b, off, rfl, hb, hc⟩ := Rd.ints (L := intMarks q n) hr' (k := k) (by omega)
      have hk2 : k < (intMarks q n).length := by omega
      have hf0 : w.cell? ⟨b, off + k, none⟩ = some (.int .i64 (q + (k : Int))) := by have h := hc k hk2; rw [intMarks_0] at h; exact h
      clear hc hl hk2 hr hr'
      go_wp2
      go_round
      case rel => exact ⟨k + 1, by omega, by go_num, by go_num⟩
      case measure => simp [intOf]; omega
    · obtain rfl : k = n := by omega
      go_wp2
      go_ret
      exact ⟨ret_int (by omega), Below.refl _ _⟩
end Go.Proofs.Ytgckkocndhfbnaa
