/- Contracts of the tests on ranges: impl.within, spec.l01In. Contracts of the helpers of the laws for Call: to, eq, sz, mark, held. Written by gen_mech.py. Contracts: words, days. Contracts: AreCalls of both texts. Contract: markText. Contracts of the helpers of the laws for Motion: to, eq, sz, mark, held. Written by gen_mech.py. -/
import Derived.Test.YtiamignopfhkfaaGreatDoorRows
import Derived.Test.YtiamignopfhkfaaGreatDoorZ1
section
namespace Go.Proofs.YtiamignopfhkfaaGreatDoor
open Go.RowKit
theorem mixed : Tryz.prog.follows .mixedOrders = true := by kernel_rfl

theorem within_b (n lo hi : Int) (b : Bool) (w : World) (h : inB n lo hi = b) : Calls Tryz.prog 92 #[.int .i64 n, .int .i64 lo, .int .i64 hi] w fun e w' => e = .returned (.bool b) ∧ w = w' := by
  by_cases h1 : lo ≤ n <;> by_cases h2 : n ≤ hi
  · rw [inB_true h1 h2] at h; subst h
    go_enter Tryz.func92, Tryz.ntmps92
    go_wp2
    go_ret; exact ⟨rfl, rfl⟩
  all_goals
    rw [inB_false (by omega)] at h; subst h
    go_enter Tryz.func92, Tryz.ntmps92
    go_wp2
    go_ret; exact ⟨rfl, rfl⟩

theorem l01In_b (n lo hi : Int) (b : Bool) (w : World) (h : inB n lo hi = b) : Calls Tryz.prog 81 #[.int .i64 n, .int .i64 lo, .int .i64 hi] w fun e w' => e = .returned (.bool b) ∧ w = w' := by
  by_cases h1 : lo ≤ n <;> by_cases h2 : n ≤ hi
  · rw [inB_true h1 h2] at h; subst h
    go_enter Tryz.func81, Tryz.ntmps81
    go_wp2
    go_ret; exact ⟨rfl, rfl⟩
  all_goals
    rw [inB_false (by omega)] at h; subst h
    go_enter Tryz.func81, Tryz.ntmps81
    go_wp2
    go_ret; exact ⟨rfl, rfl⟩
end Go.Proofs.YtiamignopfhkfaaGreatDoor
end
section
namespace Go.Proofs.YtiamignopfhkfaaGreatDoor
open Go.RowKit
structure CallD where
  number : Int
  first : Int
  day : Int
  moves : Int
instance : Inhabited CallD := ⟨⟨0, 0, 0, 0⟩⟩
def callC (x : CallD) : List Value := [.int .i64 x.number, .int .i64 x.first, .int .i64 x.day, .int .i64 x.moves]
def CallW (x : CallD) : Prop := (Lit.int .i64 x.number).wf = true ∧ (Lit.int .i64 x.first).wf = true ∧ (Lit.int .i64 x.day).wf = true ∧ (Lit.int .i64 x.moves).wf = true
theorem call_info : (Tryz.prog.info? 68).map (fun i => (i.zero, i.size, i.bytes)) = some (some (.agg #[.int .i64 0, .int .i64 0, .int .i64 0, .int .i64 0]), 4, 32) := by kernel_rfl



theorem eqCall_c (a0 : Int) (a1 : Int) (a2 : Int) (a3 : Int) (w : World) : Calls Tryz.prog 71 #[.agg #[.int .i64 a0, .int .i64 a1, .int .i64 a2, .int .i64 a3], .agg #[.int .i64 a0, .int .i64 a1, .int .i64 a2, .int .i64 a3]] w fun e w' => e = .returned (.bool true) ∧ Below w.heap.size w w' := by
  go_enter Tryz.func71, Tryz.ntmps71
  go_wp2
  go_ret
  exact ⟨rfl, by repeat (first | exact Below.refl _ _ | refine Below.alloc ?_ (by (try simp) <;> (try omega)) _)⟩

set_option maxHeartbeats 1000000 in
theorem eqCallS_c (A A' : Option Addr) (c c' : Nat) (L : List CallD) (w : World) (hr : Rd w w.heap.size A (L.length * 4) (L.flatMap callC)) (hr' : Rd w w.heap.size A' (L.length * 4) (L.flatMap callC)) (hl : L.length ≤ 140737488355328) :
    Calls Tryz.prog 42 #[.slice A L.length c, .slice A' L.length c'] w fun e w' => e = .returned (.bool true) ∧ Below w.heap.size w w' := by
  go_enter Tryz.func42, Tryz.ntmps42
  go_wp2
  go_loopw [5] (fun i wr => ∃ k : Nat, k ≤ L.length ∧ i = .int .i64 k ∧ Below w.heap.size w wr) (fun i _ => L.length - (intOf i).toNat)
  case atStart => exact ⟨0, by omega, rfl, Below.refl _ _⟩
  case round =>
    obtain ⟨k, hk, rfl, hB⟩ := hrel
    by_cases hlt : k < L.length
    · obtain ⟨b, off, rfl, hb, hc⟩ := Rd.elem callC 4 (fun _ => rfl) hr (by omega) hlt
      obtain ⟨b', off', rfl, hb', hc'⟩ := Rd.elem callC 4 (fun _ => rfl) hr' (by omega) hlt
      have hf0 : wr.cell? ⟨b, off + k * 4, none⟩ = some (.int .i64 L[k].number) := by rw [hB.cell (by exact hb)]; exact hc k hlt 0 _ rfl
      have hg0 : wr.cell? ⟨b', off' + k * 4, none⟩ = some (.int .i64 L[k].number) := by rw [hB.cell (by exact hb')]; exact hc' k hlt 0 _ rfl
      have hf1 : wr.cell? ⟨b, off + k * 4 + 1, none⟩ = some (.int .i64 L[k].first) := by rw [hB.cell (by exact hb)]; exact hc k hlt 1 _ rfl
      have hg1 : wr.cell? ⟨b', off' + k * 4 + 1, none⟩ = some (.int .i64 L[k].first) := by rw [hB.cell (by exact hb')]; exact hc' k hlt 1 _ rfl
      have hf2 : wr.cell? ⟨b, off + k * 4 + 2, none⟩ = some (.int .i64 L[k].day) := by rw [hB.cell (by exact hb)]; exact hc k hlt 2 _ rfl
      have hg2 : wr.cell? ⟨b', off' + k * 4 + 2, none⟩ = some (.int .i64 L[k].day) := by rw [hB.cell (by exact hb')]; exact hc' k hlt 2 _ rfl
      have hf3 : wr.cell? ⟨b, off + k * 4 + 3, none⟩ = some (.int .i64 L[k].moves) := by rw [hB.cell (by exact hb)]; exact hc k hlt 3 _ rfl
      have hg3 : wr.cell? ⟨b', off' + k * 4 + 3, none⟩ = some (.int .i64 L[k].moves) := by rw [hB.cell (by exact hb')]; exact hc' k hlt 3 _ rfl
      clear hc hc'
      generalize L[k].number = a0 at *
      generalize L[k].first = a1 at *
      generalize L[k].day = a2 at *
      generalize L[k].moves = a3 at *
      have hk0 : (0 : Int) ≤ (k : Int) := by omega
      have hk1 : (k : Int) < (L.length : Int) := by omega
      have kf0 := cell_regrown hf0; have kg0 := cell_regrown hg0
      have kf1 := cell_regrown hf1; have kg1 := cell_regrown hg1
      have kf2 := cell_regrown hf2; have kg2 := cell_regrown hg2
      have kf3 := cell_regrown hf3; have kg3 := cell_regrown hg3
      go_wp2_with fail
      refine wp_region_bel mixed (by kernel_rfl) ?_
      repeat (go_big_quiet_step (exact rg_below (eqCall_c _ _ _ _ _)))
      refine wpQuiet_nil ?_
      intro w1 hw1
      clear hf0 hg0 kf0 kg0 hf1 hg1 kf1 kg1 hf2 hg2 kf2 kg2 hf3 hg3 kf3 kg3
      go_wp2
      go_roundw
      case rel => exact ⟨k + 1, by omega, by go_num, bt hB hw1⟩
      case measure => simp [intOf]; omega
    · obtain rfl : k = L.length := by omega
      go_wp2
      go_ret
      exact ⟨rfl, hB⟩


def callMarks (q : Int) (n : Nat) : List CallD := (List.range n).map fun (i : Nat) => ⟨q + (i : Int) * 4, q + (i : Int) * 4 + 1, q + (i : Int) * 4 + 2, q + (i : Int) * 4 + 3⟩
theorem callMarks_len (q : Int) (n : Nat) : (callMarks q n).length = n := by simp [callMarks]
theorem callMarks_0 {q : Int} {n i : Nat} (h : i < (callMarks q n).length) : (callMarks q n)[i].number = q + (i : Int) * 4 := by simp [callMarks]
theorem callMarks_1 {q : Int} {n i : Nat} (h : i < (callMarks q n).length) : (callMarks q n)[i].first = q + (i : Int) * 4 + 1 := by simp [callMarks]
theorem callMarks_2 {q : Int} {n i : Nat} (h : i < (callMarks q n).length) : (callMarks q n)[i].day = q + (i : Int) * 4 + 2 := by simp [callMarks]
theorem callMarks_3 {q : Int} {n i : Nat} (h : i < (callMarks q n).length) : (callMarks q n)[i].moves = q + (i : Int) * 4 + 3 := by simp [callMarks]
set_option maxHeartbeats 1000000 in
theorem markCallS_c (A : Option Addr) (n c base : Nat) (xs : List Value) (q : Int) (w : World) (hown : w.ownsRow base 68 4 (.slice A n c) n xs) (hn : n ≤ 140737488355328) (h0 : 0 ≤ q) (h1 : q ≤ 16777216) :
    Calls Tryz.prog 45 #[.slice A n c, .int .i64 q] w fun e w' => e = .returned (.int .i64 (q + n * 4)) ∧
      w'.ownsRow base 68 4 (.slice A n c) n ((callMarks q n).flatMap callC) ∧ w.grownBy w' (Value.slice A n c).ownBlock := by
  go_enter Tryz.func45, Tryz.ntmps45
  go_wp2
  go_loopw [1, 5] (fun v i wr => ∃ k : Nat, k ≤ n ∧ i = .int .i64 k ∧ v = .int .i64 (q + k * 4) ∧ Hid (w.grownBy wr (Value.slice A n c).ownBlock) ∧ Hid (∃ ys, wr.ownsRow base 68 4 (.slice A n c) n ys ∧ ys.take (k * 4) = ((callMarks q n).take k).flatMap callC))
    (fun _ i _ => n - (intOf i).toNat)
  case atStart => exact ⟨0, by omega, rfl, by go_num, World.grownBy.refl _ _, xs, hown, by simp⟩
  case round =>
    obtain ⟨k, hk, rfl, rfl, HG, HO⟩ := hrel
    clear hown
    by_cases hlt : k < n
    · obtain ⟨ys, hown, hys⟩ := HO.out
      obtain ⟨g, rfl, hg1, hg2⟩ := own_head hown (by omega)
      obtain ⟨u0, hu0⟩ := own_cell hown (j := k * 4) (by omega)
      have hz0 := hown.frozenAt (k * 4)
      obtain ⟨u1, hu1⟩ := own_cell hown (j := k * 4 + 1) (by omega)
      have hz1 := hown.frozenAt (k * 4 + 1)
      obtain ⟨u2, hu2⟩ := own_cell hown (j := k * 4 + 2) (by omega)
      have hz2 := hown.frozenAt (k * 4 + 2)
      obtain ⟨u3, hu3⟩ := own_cell hown (j := k * 4 + 3) (by omega)
      have hz3 := hown.frozenAt (k * 4 + 3)
      have HY := Lib.hid hys; have HN := Lib.hid hown; have HL := Lib.hid hown.1
      clear hys hown HO
      go_wp2
      go_roundw
      case rel =>
        refine ⟨k + 1, by omega, by go_num, by go_num, ?_, ?_⟩
        · exact (grown_set (grown_set (grown_set (grown_set HG.out))))
        · refine ⟨_, ((((HN.out.stored (k * 4) (_)).1.stored (k * 4 + 1) (_)).1.stored (k * 4 + 2) (_)).1.stored (k * 4 + 3) (_)).1, ?_⟩
          have hl : (callMarks q n).length = n := callMarks_len q n
          have hk2 : k < (callMarks q n).length := by rw [hl]; exact hlt
          have := fill_step callC 4 (fun _ => rfl) hk2 (by rw [hl]; exact HL.out) HY.out
          rw [callC, callMarks_0, callMarks_1, callMarks_2, callMarks_3] at this
          simp only [Int.add_assoc, Int.reduceAdd] at this ⊢
          exact this
      case measure => simp [intOf]; omega
    · obtain rfl : k = n := by omega
      go_wp2
      go_ret
      obtain ⟨ys, hown, hys⟩ := HO.out
      have hl : (callMarks q k).length = k := callMarks_len q k
      have : ys = (callMarks q k).flatMap callC := by
        have h1 := hown.1
        rw [List.take_of_length_le (by omega), List.take_of_length_le (by omega)] at hys
        exact hys
      subst this
      exact ⟨rfl, hown, HG.out⟩

set_option maxHeartbeats 1000000 in
theorem heldCallS_c (A : Option Addr) (n c : Nat) (q : Int) (w : World) (hr : Rd w w.heap.size A (n * 4) ((callMarks q n).flatMap callC)) (hn : n ≤ 140737488355328) (h0 : 0 ≤ q) (h1 : q ≤ 16777216) :
    Calls Tryz.prog 48 #[.slice A n c, .int .i64 q] w fun e w' => e = .returned (.int .i64 (q + n * 4)) ∧ Below w.heap.size w w' := by
  go_enter Tryz.func48, Tryz.ntmps48
  go_wp2
  go_loopw [1, 5] (fun v i wr => ∃ k : Nat, k ≤ n ∧ i = .int .i64 k ∧ v = .int .i64 (q + k * 4) ∧ Below w.heap.size w wr) (fun _ i _ => n - (intOf i).toNat)
  case atStart => exact ⟨0, by omega, rfl, by go_num, Below.refl _ _⟩
  case round =>
    obtain ⟨k, hk, rfl, rfl, hB⟩ := hrel
    by_cases hlt : k < n
    · have hl : (callMarks q n).length = n := callMarks_len q n
      have hr' : Rd w w.heap.size A ((callMarks q n).length * 4) ((callMarks q n).flatMap callC) := by rw [hl]; exact hr
      obtain ⟨b, off, rfl, hb, hc⟩ := Rd.elem (L := callMarks q n) callC 4 (fun _ => rfl) (hr'.below hB) (by omega) (k := k) (by omega)
      have hk2 : k < (callMarks q n).length := by omega
      have hbr : b < wr.heap.size := by have := hB.size; omega
      have hf0 : wr.cell? ⟨b, off + k * 4, none⟩ = some (.int .i64 (q + (k : Int) * 4)) := by have h := hc k hk2 0 _ rfl; rw [callMarks_0] at h; exact h
      have hf1 : wr.cell? ⟨b, off + k * 4 + 1, none⟩ = some (.int .i64 (q + (k : Int) * 4 + 1)) := by have h := hc k hk2 1 _ rfl; rw [callMarks_1] at h; exact h
      have hf2 : wr.cell? ⟨b, off + k * 4 + 2, none⟩ = some (.int .i64 (q + (k : Int) * 4 + 2)) := by have h := hc k hk2 2 _ rfl; rw [callMarks_2] at h; exact h
      have hf3 : wr.cell? ⟨b, off + k * 4 + 3, none⟩ = some (.int .i64 (q + (k : Int) * 4 + 3)) := by have h := hc k hk2 3 _ rfl; rw [callMarks_3] at h; exact h
      clear hc hl hk2 hr hr'
      go_wp2
      go_roundw
      case rel => exact ⟨k + 1, by omega, by go_num, by go_num, hB⟩
      case measure => simp [intOf]; omega
    · obtain rfl : k = n := by omega
      go_wp2
      go_ret
      exact ⟨rfl, hB⟩
end Go.Proofs.YtiamignopfhkfaaGreatDoor
end
section
namespace Go.Proofs.YtiamignopfhkfaaGreatDoor
open Go.RowKit
def lowB (c : UInt8) : Bool := decide (97 ≤ c.toNat) && decide (c.toNat ≤ 122)
def isWordB (s : ByteArray) : Bool := s.data.toList.all lowB && inB s.size 1 16
theorem word_false {s : ByteArray} {k : Nat} (hk : k < s.size) (h : lowB s[k] = false) : isWordB s = false := by
  have : s.data.toList.all lowB = false := by
    rw [← Bool.not_eq_true, List.all_eq_true]
    intro hh
    have := hh s[k] (by show s.data[k] ∈ s.data.toList; simp)
    rw [h] at this; cases this
  simp [isWordB, this]
theorem word_all {s : ByteArray} (h : ∀ j (hj : j < s.size), lowB s[j] = true) : isWordB s = inB s.size 1 16 := by
  have : s.data.toList.all lowB = true := by
    rw [List.all_eq_true]; intro x hx
    obtain ⟨i, hi, rfl⟩ := List.getElem_of_mem hx
    exact h i (by simpa using hi)
  simp [isWordB, this]
theorem word_len {s : ByteArray} (h : isWordB s = true) : 1 ≤ s.size ∧ s.size ≤ 16 := by
  simp only [isWordB, Bool.and_eq_true] at h
  have := inB_iff.1 h.2
  omega

theorem impl_IsWord (s : ByteArray) (b : Bool) (w : World) (hs : s.size ≤ 9223372036854775807) (h : isWordB s = b) : Calls Tryz.prog 95 #[.string s] w fun e w' => e = .returned (.bool b) ∧ w = w' := by
  have HB := Lib.hid h; clear h
  go_enter Tryz.func95, Tryz.ntmps95
  go_wp2
  go_loop [3] (fun i => ∃ k : Nat, k ≤ s.size ∧ i = .int .i64 k ∧ Hid (∀ j (hj : j < s.size), j < k → lowB s[j] = true)) (fun i => s.size - (intOf i).toNat)
  case atStart => exact ⟨0, by omega, rfl, fun j _ hj => absurd hj (by omega)⟩
  case round =>
    obtain ⟨k, hk, rfl, HT⟩ := hrel
    by_cases hlt : k < s.size
    · have HL : Hid (lowB s[k] = (decide (97 ≤ s[k].toNat) && decide (s[k].toNat ≤ 122))) := rfl
      go_wp2
      all_goals first
        | (go_ret
           exact ⟨ret_bool (by rw [← HB.out]; exact (word_false hlt (by rw [HL.out]; simp; omega)).symm), rfl⟩)
        | (go_round
           case rel => exact ⟨k + 1, by omega, by go_num, fun j hj h => by
             by_cases e : j = k
             · subst e; rw [HL.out]; simp; omega
             · exact HT.out j hj (by omega)⟩
           case measure => simp [intOf]; omega)
    · obtain rfl : k = s.size := by omega
      have HF := Lib.hid (word_all fun j hj => HT.out j hj hj)
      go_wp2_with (first | (go_at_call 92; refine (within_b _ _ _ _ _ rfl).mono ?_; rintro e w' ⟨rfl, rfl⟩))
      go_ret
      exact ⟨ret_bool (by rw [← HB.out, HF.out]), rfl⟩

theorem spec_IsWord (s : ByteArray) (b : Bool) (w : World) (hs : s.size ≤ 9223372036854775807) (h : isWordB s = b) : Calls Tryz.prog 82 #[.string s] w fun e w' => e = .returned (.bool b) ∧ w = w' := by
  have HB := Lib.hid h; clear h
  go_enter Tryz.func82, Tryz.ntmps82
  go_wp2
  go_loop [3] (fun i => ∃ k : Nat, k ≤ s.size ∧ i = .int .i64 k ∧ Hid (∀ j (hj : j < s.size), j < k → lowB s[j] = true)) (fun i => s.size - (intOf i).toNat)
  case atStart => exact ⟨0, by omega, rfl, fun j _ hj => absurd hj (by omega)⟩
  case round =>
    obtain ⟨k, hk, rfl, HT⟩ := hrel
    by_cases hlt : k < s.size
    · have HL : Hid (lowB s[k] = (decide (97 ≤ s[k].toNat) && decide (s[k].toNat ≤ 122))) := rfl
      go_wp2
      all_goals first
        | (go_ret
           exact ⟨ret_bool (by rw [← HB.out]; exact (word_false hlt (by rw [HL.out]; simp; omega)).symm), rfl⟩)
        | (go_round
           case rel => exact ⟨k + 1, by omega, by go_num, fun j hj h => by
             by_cases e : j = k
             · subst e; rw [HL.out]; simp; omega
             · exact HT.out j hj (by omega)⟩
           case measure => simp [intOf]; omega)
    · obtain rfl : k = s.size := by omega
      have HF := Lib.hid (word_all fun j hj => HT.out j hj hj)
      go_wp2_with (first | (go_at_call 81; refine (l01In_b _ _ _ _ _ rfl).mono ?_; rintro e w' ⟨rfl, rfl⟩))
      go_ret
      exact ⟨ret_bool (by rw [← HB.out, HF.out]), rfl⟩

theorem isDay_b (n : Int) (b : Bool) (w : World) (h : inB n 0 20000 = b) : Calls Tryz.prog 94 #[.int .i64 n] w fun e w' => e = .returned (.bool b) ∧ w = w' := by
  go_enter Tryz.func94, Tryz.ntmps94
  go_wp2_with fail
  refine (within_b _ _ _ _ _ h).mono ?_
  rintro e w' ⟨rfl, rfl⟩
  go_wp2
  go_ret
  exact ⟨rfl, rfl⟩
theorem l02Is_b (n : Int) (b : Bool) (w : World) (h : inB n 0 20000 = b) : Calls Tryz.prog 80 #[.int .i64 n] w fun e w' => e = .returned (.bool b) ∧ w = w' := by
  go_enter Tryz.func80, Tryz.ntmps80
  go_wp2_with fail
  refine (l01In_b _ _ _ _ _ h).mono ?_
  rintro e w' ⟨rfl, rfl⟩
  go_wp2
  go_ret
  exact ⟨rfl, rfl⟩
theorem few_b (n m : Int) (b : Bool) (w : World) (h : decide (n ≤ m) = b) : Calls Tryz.prog 61 #[.int .i64 n, .int .i64 m] w fun e w' => e = .returned (.bool b) ∧ w = w' := by
  subst h
  go_enter Tryz.func61, Tryz.ntmps61
  go_wp2
  go_ret
  exact ⟨rfl, rfl⟩
end Go.Proofs.YtiamignopfhkfaaGreatDoor
end
section
namespace Go.Proofs.YtiamignopfhkfaaGreatDoor
open Go.RowKit
def callOk (m : CallD) : Bool := inB m.number 1 1000000 && inB m.day 0 20000 && inB m.first 0 m.day && inB m.moves 0 2 && ((m.day == m.first) == (m.moves == 0))
def callAt (L : List CallD) (k : Nat) : Bool :=
  match L[k]? with
  | none => true
  | some m => callOk m && (decide (k = 0) || decide ((L.getD (k - 1) default).number < m.number))
def callsOk (L : List CallD) : Bool := (List.range L.length).all (callAt L) && decide (L.length ≤ 20)
theorem callAt_eq {L : List CallD} {k : Nat} (hk : k < L.length) :
    callAt L k = (callOk L[k] && (decide (k = 0) || decide ((L.getD (k - 1) default).number < L[k].number))) := by
  simp [callAt, List.getElem?_eq_getElem hk]
theorem calls_false {L : List CallD} {k : Nat} (hk : k < L.length) (h : callAt L k = false) : callsOk L = false := by
  have : (List.range L.length).all (callAt L) = false := by
    rw [← Bool.not_eq_true, List.all_eq_true]
    intro hh
    have := hh k (by simp [hk])
    rw [h] at this; cases this
  simp [callsOk, this]
theorem calls_all {L : List CallD} (h : ∀ j, j < L.length → callAt L j = true) : callsOk L = decide (L.length ≤ 20) := by
  have : (List.range L.length).all (callAt L) = true := by
    rw [List.all_eq_true]; intro x hx; exact h x (by simpa using hx)
  simp [callsOk, this]
theorem callAt_step {L : List CallD} {k : Nat} (H : Hid (∀ j, j < k → callAt L j = true)) (h : callAt L k = true) : Hid (∀ j, j < k + 1 → callAt L j = true) := by
  intro j hj
  by_cases e : j = k
  · subst e; exact h
  · exact H.out j (by omega)

theorem isNumber_b (n : Int) (b : Bool) (w : World) (h : inB n 1 1000000 = b) : Calls Tryz.prog 93 #[.int .i64 n] w fun e w' => e = .returned (.bool b) ∧ w = w' := by
  go_enter Tryz.func93, Tryz.ntmps93
  go_wp2_with fail
  refine (within_b _ _ _ _ _ h).mono ?_
  rintro e w' ⟨rfl, rfl⟩
  go_wp2
  go_ret
  exact ⟨rfl, rfl⟩
theorem callValid_b (a0 a1 a2 a3 : Int) (b : Bool) (w : World) (h : callOk ⟨a0, a1, a2, a3⟩ = b) : Calls Tryz.prog 77 #[.agg #[.int .i64 a0, .int .i64 a1, .int .i64 a2, .int .i64 a3]] w fun e w' => e = .returned (.bool b) ∧ Below w.heap.size w w' := by
  have HB := Lib.hid h; clear h
  go_enter Tryz.func77, Tryz.ntmps77
  go_wp2_with (first | (go_at_call 93; refine (isNumber_b _ _ _ rfl).mono ?_; rintro e w' ⟨rfl, rfl⟩) | (go_at_call 92; refine (within_b _ _ _ _ _ rfl).mono ?_; rintro e w' ⟨rfl, rfl⟩) | (go_at_call 94; refine (isDay_b _ _ _ rfl).mono ?_; rintro e w' ⟨rfl, rfl⟩))
  all_goals (go_ret; exact ⟨ret_bool (by rw [← HB.out]; unfold callOk; simp_all), (Below.refl _ _).alloc (Nat.le_refl _) _⟩)

set_option maxHeartbeats 4000000 in
theorem impl_AreCalls (A : Option Addr) (c : Nat) (L : List CallD) (b : Bool) (w : World) (hr : Rd w w.heap.size A (L.length * 4) (L.flatMap callC)) (hl : L.length ≤ 140737488355328) (hcap : L.length ≤ c) (h : callsOk L = b) :
    Calls Tryz.prog 54 #[.slice A L.length c] w fun e w' => e = .returned (.bool b) ∧ Below w.heap.size w w' := by
  have HB := Lib.hid h; clear h
  go_enter Tryz.func54, Tryz.ntmps54
  go_wp2
  go_loopw [7] (fun i wr => ∃ k : Nat, k ≤ L.length ∧ i = .int .i64 k ∧ Below w.heap.size w wr ∧ Hid (∀ j, j < k → callAt L j = true)) (fun i _ => L.length - (intOf i).toNat)
  case atStart => exact ⟨0, by omega, rfl, Below.refl _ _, fun j hj => absurd hj (by omega)⟩
  case round =>
    obtain ⟨k, hk, rfl, hB, HT⟩ := hrel
    by_cases hlt : k < L.length
    · obtain ⟨bf, offf, rfl, hbf, hcf⟩ := Rd.elem callC 4 (fun _ => rfl) (rdW hB hr) (by omega) hlt
      have f0 : wr.cell? ⟨bf, offf + k * 4, none⟩ = some (.int .i64 L[k].number) := hcf k hlt 0 _ rfl
      have f1 : wr.cell? ⟨bf, offf + k * 4 + 1, none⟩ = some (.int .i64 L[k].first) := hcf k hlt 1 _ rfl
      have f2 : wr.cell? ⟨bf, offf + k * 4 + 2, none⟩ = some (.int .i64 L[k].day) := hcf k hlt 2 _ rfl
      have f3 : wr.cell? ⟨bf, offf + k * 4 + 3, none⟩ = some (.int .i64 L[k].moves) := hcf k hlt 3 _ rfl
      have hp0 : 0 < k → wr.cell? ⟨bf, offf + (k - 1) * 4, none⟩ = some (.int .i64 (L.getD (k - 1) default).number) := by
        intro h0
        rw [List.getD_eq_getElem?_getD, List.getElem?_eq_getElem (show k - 1 < L.length by omega)]
        exact hcf (k - 1) (by omega) 0 _ rfl
      have T := Lib.hid (callAt_eq hlt)
      have hk' : (k : Int) < L.length := by omega
      have hk0 : (0 : Int) ≤ (k : Int) := by omega
      have hkc : (k : Int) ≤ (c : Int) := by omega
      clear hcf
      generalize L[k] = x at *
      generalize (L.getD (k - 1) default).number = p at *
      obtain ⟨x0, x1, x2, x3⟩ := x
      go_wp2_with fail
      generalize hW1 : wr.alloc _ = W1
      have hbW1 : Below wr.heap.size wr W1 := by subst hW1; exact (Below.refl _ _).alloc (Nat.le_refl _) _
      have hsW1 : W1.heap.size = wr.heap.size + 1 := by subst hW1; simp
      have cxW1_0 : ∀ i, W1.cell? ⟨wr.heap.size, i, none⟩ = (#[.int .i64 x0, .int .i64 x1, .int .i64 x2, .int .i64 x3] : Array Value)[i]? := by intro i; subst hW1; simp [go_sem]
      have HSW1 := Lib.hid hsW1; clear hW1 hsW1
      have g3 := fun h => (hbW1.cell (by exact hbf)).trans (hp0 h)
      have hbb := bt hB hbW1
      have hs4 := HSW1.out
      have k0 := block_regrown cxW1_0 (by omega)
      have k3 := fun h => cell_regrown (g3 h)
      clear g3 hp0 f0 f1 f2 f3 cxW1_0 hs4
      refine wp_region_bel mixed (by kernel_rfl) ?_
      repeat (any_goals (first | go_big_quiet_step ((first | exact rg_below (callValid_b _ _ _ _ _ _ rfl))) | quiet_step ((first | exact rg_below (callValid_b _ _ _ _ _ _ rfl))) | (refine wpQuiet_step (fun K hK => ?_); go_simp; (split <;> first | (refine hK _ ?_; clear hK K) | (apply Exists.intro; refine ⟨fun _ => ?_, hK _ ?_⟩; ((first | exact rg_below (callValid_b _ _ _ _ _ _ rfl))); clear hK K)))))
      all_goals (refine wpQuiet_nil ?_; intro w1 hw1)
      all_goals go_wp2
      all_goals first
        | (go_ret
           exact ⟨ret_bool (by rw [← HB.out]; exact (calls_false hlt (by rw [T.out]; simp_all <;> omega)).symm), bt hbb hw1⟩)
        | (go_roundw
           case rel => exact ⟨k + 1, by omega, by go_num, bt hbb hw1, callAt_step HT (by rw [T.out]; simp_all <;> omega)⟩
           case measure => simp [intOf]; omega)
    · have hkl : k = L.length := by omega
      subst hkl
      have HF := Lib.hid (calls_all HT.out)
      clear hlt HT
      go_wp2_with (first | (go_at_call 61; refine (few_b _ _ _ _ rfl).mono ?_; rintro e w' ⟨rfl, rfl⟩))
      go_ret
      exact ⟨ret_bool (by rw [← HB.out, HF.out]; congr 1; simp <;> omega), hB⟩

set_option maxRecDepth 100000 in
set_option maxHeartbeats 8000000 in
theorem spec_AreCalls (A : Option Addr) (c : Nat) (L : List CallD) (b : Bool) (w : World) (hr : Rd w w.heap.size A (L.length * 4) (L.flatMap callC)) (hl : L.length ≤ 140737488355328) (hcap : L.length ≤ c) (h : callsOk L = b) :
    Calls Tryz.prog 57 #[.slice A L.length c] w fun e w' => e = .returned (.bool b) ∧ Below w.heap.size w w' := by
  have HB := Lib.hid h; clear h
  go_enter Tryz.func57, Tryz.ntmps57
  go_wp2
  go_loopw [3] (fun i wr => ∃ k : Nat, k ≤ L.length ∧ i = .int .i64 k ∧ Below w.heap.size w wr ∧ Hid (∀ j, j < k → callAt L j = true)) (fun i _ => L.length - (intOf i).toNat)
  case atStart => exact ⟨0, by omega, rfl, Below.refl _ _, fun j hj => absurd hj (by omega)⟩
  case round =>
    obtain ⟨k, hk, rfl, hB, HT⟩ := hrel
    by_cases hlt : k < L.length
    · obtain ⟨bf, offf, rfl, hbf, hcf⟩ := Rd.elem callC 4 (fun _ => rfl) (rdW hB hr) (by omega) hlt
      have f0 : wr.cell? ⟨bf, offf + k * 4, none⟩ = some (.int .i64 L[k].number) := hcf k hlt 0 _ rfl
      have f1 : wr.cell? ⟨bf, offf + k * 4 + 1, none⟩ = some (.int .i64 L[k].first) := hcf k hlt 1 _ rfl
      have f2 : wr.cell? ⟨bf, offf + k * 4 + 2, none⟩ = some (.int .i64 L[k].day) := hcf k hlt 2 _ rfl
      have f3 : wr.cell? ⟨bf, offf + k * 4 + 3, none⟩ = some (.int .i64 L[k].moves) := hcf k hlt 3 _ rfl
      have hp0 : 0 < k → wr.cell? ⟨bf, offf + (k - 1) * 4, none⟩ = some (.int .i64 (L.getD (k - 1) default).number) := by
        intro h0
        rw [List.getD_eq_getElem?_getD, List.getElem?_eq_getElem (show k - 1 < L.length by omega)]
        exact hcf (k - 1) (by omega) 0 _ rfl
      have T := Lib.hid (callAt_eq hlt)
      have hk' : (k : Int) < L.length := by omega
      have hk0 : (0 : Int) ≤ (k : Int) := by omega
      have hkc : (k : Int) ≤ (c : Int) := by omega
      clear hcf
      generalize L[k] = x at *
      generalize (L.getD (k - 1) default).number = p at *
      obtain ⟨x0, x1, x2, x3⟩ := x
      have he : (x2 == x1) = (x1 == x2) := Bool.beq_comm
      have HE := Lib.hid he; clear he
      go_wp2_with fail
      generalize hW1 : wr.alloc _ = W1
      have hbW1 : Below wr.heap.size wr W1 := by subst hW1; exact (Below.refl _ _).alloc (Nat.le_refl _) _
      have hsW1 : W1.heap.size = wr.heap.size + 1 := by subst hW1; simp
      have cxW1_0 : ∀ i, W1.cell? ⟨wr.heap.size, i, none⟩ = (#[.int .i64 x0, .int .i64 x1, .int .i64 x2, .int .i64 x3] : Array Value)[i]? := by intro i; subst hW1; simp [go_sem]
      have HSW1 := Lib.hid hsW1; clear hW1 hsW1
      have g3 := fun h => (hbW1.cell (by exact hbf)).trans (hp0 h)
      have hbb := bt hB hbW1
      have hs4 := HSW1.out
      have k0 := block_regrown cxW1_0 (by omega)
      have k3 := fun h => cell_regrown (g3 h)
      clear g3 hp0 f0 f1 f2 f3 cxW1_0 hs4
      refine wp_region_bel mixed (by kernel_rfl) ?_
      repeat (any_goals (first | go_big_quiet_step ((first | exact rg_same (l01In_b _ _ _ _ _ rfl) | exact rg_same (l02Is_b _ _ _ rfl))) | quiet_step ((first | exact rg_same (l01In_b _ _ _ _ _ rfl) | exact rg_same (l02Is_b _ _ _ rfl))) | (refine wpQuiet_step (fun K hK => ?_); go_simp; (split <;> first | (refine hK _ ?_; clear hK K) | (apply Exists.intro; refine ⟨fun _ => ?_, hK _ ?_⟩; ((first | exact rg_same (l01In_b _ _ _ _ _ rfl) | exact rg_same (l02Is_b _ _ _ rfl))); clear hK K)))))
      all_goals (refine wpQuiet_nil ?_; intro w1 hw1)
      all_goals go_wp2
      all_goals first
        | (go_ret
           exact ⟨ret_bool (by rw [← HB.out]; exact (calls_false hlt (by rw [T.out]; unfold callOk; simp only [HE.out]; by_cases hm : x3 = 0 <;> by_cases hf : x1 = x2 <;> simp_all <;> (first | omega | (intro h; exact absurd h.symm (by assumption))))).symm), bt hbb hw1⟩)
        | (go_roundw
           case rel => exact ⟨k + 1, by omega, by go_num, bt hbb hw1, callAt_step HT (by rw [T.out]; unfold callOk; simp only [HE.out]; by_cases hm : x3 = 0 <;> by_cases hf : x1 = x2 <;> simp_all <;> (first | omega | (intro h; exact absurd h.symm (by assumption))))⟩
           case measure => simp [intOf]; omega)
    · have hkl : k = L.length := by omega
      subst hkl
      have HF := Lib.hid (calls_all HT.out)
      clear hlt HT
      go_wp2
      go_ret
      exact ⟨ret_bool (by rw [← HB.out, HF.out]; congr 1; simp <;> omega), hB⟩
end Go.Proofs.YtiamignopfhkfaaGreatDoor
end
section
namespace Go.Proofs.YtiamignopfhkfaaGreatDoor
open Go.RowKit
def dgM : Nat → Nat → List UInt8 → List UInt8
  | 0, _, acc => acc
  | f + 1, k, acc => if k = 0 then acc else dgM f (k / 10) (UInt8.ofNat (48 + k % 10) :: acc)
theorem dgM_step {f k : Nat} {acc : List UInt8} (hf : 0 < f) (hk : 0 < k) : dgM f k acc = dgM (f - 1) (k / 10) (UInt8.ofNat (48 + k % 10) :: acc) := by
  obtain ⟨g, rfl⟩ : ∃ g, f = g + 1 := ⟨f - 1, by omega⟩
  simp only [dgM]
  rw [if_neg (by omega)]; rfl
theorem dgM_zero {f : Nat} {acc : List UInt8} : dgM f 0 acc = acc := by cases f <;> simp [dgM]
theorem ba_append (a b : ByteArray) : (a ++ b).data.toList = a.data.toList ++ b.data.toList := by simp
theorem ba_ext {a b : ByteArray} (h : a.data.toList = b.data.toList) : a = b := by
  obtain ⟨a⟩ := a; obtain ⟨b⟩ := b
  simp at h
  rw [h]
def markT (q : Int) : ByteArray := ⟨(109 :: (if q ≤ 0 then [48] else dgM (q.toNat + 1) q.toNat [])).toArray⟩
set_option maxHeartbeats 1000000 in
theorem markText_c (q : Int) (w : World) (h0 : 0 ≤ q) (h1 : q ≤ 1000000000000000) : Calls Tryz.prog 59 #[.int .i64 q] w fun e w' => e = .returned (.string (markT q)) ∧ Below w.heap.size w w' := by
  obtain ⟨n, rfl⟩ := Int.eq_ofNat_of_zero_le h0
  by_cases hz : n = 0
  · subst hz
    go_enter Tryz.func59, Tryz.ntmps59
    go_wp2
    go_ret
    exact ⟨rfl, Below.refl _ _⟩
  · have hp : 0 < n := by omega
    have HM : Hid (markT (n : Int) = ⟨(109 :: dgM (n + 1) n []).toArray⟩) := by unfold Hid markT; rw [if_neg (by omega)]; rfl
    go_enter Tryz.func59, Tryz.ntmps59
    go_wp2
    go_loopw [0, 3] (fun i v wr => ∃ (f k : Nat) (s : ByteArray), k ≤ n ∧ k < f ∧ i = .int .i64 k ∧ v = .string s ∧ s.size + f ≤ n + 1 ∧ Below w.heap.size w wr ∧ Hid (dgM (n + 1) n [] = dgM f k s.data.toList)) (fun i _ _ => (intOf i).toNat)
    case atStart => exact ⟨n + 1, n, ByteArray.empty, by omega, by omega, rfl, rfl, by simp, Below.refl _ _, rfl⟩
    case round =>
      obtain ⟨f, k, s, hk, hf, rfl, rfl, hl, hB, HD⟩ := hrel
      by_cases hlt : 0 < k
      · have hcv := conv_one (P := Tryz.prog) 22 5 9 Tryz.underlying22 Tryz.underlying5 Tryz.underlying9
        have hsz : ∀ z, (strOfNums [z]).size = 1 := fun z => by simp [strOfNums_size]
        go_wp2
        go_roundw
        case rel =>
          refine ⟨f - 1, k / 10, strOfNums [48 + (k : Int) % 10] ++ s, by omega, by omega, by go_num, rfl, by rw [ByteArray.size_append, hsz]; omega, hB.alloc hB.size _, ?_⟩
          show dgM (n + 1) n [] = _
          rw [HD.out, dgM_step (by omega) (by omega)]
          congr 1
        case measure => simp [intOf]; omega
      · obtain rfl : k = 0 := by omega
        go_wp2
        go_ret
        refine ⟨?_, hB⟩
        rw [HM.out, HD.out, dgM_zero]
        refine congrArg (fun x => Ending.returned (Value.string x)) (ba_ext ?_)
        rw [ba_append]
        simp
end Go.Proofs.YtiamignopfhkfaaGreatDoor
end
section
namespace Go.Proofs.YtiamignopfhkfaaGreatDoor
open Go.RowKit
structure MotionD where
  number : Int
  party : ByteArray
  filed : Int
  changed : Int
  state : Int
  after : Int
instance : Inhabited MotionD := ⟨⟨0, ByteArray.empty, 0, 0, 0, 0⟩⟩
def motionC (x : MotionD) : List Value := [.int .i64 x.number, .string x.party, .int .i64 x.filed, .int .i64 x.changed, .int .i64 x.state, .int .i64 x.after]
def MotionW (x : MotionD) : Prop := (Lit.int .i64 x.number).wf = true ∧ x.party.size ≤ maxLen ∧ (Lit.int .i64 x.filed).wf = true ∧ (Lit.int .i64 x.changed).wf = true ∧ (Lit.int .i64 x.state).wf = true ∧ (Lit.int .i64 x.after).wf = true
theorem motion_info : (Tryz.prog.info? 70).map (fun i => (i.zero, i.size, i.bytes)) = some (some (.agg #[.int .i64 0, .string ByteArray.empty, .int .i64 0, .int .i64 0, .int .i64 0, .int .i64 0]), 6, 56) := by kernel_rfl



theorem eqMotion_c (a0 : Int) (a1 : ByteArray) (a2 : Int) (a3 : Int) (a4 : Int) (a5 : Int) (w : World) : Calls Tryz.prog 72 #[.agg #[.int .i64 a0, .string a1, .int .i64 a2, .int .i64 a3, .int .i64 a4, .int .i64 a5], .agg #[.int .i64 a0, .string a1, .int .i64 a2, .int .i64 a3, .int .i64 a4, .int .i64 a5]] w fun e w' => e = .returned (.bool true) ∧ Below w.heap.size w w' := by
  go_enter Tryz.func72, Tryz.ntmps72
  go_wp2
  go_ret
  exact ⟨rfl, by repeat (first | exact Below.refl _ _ | refine Below.alloc ?_ (by (try simp) <;> (try omega)) _)⟩

set_option maxHeartbeats 1000000 in
theorem eqMotionS_c (A A' : Option Addr) (c c' : Nat) (L : List MotionD) (w : World) (hr : Rd w w.heap.size A (L.length * 6) (L.flatMap motionC)) (hr' : Rd w w.heap.size A' (L.length * 6) (L.flatMap motionC)) (hl : L.length ≤ 140737488355328) :
    Calls Tryz.prog 43 #[.slice A L.length c, .slice A' L.length c'] w fun e w' => e = .returned (.bool true) ∧ Below w.heap.size w w' := by
  go_enter Tryz.func43, Tryz.ntmps43
  go_wp2
  go_loopw [5] (fun i wr => ∃ k : Nat, k ≤ L.length ∧ i = .int .i64 k ∧ Below w.heap.size w wr) (fun i _ => L.length - (intOf i).toNat)
  case atStart => exact ⟨0, by omega, rfl, Below.refl _ _⟩
  case round =>
    obtain ⟨k, hk, rfl, hB⟩ := hrel
    by_cases hlt : k < L.length
    · obtain ⟨b, off, rfl, hb, hc⟩ := Rd.elem motionC 6 (fun _ => rfl) hr (by omega) hlt
      obtain ⟨b', off', rfl, hb', hc'⟩ := Rd.elem motionC 6 (fun _ => rfl) hr' (by omega) hlt
      have hf0 : wr.cell? ⟨b, off + k * 6, none⟩ = some (.int .i64 L[k].number) := by rw [hB.cell (by exact hb)]; exact hc k hlt 0 _ rfl
      have hg0 : wr.cell? ⟨b', off' + k * 6, none⟩ = some (.int .i64 L[k].number) := by rw [hB.cell (by exact hb')]; exact hc' k hlt 0 _ rfl
      have hf1 : wr.cell? ⟨b, off + k * 6 + 1, none⟩ = some (.string L[k].party) := by rw [hB.cell (by exact hb)]; exact hc k hlt 1 _ rfl
      have hg1 : wr.cell? ⟨b', off' + k * 6 + 1, none⟩ = some (.string L[k].party) := by rw [hB.cell (by exact hb')]; exact hc' k hlt 1 _ rfl
      have hf2 : wr.cell? ⟨b, off + k * 6 + 2, none⟩ = some (.int .i64 L[k].filed) := by rw [hB.cell (by exact hb)]; exact hc k hlt 2 _ rfl
      have hg2 : wr.cell? ⟨b', off' + k * 6 + 2, none⟩ = some (.int .i64 L[k].filed) := by rw [hB.cell (by exact hb')]; exact hc' k hlt 2 _ rfl
      have hf3 : wr.cell? ⟨b, off + k * 6 + 3, none⟩ = some (.int .i64 L[k].changed) := by rw [hB.cell (by exact hb)]; exact hc k hlt 3 _ rfl
      have hg3 : wr.cell? ⟨b', off' + k * 6 + 3, none⟩ = some (.int .i64 L[k].changed) := by rw [hB.cell (by exact hb')]; exact hc' k hlt 3 _ rfl
      have hf4 : wr.cell? ⟨b, off + k * 6 + 4, none⟩ = some (.int .i64 L[k].state) := by rw [hB.cell (by exact hb)]; exact hc k hlt 4 _ rfl
      have hg4 : wr.cell? ⟨b', off' + k * 6 + 4, none⟩ = some (.int .i64 L[k].state) := by rw [hB.cell (by exact hb')]; exact hc' k hlt 4 _ rfl
      have hf5 : wr.cell? ⟨b, off + k * 6 + 5, none⟩ = some (.int .i64 L[k].after) := by rw [hB.cell (by exact hb)]; exact hc k hlt 5 _ rfl
      have hg5 : wr.cell? ⟨b', off' + k * 6 + 5, none⟩ = some (.int .i64 L[k].after) := by rw [hB.cell (by exact hb')]; exact hc' k hlt 5 _ rfl
      clear hc hc'
      generalize L[k].number = a0 at *
      generalize L[k].party = a1 at *
      generalize L[k].filed = a2 at *
      generalize L[k].changed = a3 at *
      generalize L[k].state = a4 at *
      generalize L[k].after = a5 at *
      have hk0 : (0 : Int) ≤ (k : Int) := by omega
      have hk1 : (k : Int) < (L.length : Int) := by omega
      have kf0 := cell_regrown hf0; have kg0 := cell_regrown hg0
      have kf1 := cell_regrown hf1; have kg1 := cell_regrown hg1
      have kf2 := cell_regrown hf2; have kg2 := cell_regrown hg2
      have kf3 := cell_regrown hf3; have kg3 := cell_regrown hg3
      have kf4 := cell_regrown hf4; have kg4 := cell_regrown hg4
      have kf5 := cell_regrown hf5; have kg5 := cell_regrown hg5
      go_wp2_with fail
      refine wp_region_bel mixed (by kernel_rfl) ?_
      repeat (go_big_quiet_step (exact rg_below (eqMotion_c _ _ _ _ _ _ _)))
      refine wpQuiet_nil ?_
      intro w1 hw1
      clear hf0 hg0 kf0 kg0 hf1 hg1 kf1 kg1 hf2 hg2 kf2 kg2 hf3 hg3 kf3 kg3 hf4 hg4 kf4 kg4 hf5 hg5 kf5 kg5
      go_wp2
      go_roundw
      case rel => exact ⟨k + 1, by omega, by go_num, bt hB hw1⟩
      case measure => simp [intOf]; omega
    · obtain rfl : k = L.length := by omega
      go_wp2
      go_ret
      exact ⟨rfl, hB⟩


def motionMarks (q : Int) (n : Nat) : List MotionD := (List.range n).map fun (i : Nat) => ⟨q + (i : Int) * 6, markT (q + (i : Int) * 6 + 1), q + (i : Int) * 6 + 2, q + (i : Int) * 6 + 3, q + (i : Int) * 6 + 4, q + (i : Int) * 6 + 5⟩
theorem motionMarks_len (q : Int) (n : Nat) : (motionMarks q n).length = n := by simp [motionMarks]
theorem motionMarks_0 {q : Int} {n i : Nat} (h : i < (motionMarks q n).length) : (motionMarks q n)[i].number = q + (i : Int) * 6 := by simp [motionMarks]
theorem motionMarks_1 {q : Int} {n i : Nat} (h : i < (motionMarks q n).length) : (motionMarks q n)[i].party = markT (q + (i : Int) * 6 + 1) := by simp [motionMarks]
theorem motionMarks_2 {q : Int} {n i : Nat} (h : i < (motionMarks q n).length) : (motionMarks q n)[i].filed = q + (i : Int) * 6 + 2 := by simp [motionMarks]
theorem motionMarks_3 {q : Int} {n i : Nat} (h : i < (motionMarks q n).length) : (motionMarks q n)[i].changed = q + (i : Int) * 6 + 3 := by simp [motionMarks]
theorem motionMarks_4 {q : Int} {n i : Nat} (h : i < (motionMarks q n).length) : (motionMarks q n)[i].state = q + (i : Int) * 6 + 4 := by simp [motionMarks]
theorem motionMarks_5 {q : Int} {n i : Nat} (h : i < (motionMarks q n).length) : (motionMarks q n)[i].after = q + (i : Int) * 6 + 5 := by simp [motionMarks]
set_option maxHeartbeats 1000000 in
theorem markMotionS_c (A : Option Addr) (n c base : Nat) (xs : List Value) (q : Int) (w : World) (hown : w.ownsRow base 70 6 (.slice A n c) n xs) (hn : n ≤ 140737488355328) (h0 : 0 ≤ q) (h1 : q ≤ 1048576) :
    Calls Tryz.prog 46 #[.slice A n c, .int .i64 q] w fun e w' => e = .returned (.int .i64 (q + n * 6)) ∧
      w'.ownsRow base 70 6 (.slice A n c) n ((motionMarks q n).flatMap motionC) ∧ w.grownBy w' (Value.slice A n c).ownBlock := by
  go_enter Tryz.func46, Tryz.ntmps46
  go_wp2
  go_loopw [1, 5] (fun v i wr => ∃ k : Nat, k ≤ n ∧ i = .int .i64 k ∧ v = .int .i64 (q + k * 6) ∧ Hid (w.grownBy wr (Value.slice A n c).ownBlock) ∧ Hid (∃ ys, wr.ownsRow base 70 6 (.slice A n c) n ys ∧ ys.take (k * 6) = ((motionMarks q n).take k).flatMap motionC))
    (fun _ i _ => n - (intOf i).toNat)
  case atStart => exact ⟨0, by omega, rfl, by go_num, World.grownBy.refl _ _, xs, hown, by simp⟩
  case round =>
    obtain ⟨k, hk, rfl, rfl, HG, HO⟩ := hrel
    clear hown
    by_cases hlt : k < n
    · obtain ⟨ys, hown, hys⟩ := HO.out
      obtain ⟨g, rfl, hg1, hg2⟩ := own_head hown (by omega)
      obtain ⟨u0, hu0⟩ := own_cell hown (j := k * 6) (by omega)
      have hz0 := hown.frozenAt (k * 6)
      obtain ⟨u1, hu1⟩ := own_cell hown (j := k * 6 + 1) (by omega)
      have hz1 := hown.frozenAt (k * 6 + 1)
      obtain ⟨u2, hu2⟩ := own_cell hown (j := k * 6 + 2) (by omega)
      have hz2 := hown.frozenAt (k * 6 + 2)
      obtain ⟨u3, hu3⟩ := own_cell hown (j := k * 6 + 3) (by omega)
      have hz3 := hown.frozenAt (k * 6 + 3)
      obtain ⟨u4, hu4⟩ := own_cell hown (j := k * 6 + 4) (by omega)
      have hz4 := hown.frozenAt (k * 6 + 4)
      obtain ⟨u5, hu5⟩ := own_cell hown (j := k * 6 + 5) (by omega)
      have hz5 := hown.frozenAt (k * 6 + 5)
      have HY := Lib.hid hys; have HN := Lib.hid hown; have HL := Lib.hid hown.1
      have HOw := hown
      clear hys hown HO
      clear hu0 hz0 hu1 hz1 hu2 hz2 hu3 hz3 hu4 hz4 hu5 hz5 HN
      have HG0 := HG; clear HG
      have hown := HOw; clear HOw
      obtain ⟨u0, hu0⟩ := own_cell hown (j := k * 6) (by omega)
      have hz0 := hown.frozenAt (k * 6)
      obtain ⟨u1, hu1⟩ := own_cell hown (j := k * 6 + 1) (by omega)
      have hz1 := hown.frozenAt (k * 6 + 1)
      obtain ⟨u2, hu2⟩ := own_cell hown (j := k * 6 + 2) (by omega)
      have hz2 := hown.frozenAt (k * 6 + 2)
      obtain ⟨u3, hu3⟩ := own_cell hown (j := k * 6 + 3) (by omega)
      have hz3 := hown.frozenAt (k * 6 + 3)
      obtain ⟨u4, hu4⟩ := own_cell hown (j := k * 6 + 4) (by omega)
      have hz4 := hown.frozenAt (k * 6 + 4)
      obtain ⟨u5, hu5⟩ := own_cell hown (j := k * 6 + 5) (by omega)
      have hz5 := hown.frozenAt (k * 6 + 5)
      have HO0 := Lib.hid hown; clear hown
      go_wp2_with fail
      clear hu0 hz0 hu1 hz1 hu2 hz2 hu3 hz3 hu4 hz4 hu5 hz5
      refine (markText_c _ _ (by omega) (by omega)).mono ?_
      rintro e w11 ⟨rfl, hb11⟩
      have hown11 := own_below (HO0.out.stored (k * 6) (.int .i64 (q + (k : Int) * 6))).1 hb11
      have HG11 := Lib.hid (grown_trans' (grown_set HG0.out) (grown_of_below hb11 _))
      clear hb11
      obtain ⟨u0, hu0⟩ := own_cell hown11 (j := k * 6) (by omega)
      have hz0 := hown11.frozenAt (k * 6)
      obtain ⟨u1, hu1⟩ := own_cell hown11 (j := k * 6 + 1) (by omega)
      have hz1 := hown11.frozenAt (k * 6 + 1)
      obtain ⟨u2, hu2⟩ := own_cell hown11 (j := k * 6 + 2) (by omega)
      have hz2 := hown11.frozenAt (k * 6 + 2)
      obtain ⟨u3, hu3⟩ := own_cell hown11 (j := k * 6 + 3) (by omega)
      have hz3 := hown11.frozenAt (k * 6 + 3)
      obtain ⟨u4, hu4⟩ := own_cell hown11 (j := k * 6 + 4) (by omega)
      have hz4 := hown11.frozenAt (k * 6 + 4)
      obtain ⟨u5, hu5⟩ := own_cell hown11 (j := k * 6 + 5) (by omega)
      have hz5 := hown11.frozenAt (k * 6 + 5)
      have HOz := Lib.hid hown11; clear hown11
      go_wp2
      go_roundw
      case rel =>
        refine ⟨k + 1, by omega, by go_num, by go_num, ?_, ?_⟩
        · exact (grown_set (grown_set (grown_set (grown_set (grown_set HG11.out)))))
        · refine ⟨_, (((((HOz.out.stored (k * 6 + 1) _).1.stored (k * 6 + 2) _).1.stored (k * 6 + 3) _).1.stored (k * 6 + 4) _).1.stored (k * 6 + 5) _).1, ?_⟩
          have hl : (motionMarks q n).length = n := motionMarks_len q n
          have hk2 : k < (motionMarks q n).length := by rw [hl]; exact hlt
          have := fill_step motionC 6 (fun _ => rfl) hk2 (by rw [hl]; exact HL.out) HY.out
          rw [motionC, motionMarks_0, motionMarks_1, motionMarks_2, motionMarks_3, motionMarks_4, motionMarks_5] at this
          simp only [Int.add_assoc, Int.reduceAdd] at this ⊢
          exact this
      case measure => simp [intOf]; omega
    · obtain rfl : k = n := by omega
      go_wp2
      go_ret
      obtain ⟨ys, hown, hys⟩ := HO.out
      have hl : (motionMarks q k).length = k := motionMarks_len q k
      have : ys = (motionMarks q k).flatMap motionC := by
        have h1 := hown.1
        rw [List.take_of_length_le (by omega), List.take_of_length_le (by omega)] at hys
        exact hys
      subst this
      exact ⟨rfl, hown, HG.out⟩

set_option maxHeartbeats 1000000 in
theorem heldMotionS_c (A : Option Addr) (n c : Nat) (q : Int) (w : World) (hr : Rd w w.heap.size A (n * 6) ((motionMarks q n).flatMap motionC)) (hn : n ≤ 140737488355328) (h0 : 0 ≤ q) (h1 : q ≤ 1048576) :
    Calls Tryz.prog 49 #[.slice A n c, .int .i64 q] w fun e w' => e = .returned (.int .i64 (q + n * 6)) ∧ Below w.heap.size w w' := by
  go_enter Tryz.func49, Tryz.ntmps49
  go_wp2
  go_loopw [1, 5] (fun v i wr => ∃ k : Nat, k ≤ n ∧ i = .int .i64 k ∧ v = .int .i64 (q + k * 6) ∧ Below w.heap.size w wr) (fun _ i _ => n - (intOf i).toNat)
  case atStart => exact ⟨0, by omega, rfl, by go_num, Below.refl _ _⟩
  case round =>
    obtain ⟨k, hk, rfl, rfl, hB⟩ := hrel
    by_cases hlt : k < n
    · have hl : (motionMarks q n).length = n := motionMarks_len q n
      have hr' : Rd w w.heap.size A ((motionMarks q n).length * 6) ((motionMarks q n).flatMap motionC) := by rw [hl]; exact hr
      obtain ⟨b, off, rfl, hb, hc⟩ := Rd.elem (L := motionMarks q n) motionC 6 (fun _ => rfl) (hr'.below hB) (by omega) (k := k) (by omega)
      have hk2 : k < (motionMarks q n).length := by omega
      have hbr : b < wr.heap.size := by have := hB.size; omega
      have hf0 : wr.cell? ⟨b, off + k * 6, none⟩ = some (.int .i64 (q + (k : Int) * 6)) := by have h := hc k hk2 0 _ rfl; rw [motionMarks_0] at h; exact h
      have hf1 : wr.cell? ⟨b, off + k * 6 + 1, none⟩ = some (.string (markT (q + (k : Int) * 6 + 1))) := by have h := hc k hk2 1 _ rfl; rw [motionMarks_1] at h; exact h
      have hf2 : wr.cell? ⟨b, off + k * 6 + 2, none⟩ = some (.int .i64 (q + (k : Int) * 6 + 2)) := by have h := hc k hk2 2 _ rfl; rw [motionMarks_2] at h; exact h
      have hf3 : wr.cell? ⟨b, off + k * 6 + 3, none⟩ = some (.int .i64 (q + (k : Int) * 6 + 3)) := by have h := hc k hk2 3 _ rfl; rw [motionMarks_3] at h; exact h
      have hf4 : wr.cell? ⟨b, off + k * 6 + 4, none⟩ = some (.int .i64 (q + (k : Int) * 6 + 4)) := by have h := hc k hk2 4 _ rfl; rw [motionMarks_4] at h; exact h
      have hf5 : wr.cell? ⟨b, off + k * 6 + 5, none⟩ = some (.int .i64 (q + (k : Int) * 6 + 5)) := by have h := hc k hk2 5 _ rfl; rw [motionMarks_5] at h; exact h
      clear hc hl hk2 hr hr'
      have hk0 : (0 : Int) ≤ (k : Int) := by omega
      have hk1 : (k : Int) < (n : Int) := by omega
      go_wp2_with fail
      have kf1 := cell_regrown hf1
      refine wp_region_bel mixed (by kernel_rfl) ?_
      repeat (go_big_quiet_step (exact rg_below (markText_c _ _ (by omega) (by omega))))
      refine wpQuiet_nil ?_
      intro w2 hb2
      clear kf1
      replace hf0 := (hb2.cell (by exact hbr)).trans hf0
      replace hf1 := (hb2.cell (by exact hbr)).trans hf1
      replace hf2 := (hb2.cell (by exact hbr)).trans hf2
      replace hf3 := (hb2.cell (by exact hbr)).trans hf3
      replace hf4 := (hb2.cell (by exact hbr)).trans hf4
      replace hf5 := (hb2.cell (by exact hbr)).trans hf5
      have hB2 := bt hB hb2
      replace hbr : b < w2.heap.size := by have := hb2.size; omega
      go_wp2
      go_roundw
      case rel => exact ⟨k + 1, by omega, by go_num, by go_num, hB2⟩
      case measure => simp [intOf]; omega
    · obtain rfl : k = n := by omega
      go_wp2
      go_ret
      exact ⟨rfl, hB⟩
end Go.Proofs.YtiamignopfhkfaaGreatDoor
end
