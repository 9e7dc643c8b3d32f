/- Contracts of the helpers of the laws for Mark: to, eq, sz, mark, held. Written by gen_mech.py. -/
import Derived.Test.YtgckkocndhfbnaaNum
namespace Go.Proofs.Ytgckkocndhfbnaa
open Go.RowKit
structure MarkD where
  from_ : Int
  to : Int
  level : Int
instance : Inhabited MarkD := ⟨⟨0, 0, 0⟩⟩
def markC (x : MarkD) : List Value := [.int .i64 x.from_, .int .i64 x.to, .int .i64 x.level]
def MarkW (x : MarkD) : Prop := (Lit.int .i64 x.from_).wf = true ∧ (Lit.int .i64 x.to).wf = true ∧ (Lit.int .i64 x.level).wf = true
theorem mark_info : (Try.prog.info? 42).map (fun i => (i.zero, i.size, i.bytes)) = some (some (.agg #[.int .i64 0, .int .i64 0, .int .i64 0]), 3, 24) := by kernel_rfl

theorem toMark_c (a0 : Int) (a1 : Int) (a2 : Int) (w : World) : Calls Try.prog 23 #[.agg #[.int .i64 a0, .int .i64 a1, .int .i64 a2]] w fun e w' => e = .returned (.agg #[.int .i64 a0, .int .i64 a1, .int .i64 a2]) ∧ Below w.heap.size w w' := by
  go_enter Try.func23, Try.ntmps23
  go_wp2
  exact bodyPost_ret (v := .agg #[.int .i64 a0, .int .i64 a1, .int .i64 a2]) (by simp [results, Try.results23, go_sem]) rfl ⟨rfl, by repeat (first | exact Below.refl _ _ | refine Below.alloc ?_ (by (try simp) <;> (try omega)) _)⟩

set_option maxHeartbeats 1000000 in
theorem toMarkS_c (A : Option Addr) (c : Nat) (L : List MarkD) (w : World) (hr : Rd w w.heap.size A (L.length * 3) (L.flatMap markC)) (hl : L.length * 24 ≤ 140737488355328) :
    Calls Try.prog 22 #[.slice A L.length c] w fun e w' => ∃ g, e = .returned (.slice (some ⟨g, 0, none⟩) L.length L.length) ∧
      w'.ownsRow w.heap.size 42 3 (.slice (some ⟨g, 0, none⟩) L.length L.length) L.length (L.flatMap markC) ∧ Below w.heap.size w w' := by
  obtain ⟨i0, hi, hz0, hz1, hz2⟩ := info_parts mark_info
  go_enter Try.func22, Try.ntmps22
  go_wp2_with (first | (at_make; refine wpList_make_full _ rfl _ _ 24 rfl w.heap.size 42 i0 _ 3 Try.underlying24 hi hz0 hz1 _ _ _ _ L.length rfl rfl rfl rfl (by rw [hz2]; omega) (by unfold maxLen; omega) (Nat.le_refl _) ?_; intro w1 hown hgrow))
  have hb1 : Below w.heap.size w w1 := (Below.refl _ _).grown hgrow (Nat.le_refl _) (fun k hk => by cases hk)
  clear hgrow hi hz0 hz1 hz2
  go_loopw [4] (fun i wr => ∃ k : Nat, k ≤ L.length ∧ i = .int .i64 k ∧ Below w.heap.size w wr ∧ Hid (∃ ys, wr.ownsRow w.heap.size 42 3 (.slice (some ⟨w.heap.size, 0, none⟩) L.length L.length) L.length ys ∧ ys.take (k * 3) = (L.take k).flatMap markC))
    (fun i _ => L.length - (intOf i).toNat)
  case atStart => exact ⟨0, by omega, rfl, hb1, _, hown, by simp⟩
  case round =>
    obtain ⟨k, hk, rfl, hB, HO⟩ := hrel
    clear hown hb1
    by_cases hlt : k < L.length
    · obtain ⟨b, off, rfl, hb, hc⟩ := Rd.elem markC 3 (fun _ => rfl) hr (by omega) hlt
      have hf0 : wr.cell? ⟨b, off + k * 3, none⟩ = some (.int .i64 L[k].from_) := by rw [hB.cell (by exact hb)]; exact hc k hlt 0 _ rfl
      have hf1 : wr.cell? ⟨b, off + k * 3 + 1, none⟩ = some (.int .i64 L[k].to) := by rw [hB.cell (by exact hb)]; exact hc k hlt 1 _ rfl
      have hf2 : wr.cell? ⟨b, off + k * 3 + 2, none⟩ = some (.int .i64 L[k].level) := by rw [hB.cell (by exact hb)]; exact hc k hlt 2 _ rfl
      clear hc
      generalize ha0 : L[k].from_ = a0 at *
      generalize ha1 : L[k].to = a1 at *
      generalize ha2 : L[k].level = a2 at *
      have Ha0 := Lib.hid ha0; have Ha1 := Lib.hid ha1; have Ha2 := Lib.hid ha2; clear ha0 ha1 ha2
      go_wp2_with fail
      refine (toMark_c a0 a1 a2 _).mono ?_
      rintro e w2 ⟨rfl, hb2⟩
      obtain ⟨ys, hown, hys⟩ := HO.out
      have ho2 := own_below hown hb2
      obtain ⟨u0, hu0⟩ := own_cell ho2 (j := k * 3) (by omega)
      have hz0 := ho2.frozenAt (k * 3)
      obtain ⟨u1, hu1⟩ := own_cell ho2 (j := k * 3 + 1) (by omega)
      have hz1 := ho2.frozenAt (k * 3 + 1)
      obtain ⟨u2, hu2⟩ := own_cell ho2 (j := k * 3 + 2) (by omega)
      have hz2 := ho2.frozenAt (k * 3 + 2)
      have HY := Lib.hid hys
      clear hown hys
      go_wp2
      go_roundw
      case rel =>
        refine ⟨k + 1, by omega, by go_num, ?_, ?_⟩
        · exact ((((hB.trans (hb2.mono hB.size)).setCell (Nat.le_refl _) _).setCell (Nat.le_refl _) _).setCell (Nat.le_refl _) _)
        · refine ⟨_, (((ho2.stored (k * 3) (.int .i64 a0)).1.stored (k * 3 + 1) (.int .i64 a1)).1.stored (k * 3 + 2) (.int .i64 a2)).1, ?_⟩
          obtain rfl := Ha0.out; obtain rfl := Ha1.out; obtain rfl := Ha2.out
          exact fill_step markC 3 (fun _ => rfl) hlt ho2.1 HY.out
      case measure => simp [intOf]; omega
    · obtain rfl : k = L.length := by omega
      go_wp2
      go_ret
      obtain ⟨ys, hown, hys⟩ := HO.out
      obtain rfl := fill_end markC 3 hown.1 hys
      exact ⟨_, rfl, hown, hB⟩

theorem eqMark_c (a0 : Int) (a1 : Int) (a2 : Int) (w : World) : Calls Try.prog 60 #[.agg #[.int .i64 a0, .int .i64 a1, .int .i64 a2], .agg #[.int .i64 a0, .int .i64 a1, .int .i64 a2]] w fun e w' => e = .returned (.bool true) ∧ Below w.heap.size w w' := by
  go_enter Try.func60, Try.ntmps60
  go_wp2
  go_ret
  exact ⟨rfl, by repeat (first | exact Below.refl _ _ | refine Below.alloc ?_ (by (try simp) <;> (try omega)) _)⟩

set_option maxHeartbeats 1000000 in
theorem eqMarkS_c (A A' : Option Addr) (c c' : Nat) (L : List MarkD) (w : World) (hr : Rd w w.heap.size A (L.length * 3) (L.flatMap markC)) (hr' : Rd w w.heap.size A' (L.length * 3) (L.flatMap markC)) (hl : L.length ≤ 140737488355328) :
    Calls Try.prog 25 #[.slice A L.length c, .slice A' L.length c'] w fun e w' => e = .returned (.bool true) ∧ Below w.heap.size w w' := by
  go_enter Try.func25, Try.ntmps25
  go_wp2
  go_loopw [5] (fun i wr => ∃ k : Nat, k ≤ L.length ∧ i = .int .i64 k ∧ Below w.heap.size w wr) (fun i _ => L.length - (intOf i).toNat)
  case atStart => exact ⟨0, by omega, rfl, Below.refl _ _⟩
  case round =>
    obtain ⟨k, hk, rfl, hB⟩ := hrel
    by_cases hlt : k < L.length
    · obtain ⟨b, off, rfl, hb, hc⟩ := Rd.elem markC 3 (fun _ => rfl) hr (by omega) hlt
      obtain ⟨b', off', rfl, hb', hc'⟩ := Rd.elem markC 3 (fun _ => rfl) hr' (by omega) hlt
      have hf0 : wr.cell? ⟨b, off + k * 3, none⟩ = some (.int .i64 L[k].from_) := by rw [hB.cell (by exact hb)]; exact hc k hlt 0 _ rfl
      have hg0 : wr.cell? ⟨b', off' + k * 3, none⟩ = some (.int .i64 L[k].from_) := by rw [hB.cell (by exact hb')]; exact hc' k hlt 0 _ rfl
      have hf1 : wr.cell? ⟨b, off + k * 3 + 1, none⟩ = some (.int .i64 L[k].to) := by rw [hB.cell (by exact hb)]; exact hc k hlt 1 _ rfl
      have hg1 : wr.cell? ⟨b', off' + k * 3 + 1, none⟩ = some (.int .i64 L[k].to) := by rw [hB.cell (by exact hb')]; exact hc' k hlt 1 _ rfl
      have hf2 : wr.cell? ⟨b, off + k * 3 + 2, none⟩ = some (.int .i64 L[k].level) := by rw [hB.cell (by exact hb)]; exact hc k hlt 2 _ rfl
      have hg2 : wr.cell? ⟨b', off' + k * 3 + 2, none⟩ = some (.int .i64 L[k].level) := by rw [hB.cell (by exact hb')]; exact hc' k hlt 2 _ rfl
      clear hc hc'
      generalize L[k].from_ = a0 at *
      generalize L[k].to = a1 at *
      generalize L[k].level = a2 at *
      have hk0 : (0 : Int) ≤ (k : Int) := by omega
      have hk1 : (k : Int) < (L.length : Int) := by omega
      have kf0 := cell_regrown hf0; have kg0 := cell_regrown hg0
      have kf1 := cell_regrown hf1; have kg1 := cell_regrown hg1
      have kf2 := cell_regrown hf2; have kg2 := cell_regrown hg2
      go_wp2_with fail
      refine wp_region_bel mixed (by kernel_rfl) ?_
      repeat (go_big_quiet_step (exact rg_below (eqMark_c _ _ _ _)))
      refine wpQuiet_nil ?_
      intro w1 hw1
      clear hf0 hg0 kf0 kg0 hf1 hg1 kf1 kg1 hf2 hg2 kf2 kg2
      go_wp2
      go_roundw
      case rel => exact ⟨k + 1, by omega, by go_num, bt hB hw1⟩
      case measure => simp [intOf]; omega
    · obtain rfl : k = L.length := by omega
      go_wp2
      go_ret
      exact ⟨rfl, hB⟩

theorem szMarkS_c (A : Option Addr) (n c : Nat) (l : Int) (w : World) (hn : n ≤ 9223372036854775807) (h0 : 0 ≤ l) (h1 : l ≤ 1048576) :
    Calls Try.prog 20 #[.slice A n c, .int .i64 l] w (SzPost n l w) := by
  by_cases h : l < n
  · have h' : l - (n : Int) < 0 := by omega
    go_enter Try.func20, Try.ntmps20
    go_wp2
    go_ret
    exact ⟨-1, rfl, by omega, by omega, fun h => by omega, Below.refl _ _⟩
  · have h' : ¬ l - (n : Int) < 0 := by omega
    go_enter Try.func20, Try.ntmps20
    go_wp2
    go_ret
    exact ⟨_, rfl, by omega, by omega, fun h => by omega, Below.refl _ _⟩

def markMarks (q : Int) (n : Nat) : List MarkD := (List.range n).map fun (i : Nat) => ⟨q + (i : Int) * 3, q + (i : Int) * 3 + 1, q + (i : Int) * 3 + 2⟩
theorem markMarks_len (q : Int) (n : Nat) : (markMarks q n).length = n := by simp [markMarks]
theorem markMarks_0 {q : Int} {n i : Nat} (h : i < (markMarks q n).length) : (markMarks q n)[i].from_ = q + (i : Int) * 3 := by simp [markMarks]
theorem markMarks_1 {q : Int} {n i : Nat} (h : i < (markMarks q n).length) : (markMarks q n)[i].to = q + (i : Int) * 3 + 1 := by simp [markMarks]
theorem markMarks_2 {q : Int} {n i : Nat} (h : i < (markMarks q n).length) : (markMarks q n)[i].level = q + (i : Int) * 3 + 2 := by simp [markMarks]
set_option maxHeartbeats 1000000 in
theorem markMarkS_c (A : Option Addr) (n c base : Nat) (xs : List Value) (q : Int) (w : World) (hown : w.ownsRow base 42 3 (.slice A n c) n xs) (hn : n ≤ 140737488355328) (h0 : 0 ≤ q) (h1 : q ≤ 16777216) :
    Calls Try.prog 26 #[.slice A n c, .int .i64 q] w fun e w' => e = .returned (.int .i64 (q + n * 3)) ∧
      w'.ownsRow base 42 3 (.slice A n c) n ((markMarks q n).flatMap markC) ∧ w.grownBy w' (Value.slice A n c).ownBlock := by
  go_enter Try.func26, Try.ntmps26
  go_wp2
  go_loopw [1, 5] (fun v i wr => ∃ k : Nat, k ≤ n ∧ i = .int .i64 k ∧ v = .int .i64 (q + k * 3) ∧ Hid (w.grownBy wr (Value.slice A n c).ownBlock) ∧ Hid (∃ ys, wr.ownsRow base 42 3 (.slice A n c) n ys ∧ ys.take (k * 3) = ((markMarks q n).take k).flatMap markC))
    (fun _ i _ => n - (intOf i).toNat)
  case atStart => exact ⟨0, by omega, rfl, by go_num, World.grownBy.refl _ _, xs, hown, by simp⟩
  case round =>
    obtain ⟨k, hk, rfl, rfl, HG, HO⟩ := hrel
    clear hown
    by_cases hlt : k < n
    · obtain ⟨ys, hown, hys⟩ := HO.out
      obtain ⟨g, rfl, hg1, hg2⟩ := own_head hown (by omega)
      obtain ⟨u0, hu0⟩ := own_cell hown (j := k * 3) (by omega)
      have hz0 := hown.frozenAt (k * 3)
      obtain ⟨u1, hu1⟩ := own_cell hown (j := k * 3 + 1) (by omega)
      have hz1 := hown.frozenAt (k * 3 + 1)
      obtain ⟨u2, hu2⟩ := own_cell hown (j := k * 3 + 2) (by omega)
      have hz2 := hown.frozenAt (k * 3 + 2)
      have HY := Lib.hid hys; have HN := Lib.hid hown; have HL := Lib.hid hown.1
      clear hys hown HO
      go_wp2
      go_roundw
      case rel =>
        refine ⟨k + 1, by omega, by go_num, by go_num, ?_, ?_⟩
        · exact (grown_set (grown_set (grown_set HG.out)))
        · refine ⟨_, (((HN.out.stored (k * 3) (_)).1.stored (k * 3 + 1) (_)).1.stored (k * 3 + 2) (_)).1, ?_⟩
          have hl : (markMarks q n).length = n := markMarks_len q n
          have hk2 : k < (markMarks q n).length := by rw [hl]; exact hlt
          have := fill_step markC 3 (fun _ => rfl) hk2 (by rw [hl]; exact HL.out) HY.out
          rw [markC, markMarks_0, markMarks_1, markMarks_2] at this
          simp only [Int.add_assoc, Int.reduceAdd] at this ⊢
          exact this
      case measure => simp [intOf]; omega
    · obtain rfl : k = n := by omega
      go_wp2
      go_ret
      obtain ⟨ys, hown, hys⟩ := HO.out
      have hl : (markMarks q k).length = k := markMarks_len q k
      have : ys = (markMarks q k).flatMap markC := by
        have h1 := hown.1
        rw [List.take_of_length_le (by omega), List.take_of_length_le (by omega)] at hys
        exact hys
      subst this
      exact ⟨rfl, hown, HG.out⟩

set_option maxHeartbeats 1000000 in
theorem heldMarkS_c (A : Option Addr) (n c : Nat) (q : Int) (w : World) (hr : Rd w w.heap.size A (n * 3) ((markMarks q n).flatMap markC)) (hn : n ≤ 140737488355328) (h0 : 0 ≤ q) (h1 : q ≤ 16777216) :
    Calls Try.prog 27 #[.slice A n c, .int .i64 q] w fun e w' => e = .returned (.int .i64 (q + n * 3)) ∧ Below w.heap.size w w' := by
  go_enter Try.func27, Try.ntmps27
  go_wp2
  go_loopw [1, 5] (fun v i wr => ∃ k : Nat, k ≤ n ∧ i = .int .i64 k ∧ v = .int .i64 (q + k * 3) ∧ Below w.heap.size w wr) (fun _ i _ => n - (intOf i).toNat)
  case atStart => exact ⟨0, by omega, rfl, by go_num, Below.refl _ _⟩
  case round =>
    obtain ⟨k, hk, rfl, rfl, hB⟩ := hrel
    by_cases hlt : k < n
    · have hl : (markMarks q n).length = n := markMarks_len q n
      have hr' : Rd w w.heap.size A ((markMarks q n).length * 3) ((markMarks q n).flatMap markC) := by rw [hl]; exact hr
      obtain ⟨b, off, rfl, hb, hc⟩ := Rd.elem (L := markMarks q n) markC 3 (fun _ => rfl) (hr'.below hB) (by omega) (k := k) (by omega)
      have hk2 : k < (markMarks q n).length := by omega
      have hbr : b < wr.heap.size := by have := hB.size; omega
      have hf0 : wr.cell? ⟨b, off + k * 3, none⟩ = some (.int .i64 (q + (k : Int) * 3)) := by have h := hc k hk2 0 _ rfl; rw [markMarks_0] at h; exact h
      have hf1 : wr.cell? ⟨b, off + k * 3 + 1, none⟩ = some (.int .i64 (q + (k : Int) * 3 + 1)) := by have h := hc k hk2 1 _ rfl; rw [markMarks_1] at h; exact h
      have hf2 : wr.cell? ⟨b, off + k * 3 + 2, none⟩ = some (.int .i64 (q + (k : Int) * 3 + 2)) := by have h := hc k hk2 2 _ rfl; rw [markMarks_2] at h; exact h
      clear hc hl hk2 hr hr'
      go_wp2
      go_roundw
      case rel => exact ⟨k + 1, by omega, by go_num, by go_num, hB⟩
      case measure => simp [intOf]; omega
    · obtain rfl : k = n := by omega
      go_wp2
      go_ret
      exact ⟨rfl, hB⟩
end Go.Proofs.Ytgckkocndhfbnaa
