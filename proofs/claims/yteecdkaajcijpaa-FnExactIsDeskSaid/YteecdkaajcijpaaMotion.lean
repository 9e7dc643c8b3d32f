/- Contracts of the helpers of the laws for Motion: to, eq, sz, mark, held. Written by gen_mech.py. -/
import Derived.Test.YteecdkaajcijpaaNum
import Derived.Test.YteecdkaajcijpaaMarkText
namespace Go.Proofs.Yteecdkaajcijpaa
open Go.RowKit
structure MotionD where
  number : Int
  party : ByteArray
  filed : Int
  changed : Int
  state : Int
  after : Int
instance : Inhabited MotionD := ⟨⟨0, ByteArray.empty, 0, 0, 0, 0⟩⟩
def motionC (x : MotionD) : List Value := [.int .i64 x.number, .string x.party, .int .i64 x.filed, .int .i64 x.changed, .int .i64 x.state, .int .i64 x.after]
def MotionW (x : MotionD) : Prop := (Lit.int .i64 x.number).wf = true ∧ x.party.size ≤ maxLen ∧ (Lit.int .i64 x.filed).wf = true ∧ (Lit.int .i64 x.changed).wf = true ∧ (Lit.int .i64 x.state).wf = true ∧ (Lit.int .i64 x.after).wf = true
theorem motion_info : (Try.prog.info? 55).map (fun i => (i.zero, i.size, i.bytes)) = some (some (.agg #[.int .i64 0, .string ByteArray.empty, .int .i64 0, .int .i64 0, .int .i64 0, .int .i64 0]), 6, 56) := by kernel_rfl

theorem toMotion_c (a0 : Int) (a1 : ByteArray) (a2 : Int) (a3 : Int) (a4 : Int) (a5 : Int) (w : World) : Calls Try.prog 30 #[.agg #[.int .i64 a0, .string a1, .int .i64 a2, .int .i64 a3, .int .i64 a4, .int .i64 a5]] w fun e w' => e = .returned (.agg #[.int .i64 a0, .string a1, .int .i64 a2, .int .i64 a3, .int .i64 a4, .int .i64 a5]) ∧ Below w.heap.size w w' := by
  go_enter Try.func30, Try.ntmps30
  go_wp2
  exact bodyPost_ret (v := .agg #[.int .i64 a0, .string a1, .int .i64 a2, .int .i64 a3, .int .i64 a4, .int .i64 a5]) (by simp [results, Try.results30, go_sem]) rfl ⟨rfl, by repeat (first | exact Below.refl _ _ | refine Below.alloc ?_ (by (try simp) <;> (try omega)) _)⟩

set_option maxHeartbeats 1000000 in
theorem toMotionS_c (A : Option Addr) (c : Nat) (L : List MotionD) (w : World) (hr : Rd w w.heap.size A (L.length * 6) (L.flatMap motionC)) (hl : L.length * 56 ≤ 140737488355328) :
    Calls Try.prog 17 #[.slice A L.length c] w fun e w' => ∃ g, e = .returned (.slice (some ⟨g, 0, none⟩) L.length L.length) ∧
      w'.ownsRow w.heap.size 55 6 (.slice (some ⟨g, 0, none⟩) L.length L.length) L.length (L.flatMap motionC) ∧ Below w.heap.size w w' := by
  obtain ⟨i0, hi, hz0, hz1, hz2⟩ := info_parts motion_info
  go_enter Try.func17, Try.ntmps17
  go_wp2_with (first | (at_make; refine wpList_make_full _ rfl _ _ 30 rfl w.heap.size 55 i0 _ 6 Try.underlying30 hi hz0 hz1 _ _ _ _ L.length rfl rfl rfl rfl (by rw [hz2]; omega) (by unfold maxLen; omega) (Nat.le_refl _) ?_; intro w1 hown hgrow))
  have hb1 : Below w.heap.size w w1 := (Below.refl _ _).grown hgrow (Nat.le_refl _) (fun k hk => by cases hk)
  clear hgrow hi hz0 hz1 hz2
  go_loopw [4] (fun i wr => ∃ k : Nat, k ≤ L.length ∧ i = .int .i64 k ∧ Below w.heap.size w wr ∧ Hid (∃ ys, wr.ownsRow w.heap.size 55 6 (.slice (some ⟨w.heap.size, 0, none⟩) L.length L.length) L.length ys ∧ ys.take (k * 6) = (L.take k).flatMap motionC))
    (fun i _ => L.length - (intOf i).toNat)
  case atStart => exact ⟨0, by omega, rfl, hb1, _, hown, by simp⟩
  case round =>
    obtain ⟨k, hk, rfl, hB, HO⟩ := hrel
    clear hown hb1
    by_cases hlt : k < L.length
    · obtain ⟨b, off, rfl, hb, hc⟩ := Rd.elem motionC 6 (fun _ => rfl) hr (by omega) hlt
      have hf0 : wr.cell? ⟨b, off + k * 6, none⟩ = some (.int .i64 L[k].number) := by rw [hB.cell (by exact hb)]; exact hc k hlt 0 _ rfl
      have hf1 : wr.cell? ⟨b, off + k * 6 + 1, none⟩ = some (.string L[k].party) := by rw [hB.cell (by exact hb)]; exact hc k hlt 1 _ rfl
      have hf2 : wr.cell? ⟨b, off + k * 6 + 2, none⟩ = some (.int .i64 L[k].filed) := by rw [hB.cell (by exact hb)]; exact hc k hlt 2 _ rfl
      have hf3 : wr.cell? ⟨b, off + k * 6 + 3, none⟩ = some (.int .i64 L[k].changed) := by rw [hB.cell (by exact hb)]; exact hc k hlt 3 _ rfl
      have hf4 : wr.cell? ⟨b, off + k * 6 + 4, none⟩ = some (.int .i64 L[k].state) := by rw [hB.cell (by exact hb)]; exact hc k hlt 4 _ rfl
      have hf5 : wr.cell? ⟨b, off + k * 6 + 5, none⟩ = some (.int .i64 L[k].after) := by rw [hB.cell (by exact hb)]; exact hc k hlt 5 _ rfl
      clear hc
      generalize ha0 : L[k].number = a0 at *
      generalize ha1 : L[k].party = a1 at *
      generalize ha2 : L[k].filed = a2 at *
      generalize ha3 : L[k].changed = a3 at *
      generalize ha4 : L[k].state = a4 at *
      generalize ha5 : L[k].after = a5 at *
      have Ha0 := Lib.hid ha0; have Ha1 := Lib.hid ha1; have Ha2 := Lib.hid ha2; have Ha3 := Lib.hid ha3; have Ha4 := Lib.hid ha4; have Ha5 := Lib.hid ha5; clear ha0 ha1 ha2 ha3 ha4 ha5
      go_wp2_with fail
      refine (toMotion_c a0 a1 a2 a3 a4 a5 _).mono ?_
      rintro e w2 ⟨rfl, hb2⟩
      obtain ⟨ys, hown, hys⟩ := HO.out
      have ho2 := own_below hown hb2
      obtain ⟨u0, hu0⟩ := own_cell ho2 (j := k * 6) (by omega)
      have hz0 := ho2.frozenAt (k * 6)
      obtain ⟨u1, hu1⟩ := own_cell ho2 (j := k * 6 + 1) (by omega)
      have hz1 := ho2.frozenAt (k * 6 + 1)
      obtain ⟨u2, hu2⟩ := own_cell ho2 (j := k * 6 + 2) (by omega)
      have hz2 := ho2.frozenAt (k * 6 + 2)
      obtain ⟨u3, hu3⟩ := own_cell ho2 (j := k * 6 + 3) (by omega)
      have hz3 := ho2.frozenAt (k * 6 + 3)
      obtain ⟨u4, hu4⟩ := own_cell ho2 (j := k * 6 + 4) (by omega)
      have hz4 := ho2.frozenAt (k * 6 + 4)
      obtain ⟨u5, hu5⟩ := own_cell ho2 (j := k * 6 + 5) (by omega)
      have hz5 := ho2.frozenAt (k * 6 + 5)
      have HY := Lib.hid hys
      clear hown hys
      go_wp2
      go_roundw
      case rel =>
        refine ⟨k + 1, by omega, by go_num, ?_, ?_⟩
        · exact (((((((hB.trans (hb2.mono hB.size)).setCell (Nat.le_refl _) _).setCell (Nat.le_refl _) _).setCell (Nat.le_refl _) _).setCell (Nat.le_refl _) _).setCell (Nat.le_refl _) _).setCell (Nat.le_refl _) _)
        · refine ⟨_, ((((((ho2.stored (k * 6) (.int .i64 a0)).1.stored (k * 6 + 1) (.string a1)).1.stored (k * 6 + 2) (.int .i64 a2)).1.stored (k * 6 + 3) (.int .i64 a3)).1.stored (k * 6 + 4) (.int .i64 a4)).1.stored (k * 6 + 5) (.int .i64 a5)).1, ?_⟩
          obtain rfl := Ha0.out; obtain rfl := Ha1.out; obtain rfl := Ha2.out; obtain rfl := Ha3.out; obtain rfl := Ha4.out; obtain rfl := Ha5.out
          exact fill_step motionC 6 (fun _ => rfl) hlt ho2.1 HY.out
      case measure => simp [intOf]; omega
    · obtain rfl : k = L.length := by omega
      go_wp2
      go_ret
      obtain ⟨ys, hown, hys⟩ := HO.out
      obtain rfl := fill_end motionC 6 hown.1 hys
      exact ⟨_, rfl, hown, hB⟩

theorem eqMotion_c (a0 : Int) (a1 : ByteArray) (a2 : Int) (a3 : Int) (a4 : Int) (a5 : Int) (w : World) : Calls Try.prog 37 #[.agg #[.int .i64 a0, .string a1, .int .i64 a2, .int .i64 a3, .int .i64 a4, .int .i64 a5], .agg #[.int .i64 a0, .string a1, .int .i64 a2, .int .i64 a3, .int .i64 a4, .int .i64 a5]] w fun e w' => e = .returned (.bool true) ∧ Below w.heap.size w w' := by
  go_enter Try.func37, Try.ntmps37
  go_wp2
  go_ret
  exact ⟨rfl, by repeat (first | exact Below.refl _ _ | refine Below.alloc ?_ (by (try simp) <;> (try omega)) _)⟩

set_option maxHeartbeats 1000000 in
theorem eqMotionS_c (A A' : Option Addr) (c c' : Nat) (L : List MotionD) (w : World) (hr : Rd w w.heap.size A (L.length * 6) (L.flatMap motionC)) (hr' : Rd w w.heap.size A' (L.length * 6) (L.flatMap motionC)) (hl : L.length ≤ 140737488355328) :
    Calls Try.prog 23 #[.slice A L.length c, .slice A' L.length c'] w fun e w' => e = .returned (.bool true) ∧ Below w.heap.size w w' := by
  go_enter Try.func23, Try.ntmps23
  go_wp2
  go_loopw [5] (fun i wr => ∃ k : Nat, k ≤ L.length ∧ i = .int .i64 k ∧ Below w.heap.size w wr) (fun i _ => L.length - (intOf i).toNat)
  case atStart => exact ⟨0, by omega, rfl, Below.refl _ _⟩
  case round =>
    obtain ⟨k, hk, rfl, hB⟩ := hrel
    by_cases hlt : k < L.length
    · obtain ⟨b, off, rfl, hb, hc⟩ := Rd.elem motionC 6 (fun _ => rfl) hr (by omega) hlt
      obtain ⟨b', off', rfl, hb', hc'⟩ := Rd.elem motionC 6 (fun _ => rfl) hr' (by omega) hlt
      have hf0 : wr.cell? ⟨b, off + k * 6, none⟩ = some (.int .i64 L[k].number) := by rw [hB.cell (by exact hb)]; exact hc k hlt 0 _ rfl
      have hg0 : wr.cell? ⟨b', off' + k * 6, none⟩ = some (.int .i64 L[k].number) := by rw [hB.cell (by exact hb')]; exact hc' k hlt 0 _ rfl
      have hf1 : wr.cell? ⟨b, off + k * 6 + 1, none⟩ = some (.string L[k].party) := by rw [hB.cell (by exact hb)]; exact hc k hlt 1 _ rfl
      have hg1 : wr.cell? ⟨b', off' + k * 6 + 1, none⟩ = some (.string L[k].party) := by rw [hB.cell (by exact hb')]; exact hc' k hlt 1 _ rfl
      have hf2 : wr.cell? ⟨b, off + k * 6 + 2, none⟩ = some (.int .i64 L[k].filed) := by rw [hB.cell (by exact hb)]; exact hc k hlt 2 _ rfl
      have hg2 : wr.cell? ⟨b', off' + k * 6 + 2, none⟩ = some (.int .i64 L[k].filed) := by rw [hB.cell (by exact hb')]; exact hc' k hlt 2 _ rfl
      have hf3 : wr.cell? ⟨b, off + k * 6 + 3, none⟩ = some (.int .i64 L[k].changed) := by rw [hB.cell (by exact hb)]; exact hc k hlt 3 _ rfl
      have hg3 : wr.cell? ⟨b', off' + k * 6 + 3, none⟩ = some (.int .i64 L[k].changed) := by rw [hB.cell (by exact hb')]; exact hc' k hlt 3 _ rfl
      have hf4 : wr.cell? ⟨b, off + k * 6 + 4, none⟩ = some (.int .i64 L[k].state) := by rw [hB.cell (by exact hb)]; exact hc k hlt 4 _ rfl
      have hg4 : wr.cell? ⟨b', off' + k * 6 + 4, none⟩ = some (.int .i64 L[k].state) := by rw [hB.cell (by exact hb')]; exact hc' k hlt 4 _ rfl
      have hf5 : wr.cell? ⟨b, off + k * 6 + 5, none⟩ = some (.int .i64 L[k].after) := by rw [hB.cell (by exact hb)]; exact hc k hlt 5 _ rfl
      have hg5 : wr.cell? ⟨b', off' + k * 6 + 5, none⟩ = some (.int .i64 L[k].after) := by rw [hB.cell (by exact hb')]; exact hc' k hlt 5 _ rfl
      clear hc hc'
      generalize L[k].number = a0 at *
      generalize L[k].party = a1 at *
      generalize L[k].filed = a2 at *
      generalize L[k].changed = a3 at *
      generalize L[k].state = a4 at *
      generalize L[k].after = a5 at *
      have hk0 : (0 : Int) ≤ (k : Int) := by omega
      have hk1 : (k : Int) < (L.length : Int) := by omega
      have kf0 := cell_regrown hf0; have kg0 := cell_regrown hg0
      have kf1 := cell_regrown hf1; have kg1 := cell_regrown hg1
      have kf2 := cell_regrown hf2; have kg2 := cell_regrown hg2
      have kf3 := cell_regrown hf3; have kg3 := cell_regrown hg3
      have kf4 := cell_regrown hf4; have kg4 := cell_regrown hg4
      have kf5 := cell_regrown hf5; have kg5 := cell_regrown hg5
      go_wp2_with fail
      refine wp_region_bel mixed (by kernel_rfl) ?_
      repeat (go_big_quiet_step (exact rg_below (eqMotion_c _ _ _ _ _ _ _)))
      refine wpQuiet_nil ?_
      intro w1 hw1
      clear hf0 hg0 kf0 kg0 hf1 hg1 kf1 kg1 hf2 hg2 kf2 kg2 hf3 hg3 kf3 kg3 hf4 hg4 kf4 kg4 hf5 hg5 kf5 kg5
      go_wp2
      go_roundw
      case rel => exact ⟨k + 1, by omega, by go_num, bt hB hw1⟩
      case measure => simp [intOf]; omega
    · obtain rfl : k = L.length := by omega
      go_wp2
      go_ret
      exact ⟨rfl, hB⟩

theorem szMotion_c (a0 : Int) (a1 : ByteArray) (a2 : Int) (a3 : Int) (a4 : Int) (a5 : Int) (l : Int) (w : World) (ha1 : a1.size ≤ 9223372036854775807) (h0 : 0 ≤ l) (h1 : l ≤ 1048576) :
    Calls Try.prog 24 #[.agg #[.int .i64 a0, .string a1, .int .i64 a2, .int .i64 a3, .int .i64 a4, .int .i64 a5], .int .i64 l] w (SzPost 0 l w) := by
  go_enter Try.func24, Try.ntmps24
  go_wp2
  all_goals (go_ret; exact ⟨_, rfl, by omega, by omega, fun _ => by omega, (Below.refl _ _).alloc (Nat.le_refl _) _⟩)
theorem szMotionS_c (A : Option Addr) (c : Nat) (L : List MotionD) (l : Int) (w : World) (hr : Rd w w.heap.size A (L.length * 6) (L.flatMap motionC)) (hn : L.length ≤ 9223372036854775807) (hW : ∀ x ∈ L, MotionW x) (h0 : 0 ≤ l) (h1 : l ≤ 1048576) :
    Calls Try.prog 11 #[.slice A L.length c, .int .i64 l] w (SzPost L.length l w) := by
  by_cases h : l < L.length
  · have h' : l - (L.length : Int) < 0 := by omega
    go_enter Try.func11, Try.ntmps11
    go_wp2
    go_ret
    exact ⟨-1, rfl, by omega, by omega, fun h => by omega, Below.refl _ _⟩
  · have h' : ¬ l - (L.length : Int) < 0 := by omega
    have HW := Lib.hid hW; clear hW
    go_enter Try.func11, Try.ntmps11
    go_wp2
    go_loopw [1, 5] (fun v i wr => ∃ (k : Nat) (r : Int), k ≤ L.length ∧ i = .int .i64 k ∧ v = .int .i64 r ∧ 0 ≤ r ∧ r ≤ l - L.length ∧ Below w.heap.size w wr) (fun _ i _ => L.length - (intOf i).toNat)
    case atStart => exact ⟨0, _, by omega, rfl, rfl, by omega, by omega, Below.refl _ _⟩
    case round =>
      obtain ⟨k, r, hk, rfl, rfl, hr1, hr2, hB⟩ := hrel
      by_cases hlt : k < L.length
      · obtain ⟨b, off, rfl, hb, hc⟩ := Rd.elem motionC 6 (fun _ => rfl) (hr.below hB) (by omega) hlt
        have hf0 : wr.cell? ⟨b, off + k * 6, none⟩ = some (.int .i64 L[k].number) := hc k hlt 0 _ rfl
        have hf1 : wr.cell? ⟨b, off + k * 6 + 1, none⟩ = some (.string L[k].party) := hc k hlt 1 _ rfl
        have hf2 : wr.cell? ⟨b, off + k * 6 + 2, none⟩ = some (.int .i64 L[k].filed) := hc k hlt 2 _ rfl
        have hf3 : wr.cell? ⟨b, off + k * 6 + 3, none⟩ = some (.int .i64 L[k].changed) := hc k hlt 3 _ rfl
        have hf4 : wr.cell? ⟨b, off + k * 6 + 4, none⟩ = some (.int .i64 L[k].state) := hc k hlt 4 _ rfl
        have hf5 : wr.cell? ⟨b, off + k * 6 + 5, none⟩ = some (.int .i64 L[k].after) := hc k hlt 5 _ rfl
        obtain ⟨w0, w1, w2, w3, w4, w5⟩ := HW.out _ (List.getElem_mem hlt)
        clear hc
        generalize L[k].number = a0 at *
        generalize L[k].party = a1 at *
        generalize L[k].filed = a2 at *
        generalize L[k].changed = a3 at *
        generalize L[k].state = a4 at *
        generalize L[k].after = a5 at *
        clear w0 w2 w3 w4 w5
        unfold maxLen at w1
        go_wp2_with fail
        refine (szMotion_c a0 a1 a2 a3 a4 a5 _ _ (by omega) (by omega) (by omega)).mono ?_
        rintro e w2 ⟨r2, rfl, q1, q2, q3, hb2⟩
        have hB2 := bt hB hb2
        by_cases hneg : r2 < 0
        · go_wp2
          go_ret
          exact ⟨-1, rfl, by omega, by omega, fun h => by omega, hB2⟩
        · go_wp2
          go_roundw
          case rel => exact ⟨k + 1, r2, by omega, by go_num, rfl, by omega, by omega, hB2⟩
          case measure => simp [intOf]; omega
      · go_wp2
        go_ret
        exact ⟨r, rfl, by omega, by omega, fun h => by omega, hB⟩

end Go.Proofs.Yteecdkaajcijpaa
