/- Contracts of the helpers of the laws for Call: to, eq, sz, mark, held. Written by gen_mech.py. -/
import Derived.Test.YteecdkaajcijpaaNum
namespace Go.Proofs.Yteecdkaajcijpaa
open Go.RowKit
structure CallD where
  number : Int
  first : Int
  day : Int
  moves : Int
instance : Inhabited CallD := ⟨⟨0, 0, 0, 0⟩⟩
def callC (x : CallD) : List Value := [.int .i64 x.number, .int .i64 x.first, .int .i64 x.day, .int .i64 x.moves]
def CallW (x : CallD) : Prop := (Lit.int .i64 x.number).wf = true ∧ (Lit.int .i64 x.first).wf = true ∧ (Lit.int .i64 x.day).wf = true ∧ (Lit.int .i64 x.moves).wf = true
theorem call_info : (Try.prog.info? 53).map (fun i => (i.zero, i.size, i.bytes)) = some (some (.agg #[.int .i64 0, .int .i64 0, .int .i64 0, .int .i64 0]), 4, 32) := by kernel_rfl

theorem toCall_c (a0 : Int) (a1 : Int) (a2 : Int) (a3 : Int) (w : World) : Calls Try.prog 29 #[.agg #[.int .i64 a0, .int .i64 a1, .int .i64 a2, .int .i64 a3]] w fun e w' => e = .returned (.agg #[.int .i64 a0, .int .i64 a1, .int .i64 a2, .int .i64 a3]) ∧ Below w.heap.size w w' := by
  go_enter Try.func29, Try.ntmps29
  go_wp2
  exact bodyPost_ret (v := .agg #[.int .i64 a0, .int .i64 a1, .int .i64 a2, .int .i64 a3]) (by simp [results, Try.results29, go_sem]) rfl ⟨rfl, by repeat (first | exact Below.refl _ _ | refine Below.alloc ?_ (by (try simp) <;> (try omega)) _)⟩

set_option maxHeartbeats 1000000 in
theorem toCallS_c (A : Option Addr) (c : Nat) (L : List CallD) (w : World) (hr : Rd w w.heap.size A (L.length * 4) (L.flatMap callC)) (hl : L.length * 32 ≤ 140737488355328) :
    Calls Try.prog 16 #[.slice A L.length c] w fun e w' => ∃ g, e = .returned (.slice (some ⟨g, 0, none⟩) L.length L.length) ∧
      w'.ownsRow w.heap.size 53 4 (.slice (some ⟨g, 0, none⟩) L.length L.length) L.length (L.flatMap callC) ∧ Below w.heap.size w w' := by
  obtain ⟨i0, hi, hz0, hz1, hz2⟩ := info_parts call_info
  go_enter Try.func16, Try.ntmps16
  go_wp2_with (first | (at_make; refine wpList_make_full _ rfl _ _ 29 rfl w.heap.size 53 i0 _ 4 Try.underlying29 hi hz0 hz1 _ _ _ _ L.length rfl rfl rfl rfl (by rw [hz2]; omega) (by unfold maxLen; omega) (Nat.le_refl _) ?_; intro w1 hown hgrow))
  have hb1 : Below w.heap.size w w1 := (Below.refl _ _).grown hgrow (Nat.le_refl _) (fun k hk => by cases hk)
  clear hgrow hi hz0 hz1 hz2
  go_loopw [4] (fun i wr => ∃ k : Nat, k ≤ L.length ∧ i = .int .i64 k ∧ Below w.heap.size w wr ∧ Hid (∃ ys, wr.ownsRow w.heap.size 53 4 (.slice (some ⟨w.heap.size, 0, none⟩) L.length L.length) L.length ys ∧ ys.take (k * 4) = (L.take k).flatMap callC))
    (fun i _ => L.length - (intOf i).toNat)
  case atStart => exact ⟨0, by omega, rfl, hb1, _, hown, by simp⟩
  case round =>
    obtain ⟨k, hk, rfl, hB, HO⟩ := hrel
    clear hown hb1
    by_cases hlt : k < L.length
    · obtain ⟨b, off, rfl, hb, hc⟩ := Rd.elem callC 4 (fun _ => rfl) hr (by omega) hlt
      have hf0 : wr.cell? ⟨b, off + k * 4, none⟩ = some (.int .i64 L[k].number) := by rw [hB.cell (by exact hb)]; exact hc k hlt 0 _ rfl
      have hf1 : wr.cell? ⟨b, off + k * 4 + 1, none⟩ = some (.int .i64 L[k].first) := by rw [hB.cell (by exact hb)]; exact hc k hlt 1 _ rfl
      have hf2 : wr.cell? ⟨b, off + k * 4 + 2, none⟩ = some (.int .i64 L[k].day) := by rw [hB.cell (by exact hb)]; exact hc k hlt 2 _ rfl
      have hf3 : wr.cell? ⟨b, off + k * 4 + 3, none⟩ = some (.int .i64 L[k].moves) := by rw [hB.cell (by exact hb)]; exact hc k hlt 3 _ rfl
      clear hc
      generalize ha0 : L[k].number = a0 at *
      generalize ha1 : L[k].first = a1 at *
      generalize ha2 : L[k].day = a2 at *
      generalize ha3 : L[k].moves = a3 at *
      have Ha0 := Lib.hid ha0; have Ha1 := Lib.hid ha1; have Ha2 := Lib.hid ha2; have Ha3 := Lib.hid ha3; clear ha0 ha1 ha2 ha3
      go_wp2_with fail
      refine (toCall_c a0 a1 a2 a3 _).mono ?_
      rintro e w2 ⟨rfl, hb2⟩
      obtain ⟨ys, hown, hys⟩ := HO.out
      have ho2 := own_below hown hb2
      obtain ⟨u0, hu0⟩ := own_cell ho2 (j := k * 4) (by omega)
      have hz0 := ho2.frozenAt (k * 4)
      obtain ⟨u1, hu1⟩ := own_cell ho2 (j := k * 4 + 1) (by omega)
      have hz1 := ho2.frozenAt (k * 4 + 1)
      obtain ⟨u2, hu2⟩ := own_cell ho2 (j := k * 4 + 2) (by omega)
      have hz2 := ho2.frozenAt (k * 4 + 2)
      obtain ⟨u3, hu3⟩ := own_cell ho2 (j := k * 4 + 3) (by omega)
      have hz3 := ho2.frozenAt (k * 4 + 3)
      have HY := Lib.hid hys
      clear hown hys
      go_wp2
      go_roundw
      case rel =>
        refine ⟨k + 1, by omega, by go_num, ?_, ?_⟩
        · exact (((((hB.trans (hb2.mono hB.size)).setCell (Nat.le_refl _) _).setCell (Nat.le_refl _) _).setCell (Nat.le_refl _) _).setCell (Nat.le_refl _) _)
        · refine ⟨_, ((((ho2.stored (k * 4) (.int .i64 a0)).1.stored (k * 4 + 1) (.int .i64 a1)).1.stored (k * 4 + 2) (.int .i64 a2)).1.stored (k * 4 + 3) (.int .i64 a3)).1, ?_⟩
          obtain rfl := Ha0.out; obtain rfl := Ha1.out; obtain rfl := Ha2.out; obtain rfl := Ha3.out
          exact fill_step callC 4 (fun _ => rfl) hlt ho2.1 HY.out
      case measure => simp [intOf]; omega
    · obtain rfl : k = L.length := by omega
      go_wp2
      go_ret
      obtain ⟨ys, hown, hys⟩ := HO.out
      obtain rfl := fill_end callC 4 hown.1 hys
      exact ⟨_, rfl, hown, hB⟩

theorem eqCall_c (a0 : Int) (a1 : Int) (a2 : Int) (a3 : Int) (w : World) : Calls Try.prog 36 #[.agg #[.int .i64 a0, .int .i64 a1, .int .i64 a2, .int .i64 a3], .agg #[.int .i64 a0, .int .i64 a1, .int .i64 a2, .int .i64 a3]] w fun e w' => e = .returned (.bool true) ∧ Below w.heap.size w w' := by
  go_enter Try.func36, Try.ntmps36
  go_wp2
  go_ret
  exact ⟨rfl, by repeat (first | exact Below.refl _ _ | refine Below.alloc ?_ (by (try simp) <;> (try omega)) _)⟩

set_option maxHeartbeats 1000000 in
theorem eqCallS_c (A A' : Option Addr) (c c' : Nat) (L : List CallD) (w : World) (hr : Rd w w.heap.size A (L.length * 4) (L.flatMap callC)) (hr' : Rd w w.heap.size A' (L.length * 4) (L.flatMap callC)) (hl : L.length ≤ 140737488355328) :
    Calls Try.prog 22 #[.slice A L.length c, .slice A' L.length c'] w fun e w' => e = .returned (.bool true) ∧ Below w.heap.size w w' := by
  go_enter Try.func22, Try.ntmps22
  go_wp2
  go_loopw [5] (fun i wr => ∃ k : Nat, k ≤ L.length ∧ i = .int .i64 k ∧ Below w.heap.size w wr) (fun i _ => L.length - (intOf i).toNat)
  case atStart => exact ⟨0, by omega, rfl, Below.refl _ _⟩
  case round =>
    obtain ⟨k, hk, rfl, hB⟩ := hrel
    by_cases hlt : k < L.length
    · obtain ⟨b, off, rfl, hb, hc⟩ := Rd.elem callC 4 (fun _ => rfl) hr (by omega) hlt
      obtain ⟨b', off', rfl, hb', hc'⟩ := Rd.elem callC 4 (fun _ => rfl) hr' (by omega) hlt
      have hf0 : wr.cell? ⟨b, off + k * 4, none⟩ = some (.int .i64 L[k].number) := by rw [hB.cell (by exact hb)]; exact hc k hlt 0 _ rfl
      have hg0 : wr.cell? ⟨b', off' + k * 4, none⟩ = some (.int .i64 L[k].number) := by rw [hB.cell (by exact hb')]; exact hc' k hlt 0 _ rfl
      have hf1 : wr.cell? ⟨b, off + k * 4 + 1, none⟩ = some (.int .i64 L[k].first) := by rw [hB.cell (by exact hb)]; exact hc k hlt 1 _ rfl
      have hg1 : wr.cell? ⟨b', off' + k * 4 + 1, none⟩ = some (.int .i64 L[k].first) := by rw [hB.cell (by exact hb')]; exact hc' k hlt 1 _ rfl
      have hf2 : wr.cell? ⟨b, off + k * 4 + 2, none⟩ = some (.int .i64 L[k].day) := by rw [hB.cell (by exact hb)]; exact hc k hlt 2 _ rfl
      have hg2 : wr.cell? ⟨b', off' + k * 4 + 2, none⟩ = some (.int .i64 L[k].day) := by rw [hB.cell (by exact hb')]; exact hc' k hlt 2 _ rfl
      have hf3 : wr.cell? ⟨b, off + k * 4 + 3, none⟩ = some (.int .i64 L[k].moves) := by rw [hB.cell (by exact hb)]; exact hc k hlt 3 _ rfl
      have hg3 : wr.cell? ⟨b', off' + k * 4 + 3, none⟩ = some (.int .i64 L[k].moves) := by rw [hB.cell (by exact hb')]; exact hc' k hlt 3 _ rfl
      clear hc hc'
      generalize L[k].number = a0 at *
      generalize L[k].first = a1 at *
      generalize L[k].day = a2 at *
      generalize L[k].moves = a3 at *
      have hk0 : (0 : Int) ≤ (k : Int) := by omega
      have hk1 : (k : Int) < (L.length : Int) := by omega
      have kf0 := cell_regrown hf0; have kg0 := cell_regrown hg0
      have kf1 := cell_regrown hf1; have kg1 := cell_regrown hg1
      have kf2 := cell_regrown hf2; have kg2 := cell_regrown hg2
      have kf3 := cell_regrown hf3; have kg3 := cell_regrown hg3
      go_wp2_with fail
      refine wp_region_bel mixed (by kernel_rfl) ?_
      repeat (go_big_quiet_step (exact rg_below (eqCall_c _ _ _ _ _)))
      refine wpQuiet_nil ?_
      intro w1 hw1
      clear hf0 hg0 kf0 kg0 hf1 hg1 kf1 kg1 hf2 hg2 kf2 kg2 hf3 hg3 kf3 kg3
      go_wp2
      go_roundw
      case rel => exact ⟨k + 1, by omega, by go_num, bt hB hw1⟩
      case measure => simp [intOf]; omega
    · obtain rfl : k = L.length := by omega
      go_wp2
      go_ret
      exact ⟨rfl, hB⟩

theorem szCallS_c (A : Option Addr) (n c : Nat) (l : Int) (w : World) (hn : n ≤ 9223372036854775807) (h0 : 0 ≤ l) (h1 : l ≤ 1048576) :
    Calls Try.prog 10 #[.slice A n c, .int .i64 l] w (SzPost n l w) := by
  by_cases h : l < n
  · have h' : l - (n : Int) < 0 := by omega
    go_enter Try.func10, Try.ntmps10
    go_wp2
    go_ret
    exact ⟨-1, rfl, by omega, by omega, fun h => by omega, Below.refl _ _⟩
  · have h' : ¬ l - (n : Int) < 0 := by omega
    go_enter Try.func10, Try.ntmps10
    go_wp2
    go_ret
    exact ⟨_, rfl, by omega, by omega, fun h => by omega, Below.refl _ _⟩

end Go.Proofs.Yteecdkaajcijpaa
