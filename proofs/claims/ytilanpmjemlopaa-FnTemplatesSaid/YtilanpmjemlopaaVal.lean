/- Contracts of the helpers of the laws for Value: to, eq, sz, mark, held. Written by gen_mech.py. -/
import Derived.Test.YtilanpmjemlopaaNum
import Derived.Test.YtilanpmjemlopaaMarkText
namespace Go.Proofs.Ytilanpmjemlopaa
open Go.RowKit
structure ValueD where
  name : ByteArray
  text : ByteArray
instance : Inhabited ValueD := ⟨⟨ByteArray.empty, ByteArray.empty⟩⟩
def valueC (x : ValueD) : List Value := [.string x.name, .string x.text]
def ValueW (x : ValueD) : Prop := x.name.size ≤ maxLen ∧ x.text.size ≤ maxLen
theorem value_info : (Try.prog.info? 50).map (fun i => (i.zero, i.size, i.bytes)) = some (some (.agg #[.string ByteArray.empty, .string ByteArray.empty]), 2, 32) := by kernel_rfl

theorem toValue_c (a0 : ByteArray) (a1 : ByteArray) (w : World) : Calls Try.prog 29 #[.agg #[.string a0, .string a1]] w fun e w' => e = .returned (.agg #[.string a0, .string a1]) ∧ Below w.heap.size w w' := by
  go_enter Try.func29, Try.ntmps29
  go_wp2
  exact bodyPost_ret (v := .agg #[.string a0, .string a1]) (by simp [results, Try.results29, go_sem]) rfl ⟨rfl, by repeat (first | exact Below.refl _ _ | refine Below.alloc ?_ (by (try simp) <;> (try omega)) _)⟩

set_option maxHeartbeats 1000000 in
theorem toValueS_c (A : Option Addr) (c : Nat) (L : List ValueD) (w : World) (hr : Rd w w.heap.size A (L.length * 2) (L.flatMap valueC)) (hl : L.length * 32 ≤ 140737488355328) :
    Calls Try.prog 7 #[.slice A L.length c] w fun e w' => ∃ g, e = .returned (.slice (some ⟨g, 0, none⟩) L.length L.length) ∧
      w'.ownsRow w.heap.size 50 2 (.slice (some ⟨g, 0, none⟩) L.length L.length) L.length (L.flatMap valueC) ∧ Below w.heap.size w w' := by
  obtain ⟨i0, hi, hz0, hz1, hz2⟩ := info_parts value_info
  go_enter Try.func7, Try.ntmps7
  go_wp2_with (first | (at_make; refine wpList_make_full _ rfl _ _ 27 rfl w.heap.size 50 i0 _ 2 Try.underlying27 hi hz0 hz1 _ _ _ _ L.length rfl rfl rfl rfl (by rw [hz2]; omega) (by unfold maxLen; omega) (Nat.le_refl _) ?_; intro w1 hown hgrow))
  have hb1 : Below w.heap.size w w1 := (Below.refl _ _).grown hgrow (Nat.le_refl _) (fun k hk => by cases hk)
  clear hgrow hi hz0 hz1 hz2
  go_loopw [4] (fun i wr => ∃ k : Nat, k ≤ L.length ∧ i = .int .i64 k ∧ Below w.heap.size w wr ∧ Hid (∃ ys, wr.ownsRow w.heap.size 50 2 (.slice (some ⟨w.heap.size, 0, none⟩) L.length L.length) L.length ys ∧ ys.take (k * 2) = (L.take k).flatMap valueC))
    (fun i _ => L.length - (intOf i).toNat)
  case atStart => exact ⟨0, by omega, rfl, hb1, _, hown, by simp⟩
  case round =>
    obtain ⟨k, hk, rfl, hB, HO⟩ := hrel
    clear hown hb1
    by_cases hlt : k < L.length
    · obtain ⟨b, off, rfl, hb, hc⟩ := Rd.elem valueC 2 (fun _ => rfl) hr (by omega) hlt
      have hf0 : wr.cell? ⟨b, off + k * 2, none⟩ = some (.string L[k].name) := by rw [hB.cell (by exact hb)]; exact hc k hlt 0 _ rfl
      have hf1 : wr.cell? ⟨b, off + k * 2 + 1, none⟩ = some (.string L[k].text) := by rw [hB.cell (by exact hb)]; exact hc k hlt 1 _ rfl
      clear hc
      generalize ha0 : L[k].name = a0 at *
      generalize ha1 : L[k].text = a1 at *
      have Ha0 := Lib.hid ha0; have Ha1 := Lib.hid ha1; clear ha0 ha1
      go_wp2_with fail
      refine (toValue_c a0 a1 _).mono ?_
      rintro e w2 ⟨rfl, hb2⟩
      obtain ⟨ys, hown, hys⟩ := HO.out
      have ho2 := own_below hown hb2
      obtain ⟨u0, hu0⟩ := own_cell ho2 (j := k * 2) (by omega)
      have hz0 := ho2.frozenAt (k * 2)
      obtain ⟨u1, hu1⟩ := own_cell ho2 (j := k * 2 + 1) (by omega)
      have hz1 := ho2.frozenAt (k * 2 + 1)
      have HY := Lib.hid hys
      clear hown hys
      go_wp2
      go_roundw
      case rel =>
        refine ⟨k + 1, by omega, by go_num, ?_, ?_⟩
        · exact (((hB.trans (hb2.mono hB.size)).setCell (Nat.le_refl _) _).setCell (Nat.le_refl _) _)
        · refine ⟨_, ((ho2.stored (k * 2) (.string a0)).1.stored (k * 2 + 1) (.string a1)).1, ?_⟩
          obtain rfl := Ha0.out; obtain rfl := Ha1.out
          exact fill_step valueC 2 (fun _ => rfl) hlt ho2.1 HY.out
      case measure => simp [intOf]; omega
    · obtain rfl : k = L.length := by omega
      go_wp2
      go_ret
      obtain ⟨ys, hown, hys⟩ := HO.out
      obtain rfl := fill_end valueC 2 hown.1 hys
      exact ⟨_, rfl, hown, hB⟩

theorem eqValue_c (a0 : ByteArray) (a1 : ByteArray) (w : World) : Calls Try.prog 33 #[.agg #[.string a0, .string a1], .agg #[.string a0, .string a1]] w fun e w' => e = .returned (.bool true) ∧ Below w.heap.size w w' := by
  go_enter Try.func33, Try.ntmps33
  go_wp2
  go_ret
  exact ⟨rfl, by repeat (first | exact Below.refl _ _ | refine Below.alloc ?_ (by (try simp) <;> (try omega)) _)⟩

set_option maxHeartbeats 1000000 in
theorem eqValueS_c (A A' : Option Addr) (c c' : Nat) (L : List ValueD) (w : World) (hr : Rd w w.heap.size A (L.length * 2) (L.flatMap valueC)) (hr' : Rd w w.heap.size A' (L.length * 2) (L.flatMap valueC)) (hl : L.length ≤ 140737488355328) :
    Calls Try.prog 10 #[.slice A L.length c, .slice A' L.length c'] w fun e w' => e = .returned (.bool true) ∧ Below w.heap.size w w' := by
  go_enter Try.func10, Try.ntmps10
  go_wp2
  go_loopw [5] (fun i wr => ∃ k : Nat, k ≤ L.length ∧ i = .int .i64 k ∧ Below w.heap.size w wr) (fun i _ => L.length - (intOf i).toNat)
  case atStart => exact ⟨0, by omega, rfl, Below.refl _ _⟩
  case round =>
    obtain ⟨k, hk, rfl, hB⟩ := hrel
    by_cases hlt : k < L.length
    · obtain ⟨b, off, rfl, hb, hc⟩ := Rd.elem valueC 2 (fun _ => rfl) hr (by omega) hlt
      obtain ⟨b', off', rfl, hb', hc'⟩ := Rd.elem valueC 2 (fun _ => rfl) hr' (by omega) hlt
      have hf0 : wr.cell? ⟨b, off + k * 2, none⟩ = some (.string L[k].name) := by rw [hB.cell (by exact hb)]; exact hc k hlt 0 _ rfl
      have hg0 : wr.cell? ⟨b', off' + k * 2, none⟩ = some (.string L[k].name) := by rw [hB.cell (by exact hb')]; exact hc' k hlt 0 _ rfl
      have hf1 : wr.cell? ⟨b, off + k * 2 + 1, none⟩ = some (.string L[k].text) := by rw [hB.cell (by exact hb)]; exact hc k hlt 1 _ rfl
      have hg1 : wr.cell? ⟨b', off' + k * 2 + 1, none⟩ = some (.string L[k].text) := by rw [hB.cell (by exact hb')]; exact hc' k hlt 1 _ rfl
      clear hc hc'
      generalize L[k].name = a0 at *
      generalize L[k].text = a1 at *
      have hk0 : (0 : Int) ≤ (k : Int) := by omega
      have hk1 : (k : Int) < (L.length : Int) := by omega
      have kf0 := cell_regrown hf0; have kg0 := cell_regrown hg0
      have kf1 := cell_regrown hf1; have kg1 := cell_regrown hg1
      go_wp2_with fail
      refine wp_region_bel mixed (by kernel_rfl) ?_
      repeat (go_big_quiet_step (exact rg_below (eqValue_c _ _ _)))
      refine wpQuiet_nil ?_
      intro w1 hw1
      clear hf0 hg0 kf0 kg0 hf1 hg1 kf1 kg1
      go_wp2
      go_roundw
      case rel => exact ⟨k + 1, by omega, by go_num, bt hB hw1⟩
      case measure => simp [intOf]; omega
    · obtain rfl : k = L.length := by omega
      go_wp2
      go_ret
      exact ⟨rfl, hB⟩

theorem szValue_c (a0 : ByteArray) (a1 : ByteArray) (l : Int) (w : World) (ha0 : a0.size ≤ 9223372036854775807) (ha1 : a1.size ≤ 9223372036854775807) (h0 : 0 ≤ l) (h1 : l ≤ 1048576) :
    Calls Try.prog 26 #[.agg #[.string a0, .string a1], .int .i64 l] w (SzPost 0 l w) := by
  go_enter Try.func26, Try.ntmps26
  go_wp2
  all_goals (go_ret; exact ⟨_, rfl, by omega, by omega, fun _ => by omega, (Below.refl _ _).alloc (Nat.le_refl _) _⟩)
theorem szValueS_c (A : Option Addr) (c : Nat) (L : List ValueD) (l : Int) (w : World) (hr : Rd w w.heap.size A (L.length * 2) (L.flatMap valueC)) (hn : L.length ≤ 9223372036854775807) (hW : ∀ x ∈ L, ValueW x) (h0 : 0 ≤ l) (h1 : l ≤ 1048576) :
    Calls Try.prog 5 #[.slice A L.length c, .int .i64 l] w (SzPost L.length l w) := by
  by_cases h : l < L.length
  · have h' : l - (L.length : Int) < 0 := by omega
    go_enter Try.func5, Try.ntmps5
    go_wp2
    go_ret
    exact ⟨-1, rfl, by omega, by omega, fun h => by omega, Below.refl _ _⟩
  · have h' : ¬ l - (L.length : Int) < 0 := by omega
    have HW := Lib.hid hW; clear hW
    go_enter Try.func5, Try.ntmps5
    go_wp2
    go_loopw [1, 5] (fun v i wr => ∃ (k : Nat) (r : Int), k ≤ L.length ∧ i = .int .i64 k ∧ v = .int .i64 r ∧ 0 ≤ r ∧ r ≤ l - L.length ∧ Below w.heap.size w wr) (fun _ i _ => L.length - (intOf i).toNat)
    case atStart => exact ⟨0, _, by omega, rfl, rfl, by omega, by omega, Below.refl _ _⟩
    case round =>
      obtain ⟨k, r, hk, rfl, rfl, hr1, hr2, hB⟩ := hrel
      by_cases hlt : k < L.length
      · obtain ⟨b, off, rfl, hb, hc⟩ := Rd.elem valueC 2 (fun _ => rfl) (hr.below hB) (by omega) hlt
        have hf0 : wr.cell? ⟨b, off + k * 2, none⟩ = some (.string L[k].name) := hc k hlt 0 _ rfl
        have hf1 : wr.cell? ⟨b, off + k * 2 + 1, none⟩ = some (.string L[k].text) := hc k hlt 1 _ rfl
        obtain ⟨w0, w1⟩ := HW.out _ (List.getElem_mem hlt)
        clear hc
        generalize L[k].name = a0 at *
        generalize L[k].text = a1 at *
        unfold maxLen at w0 w1
        go_wp2_with fail
        refine (szValue_c a0 a1 _ _ (by omega) (by omega) (by omega) (by omega)).mono ?_
        rintro e w2 ⟨r2, rfl, q1, q2, q3, hb2⟩
        have hB2 := bt hB hb2
        by_cases hneg : r2 < 0
        · go_wp2
          go_ret
          exact ⟨-1, rfl, by omega, by omega, fun h => by omega, hB2⟩
        · go_wp2
          go_roundw
          case rel => exact ⟨k + 1, r2, by omega, by go_num, rfl, by omega, by omega, hB2⟩
          case measure => simp [intOf]; omega
      · go_wp2
        go_ret
        exact ⟨r, rfl, by omega, by omega, fun h => by omega, hB⟩

def valueMarks (q : Int) (n : Nat) : List ValueD := (List.range n).map fun (i : Nat) => ⟨markT (q + (i : Int) * 2), markT (q + (i : Int) * 2 + 1)⟩
theorem valueMarks_len (q : Int) (n : Nat) : (valueMarks q n).length = n := by simp [valueMarks]
theorem valueMarks_0 {q : Int} {n i : Nat} (h : i < (valueMarks q n).length) : (valueMarks q n)[i].name = markT (q + (i : Int) * 2) := by simp [valueMarks]
theorem valueMarks_1 {q : Int} {n i : Nat} (h : i < (valueMarks q n).length) : (valueMarks q n)[i].text = markT (q + (i : Int) * 2 + 1) := by simp [valueMarks]
set_option maxHeartbeats 1000000 in
theorem markValueS_c (A : Option Addr) (n c base : Nat) (xs : List Value) (q : Int) (w : World) (hown : w.ownsRow base 50 2 (.slice A n c) n xs) (hn : n ≤ 140737488355328) (h0 : 0 ≤ q) (h1 : q ≤ 16777216) :
    Calls Try.prog 11 #[.slice A n c, .int .i64 q] w fun e w' => e = .returned (.int .i64 (q + n * 2)) ∧
      w'.ownsRow base 50 2 (.slice A n c) n ((valueMarks q n).flatMap valueC) ∧ w.grownBy w' (Value.slice A n c).ownBlock := by
  go_enter Try.func11, Try.ntmps11
  go_wp2
  go_loopw [1, 5] (fun v i wr => ∃ k : Nat, k ≤ n ∧ i = .int .i64 k ∧ v = .int .i64 (q + k * 2) ∧ Hid (w.grownBy wr (Value.slice A n c).ownBlock) ∧ Hid (∃ ys, wr.ownsRow base 50 2 (.slice A n c) n ys ∧ ys.take (k * 2) = ((valueMarks q n).take k).flatMap valueC))
    (fun _ i _ => n - (intOf i).toNat)
  case atStart => exact ⟨0, by omega, rfl, by go_num, World.grownBy.refl _ _, xs, hown, by simp⟩
  case round =>
    obtain ⟨k, hk, rfl, rfl, HG, HO⟩ := hrel
    clear hown
    by_cases hlt : k < n
    · obtain ⟨ys, hown, hys⟩ := HO.out
      obtain ⟨g, rfl, hg1, hg2⟩ := own_head hown (by omega)
      obtain ⟨u0, hu0⟩ := own_cell hown (j := k * 2) (by omega)
      have hz0 := hown.frozenAt (k * 2)
      obtain ⟨u1, hu1⟩ := own_cell hown (j := k * 2 + 1) (by omega)
      have hz1 := hown.frozenAt (k * 2 + 1)
      have HY := Lib.hid hys; have HN := Lib.hid hown; have HL := Lib.hid hown.1
      have HOw := hown
      clear hys hown HO
      clear hu0 hz0 hu1 hz1 HN
      have HG0 := HG; clear HG
      have hown := HOw; clear HOw
      go_wp2_with fail
      refine (markText_c _ _ (by omega) (by omega)).mono ?_
      rintro e w10 ⟨rfl, hb10⟩
      have hown10 := own_below hown hb10
      have HG10 := Lib.hid (grown_trans' HG0.out (grown_of_below hb10 _))
      clear hb10
      obtain ⟨u0, hu0⟩ := own_cell hown10 (j := k * 2) (by omega)
      have hz0 := hown10.frozenAt (k * 2)
      obtain ⟨u1, hu1⟩ := own_cell hown10 (j := k * 2 + 1) (by omega)
      have hz1 := hown10.frozenAt (k * 2 + 1)
      have HO1 := Lib.hid hown10; clear hown10
      go_wp2_with fail
      clear hu0 hz0 hu1 hz1
      refine (markText_c _ _ (by omega) (by omega)).mono ?_
      rintro e w12 ⟨rfl, hb12⟩
      have hown12 := own_below (HO1.out.stored (k * 2) (.string (markT (q + (k : Int) * 2)))).1 hb12
      have HG12 := Lib.hid (grown_trans' (grown_set HG10.out) (grown_of_below hb12 _))
      clear hb12
      obtain ⟨u0, hu0⟩ := own_cell hown12 (j := k * 2) (by omega)
      have hz0 := hown12.frozenAt (k * 2)
      obtain ⟨u1, hu1⟩ := own_cell hown12 (j := k * 2 + 1) (by omega)
      have hz1 := hown12.frozenAt (k * 2 + 1)
      have HOz := Lib.hid hown12; clear hown12
      go_wp2
      go_roundw
      case rel =>
        refine ⟨k + 1, by omega, by go_num, by go_num, ?_, ?_⟩
        · exact (grown_set HG12.out)
        · refine ⟨_, (HOz.out.stored (k * 2 + 1) _).1, ?_⟩
          have hl : (valueMarks q n).length = n := valueMarks_len q n
          have hk2 : k < (valueMarks q n).length := by rw [hl]; exact hlt
          have := fill_step valueC 2 (fun _ => rfl) hk2 (by rw [hl]; exact HL.out) HY.out
          rw [valueC, valueMarks_0, valueMarks_1] at this
          exact this
      case measure => simp [intOf]; omega
    · obtain rfl : k = n := by omega
      go_wp2
      go_ret
      obtain ⟨ys, hown, hys⟩ := HO.out
      have hl : (valueMarks q k).length = k := valueMarks_len q k
      have : ys = (valueMarks q k).flatMap valueC := by
        have h1 := hown.1
        rw [List.take_of_length_le (by omega), List.take_of_length_le (by omega)] at hys
        exact hys
      subst this
      exact ⟨rfl, hown, HG.out⟩

end Go.Proofs.Ytilanpmjemlopaa
