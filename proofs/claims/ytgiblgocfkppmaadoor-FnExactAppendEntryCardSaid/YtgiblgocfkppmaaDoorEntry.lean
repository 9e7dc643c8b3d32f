/- Contracts of the helpers of the laws for Entry: to, eq, sz, mark, held. Written by gen_mech.py. -/
import Derived.Test.YtgiblgocfkppmaaDoorNum
import Derived.Test.YtgiblgocfkppmaaDoorMarkText
namespace Go.Proofs.YtgiblgocfkppmaaDoor
open Go.RowKit
structure EntryD where
  kind : Int
  text : ByteArray
instance : Inhabited EntryD := ⟨⟨0, ByteArray.empty⟩⟩
def entryC (x : EntryD) : List Value := [.int .u8 x.kind, .string x.text]
def EntryW (x : EntryD) : Prop := (Lit.int .u8 x.kind).wf = true ∧ x.text.size ≤ maxLen
theorem entry_info : (Tryd.prog.info? 44).map (fun i => (i.zero, i.size, i.bytes)) = some (some (.agg #[.int .u8 0, .string ByteArray.empty]), 2, 24) := by kernel_rfl

theorem toEntry_c (a0 : Int) (a1 : ByteArray) (w : World) : Calls Tryd.prog 31 #[.agg #[.int .u8 a0, .string a1]] w fun e w' => e = .returned (.agg #[.int .u8 a0, .string a1]) ∧ Below w.heap.size w w' := by
  go_enter Tryd.func31, Tryd.ntmps31
  go_wp2
  exact bodyPost_ret (v := .agg #[.int .u8 a0, .string a1]) (by simp [results, Tryd.results31, go_sem]) rfl ⟨rfl, by repeat (first | exact Below.refl _ _ | refine Below.alloc ?_ (by (try simp) <;> (try omega)) _)⟩

set_option maxHeartbeats 1000000 in
theorem toEntryS_c (A : Option Addr) (c : Nat) (L : List EntryD) (w : World) (hr : Rd w w.heap.size A (L.length * 2) (L.flatMap entryC)) (hl : L.length * 24 ≤ 140737488355328) :
    Calls Tryd.prog 14 #[.slice A L.length c] w fun e w' => ∃ g, e = .returned (.slice (some ⟨g, 0, none⟩) L.length L.length) ∧
      w'.ownsRow w.heap.size 44 2 (.slice (some ⟨g, 0, none⟩) L.length L.length) L.length (L.flatMap entryC) ∧ Below w.heap.size w w' := by
  obtain ⟨i0, hi, hz0, hz1, hz2⟩ := info_parts entry_info
  go_enter Tryd.func14, Tryd.ntmps14
  go_wp2_with (first | (at_make; refine wpList_make_full _ rfl _ _ 26 rfl w.heap.size 44 i0 _ 2 Tryd.underlying26 hi hz0 hz1 _ _ _ _ L.length rfl rfl rfl rfl (by rw [hz2]; omega) (by unfold maxLen; omega) (Nat.le_refl _) ?_; intro w1 hown hgrow))
  have hb1 : Below w.heap.size w w1 := (Below.refl _ _).grown hgrow (Nat.le_refl _) (fun k hk => by cases hk)
  clear hgrow hi hz0 hz1 hz2
  go_loopw [4] (fun i wr => ∃ k : Nat, k ≤ L.length ∧ i = .int .i64 k ∧ Below w.heap.size w wr ∧ Hid (∃ ys, wr.ownsRow w.heap.size 44 2 (.slice (some ⟨w.heap.size, 0, none⟩) L.length L.length) L.length ys ∧ ys.take (k * 2) = (L.take k).flatMap entryC))
    (fun i _ => L.length - (intOf i).toNat)
  case atStart => exact ⟨0, by omega, rfl, hb1, _, hown, by simp⟩
  case round =>
    obtain ⟨k, hk, rfl, hB, HO⟩ := hrel
    clear hown hb1
    by_cases hlt : k < L.length
    · obtain ⟨b, off, rfl, hb, hc⟩ := Rd.elem entryC 2 (fun _ => rfl) hr (by omega) hlt
      have hf0 : wr.cell? ⟨b, off + k * 2, none⟩ = some (.int .u8 L[k].kind) := by rw [hB.cell (by exact hb)]; exact hc k hlt 0 _ rfl
      have hf1 : wr.cell? ⟨b, off + k * 2 + 1, none⟩ = some (.string L[k].text) := by rw [hB.cell (by exact hb)]; exact hc k hlt 1 _ rfl
      clear hc
      generalize ha0 : L[k].kind = a0 at *
      generalize ha1 : L[k].text = a1 at *
      have Ha0 := Lib.hid ha0; have Ha1 := Lib.hid ha1; clear ha0 ha1
      go_wp2_with fail
      refine (toEntry_c a0 a1 _).mono ?_
      rintro e w2 ⟨rfl, hb2⟩
      obtain ⟨ys, hown, hys⟩ := HO.out
      have ho2 := own_below hown hb2
      obtain ⟨u0, hu0⟩ := own_cell ho2 (j := k * 2) (by omega)
      have hz0 := ho2.frozenAt (k * 2)
      obtain ⟨u1, hu1⟩ := own_cell ho2 (j := k * 2 + 1) (by omega)
      have hz1 := ho2.frozenAt (k * 2 + 1)
      have HY := Lib.hid hys
      clear hown hys
      go_wp2
      go_roundw
      case rel =>
        refine ⟨k + 1, by omega, by go_num, ?_, ?_⟩
        · exact (((hB.trans (hb2.mono hB.size)).setCell (Nat.le_refl _) _).setCell (Nat.le_refl _) _)
        · refine ⟨_, ((ho2.stored (k * 2) (.int .u8 a0)).1.stored (k * 2 + 1) (.string a1)).1, ?_⟩
          obtain rfl := Ha0.out; obtain rfl := Ha1.out
          exact fill_step entryC 2 (fun _ => rfl) hlt ho2.1 HY.out
      case measure => simp [intOf]; omega
    · obtain rfl : k = L.length := by omega
      go_wp2
      go_ret
      obtain ⟨ys, hown, hys⟩ := HO.out
      obtain rfl := fill_end entryC 2 hown.1 hys
      exact ⟨_, rfl, hown, hB⟩

theorem eqEntry_c (a0 : Int) (a1 : ByteArray) (w : World) : Calls Tryd.prog 47 #[.agg #[.int .u8 a0, .string a1], .agg #[.int .u8 a0, .string a1]] w fun e w' => e = .returned (.bool true) ∧ Below w.heap.size w w' := by
  go_enter Tryd.func47, Tryd.ntmps47
  go_wp2
  go_ret
  exact ⟨rfl, by repeat (first | exact Below.refl _ _ | refine Below.alloc ?_ (by (try simp) <;> (try omega)) _)⟩

set_option maxHeartbeats 1000000 in
theorem eqEntryS_c (A A' : Option Addr) (c c' : Nat) (L : List EntryD) (w : World) (hr : Rd w w.heap.size A (L.length * 2) (L.flatMap entryC)) (hr' : Rd w w.heap.size A' (L.length * 2) (L.flatMap entryC)) (hl : L.length ≤ 140737488355328) :
    Calls Tryd.prog 16 #[.slice A L.length c, .slice A' L.length c'] w fun e w' => e = .returned (.bool true) ∧ Below w.heap.size w w' := by
  go_enter Tryd.func16, Tryd.ntmps16
  go_wp2
  go_loopw [5] (fun i wr => ∃ k : Nat, k ≤ L.length ∧ i = .int .i64 k ∧ Below w.heap.size w wr) (fun i _ => L.length - (intOf i).toNat)
  case atStart => exact ⟨0, by omega, rfl, Below.refl _ _⟩
  case round =>
    obtain ⟨k, hk, rfl, hB⟩ := hrel
    by_cases hlt : k < L.length
    · obtain ⟨b, off, rfl, hb, hc⟩ := Rd.elem entryC 2 (fun _ => rfl) hr (by omega) hlt
      obtain ⟨b', off', rfl, hb', hc'⟩ := Rd.elem entryC 2 (fun _ => rfl) hr' (by omega) hlt
      have hf0 : wr.cell? ⟨b, off + k * 2, none⟩ = some (.int .u8 L[k].kind) := by rw [hB.cell (by exact hb)]; exact hc k hlt 0 _ rfl
      have hg0 : wr.cell? ⟨b', off' + k * 2, none⟩ = some (.int .u8 L[k].kind) := by rw [hB.cell (by exact hb')]; exact hc' k hlt 0 _ rfl
      have hf1 : wr.cell? ⟨b, off + k * 2 + 1, none⟩ = some (.string L[k].text) := by rw [hB.cell (by exact hb)]; exact hc k hlt 1 _ rfl
      have hg1 : wr.cell? ⟨b', off' + k * 2 + 1, none⟩ = some (.string L[k].text) := by rw [hB.cell (by exact hb')]; exact hc' k hlt 1 _ rfl
      clear hc hc'
      generalize L[k].kind = a0 at *
      generalize L[k].text = a1 at *
      have hk0 : (0 : Int) ≤ (k : Int) := by omega
      have hk1 : (k : Int) < (L.length : Int) := by omega
      have kf0 := cell_regrown hf0; have kg0 := cell_regrown hg0
      have kf1 := cell_regrown hf1; have kg1 := cell_regrown hg1
      go_wp2_with fail
      refine wp_region_bel mixed (by kernel_rfl) ?_
      repeat (go_big_quiet_step (exact rg_below (eqEntry_c _ _ _)))
      refine wpQuiet_nil ?_
      intro w1 hw1
      clear hf0 hg0 kf0 kg0 hf1 hg1 kf1 kg1
      go_wp2
      go_roundw
      case rel => exact ⟨k + 1, by omega, by go_num, bt hB hw1⟩
      case measure => simp [intOf]; omega
    · obtain rfl : k = L.length := by omega
      go_wp2
      go_ret
      exact ⟨rfl, hB⟩

theorem szEntry_c (a0 : Int) (a1 : ByteArray) (l : Int) (w : World) (ha1 : a1.size ≤ 9223372036854775807) (h0 : 0 ≤ l) (h1 : l ≤ 1048576) :
    Calls Tryd.prog 29 #[.agg #[.int .u8 a0, .string a1], .int .i64 l] w (SzPost 0 l w) := by
  go_enter Tryd.func29, Tryd.ntmps29
  go_wp2
  all_goals (go_ret; exact ⟨_, rfl, by omega, by omega, fun _ => by omega, (Below.refl _ _).alloc (Nat.le_refl _) _⟩)
theorem szEntryS_c (A : Option Addr) (c : Nat) (L : List EntryD) (l : Int) (w : World) (hr : Rd w w.heap.size A (L.length * 2) (L.flatMap entryC)) (hn : L.length ≤ 9223372036854775807) (hW : ∀ x ∈ L, EntryW x) (h0 : 0 ≤ l) (h1 : l ≤ 1048576) :
    Calls Tryd.prog 12 #[.slice A L.length c, .int .i64 l] w (SzPost L.length l w) := by
  by_cases h : l < L.length
  · have h' : l - (L.length : Int) < 0 := by omega
    go_enter Tryd.func12, Tryd.ntmps12
    go_wp2
    go_ret
    exact ⟨-1, rfl, by omega, by omega, fun h => by omega, Below.refl _ _⟩
  · have h' : ¬ l - (L.length : Int) < 0 := by omega
    have HW := Lib.hid hW; clear hW
    go_enter Tryd.func12, Tryd.ntmps12
    go_wp2
    go_loopw [1, 5] (fun v i wr => ∃ (k : Nat) (r : Int), k ≤ L.length ∧ i = .int .i64 k ∧ v = .int .i64 r ∧ 0 ≤ r ∧ r ≤ l - L.length ∧ Below w.heap.size w wr) (fun _ i _ => L.length - (intOf i).toNat)
    case atStart => exact ⟨0, _, by omega, rfl, rfl, by omega, by omega, Below.refl _ _⟩
    case round =>
      obtain ⟨k, r, hk, rfl, rfl, hr1, hr2, hB⟩ := hrel
      by_cases hlt : k < L.length
      · obtain ⟨b, off, rfl, hb, hc⟩ := Rd.elem entryC 2 (fun _ => rfl) (hr.below hB) (by omega) hlt
        have hf0 : wr.cell? ⟨b, off + k * 2, none⟩ = some (.int .u8 L[k].kind) := hc k hlt 0 _ rfl
        have hf1 : wr.cell? ⟨b, off + k * 2 + 1, none⟩ = some (.string L[k].text) := hc k hlt 1 _ rfl
        obtain ⟨w0, w1⟩ := HW.out _ (List.getElem_mem hlt)
        clear hc
        generalize L[k].kind = a0 at *
        generalize L[k].text = a1 at *
        clear w0
        unfold maxLen at w1
        go_wp2_with fail
        refine (szEntry_c a0 a1 _ _ (by omega) (by omega) (by omega)).mono ?_
        rintro e w2 ⟨r2, rfl, q1, q2, q3, hb2⟩
        have hB2 := bt hB hb2
        by_cases hneg : r2 < 0
        · go_wp2
          go_ret
          exact ⟨-1, rfl, by omega, by omega, fun h => by omega, hB2⟩
        · go_wp2
          go_roundw
          case rel => exact ⟨k + 1, r2, by omega, by go_num, rfl, by omega, by omega, hB2⟩
          case measure => simp [intOf]; omega
      · go_wp2
        go_ret
        exact ⟨r, rfl, by omega, by omega, fun h => by omega, hB⟩

def entryMarks (q : Int) (n : Nat) : List EntryD := (List.range n).map fun (i : Nat) => ⟨((q + (i : Int) * 2) % 256), markT (q + (i : Int) * 2 + 1)⟩
theorem entryMarks_len (q : Int) (n : Nat) : (entryMarks q n).length = n := by simp [entryMarks]
theorem entryMarks_0 {q : Int} {n i : Nat} (h : i < (entryMarks q n).length) : (entryMarks q n)[i].kind = ((q + (i : Int) * 2) % 256) := by simp [entryMarks]
theorem entryMarks_1 {q : Int} {n i : Nat} (h : i < (entryMarks q n).length) : (entryMarks q n)[i].text = markT (q + (i : Int) * 2 + 1) := by simp [entryMarks]
set_option maxHeartbeats 1000000 in
theorem markEntryS_c (A : Option Addr) (n c base : Nat) (xs : List Value) (q : Int) (w : World) (hown : w.ownsRow base 44 2 (.slice A n c) n xs) (hn : n ≤ 140737488355328) (h0 : 0 ≤ q) (h1 : q ≤ 16777216) :
    Calls Tryd.prog 27 #[.slice A n c, .int .i64 q] w fun e w' => e = .returned (.int .i64 (q + n * 2)) ∧
      w'.ownsRow base 44 2 (.slice A n c) n ((entryMarks q n).flatMap entryC) ∧ w.grownBy w' (Value.slice A n c).ownBlock := by
  go_enter Tryd.func27, Tryd.ntmps27
  go_wp2
  go_loopw [1, 5] (fun v i wr => ∃ k : Nat, k ≤ n ∧ i = .int .i64 k ∧ v = .int .i64 (q + k * 2) ∧ Hid (w.grownBy wr (Value.slice A n c).ownBlock) ∧ Hid (∃ ys, wr.ownsRow base 44 2 (.slice A n c) n ys ∧ ys.take (k * 2) = ((entryMarks q n).take k).flatMap entryC))
    (fun _ i _ => n - (intOf i).toNat)
  case atStart => exact ⟨0, by omega, rfl, by go_num, World.grownBy.refl _ _, xs, hown, by simp⟩
  case round =>
    obtain ⟨k, hk, rfl, rfl, HG, HO⟩ := hrel
    clear hown
    by_cases hlt : k < n
    · obtain ⟨ys, hown, hys⟩ := HO.out
      obtain ⟨g, rfl, hg1, hg2⟩ := own_head hown (by omega)
      obtain ⟨u0, hu0⟩ := own_cell hown (j := k * 2) (by omega)
      have hz0 := hown.frozenAt (k * 2)
      obtain ⟨u1, hu1⟩ := own_cell hown (j := k * 2 + 1) (by omega)
      have hz1 := hown.frozenAt (k * 2 + 1)
      have HY := Lib.hid hys; have HN := Lib.hid hown; have HL := Lib.hid hown.1
      have HOw := hown
      clear hys hown HO
      clear hu0 hz0 hu1 hz1 HN
      have HG0 := HG; clear HG
      have hown := HOw; clear HOw
      obtain ⟨u0, hu0⟩ := own_cell hown (j := k * 2) (by omega)
      have hz0 := hown.frozenAt (k * 2)
      obtain ⟨u1, hu1⟩ := own_cell hown (j := k * 2 + 1) (by omega)
      have hz1 := hown.frozenAt (k * 2 + 1)
      have HO0 := Lib.hid hown; clear hown
      go_wp2_with fail
      clear hu0 hz0 hu1 hz1
      refine (markText_c _ _ (by omega) (by omega)).mono ?_
      rintro e w11 ⟨rfl, hb11⟩
      have hown11 := own_below (HO0.out.stored (k * 2) (.int .u8 (((q + (k : Int) * 2) % 256)))).1 hb11
      have HG11 := Lib.hid (grown_trans' (grown_set HG0.out) (grown_of_below hb11 _))
      clear hb11
      obtain ⟨u0, hu0⟩ := own_cell hown11 (j := k * 2) (by omega)
      have hz0 := hown11.frozenAt (k * 2)
      obtain ⟨u1, hu1⟩ := own_cell hown11 (j := k * 2 + 1) (by omega)
      have hz1 := hown11.frozenAt (k * 2 + 1)
      have HOz := Lib.hid hown11; clear hown11
      go_wp2
      go_roundw
      case rel =>
        refine ⟨k + 1, by omega, by go_num, by go_num, ?_, ?_⟩
        · exact (grown_set HG11.out)
        · refine ⟨_, (HOz.out.stored (k * 2 + 1) _).1, ?_⟩
          have hl : (entryMarks q n).length = n := entryMarks_len q n
          have hk2 : k < (entryMarks q n).length := by rw [hl]; exact hlt
          have := fill_step entryC 2 (fun _ => rfl) hk2 (by rw [hl]; exact HL.out) HY.out
          rw [entryC, entryMarks_0, entryMarks_1] at this
          exact this
      case measure => simp [intOf]; omega
    · obtain rfl : k = n := by omega
      go_wp2
      go_ret
      obtain ⟨ys, hown, hys⟩ := HO.out
      have hl : (entryMarks q k).length = k := entryMarks_len q k
      have : ys = (entryMarks q k).flatMap entryC := by
        have h1 := hown.1
        rw [List.take_of_length_le (by omega), List.take_of_length_le (by omega)] at hys
        exact hys
      subst this
      exact ⟨rfl, hown, HG.out⟩

set_option maxHeartbeats 1000000 in
theorem heldEntryS_c (A : Option Addr) (n c : Nat) (q : Int) (w : World) (hr : Rd w w.heap.size A (n * 2) ((entryMarks q n).flatMap entryC)) (hn : n ≤ 140737488355328) (h0 : 0 ≤ q) (h1 : q ≤ 16777216) :
    Calls Tryd.prog 28 #[.slice A n c, .int .i64 q] w fun e w' => e = .returned (.int .i64 (q + n * 2)) ∧ Below w.heap.size w w' := by
  go_enter Tryd.func28, Tryd.ntmps28
  go_wp2
  go_loopw [1, 5] (fun v i wr => ∃ k : Nat, k ≤ n ∧ i = .int .i64 k ∧ v = .int .i64 (q + k * 2) ∧ Below w.heap.size w wr) (fun _ i _ => n - (intOf i).toNat)
  case atStart => exact ⟨0, by omega, rfl, by go_num, Below.refl _ _⟩
  case round =>
    obtain ⟨k, hk, rfl, rfl, hB⟩ := hrel
    by_cases hlt : k < n
    · have hl : (entryMarks q n).length = n := entryMarks_len q n
      have hr' : Rd w w.heap.size A ((entryMarks q n).length * 2) ((entryMarks q n).flatMap entryC) := by rw [hl]; exact hr
      obtain ⟨b, off, rfl, hb, hc⟩ := Rd.elem (L := entryMarks q n) entryC 2 (fun _ => rfl) (hr'.below hB) (by omega) (k := k) (by omega)
      have hk2 : k < (entryMarks q n).length := by omega
      have hbr : b < wr.heap.size := by have := hB.size; omega
      have hf0 : wr.cell? ⟨b, off + k * 2, none⟩ = some (.int .u8 (((q + (k : Int) * 2) % 256))) := by have h := hc k hk2 0 _ rfl; rw [entryMarks_0] at h; exact h
      have hf1 : wr.cell? ⟨b, off + k * 2 + 1, none⟩ = some (.string (markT (q + (k : Int) * 2 + 1))) := by have h := hc k hk2 1 _ rfl; rw [entryMarks_1] at h; exact h
      clear hc hl hk2 hr hr'
      have hk0 : (0 : Int) ≤ (k : Int) := by omega
      have hk1 : (k : Int) < (n : Int) := by omega
      go_wp2_with fail
      have kf1 := cell_regrown hf1
      refine wp_region_bel mixed (by kernel_rfl) ?_
      repeat (go_big_quiet_step (exact rg_below (markText_c _ _ (by omega) (by omega))))
      refine wpQuiet_nil ?_
      intro w2 hb2
      clear kf1
      replace hf0 := (hb2.cell (by exact hbr)).trans hf0
      replace hf1 := (hb2.cell (by exact hbr)).trans hf1
      have hB2 := bt hB hb2
      replace hbr : b < w2.heap.size := by have := hb2.size; omega
      go_wp2
      go_roundw
      case rel => exact ⟨k + 1, by omega, by go_num, by go_num, hB2⟩
      case measure => simp [intOf]; omega
    · obtain rfl : k = n := by omega
      go_wp2
      go_ret
      exact ⟨rfl, hB⟩
end Go.Proofs.YtgiblgocfkppmaaDoor
