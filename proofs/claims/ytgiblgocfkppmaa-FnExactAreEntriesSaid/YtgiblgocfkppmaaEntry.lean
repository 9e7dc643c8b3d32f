/- Contracts of the helpers of the laws for Entry: to, eq, sz, mark, held. Written by gen_mech.py. -/
import Derived.Test.YtgiblgocfkppmaaNum
import Derived.Test.YtgiblgocfkppmaaMarkText
namespace Go.Proofs.Ytgiblgocfkppmaa
open Go.RowKit
structure EntryD where
  kind : Int
  text : ByteArray
instance : Inhabited EntryD := ⟨⟨0, ByteArray.empty⟩⟩
def entryC (x : EntryD) : List Value := [.int .u8 x.kind, .string x.text]
def EntryW (x : EntryD) : Prop := (Lit.int .u8 x.kind).wf = true ∧ x.text.size ≤ maxLen
theorem entry_info : (Try.prog.info? 32).map (fun i => (i.zero, i.size, i.bytes)) = some (some (.agg #[.int .u8 0, .string ByteArray.empty]), 2, 24) := by kernel_rfl

theorem toEntry_c (a0 : Int) (a1 : ByteArray) (w : World) : Calls Try.prog 11 #[.agg #[.int .u8 a0, .string a1]] w fun e w' => e = .returned (.agg #[.int .u8 a0, .string a1]) ∧ Below w.heap.size w w' := by
  go_enter Try.func11, Try.ntmps11
  go_wp2
  exact bodyPost_ret (v := .agg #[.int .u8 a0, .string a1]) (by simp [results, Try.results11, go_sem]) rfl ⟨rfl, by repeat (first | exact Below.refl _ _ | refine Below.alloc ?_ (by (try simp) <;> (try omega)) _)⟩

set_option maxHeartbeats 1000000 in
theorem toEntryS_c (A : Option Addr) (c : Nat) (L : List EntryD) (w : World) (hr : Rd w w.heap.size A (L.length * 2) (L.flatMap entryC)) (hl : L.length * 24 ≤ 140737488355328) :
    Calls Try.prog 6 #[.slice A L.length c] w fun e w' => ∃ g, e = .returned (.slice (some ⟨g, 0, none⟩) L.length L.length) ∧
      w'.ownsRow w.heap.size 32 2 (.slice (some ⟨g, 0, none⟩) L.length L.length) L.length (L.flatMap entryC) ∧ Below w.heap.size w w' := by
  obtain ⟨i0, hi, hz0, hz1, hz2⟩ := info_parts entry_info
  go_enter Try.func6, Try.ntmps6
  go_wp2_with (first | (at_make; refine wpList_make_full _ rfl _ _ 25 rfl w.heap.size 32 i0 _ 2 Try.underlying25 hi hz0 hz1 _ _ _ _ L.length rfl rfl rfl rfl (by rw [hz2]; omega) (by unfold maxLen; omega) (Nat.le_refl _) ?_; intro w1 hown hgrow))
  have hb1 : Below w.heap.size w w1 := (Below.refl _ _).grown hgrow (Nat.le_refl _) (fun k hk => by cases hk)
  clear hgrow hi hz0 hz1 hz2
  go_loopw [4] (fun i wr => ∃ k : Nat, k ≤ L.length ∧ i = .int .i64 k ∧ Below w.heap.size w wr ∧ Hid (∃ ys, wr.ownsRow w.heap.size 32 2 (.slice (some ⟨w.heap.size, 0, none⟩) L.length L.length) L.length ys ∧ ys.take (k * 2) = (L.take k).flatMap entryC))
    (fun i _ => L.length - (intOf i).toNat)
  case atStart => exact ⟨0, by omega, rfl, hb1, _, hown, by simp⟩
  case round =>
    obtain ⟨k, hk, rfl, hB, HO⟩ := hrel
    clear hown hb1
    by_cases hlt : k < L.length
    · obtain ⟨b, off, rfl, hb, hc⟩ := Rd.elem entryC 2 (fun _ => rfl) hr (by omega) hlt
      have hf0 : wr.cell? ⟨b, off + k * 2, none⟩ = some (.int .u8 L[k].kind) := by rw [hB.cell (by exact hb)]; exact hc k hlt 0 _ rfl
      have hf1 : wr.cell? ⟨b, off + k * 2 + 1, none⟩ = some (.string L[k].text) := by rw [hB.cell (by exact hb)]; exact hc k hlt 1 _ rfl
      clear hc
      generalize ha0 : L[k].kind = a0 at *
      generalize ha1 : L[k].text = a1 at *
      have Ha0 := Lib.hid ha0; have Ha1 := Lib.hid ha1; clear ha0 ha1
      go_wp2_with fail
      refine (toEntry_c a0 a1 _).mono ?_
      rintro e w2 ⟨rfl, hb2⟩
      obtain ⟨ys, hown, hys⟩ := HO.out
      have ho2 := own_below hown hb2
      obtain ⟨u0, hu0⟩ := own_cell ho2 (j := k * 2) (by omega)
      have hz0 := ho2.frozenAt (k * 2)
      obtain ⟨u1, hu1⟩ := own_cell ho2 (j := k * 2 + 1) (by omega)
      have hz1 := ho2.frozenAt (k * 2 + 1)
      have HY := Lib.hid hys
      clear hown hys
      go_wp2
      go_roundw
      case rel =>
        refine ⟨k + 1, by omega, by go_num, ?_, ?_⟩
        · exact (((hB.trans (hb2.mono hB.size)).setCell (Nat.le_refl _) _).setCell (Nat.le_refl _) _)
        · refine ⟨_, ((ho2.stored (k * 2) (.int .u8 a0)).1.stored (k * 2 + 1) (.string a1)).1, ?_⟩
          obtain rfl := Ha0.out; obtain rfl := Ha1.out
          exact fill_step entryC 2 (fun _ => rfl) hlt ho2.1 HY.out
      case measure => simp [intOf]; omega
    · obtain rfl : k = L.length := by omega
      go_wp2
      go_ret
      obtain ⟨ys, hown, hys⟩ := HO.out
      obtain rfl := fill_end entryC 2 hown.1 hys
      exact ⟨_, rfl, hown, hB⟩

theorem eqEntry_c (a0 : Int) (a1 : ByteArray) (w : World) : Calls Try.prog 13 #[.agg #[.int .u8 a0, .string a1], .agg #[.int .u8 a0, .string a1]] w fun e w' => e = .returned (.bool true) ∧ Below w.heap.size w w' := by
  go_enter Try.func13, Try.ntmps13
  go_wp2
  go_ret
  exact ⟨rfl, by repeat (first | exact Below.refl _ _ | refine Below.alloc ?_ (by (try simp) <;> (try omega)) _)⟩

set_option maxHeartbeats 1000000 in
theorem eqEntryS_c (A A' : Option Addr) (c c' : Nat) (L : List EntryD) (w : World) (hr : Rd w w.heap.size A (L.length * 2) (L.flatMap entryC)) (hr' : Rd w w.heap.size A' (L.length * 2) (L.flatMap entryC)) (hl : L.length ≤ 140737488355328) :
    Calls Try.prog 8 #[.slice A L.length c, .slice A' L.length c'] w fun e w' => e = .returned (.bool true) ∧ Below w.heap.size w w' := by
  go_enter Try.func8, Try.ntmps8
  go_wp2
  go_loopw [5] (fun i wr => ∃ k : Nat, k ≤ L.length ∧ i = .int .i64 k ∧ Below w.heap.size w wr) (fun i _ => L.length - (intOf i).toNat)
  case atStart => exact ⟨0, by omega, rfl, Below.refl _ _⟩
  case round =>
    obtain ⟨k, hk, rfl, hB⟩ := hrel
    by_cases hlt : k < L.length
    · obtain ⟨b, off, rfl, hb, hc⟩ := Rd.elem entryC 2 (fun _ => rfl) hr (by omega) hlt
      obtain ⟨b', off', rfl, hb', hc'⟩ := Rd.elem entryC 2 (fun _ => rfl) hr' (by omega) hlt
      have hf0 : wr.cell? ⟨b, off + k * 2, none⟩ = some (.int .u8 L[k].kind) := by rw [hB.cell (by exact hb)]; exact hc k hlt 0 _ rfl
      have hg0 : wr.cell? ⟨b', off' + k * 2, none⟩ = some (.int .u8 L[k].kind) := by rw [hB.cell (by exact hb')]; exact hc' k hlt 0 _ rfl
      have hf1 : wr.cell? ⟨b, off + k * 2 + 1, none⟩ = some (.string L[k].text) := by rw [hB.cell (by exact hb)]; exact hc k hlt 1 _ rfl
      have hg1 : wr.cell? ⟨b', off' + k * 2 + 1, none⟩ = some (.string L[k].text) := by rw [hB.cell (by exact hb')]; exact hc' k hlt 1 _ rfl
      clear hc hc'
      generalize L[k].kind = a0 at *
      generalize L[k].text = a1 at *
      have hk0 : (0 : Int) ≤ (k : Int) := by omega
      have hk1 : (k : Int) < (L.length : Int) := by omega
      have kf0 := cell_regrown hf0; have kg0 := cell_regrown hg0
      have kf1 := cell_regrown hf1; have kg1 := cell_regrown hg1
      go_wp2_with fail
      refine wp_region_bel mixed (by kernel_rfl) ?_
      repeat (go_big_quiet_step (exact rg_below (eqEntry_c _ _ _)))
      refine wpQuiet_nil ?_
      intro w1 hw1
      clear hf0 hg0 kf0 kg0 hf1 hg1 kf1 kg1
      go_wp2
      go_roundw
      case rel => exact ⟨k + 1, by omega, by go_num, bt hB hw1⟩
      case measure => simp [intOf]; omega
    · obtain rfl : k = L.length := by omega
      go_wp2
      go_ret
      exact ⟨rfl, hB⟩

theorem szEntry_c (a0 : Int) (a1 : ByteArray) (l : Int) (w : World) (ha1 : a1.size ≤ 9223372036854775807) (h0 : 0 ≤ l) (h1 : l ≤ 1048576) :
    Calls Try.prog 9 #[.agg #[.int .u8 a0, .string a1], .int .i64 l] w (SzPost 0 l w) := by
  go_enter Try.func9, Try.ntmps9
  go_wp2
  all_goals (go_ret; exact ⟨_, rfl, by omega, by omega, fun _ => by omega, (Below.refl _ _).alloc (Nat.le_refl _) _⟩)
theorem szEntryS_c (A : Option Addr) (c : Nat) (L : List EntryD) (l : Int) (w : World) (hr : Rd w w.heap.size A (L.length * 2) (L.flatMap entryC)) (hn : L.length ≤ 9223372036854775807) (hW : ∀ x ∈ L, EntryW x) (h0 : 0 ≤ l) (h1 : l ≤ 1048576) :
    Calls Try.prog 4 #[.slice A L.length c, .int .i64 l] w (SzPost L.length l w) := by
  by_cases h : l < L.length
  · have h' : l - (L.length : Int) < 0 := by omega
    go_enter Try.func4, Try.ntmps4
    go_wp2
    go_ret
    exact ⟨-1, rfl, by omega, by omega, fun h => by omega, Below.refl _ _⟩
  · have h' : ¬ l - (L.length : Int) < 0 := by omega
    have HW := Lib.hid hW; clear hW
    go_enter Try.func4, Try.ntmps4
    go_wp2
    go_loopw [1, 5] (fun v i wr => ∃ (k : Nat) (r : Int), k ≤ L.length ∧ i = .int .i64 k ∧ v = .int .i64 r ∧ 0 ≤ r ∧ r ≤ l - L.length ∧ Below w.heap.size w wr) (fun _ i _ => L.length - (intOf i).toNat)
    case atStart => exact ⟨0, _, by omega, rfl, rfl, by omega, by omega, Below.refl _ _⟩
    case round =>
      obtain ⟨k, r, hk, rfl, rfl, hr1, hr2, hB⟩ := hrel
      by_cases hlt : k < L.length
      · obtain ⟨b, off, rfl, hb, hc⟩ := Rd.elem entryC 2 (fun _ => rfl) (hr.below hB) (by omega) hlt
        have hf0 : wr.cell? ⟨b, off + k * 2, none⟩ = some (.int .u8 L[k].kind) := hc k hlt 0 _ rfl
        have hf1 : wr.cell? ⟨b, off + k * 2 + 1, none⟩ = some (.string L[k].text) := hc k hlt 1 _ rfl
        obtain ⟨w0, w1⟩ := HW.out _ (List.getElem_mem hlt)
        clear hc
        generalize L[k].kind = a0 at *
        generalize L[k].text = a1 at *
        clear w0
        unfold maxLen at w1
        go_wp2_with fail
        refine (szEntry_c a0 a1 _ _ (by omega) (by omega) (by omega)).mono ?_
        rintro e w2 ⟨r2, rfl, q1, q2, q3, hb2⟩
        have hB2 := bt hB hb2
        by_cases hneg : r2 < 0
        · go_wp2
          go_ret
          exact ⟨-1, rfl, by omega, by omega, fun h => by omega, hB2⟩
        · go_wp2
          go_roundw
          case rel => exact ⟨k + 1, r2, by omega, by go_num, rfl, by omega, by omega, hB2⟩
          case measure => simp [intOf]; omega
      · go_wp2
        go_ret
        exact ⟨r, rfl, by omega, by omega, fun h => by omega, hB⟩

end Go.Proofs.Ytgiblgocfkppmaa
