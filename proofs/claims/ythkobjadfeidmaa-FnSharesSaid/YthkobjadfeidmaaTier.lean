/- Contracts of the helpers of the laws for Tier: to, eq, sz, mark, held. Written by gen_mech.py. -/
import Derived.Test.YthkobjadfeidmaaNum
namespace Go.Proofs.Ythkobjadfeidmaa
open Go.RowKit
structure TierD where
  days : Int
  cents : Int
instance : Inhabited TierD := ⟨⟨0, 0⟩⟩
def tierC (x : TierD) : List Value := [.int .i64 x.days, .int .i64 x.cents]
def TierW (x : TierD) : Prop := (Lit.int .i64 x.days).wf = true ∧ (Lit.int .i64 x.cents).wf = true
theorem tier_info : (Try.prog.info? 63).map (fun i => (i.zero, i.size, i.bytes)) = some (some (.agg #[.int .i64 0, .int .i64 0]), 2, 16) := by kernel_rfl

theorem toTier_c (a0 : Int) (a1 : Int) (w : World) : Calls Try.prog 69 #[.agg #[.int .i64 a0, .int .i64 a1]] w fun e w' => e = .returned (.agg #[.int .i64 a0, .int .i64 a1]) ∧ Below w.heap.size w w' := by
  go_enter Try.func69, Try.ntmps69
  go_wp2
  exact bodyPost_ret (v := .agg #[.int .i64 a0, .int .i64 a1]) (by simp [results, Try.results69, go_sem]) rfl ⟨rfl, by repeat (first | exact Below.refl _ _ | refine Below.alloc ?_ (by (try simp) <;> (try omega)) _)⟩

set_option maxHeartbeats 1000000 in
theorem toTierS_c (A : Option Addr) (c : Nat) (L : List TierD) (w : World) (hr : Rd w w.heap.size A (L.length * 2) (L.flatMap tierC)) (hl : L.length * 16 ≤ 140737488355328) :
    Calls Try.prog 49 #[.slice A L.length c] w fun e w' => ∃ g, e = .returned (.slice (some ⟨g, 0, none⟩) L.length L.length) ∧
      w'.ownsRow w.heap.size 63 2 (.slice (some ⟨g, 0, none⟩) L.length L.length) L.length (L.flatMap tierC) ∧ Below w.heap.size w w' := by
  obtain ⟨i0, hi, hz0, hz1, hz2⟩ := info_parts tier_info
  go_enter Try.func49, Try.ntmps49
  go_wp2_with (first | (at_make; refine wpList_make_full _ rfl _ _ 33 rfl w.heap.size 63 i0 _ 2 Try.underlying33 hi hz0 hz1 _ _ _ _ L.length rfl rfl rfl rfl (by rw [hz2]; omega) (by unfold maxLen; omega) (Nat.le_refl _) ?_; intro w1 hown hgrow))
  have hb1 : Below w.heap.size w w1 := (Below.refl _ _).grown hgrow (Nat.le_refl _) (fun k hk => by cases hk)
  clear hgrow hi hz0 hz1 hz2
  go_loopw [4] (fun i wr => ∃ k : Nat, k ≤ L.length ∧ i = .int .i64 k ∧ Below w.heap.size w wr ∧ Hid (∃ ys, wr.ownsRow w.heap.size 63 2 (.slice (some ⟨w.heap.size, 0, none⟩) L.length L.length) L.length ys ∧ ys.take (k * 2) = (L.take k).flatMap tierC))
    (fun i _ => L.length - (intOf i).toNat)
  case atStart => exact ⟨0, by omega, rfl, hb1, _, hown, by simp⟩
  case round =>
    obtain ⟨k, hk, rfl, hB, HO⟩ := hrel
    clear hown hb1
    by_cases hlt : k < L.length
    · obtain ⟨b, off, rfl, hb, hc⟩ := Rd.elem tierC 2 (fun _ => rfl) hr (by omega) hlt
      have hf0 : wr.cell? ⟨b, off + k * 2, none⟩ = some (.int .i64 L[k].days) := by rw [hB.cell (by exact hb)]; exact hc k hlt 0 _ rfl
      have hf1 : wr.cell? ⟨b, off + k * 2 + 1, none⟩ = some (.int .i64 L[k].cents) := by rw [hB.cell (by exact hb)]; exact hc k hlt 1 _ rfl
      clear hc
      generalize ha0 : L[k].days = a0 at *
      generalize ha1 : L[k].cents = a1 at *
      have Ha0 := Lib.hid ha0; have Ha1 := Lib.hid ha1; clear ha0 ha1
      go_wp2_with fail
      refine (toTier_c a0 a1 _).mono ?_
      rintro e w2 ⟨rfl, hb2⟩
      obtain ⟨ys, hown, hys⟩ := HO.out
      have ho2 := own_below hown hb2
      obtain ⟨u0, hu0⟩ := own_cell ho2 (j := k * 2) (by omega)
      have hz0 := ho2.frozenAt (k * 2)
      obtain ⟨u1, hu1⟩ := own_cell ho2 (j := k * 2 + 1) (by omega)
      have hz1 := ho2.frozenAt (k * 2 + 1)
      have HY := Lib.hid hys
      clear hown hys
      go_wp2
      go_roundw
      case rel =>
        refine ⟨k + 1, by omega, by go_num, ?_, ?_⟩
        · exact (((hB.trans (hb2.mono hB.size)).setCell (Nat.le_refl _) _).setCell (Nat.le_refl _) _)
        · refine ⟨_, ((ho2.stored (k * 2) (.int .i64 a0)).1.stored (k * 2 + 1) (.int .i64 a1)).1, ?_⟩
          obtain rfl := Ha0.out; obtain rfl := Ha1.out
          exact fill_step tierC 2 (fun _ => rfl) hlt ho2.1 HY.out
      case measure => simp [intOf]; omega
    · obtain rfl : k = L.length := by omega
      go_wp2
      go_ret
      obtain ⟨ys, hown, hys⟩ := HO.out
      obtain rfl := fill_end tierC 2 hown.1 hys
      exact ⟨_, rfl, hown, hB⟩

theorem eqTier_c (a0 : Int) (a1 : Int) (w : World) : Calls Try.prog 70 #[.agg #[.int .i64 a0, .int .i64 a1], .agg #[.int .i64 a0, .int .i64 a1]] w fun e w' => e = .returned (.bool true) ∧ Below w.heap.size w w' := by
  go_enter Try.func70, Try.ntmps70
  go_wp2
  go_ret
  exact ⟨rfl, by repeat (first | exact Below.refl _ _ | refine Below.alloc ?_ (by (try simp) <;> (try omega)) _)⟩

set_option maxHeartbeats 1000000 in
theorem eqTierS_c (A A' : Option Addr) (c c' : Nat) (L : List TierD) (w : World) (hr : Rd w w.heap.size A (L.length * 2) (L.flatMap tierC)) (hr' : Rd w w.heap.size A' (L.length * 2) (L.flatMap tierC)) (hl : L.length ≤ 140737488355328) :
    Calls Try.prog 51 #[.slice A L.length c, .slice A' L.length c'] w fun e w' => e = .returned (.bool true) ∧ Below w.heap.size w w' := by
  go_enter Try.func51, Try.ntmps51
  go_wp2
  go_loopw [5] (fun i wr => ∃ k : Nat, k ≤ L.length ∧ i = .int .i64 k ∧ Below w.heap.size w wr) (fun i _ => L.length - (intOf i).toNat)
  case atStart => exact ⟨0, by omega, rfl, Below.refl _ _⟩
  case round =>
    obtain ⟨k, hk, rfl, hB⟩ := hrel
    by_cases hlt : k < L.length
    · obtain ⟨b, off, rfl, hb, hc⟩ := Rd.elem tierC 2 (fun _ => rfl) hr (by omega) hlt
      obtain ⟨b', off', rfl, hb', hc'⟩ := Rd.elem tierC 2 (fun _ => rfl) hr' (by omega) hlt
      have hf0 : wr.cell? ⟨b, off + k * 2, none⟩ = some (.int .i64 L[k].days) := by rw [hB.cell (by exact hb)]; exact hc k hlt 0 _ rfl
      have hg0 : wr.cell? ⟨b', off' + k * 2, none⟩ = some (.int .i64 L[k].days) := by rw [hB.cell (by exact hb')]; exact hc' k hlt 0 _ rfl
      have hf1 : wr.cell? ⟨b, off + k * 2 + 1, none⟩ = some (.int .i64 L[k].cents) := by rw [hB.cell (by exact hb)]; exact hc k hlt 1 _ rfl
      have hg1 : wr.cell? ⟨b', off' + k * 2 + 1, none⟩ = some (.int .i64 L[k].cents) := by rw [hB.cell (by exact hb')]; exact hc' k hlt 1 _ rfl
      clear hc hc'
      generalize L[k].days = a0 at *
      generalize L[k].cents = a1 at *
      have hk0 : (0 : Int) ≤ (k : Int) := by omega
      have hk1 : (k : Int) < (L.length : Int) := by omega
      have kf0 := cell_regrown hf0; have kg0 := cell_regrown hg0
      have kf1 := cell_regrown hf1; have kg1 := cell_regrown hg1
      go_wp2_with fail
      refine wp_region_bel mixed (by kernel_rfl) ?_
      repeat (go_big_quiet_step (exact rg_below (eqTier_c _ _ _)))
      refine wpQuiet_nil ?_
      intro w1 hw1
      clear hf0 hg0 kf0 kg0 hf1 hg1 kf1 kg1
      go_wp2
      go_roundw
      case rel => exact ⟨k + 1, by omega, by go_num, bt hB hw1⟩
      case measure => simp [intOf]; omega
    · obtain rfl : k = L.length := by omega
      go_wp2
      go_ret
      exact ⟨rfl, hB⟩

theorem szTierS_c (A : Option Addr) (n c : Nat) (l : Int) (w : World) (hn : n ≤ 9223372036854775807) (h0 : 0 ≤ l) (h1 : l ≤ 1048576) :
    Calls Try.prog 47 #[.slice A n c, .int .i64 l] w (SzPost n l w) := by
  by_cases h : l < n
  · have h' : l - (n : Int) < 0 := by omega
    go_enter Try.func47, Try.ntmps47
    go_wp2
    go_ret
    exact ⟨-1, rfl, by omega, by omega, fun h => by omega, Below.refl _ _⟩
  · have h' : ¬ l - (n : Int) < 0 := by omega
    go_enter Try.func47, Try.ntmps47
    go_wp2
    go_ret
    exact ⟨_, rfl, by omega, by omega, fun h => by omega, Below.refl _ _⟩

def tierMarks (q : Int) (n : Nat) : List TierD := (List.range n).map fun (i : Nat) => ⟨q + (i : Int) * 2, q + (i : Int) * 2 + 1⟩
theorem tierMarks_len (q : Int) (n : Nat) : (tierMarks q n).length = n := by simp [tierMarks]
theorem tierMarks_0 {q : Int} {n i : Nat} (h : i < (tierMarks q n).length) : (tierMarks q n)[i].days = q + (i : Int) * 2 := by simp [tierMarks]
theorem tierMarks_1 {q : Int} {n i : Nat} (h : i < (tierMarks q n).length) : (tierMarks q n)[i].cents = q + (i : Int) * 2 + 1 := by simp [tierMarks]
set_option maxHeartbeats 1000000 in
theorem markTierS_c (A : Option Addr) (n c base : Nat) (xs : List Value) (q : Int) (w : World) (hown : w.ownsRow base 63 2 (.slice A n c) n xs) (hn : n ≤ 140737488355328) (h0 : 0 ≤ q) (h1 : q ≤ 1048576) :
    Calls Try.prog 52 #[.slice A n c, .int .i64 q] w fun e w' => e = .returned (.int .i64 (q + n * 2)) ∧
      w'.ownsRow base 63 2 (.slice A n c) n ((tierMarks q n).flatMap tierC) ∧ w.grownBy w' (Value.slice A n c).ownBlock := by
  go_enter Try.func52, Try.ntmps52
  go_wp2
  go_loopw [1, 5] (fun v i wr => ∃ k : Nat, k ≤ n ∧ i = .int .i64 k ∧ v = .int .i64 (q + k * 2) ∧ Hid (w.grownBy wr (Value.slice A n c).ownBlock) ∧ Hid (∃ ys, wr.ownsRow base 63 2 (.slice A n c) n ys ∧ ys.take (k * 2) = ((tierMarks q n).take k).flatMap tierC))
    (fun _ i _ => n - (intOf i).toNat)
  case atStart => exact ⟨0, by omega, rfl, by go_num, World.grownBy.refl _ _, xs, hown, by simp⟩
  case round =>
    obtain ⟨k, hk, rfl, rfl, HG, HO⟩ := hrel
    clear hown
    by_cases hlt : k < n
    · obtain ⟨ys, hown, hys⟩ := HO.out
      obtain ⟨g, rfl, hg1, hg2⟩ := own_head hown (by omega)
      obtain ⟨u0, hu0⟩ := own_cell hown (j := k * 2) (by omega)
      have hz0 := hown.frozenAt (k * 2)
      obtain ⟨u1, hu1⟩ := own_cell hown (j := k * 2 + 1) (by omega)
      have hz1 := hown.frozenAt (k * 2 + 1)
      have HY := Lib.hid hys; have HN := Lib.hid hown; have HL := Lib.hid hown.1
      clear hys hown HO
      go_wp2
      go_roundw
      case rel =>
        refine ⟨k + 1, by omega, by go_num, by go_num, ?_, ?_⟩
        · exact (grown_set (grown_set HG.out))
        · refine ⟨_, ((HN.out.stored (k * 2) (_)).1.stored (k * 2 + 1) (_)).1, ?_⟩
          have hl : (tierMarks q n).length = n := tierMarks_len q n
          have hk2 : k < (tierMarks q n).length := by rw [hl]; exact hlt
          have := fill_step tierC 2 (fun _ => rfl) hk2 (by rw [hl]; exact HL.out) HY.out
          rw [tierC, tierMarks_0, tierMarks_1] at this
          exact this
      case measure => simp [intOf]; omega
    · obtain rfl : k = n := by omega
      go_wp2
      go_ret
      obtain ⟨ys, hown, hys⟩ := HO.out
      have hl : (tierMarks q k).length = k := tierMarks_len q k
      have : ys = (tierMarks q k).flatMap tierC := by
        have h1 := hown.1
        rw [List.take_of_length_le (by omega), List.take_of_length_le (by omega)] at hys
        exact hys
      subst this
      exact ⟨rfl, hown, HG.out⟩

set_option maxHeartbeats 1000000 in
theorem heldTierS_c (A : Option Addr) (n c : Nat) (q : Int) (w : World) (hr : Rd w w.heap.size A (n * 2) ((tierMarks q n).flatMap tierC)) (hn : n ≤ 140737488355328) (h0 : 0 ≤ q) (h1 : q ≤ 1048576) :
    Calls Try.prog 53 #[.slice A n c, .int .i64 q] w fun e w' => e = .returned (.int .i64 (q + n * 2)) ∧ Below w.heap.size w w' := by
  go_enter Try.func53, Try.ntmps53
  go_wp2
  go_loopw [1, 5] (fun v i wr => ∃ k : Nat, k ≤ n ∧ i = .int .i64 k ∧ v = .int .i64 (q + k * 2) ∧ Below w.heap.size w wr) (fun _ i _ => n - (intOf i).toNat)
  case atStart => exact ⟨0, by omega, rfl, by go_num, Below.refl _ _⟩
  case round =>
    obtain ⟨k, hk, rfl, rfl, hB⟩ := hrel
    by_cases hlt : k < n
    · have hl : (tierMarks q n).length = n := tierMarks_len q n
      have hr' : Rd w w.heap.size A ((tierMarks q n).length * 2) ((tierMarks q n).flatMap tierC) := by rw [hl]; exact hr
      obtain ⟨b, off, rfl, hb, hc⟩ := Rd.elem (L := tierMarks q n) tierC 2 (fun _ => rfl) (hr'.below hB) (by omega) (k := k) (by omega)
      have hk2 : k < (tierMarks q n).length := by omega
      have hbr : b < wr.heap.size := by have := hB.size; omega
      have hf0 : wr.cell? ⟨b, off + k * 2, none⟩ = some (.int .i64 (q + (k : Int) * 2)) := by have h := hc k hk2 0 _ rfl; rw [tierMarks_0] at h; exact h
      have hf1 : wr.cell? ⟨b, off + k * 2 + 1, none⟩ = some (.int .i64 (q + (k : Int) * 2 + 1)) := by have h := hc k hk2 1 _ rfl; rw [tierMarks_1] at h; exact h
      clear hc hl hk2 hr hr'
      go_wp2
      go_roundw
      case rel => exact ⟨k + 1, by omega, by go_num, by go_num, hB⟩
      case measure => simp [intOf]; omega
    · obtain rfl : k = n := by omega
      go_wp2
      go_ret
      exact ⟨rfl, hB⟩
end Go.Proofs.Ythkobjadfeidmaa
