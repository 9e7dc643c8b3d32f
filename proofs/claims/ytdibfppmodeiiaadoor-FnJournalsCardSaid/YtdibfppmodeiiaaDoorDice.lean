/- Contracts: the laws' dice: roll and below. -/
import Derived.Test.YtdibfppmodeiiaaDoorSrc2
import Derived.Deep.RegionWith
import Derived.Laws.Bits64b
namespace Go.Proofs.YtdibfppmodeiiaaDoor
open Go.RowKit
set_option linter.unusedVariables false
/-- A dice in block g, over bytes of blocks below B. -/
def Dice (W : World) (B g : Nat) : Prop :=
  ∃ (A : Option Addr) (c : Nat) (L : List Int) (i h : Int), g < W.heap.size ∧ W.cell? ⟨g, 0, none⟩ = some (.slice A L.length c) ∧ W.cell? ⟨g, 1, none⟩ = some (.int .i64 i) ∧ W.cell? ⟨g, 2, none⟩ = some (.int .u64 h) ∧
    (∀ i, W.frozen? ⟨g, i, none⟩ = false) ∧ (0 ≤ i ∧ i ≤ L.length) ∧ B ≤ g ∧ L.length ≤ 4096 ∧ L.length ≤ c ∧ Rd W B A L.length (L.map (Value.int .u8)) ∧ (∀ x ∈ L, 0 ≤ x ∧ x ≤ 255)
def RollP (n : Int) (g : Nat) (w : World) (e : Ending) (w' : World) : Prop := ∃ r : Int, e = .returned (.int .i64 r) ∧ (0 ≤ r ∧ r < n) ∧ w.grownBy w' (some g)
theorem mask24 (q : Int) (h0 : 0 ≤ q) (h1 : q < 18446744073709551616) : ∃ x : Int, bits .and .u64 q 16777215 = x ∧ 0 ≤ x ∧ x ≤ 16777215 := by
  obtain ⟨k, rfl⟩ := Int.eq_ofNat_of_zero_le h0
  refine ⟨_, bits_and_u64_nat k 16777215 (by omega) (by omega), by omega, ?_⟩
  have := Nat.and_le_right (n := k) (m := 16777215)
  omega
theorem wrapU (a : Int) : 0 ≤ IntKind.u64.wrap a ∧ IntKind.u64.wrap a < 18446744073709551616 := by
  rw [IntKind.wrap_u64]
  omega
set_option maxRecDepth 100000 in
set_option maxHeartbeats 4000000 in
theorem below_c (B g : Nat) (n : Int) (w : World) (hD : Dice w B g) (hn : 1 ≤ n ∧ n ≤ 1000000000) : Calls Tryd.prog 27 #[.pointer (some ⟨g, 0, none⟩), .int .i64 n] w (RollP n g w) := by
  obtain ⟨A, c, L, i, h, hgl, f0, f1, f2, fz, hi, hBg, hL, hc, hR, hX⟩ := hD
  have HX := Lib.hid hX
  have hfz1 := fz 1
  have hfz2 := fz 2
  have hnn : n ≠ 0 := by omega
  have hq0 := wrapU (IntKind.u64.wrap (h * 6364136223846793005) + 1442695040888963407)
  obtain ⟨q, hq⟩ : ∃ q, IntKind.u64.wrap (IntKind.u64.wrap (h * 6364136223846793005) + 1442695040888963407) = q := ⟨_, rfl⟩
  rw [hq] at hq0
  obtain ⟨x, hx, hx0, hx1⟩ := mask24 (q / 8589934592) (by omega) (by omega)
  have hw64 : wrap64 x = x := by unfold wrap64; omega
  have hmod : 0 ≤ x % n ∧ x % n < n := ⟨Int.emod_nonneg _ (by omega), Int.emod_lt_of_pos _ (by omega)⟩
  have hg1 : w.grownBy (w.setCell ⟨g, 2, none⟩ (.int .u64 q)) (some g) := grown_set (World.grownBy.refl _ _)
  have e0 : (w.setCell ⟨g, 2, none⟩ (.int .u64 q)).cell? ⟨g, 0, none⟩ = some (.slice A L.length c) := by simp [go_sem, f0]
  have e1 : (w.setCell ⟨g, 2, none⟩ (.int .u64 q)).cell? ⟨g, 1, none⟩ = some (.int .i64 i) := by simp [go_sem, f1]
  have ez : (w.setCell ⟨g, 2, none⟩ (.int .u64 q)).frozen? ⟨g, 1, none⟩ = false := by simp [go_sem, fz]
  obtain ⟨k, rfl⟩ := Int.eq_ofNat_of_zero_le hi.1
  by_cases hil : k < L.length
  · obtain ⟨b, off, rfl, hb, f3⟩ := Rd.u8s hR (k := k) hil
    have hxk := HX.out L[k] (List.getElem_mem hil)
    have hbg : b ≠ g := by omega
    have e3 : (w.setCell ⟨g, 2, none⟩ (.int .u64 q)).cell? ⟨b, off + k, none⟩ = some (.int .u8 L[k]) := by rw [World.cell?_of_block (a := ⟨b, off + k, none⟩) (Below.heap_setCell _ _ _ _ hbg)]; exact f3
    generalize L[k] = y at *
    have hil2 : (k : Int) < (L.length : Int) := by omega
    have hkl : (k : Int) ≤ (c : Int) := by omega
    have hk0 : (0 : Int) ≤ (k : Int) := by omega
    have hwy : IntKind.i64.wrap y = y := IntWalk.i64_in _ (by omega)
    have hwx : IntKind.i64.wrap (x + y) = x + y := IntWalk.i64_in _ (by omega)
    have htm : (x + y).tmod n = (x + y) % n := Int.tmod_eq_emod_of_nonneg (by omega)
    have hmod2 : 0 ≤ (x + y) % n ∧ (x + y) % n < n := ⟨Int.emod_nonneg _ (by omega), Int.emod_lt_of_pos _ (by omega)⟩
    have hwm : IntKind.i64.wrap ((x + y) % n) = (x + y) % n := IntWalk.i64_in _ (by omega)
    go_enter Tryd.func27, Tryd.ntmps27
    go_wp2_with fail
    generalize w.setCell ⟨g, 2, none⟩ (.int .u64 q) = w1 at *
    clear f0 f1 f2 f3 fz hfz1 hfz2 hR hX
    go_quiet (fail)
    go_wp2_with fail
    go_quiet (fail)
    go_wp2
    go_ret
    exact ⟨(x + y) % n, rfl, hmod2, grown_set (grown_drewN' hg1 _)⟩
  · have hil2 : ¬ (k : Int) < (L.length : Int) := by omega
    have htm : x.tmod n = x % n := Int.tmod_eq_emod_of_nonneg (by omega)
    have hwm : IntKind.i64.wrap (x % n) = x % n := IntWalk.i64_in _ (by omega)
    go_enter Tryd.func27, Tryd.ntmps27
    go_wp2_with fail
    generalize w.setCell ⟨g, 2, none⟩ (.int .u64 q) = w1 at *
    clear f0 f1 f2 fz hfz1 hfz2 hR hX
    go_quiet (fail)
    go_wp2
    go_ret
    exact ⟨x % n, rfl, hmod, grown_drewN' hg1 _⟩
set_option maxRecDepth 100000 in
set_option maxHeartbeats 4000000 in
theorem roll_c (A : Option Addr) (c : Nat) (L : List Int) (s : Int) (w : World) (hr : Rd w w.heap.size A L.length (L.map (Value.int .u8))) (hx : ∀ x ∈ L, 0 ≤ x ∧ x ≤ 255) (hL : L.length ≤ 4096) (hc : L.length ≤ c) :
    Calls Tryd.prog 26 #[.slice A L.length c, .int .u64 s] w fun e w' => e = .returned (.pointer (some ⟨w.heap.size, 0, none⟩)) ∧ Dice w' w.heap.size w.heap.size ∧ Below w.heap.size w w' := by
  have HR := Lib.hid hr
  have HX := Lib.hid hx
  go_enter Tryd.func26, Tryd.ntmps26
  go_wp2
  go_loopw [6] (fun i wr => ∃ (k : Nat) (q : Int), k ≤ L.length ∧ i = .int .i64 k ∧ Below w.heap.size w wr ∧ w.heap.size < wr.heap.size ∧ wr.cell? ⟨w.heap.size, 0, none⟩ = some (.slice A L.length c) ∧ wr.cell? ⟨w.heap.size, 1, none⟩ = some (.int .i64 0) ∧ wr.cell? ⟨w.heap.size, 2, none⟩ = some (.int .u64 q) ∧ Hid (∀ i, wr.frozen? ⟨w.heap.size, i, none⟩ = false))
    (fun i _ => L.length - (intOf i).toNat)
  case atStart =>
    refine ⟨0, IntKind.u64.wrap (IntKind.u64.wrap (s * 7919) + (L.length : Int)), by omega, rfl, ?_, ?_, ?_, ?_, ?_, ?_⟩
    · exact (Below.refl _ _).alloc (Nat.le_refl _) _
    · simp
    · simp [go_sem]
    · simp [go_sem]
    · simp [go_sem]
    · exact Lib.hid (fun i => by simp [go_sem])
  case round =>
    obtain ⟨k, q, hk, rfl, hB, hsz, f0, f1, f2, HF⟩ := hrel
    by_cases hlt : k < L.length
    · obtain ⟨b, off, rfl, hb, f3⟩ := Rd.u8s (HR.out.below hB) hlt
      have hxk := HX.out L[k] (List.getElem_mem (by omega))
      have hbg : b ≠ w.heap.size := by omega
      have hfz2 := HF.out 2
      generalize L[k] = x at *
      clear hr hx
      have hk0 : (0 : Int) ≤ (k : Int) := by omega
      have hkl : (k : Int) ≤ (c : Int) := by omega
      have hw3 : IntKind.u64.wrap x = x := by rw [IntKind.wrap_u64]; omega
      obtain ⟨q2, hq2⟩ : ∃ q2, IntKind.u64.wrap (IntKind.u64.wrap (IntKind.u64.wrap (q * 1099511628211) + x) + 3) = q2 := ⟨_, rfl⟩
      go_wp2
      go_region_with (fail)
      all_goals
        go_wp2
        go_roundw
        case rel =>
          refine ⟨k + 1, q2, by omega, by go_num, ?_, by simpa [go_sem] using hsz, by simp [go_sem, f0], by simp [go_sem, f1], by simp [go_sem, f2], Lib.hid (fun i => by simp [go_sem, HF.out i])⟩
          first | exact (below_drewN hB _).setCell (Nat.le_refl _) _ | exact below_drewN (hB.setCell (Nat.le_refl _) _) _ | exact below_drewN ((below_drewN hB _).setCell (Nat.le_refl _) _) _ | exact hB.setCell (Nat.le_refl _) _
        case measure =>
          simp [intOf]
          first | done | omega
    · obtain rfl : k = L.length := by omega
      clear hr hx
      go_wp2
      go_ret
      exact ⟨rfl, ⟨A, c, L, 0, q, hsz, f0, f1, f2, HF.out, by omega, Nat.le_refl _, hL, hc, HR.out.below hB, HX.out⟩, hB⟩
end Go.Proofs.YtdibfppmodeiiaaDoor
