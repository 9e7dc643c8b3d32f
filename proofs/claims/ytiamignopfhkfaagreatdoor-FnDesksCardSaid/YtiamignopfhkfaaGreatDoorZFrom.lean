/- Contract: l01From. -/
import Derived.Test.YtiamignopfhkfaaGreatDoorZSrc
namespace Go.Proofs.YtiamignopfhkfaaGreatDoor
open Go.RowKit
set_option linter.unusedVariables false
set_option maxRecDepth 100000 in
set_option maxHeartbeats 2000000 in
theorem l01From_c (A : Option Addr) (c : Nat) (L : List Int) (w : World) (hr : Rd w w.heap.size A L.length (L.map (Value.int .u8))) (hx : ∀ x ∈ L, 0 ≤ x ∧ x ≤ 255) (hL : L.length ≤ 4096) (hc : L.length ≤ c) :
    Calls Tryz.prog 31 #[.slice A L.length c] w fun e w' => e = .returned (.pointer (some ⟨w.heap.size, 0, none⟩)) ∧ Src w' w.heap.size w.heap.size ∧ Below w.heap.size w w' := by
  have HR := Lib.hid hr
  have HX := Lib.hid hx
  go_enter Tryz.func31, Tryz.ntmps31
  go_wp2
  go_loopw [4] (fun i wr => ∃ (k : Nat) (q : Int), k ≤ L.length ∧ k ≤ 64 ∧ i = .int .i64 k ∧ (0 ≤ q ∧ q < 2147483647) ∧ Below w.heap.size w wr ∧ w.heap.size < wr.heap.size ∧ wr.cell? ⟨w.heap.size, 0, none⟩ = some (.slice A L.length c) ∧ wr.cell? ⟨w.heap.size, 1, none⟩ = some (.int .i64 0) ∧ wr.cell? ⟨w.heap.size, 2, none⟩ = some (.int .i64 q) ∧ Hid (∀ i, wr.frozen? ⟨w.heap.size, i, none⟩ = false))
    (fun i _ => L.length - (intOf i).toNat)
  case atStart =>
    refine ⟨0, 61043, by omega, by omega, rfl, by omega, ?_, ?_, ?_, ?_, ?_, ?_⟩
    · exact (Below.refl _ _).alloc (Nat.le_refl _) _
    · simp
    · simp [go_sem]
    · simp [go_sem]
    · simp [go_sem]
    · exact Lib.hid (fun i => by simp [go_sem])
  case round =>
    obtain ⟨k, q, hk, hk6, rfl, hq, hB, hsz, f0, f1, f2, HF⟩ := hrel
    by_cases hlt : k < L.length
    · by_cases hlt6 : k < 64
      · obtain ⟨b, off, rfl, hb, f3⟩ := Rd.u8s (HR.out.below hB) hlt
        have hxk := HX.out L[k] (List.getElem_mem (by omega))
        have hbg : b ≠ w.heap.size := by omega
        have hfz2 := HF.out 2
        generalize L[k] = x at *
        clear hr hx
        have hk0 : (0 : Int) ≤ (k : Int) := by omega
        have hkl : (k : Int) ≤ (c : Int) := by omega
        have hq2 : 0 ≤ (q * 83 + x) % 2147483647 ∧ (q * 83 + x) % 2147483647 < 2147483647 := by omega
        have hw1 : IntKind.i64.wrap (q * 83) = q * 83 := IntWalk.i64_in _ (by omega)
        have hw2 : IntKind.i64.wrap (q * 83 + x) = q * 83 + x := IntWalk.i64_in _ (by omega)
        have hw3 : IntKind.i64.wrap x = x := IntWalk.i64_in _ (by omega)
        have hw4 : (q * 83 + x).tmod 2147483647 = (q * 83 + x) % 2147483647 := Int.tmod_eq_emod_of_nonneg (by omega)
        have hw5 : IntKind.i64.wrap ((q * 83 + x) % 2147483647) = (q * 83 + x) % 2147483647 := IntWalk.i64_in _ (by omega)
        go_wp2
        go_region_with (fail)
        all_goals
          go_wp2
          go_roundw
          case rel =>
            refine ⟨k + 1, (q * 83 + x) % 2147483647, by omega, by omega, by go_num, hq2, ?_, by simpa [go_sem] using hsz, by simp [go_sem, f0], by simp [go_sem, f1], by simp [go_sem, f2], Lib.hid (fun i => by simp [go_sem, HF.out i])⟩
            first | exact (below_drewN hB _).setCell (Nat.le_refl _) _ | exact below_drewN (hB.setCell (Nat.le_refl _) _) _ | exact below_drewN ((below_drewN hB _).setCell (Nat.le_refl _) _) _ | exact hB.setCell (Nat.le_refl _) _
          case measure =>
            simp [intOf]
            first | done | omega
      · obtain rfl : k = 64 := by omega
        clear hr hx
        go_wp2
        go_ret
        exact ⟨rfl, ⟨A, c, L, 0, q, Nat.le_refl _, hsz, f0, f1, f2, HF.out, by omega, hq, hL, hc, HR.out.below hB, HX.out⟩, hB⟩
    · obtain rfl : k = L.length := by omega
      clear hr hx
      go_wp2
      go_ret
      exact ⟨rfl, ⟨A, c, L, 0, q, Nat.le_refl _, hsz, f0, f1, f2, HF.out, by omega, hq, hL, hc, HR.out.below hB, HX.out⟩, hB⟩
end Go.Proofs.YtiamignopfhkfaaGreatDoor
