/- Contract: impl.ShareCosts. -/
import Derived.Test.YthkobjadfeidmaaShare
import Derived.Test.YthkobjadfeidmaaPays
import Derived.Test.YthkobjadfeidmaaInts
import Derived.Test.YthkobjadfeidmaaRow
namespace Go.Proofs.Ythkobjadfeidmaa
open Go.RowKit
set_option linter.unusedVariables false
theorem bool_info : (Try.prog.info? 4).map (fun i => (i.zero, i.size, i.bytes)) = some (some (.bool false), 1, 1) := by kernel_rfl
theorem sum_c (A : Option Addr) (n c : Nat) (D : List Int) (w : World) (hn : D.length = n) (hr : Rd w w.heap.size A n (D.map (Value.int .i64))) (hl : n ≤ 60) (hc : n ≤ c) (hb : ∀ x ∈ D, 0 ≤ x ∧ x ≤ 1000000000000) :
    Calls Try.prog 46 #[.slice A n c] w fun e w' => e = .returned (.int .i64 (sumI D)) ∧ w = w' := by
  subst hn
  have HB := Lib.hid hb; clear hb
  go_enter Try.func46, Try.ntmps46
  go_wp2
  go_loop [3, 8] (fun v i => ∃ k : Nat, k ≤ D.length ∧ i = .int .i64 k ∧ v = .int .i64 (sumI (D.take k))) (fun _ i => D.length - (intOf i).toNat)
  case atStart => exact ⟨0, by omega, rfl, rfl⟩
  case round =>
    obtain ⟨k, hk, rfl, rfl⟩ := hrel
    by_cases hlt : k < D.length
    · obtain ⟨b, off, rfl, hb, hcell⟩ := Rd.ints hr hlt
      have f0 := hcell k hlt
      have HS := Lib.hid (sumI_snoc hlt)
      have hbd := sumI_take_bd (B := 1000000000000) (by omega) HB.out k
      have hx := HB.out _ (List.getElem_mem hlt)
      clear hcell
      generalize D[k] = x at *
      go_wp2
      go_round
      case rel => exact ⟨k + 1, by omega, by go_num, by rw [HS.out]⟩
      case measure => simp [intOf]; omega
    · obtain rfl : k = D.length := by omega
      go_wp2
      go_ret
      exact ⟨ret_int (by first | rfl | simp), rfl⟩

def shareOk (c : Int) (D : List Int) : Bool := inB c 0 1000000000 && inB D.length 1 60 && D.all (fun d => inB d 0 1000) && decide (sumI D ≠ 0)
def shareOf (c : Int) (D : List Int) (t : Nat) : List Bool × List Int := shareN (remD c (sumI D) D) D.length (quoD c (sumI D) D) t
def leftOf (c : Int) (D : List Int) : Int := c - sumI (quoD c (sumI D) D)
def shareF (c : Int) (D : List Int) : List Int := if shareOk c D then (shareOf c D (leftOf c D).toNat).2 else []
def shareC (c : Int) (D : List Int) : Int := if shareOk c D then 0 else 2
theorem share_bad {c : Int} {D : List Int} (h : shareOk c D = false) : shareF c D = [] ∧ shareC c D = 2 := by simp [shareF, shareC, h]
theorem share_bad_at {c : Int} {D : List Int} {k : Nat} (hk : k < D.length) (h : inB D[k] 0 1000 = false) : shareOk c D = false := by
  have : D.all (fun d => inB d 0 1000) = false := by
    rw [← Bool.not_eq_true, List.all_eq_true]
    intro hh
    have := hh _ (List.getElem_mem hk)
    rw [h] at this; cases this
  simp [shareOk, this]
theorem quoD_len (c T : Int) (D : List Int) : (quoD c T D).length = D.length := by simp [quoD]
theorem quo_bd {c T d : Int} (hc : 0 ≤ c ∧ c ≤ 1000000000) (hd : 0 ≤ d ∧ d ≤ 1000) (hT : 0 < T) : (0 ≤ c * d ∧ c * d ≤ 1000000000000) ∧ (0 ≤ c * d / T ∧ c * d / T ≤ 1000000000000) ∧ (c * d).tdiv T = c * d / T ∧ (c * d).tmod T = c * d % T ∧ (0 ≤ c * d % T) ∧ c * d % T < T := by
  have h1 : 0 ≤ c * d ∧ c * d ≤ 1000000000 * 1000 := mul_bd hc hd
  refine ⟨by omega, ⟨Int.ediv_nonneg h1.1 (by omega), ?_⟩, Int.tdiv_eq_ediv_of_nonneg h1.1, Int.tmod_eq_emod_of_nonneg h1.1, Int.emod_nonneg _ (by omega), Int.emod_lt_of_pos _ hT⟩
  have := Int.ediv_le_self T h1.1
  omega
theorem shareN_bd {R : Nat → Int} {n : Nat} {P0 : List Int} {B : Int} (hB : 0 ≤ B) (h : ∀ j, 0 ≤ P0.getD j 0 ∧ P0.getD j 0 ≤ B) : ∀ (t j : Nat), 0 ≤ (shareN R n P0 t).2.getD j 0 ∧ (shareN R n P0 t).2.getD j 0 ≤ B + t
  | 0, j => by have := h j; simp only [shareN]; omega
  | t + 1, j => by
    have ih := shareN_bd (R := R) (n := n) hB h t
    simp only [shareN]
    rw [List.getD_eq_getElem?_getD, List.getElem?_set]
    split
    · split
      · have := ih ((bestN R (gOf (shareN R n P0 t).1) n).toNat); simp only [Option.getD_some]; omega
      · simp only [Option.getD_none]; omega
    · have := ih j; rw [List.getD_eq_getElem?_getD] at this; omega
theorem share_all {c : Int} {D : List Int} (hC : inB c 0 1000000000 = true) (hN : inB D.length 1 60 = true) (hA : ∀ j, j < D.length → inB (D.getD j 0) 0 1000 = true) (h0 : sumI D ≠ 0) : shareOk c D = true := by
  have : D.all (fun d => inB d 0 1000) = true := by
    rw [List.all_eq_true]
    intro x hx
    obtain ⟨j, hj, rfl⟩ := List.getElem_of_mem hx
    have := hA j hj
    rwa [List.getD_eq_getElem?_getD, List.getElem?_eq_getElem hj] at this
  simp [shareOk, hC, hN, this, h0]
theorem quo_snoc {c T : Int} {D : List Int} {k : Nat} (hk : k < D.length) : (quoD c T (D.take (k + 1))).map (Value.int .i64) = (quoD c T (D.take k)).map (Value.int .i64) ++ [.int .i64 (c * D[k] / T)] := by
  rw [List.take_succ_eq_append_getElem hk, quoD, List.map_append, List.map_append]; rfl
end Go.Proofs.Ythkobjadfeidmaa
