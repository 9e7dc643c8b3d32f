/- Contracts: missing, MissingOf. -/
import Derived.Test.YtilanpmjemlopaaTpl13
import Derived.Test.YtilanpmjemlopaaVal4
namespace Go.Proofs.Ytilanpmjemlopaa
open Go.RowKit
set_option linter.unusedVariables false
/-- The names of all places that have to be filled, but for which there is no value. -/
def missV (V : List ValueD) (T : List PtD) : List ByteArray := setT (keptN V (plsT (accV V) T))
theorem missV_len (V : List ValueD) (T : List PtD) : (missV V T).length ≤ wtT T := by
  refine Nat.le_trans (setT_len _) (Nat.le_trans (List.length_filter_le _ _) (plsT_len _ _))
theorem below_up {B B' : Nat} {w W W' : World} (h : Below B w W) (k : Below B' W W') (hB : B ≤ B') : Below B w W' :=
  ⟨k.os.trans h.os, k.tape.trans h.tape, k.output.trans h.output, Nat.le_trans h.size k.size, fun j hj => (k.block j (by omega)).trans (h.block j hj)⟩
set_option maxRecDepth 100000 in
set_option maxHeartbeats 2000000 in
theorem missing_c (A : Option Addr) (c : Nat) (M : List PtM) (vA : Option Addr) (vc : Nat) (V : List ValueD) (w : World) (hv : Rd w w.heap.size vA (V.length * 2) (V.flatMap valueC)) (hvl : V.length ≤ 140737488355328) (hvc : V.length ≤ vc) (hr : Rd w w.heap.size A (M.length * 4) (M.flatMap PtM.cells)) (hin : ∀ p ∈ M, Rd w w.heap.size p.A (p.inner.length * 4) (p.inner.flatMap plC)) (hl : wtT (M.map PtM.d) ≤ 4000000) :
    Calls Try.prog 32 #[.slice A M.length c, .slice vA V.length vc] w fun e w' => ∃ (A' : Option Addr) (c' : Nat), e = .returned (.slice A' (missV V (M.map PtM.d)).length c') ∧ w'.ownsRow w.heap.size 9 1 (.slice A' (missV V (M.map PtM.d)).length c') (missV V (M.map PtM.d)).length ((missV V (M.map PtM.d)).map Value.string) ∧ Below w.heap.size w w' := by
  have HR := Lib.hid hr; have HIN := Lib.hid hin; have HV := Lib.hid hv
  have hpl := plsT_len (accV V) (M.map PtM.d)
  have HMV : Hid (missV V (M.map PtM.d) = setT (keptN V (plsT (accV V) (M.map PtM.d)))) := rfl
  have HKL := Lib.hid (List.length_filter_le (lackB V) (plsT (accV V) (M.map PtM.d)))
  clear hr hin hv
  go_enter Try.func32, Try.ntmps32
  go_upto_region 1 with fail
  generalize hW1 : w.alloc _ = W1
  have hbW1 : Below w.heap.size w W1 := by subst hW1; exact (Below.refl _ _).alloc (Nat.le_refl _) _
  have hsW1 : W1.heap.size = w.heap.size + 1 := by subst hW1; simp
  have cxW1_0 : ∀ i, W1.cell? ⟨w.heap.size, i, none⟩ = (#[.slice vA V.length vc] : Array Value)[i]? := by intro i; subst hW1; simp [go_sem]
  have HSW1 := Lib.hid hsW1; clear hW1 hsW1
  have HB1 := Lib.hid hbW1
  have hzW : w.heap.size < W1.heap.size := by have := HSW1.out; omega
  have HC := Lib.hid (cxW1_0 0)
  clear HSW1 cxW1_0 hbW1
  go_wp2_with fail
  refine (places1_c A c M w.heap.size vA vc V W1 HC.out hzW (rdW HB1.out HV.out) hvl hvc (rdW HB1.out HR.out) (fun p hp => rdW HB1.out (HIN.out p hp)) hl).mono ?_
  rintro e w2 ⟨A2, c2, rfl, ho2, hb2⟩
  have HO2 := Lib.hid ho2
  have HB2 := Lib.hid (bt HB1.out hb2)
  have HC2 := Lib.hid ((hb2.cell (p := ⟨w.heap.size, 0, none⟩) hzW).trans HC.out)
  have HV2 := Lib.hid ((rdW HB1.out HV.out).below hb2)
  have hz2 := hb2.size
  clear ho2 hb2 HC
  generalize plsT (accV V) (M.map PtM.d) = P at *
  go_wp2_with fail
  refine (delMiss_c W1.heap.size A2 c2 P w.heap.size vA vc V w2 HO2.out hz2 (by omega) HC2.out hzW HV2.out hvl hvc).mono ?_
  rintro e w3 ⟨rfl, ho3, hb3⟩
  have HO3 := Lib.hid ho3
  have hz3 := hb3.size
  have HB3 := Lib.hid (below_up HB2.out hb3 (by omega))
  clear ho3 hb3 HO2 HC2
  go_wp2_with fail
  refine (sortedNames_c W1.heap.size A2 c2 (keptN V P) w3 HO3.out (by omega) (by have := HKL.out; unfold keptN; omega)).mono ?_
  rintro e w4 ⟨rfl, ho4, hb4⟩
  have HO4 := Lib.hid ho4
  have HB4 := Lib.hid (below_up HB3.out hb4 (by omega))
  clear ho4 hb4
  go_wp2
  go_ret
  rw [HMV.out]
  exact ⟨A2, c2, rfl, own_mono HO4.out (by omega), HB4.out⟩
end Go.Proofs.Ytilanpmjemlopaa
