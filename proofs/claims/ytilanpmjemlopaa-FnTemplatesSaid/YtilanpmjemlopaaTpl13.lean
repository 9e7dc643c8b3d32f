/- Contracts: sortedNames, missing, MissingOf. -/
import Derived.Test.YtilanpmjemlopaaTpl11
import Derived.Test.YtilanpmjemlopaaTpl12
import Derived.Test.YtilanpmjemlopaaShelf
namespace Go.Proofs.Ytilanpmjemlopaa
open Go.RowKit Go.Sort Go.Lib
set_option linter.unusedVariables false
theorem holds_ownS {w : World} {base g c : Nat} {e : TypeId} {zs : List (List UInt8)} (h : w.ownsRow base e 1 (.slice (some ⟨g, 0, none⟩) zs.length c) zs.length (zs.map encStr)) : Holds encStr w g 0 zs.toArray := by
  intro j hj
  have hj2 : j < zs.length := by simpa using hj
  rw [Nat.zero_add]
  refine ⟨?_, h.frozenAt j⟩
  rw [h.cellAt j (by omega), List.getElem?_map, List.getElem?_eq_getElem hj2]
  simp [hj2]
theorem own_putS {w : World} {base g c : Nat} {e : TypeId} {D ys : List (List UInt8)} (q : Nat) (h : w.ownsRow base e 1 (.slice (some ⟨g, 0, none⟩) D.length c) D.length (D.map encStr)) (hy : ys.length = D.length) :
    (putRow encStr (Sort.ahead w q) g 0 ys.toArray).ownsRow base e 1 (.slice (some ⟨g, 0, none⟩) D.length c) D.length (ys.map encStr) ∧ w.grownBy (putRow encStr (Sort.ahead w q) g 0 ys.toArray) (some g) := by
  rw [putRow_eq_setCells encStr w g 0 D.toArray ys q (holds_ownS h) (by simp [hy])]
  have h2 : (w.drewN q).ownsRow base e 1 (.slice (some ⟨g, 0, none⟩) D.length c) D.length (D.map encStr) := h
  have h3 := own_setCells (ys.map encStr) (o := 0) h2
  have e1 : setL (D.map encStr) 0 (ys.map encStr) = ys.map encStr := by
    have h4 := setL_take (ys.map encStr) (D.map encStr) 0 (by simp [hy])
    have hl : (setL (D.map encStr) 0 (ys.map encStr)).length = (ys.map encStr).length := by
      have := h3.1.1
      rw [this]; simp [hy]
    rw [Nat.zero_add, List.take_of_length_le (by omega)] at h4
    simpa using h4
  rw [e1] at h3
  exact ⟨h3.1, grown_trans' (⟨rfl, rfl, rfl, Nat.le_refl _, fun _ _ _ => rfl⟩ : w.grownBy (w.drewN q) (some g)) h3.2⟩
theorem grow_own {w : World} {base : Nat} {e : TypeId} {size n : Nat} {v : Value} {xs : List Value} (h : w.ownsRow base e size v n xs) (os : Array Obj) : (Go.Sort.grow w os).ownsRow base e size v n xs ∧ Go.RowKit.Below w.heap.size w (Go.Sort.grow w os) := by
  have hb : Go.RowKit.Below w.heap.size w (Go.Sort.grow w os) := ⟨rfl, rfl, rfl, by show w.heap.size ≤ (w.heap ++ os).size; rw [Array.size_append]; omega, fun j hj => by show (w.heap ++ os)[j]? = w.heap[j]?; exact Array.getElem?_append_left hj⟩
  exact ⟨own_below h hb, hb⟩
theorem enc_dl (L : List ByteArray) : L.map Value.string = (L.map dl).map encStr := by
  rw [List.map_map]; rfl
theorem enc_mk (Z : List (List UInt8)) : Z.map encStr = (Z.map mkB).map Value.string := by
  rw [List.map_map]; rfl
set_option maxRecDepth 100000 in
set_option maxHeartbeats 2000000 in
theorem sortedNames_c (base : Nat) (A : Option Addr) (c : Nat) (L : List ByteArray) (w : World) (ho : w.ownsRow base 9 1 (.slice A L.length c) L.length (L.map Value.string)) (hbase : base ≤ w.heap.size) (hl : L.length ≤ 4000000) :
    Calls Try.prog 39 #[.slice A L.length c] w fun e w' => e = .returned (.slice A (setT L).length c) ∧ w'.ownsRow base 9 1 (.slice A (setT L).length c) (setT L).length ((setT L).map Value.string) ∧ Go.RowKit.Below base w w' := by
  by_cases h0 : L.length = 0
  · obtain rfl := List.eq_nil_of_length_eq_zero h0
    have HO := Lib.hid ho
    have HE : Hid (setT [] = []) := setT_nil
    clear ho h0
    have h1 := Try.slices_Sort_string_none A c w
    have h2 := Try.slices_Compact_string_empty A c w
    have H1 := Lib.hid h1; have H2 := Lib.hid h2
    clear h1 h2
    go_enter Try.func39, Try.ntmps39
    go_wp2_with fail
    refine H1.out.mono ?_
    rintro e w1 ⟨rfl, rfl⟩
    go_wp2_with fail
    refine H2.out.mono ?_
    rintro e w1 ⟨rfl, rfl⟩
    go_wp2
    go_ret
    rw [HE.out]
    exact ⟨rfl, HO.out, Below.refl _ _⟩
  · obtain ⟨g, rfl, _, _⟩ := own_head ho (by omega)
    have hgl := own_lt ho
    have hcap := (own_cap ho).1
    rw [enc_dl] at ho
    have HO := Lib.hid ho
    clear ho
    have HL : Hid ((L.map dl).length = L.length) := List.length_map ..
    have HSE : Hid (setT L = (Lib.compact (setZ L)).map mkB) := rfl
    have HZL : Hid ((setZ L).length = L.length) := by unfold Hid setZ; rw [List.length_mergeSort, List.length_map]
    have ho1 : w.ownsRow base 9 1 (.slice (some ⟨g, 0, none⟩) (L.map dl).length c) (L.map dl).length ((L.map dl).map encStr) := by rw [HL.out]; exact HO.out
    have hsrt := Try.slices_Sort_string g 0 c (L.map dl) w (holds_ownS ho1) hgl.2 (by rw [HL.out]; omega)
    rw [HL.out] at hsrt
    have HSRT := Lib.hid hsrt
    clear hsrt
    have hp : ∀ q, _ := fun q => own_putS (ys := setZ L) q ho1 (by rw [HZL.out, HL.out])
    have HP := Lib.hid hp
    clear hp ho1 HO
    go_enter Try.func39, Try.ntmps39
    go_wp2_with fail
    refine HSRT.out.mono ?_
    rintro e w1 ⟨rfl, n1, os1, hw1⟩
    have hw2 : w1 = Go.Sort.grow (putRow encStr (Sort.ahead w n1) g 0 (setZ L).toArray) os1 := hw1
    clear hw1
    have hgr := grow_own (HP.out n1).1 os1
    rw [← hw2] at hgr
    have HG1 := Lib.hid (grown_trans' (HP.out n1).2 (grown_of_below hgr.2 _))
    have ho1 : w1.ownsRow base 9 1 (.slice (some ⟨g, 0, none⟩) (setZ L).length c) (setZ L).length ((setZ L).map encStr) := by rw [HZL.out, ← HL.out]; exact hgr.1
    have HO1 := Lib.hid ho1
    clear hgr hw2 ho1 HP
    have hcmp := Try.slices_Compact_string g 0 c (setZ L) w1 (holds_ownS HO1.out) (by have := HZL.out; omega) (by have := HZL.out; omega)
    rw [HZL.out] at hcmp
    have HCM := Lib.hid hcmp
    clear hcmp
    go_wp2_with fail
    refine HCM.out.mono ?_
    rintro e w2 ⟨rfl, q2, hw2⟩
    have hcl := Lib.compact_length_le (setZ L)
    have hp := own_putS (ys := Lib.compact (setZ L) ++ List.replicate ((setZ L).length - (Lib.compact (setZ L)).length) []) q2 HO1.out (by simp; omega)
    rw [HZL.out] at hp
    rw [← hw2] at hp
    have hs := own_shrink hp.1 (n' := (Lib.compact (setZ L)).length) (by have := HZL.out; omega)
    have e1 : ((Lib.compact (setZ L) ++ List.replicate (L.length - (Lib.compact (setZ L)).length) ([] : List UInt8)).map encStr).take ((Lib.compact (setZ L)).length * 1) = (Lib.compact (setZ L)).map encStr := by
      rw [List.map_append, Nat.mul_one, List.take_left' (by simp)]
    rw [e1] at hs
    have HFIN := Lib.hid hs
    have HG2 := Lib.hid (grown_trans' HG1.out hp.2)
    clear hp hs hw2 e1 hcl
    have HBF := Lib.hid (below_grown (Below.refl base w) HG2.out hbase (fun g' e => by have := Option.some.inj e; omega))
    go_wp2
    go_ret
    rw [HSE.out, List.length_map, ← enc_mk]
    exact ⟨rfl, HFIN.out, HBF.out⟩
end Go.Proofs.Ytilanpmjemlopaa
