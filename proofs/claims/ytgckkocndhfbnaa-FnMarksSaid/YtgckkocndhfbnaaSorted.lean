/- Contract: sortedSet at a row of the call's own. -/
import Derived.Test.YtgckkocndhfbnaaInts
import Derived.Test.YtgckkocndhfbnaaIns
import Derived.Test.YtgckkocndhfbnaaShelf
import Derived.Lib.RowBridge
namespace Go.Proofs.Ytgckkocndhfbnaa
open Go.RowKit Go.Sort Go.Lib
set_option linter.unusedVariables false
theorem own_shrink {w : World} {base : Nat} {e : TypeId} {size g n c : Nat} {xs : List Value} (h : w.ownsRow base e size (.slice (some ⟨g, 0, none⟩) n c) n xs) {n' : Nat} (hn : n' ≤ n) : w.ownsRow base e size (.slice (some ⟨g, 0, none⟩) n' c) n' (xs.take (n' * size)) := by
  have hm : n' * size ≤ n * size := Nat.mul_le_mul_right _ hn
  refine ⟨by rw [List.length_take, h.1, Nat.min_eq_left hm], ?_⟩
  rcases h.2 with ⟨h0, _⟩ | ⟨g', cap, cur, hv, hb, hg, h1, h2, h3, h4⟩
  · simp at h0
  · simp only [Value.slice.injEq, Option.some.injEq, Addr.mk.injEq, and_true, true_and] at hv
    obtain ⟨rfl, rfl⟩ := hv
    refine .inr ⟨g, c, cur, rfl, hb, hg, by omega, h2, h3, ?_⟩
    rw [← h4, List.take_take, Nat.min_eq_left hm]
theorem holds_own {w : World} {base g c : Nat} {e : TypeId} {D : List Int} (h : w.ownsRow base e 1 (.slice (some ⟨g, 0, none⟩) D.length c) D.length (D.map (Value.int .i64))) : Holds (Value.int .i64) w g 0 D.toArray := by
  intro j hj
  have hj2 : j < D.length := by simpa using hj
  rw [Nat.zero_add]
  refine ⟨?_, h.frozenAt j⟩
  rw [h.cellAt j (by omega), List.getElem?_map, List.getElem?_eq_getElem hj2]
  simp [hj2]
theorem own_put {w : World} {base g c : Nat} {e : TypeId} {D ys : List Int} (q : Nat) (h : w.ownsRow base e 1 (.slice (some ⟨g, 0, none⟩) D.length c) D.length (D.map (Value.int .i64))) (hy : ys.length = D.length) :
    (putRow (Value.int .i64) (Sort.ahead w q) g 0 ys.toArray).ownsRow base e 1 (.slice (some ⟨g, 0, none⟩) D.length c) D.length (ys.map (Value.int .i64)) ∧ w.grownBy (putRow (Value.int .i64) (Sort.ahead w q) g 0 ys.toArray) (some g) := by
  rw [putRow_eq_setCells (Value.int .i64) w g 0 D.toArray ys q (holds_own h) (by simp [hy])]
  have h2 : (w.drewN q).ownsRow base e 1 (.slice (some ⟨g, 0, none⟩) D.length c) D.length (D.map (Value.int .i64)) := h
  have h3 := own_setCells (ys.map (Value.int .i64)) (o := 0) h2
  have e1 : setL (D.map (Value.int .i64)) 0 (ys.map (Value.int .i64)) = ys.map (Value.int .i64) := by
    have h4 := setL_take (ys.map (Value.int .i64)) (D.map (Value.int .i64)) 0 (by simp [hy])
    have hl : (setL (D.map (Value.int .i64)) 0 (ys.map (Value.int .i64))).length = (ys.map (Value.int .i64)).length := by
      have := h3.1.1
      rw [this]; simp [hy]
    rw [Nat.zero_add, List.take_of_length_le (by omega)] at h4
    simpa using h4
  rw [e1] at h3
  exact ⟨h3.1, grown_trans' (⟨rfl, rfl, rfl, Nat.le_refl _, fun _ _ _ => rfl⟩ : w.grownBy (w.drewN q) (some g)) h3.2⟩
theorem grow_own {w : World} {base : Nat} {e : TypeId} {size n : Nat} {v : Value} {xs : List Value} (h : w.ownsRow base e size v n xs) (os : Array Obj) : (Go.Sort.grow w os).ownsRow base e size v n xs ∧ Below w.heap.size w (Go.Sort.grow w os) := by
  have hb : Below w.heap.size w (Go.Sort.grow w os) := ⟨rfl, rfl, rfl, by show w.heap.size ≤ (w.heap ++ os).size; rw [Array.size_append]; omega, fun j hj => by show (w.heap ++ os)[j]? = w.heap[j]?; exact Array.getElem?_append_left hj⟩
  exact ⟨own_below h hb, hb⟩
def setS (D : List Int) : List Int := Lib.compact (D.mergeSort fun x y => decide (x ≤ y))
theorem compact_len (zs : List Int) : (Lib.compact zs).length ≤ zs.length := by
  unfold Lib.compact Lib.compactUpTo
  rw [List.length_map]
  refine Nat.le_trans (List.length_filter_le _ _) ?_
  simp
set_option maxRecDepth 100000 in
set_option maxHeartbeats 2000000 in
theorem sortedSet_c (base g c : Nat) (D : List Int) (w : World) (ho : w.ownsRow base 2 1 (.slice (some ⟨g, 0, none⟩) D.length c) D.length (D.map (Value.int .i64))) (hl : D.length ≤ 1000) :
    Calls Try.prog 69 #[.slice (some ⟨g, 0, none⟩) D.length c] w fun e w' => e = .returned (.slice (some ⟨g, 0, none⟩) (setS D).length c) ∧ w'.ownsRow base 2 1 (.slice (some ⟨g, 0, none⟩) (setS D).length c) (setS D).length ((setS D).map (Value.int .i64)) ∧ w.grownBy w' (some g) := by
  have hgl := own_lt ho
  have hcap := own_cap ho
  obtain ⟨Z, hZ⟩ : ∃ Z, (D.mergeSort fun x y => decide (x ≤ y)) = Z := ⟨_, rfl⟩
  have hZl : Z.length = D.length := by rw [← hZ]; exact List.length_mergeSort _
  have HZL := Lib.hid hZl
  have HS : Hid (setS D = Lib.compact Z) := by show _ = _; unfold setS; rw [hZ]
  have hsrt := Try.slices_Sort_int g 0 c D w (holds_own ho) hgl.2 (by omega)
  rw [hZ] at hsrt
  have HSRT := Lib.hid hsrt
  have HO := Lib.hid ho
  clear hsrt hZ hZl ho
  go_enter Try.func69, Try.ntmps69
  go_wp2_with fail
  refine HSRT.out.mono ?_
  rintro e w1 ⟨rfl, n1, os1, hw1⟩
  have hp := own_put n1 HO.out HZL.out
  have hgr := grow_own hp.1 os1
  rw [← hw1] at hgr
  have HG1 := Lib.hid (grown_trans' hp.2 (grown_of_below hgr.2 _))
  have ho1 : w1.ownsRow base 2 1 (.slice (some ⟨g, 0, none⟩) Z.length c) Z.length (Z.map (Value.int .i64)) := by rw [HZL.out]; exact hgr.1
  have HO1 := Lib.hid ho1
  clear hp hgr hw1 ho1
  have hcmp := Try.slices_Compact_int g 0 c Z w1 (holds_own HO1.out) (by have := HZL.out; omega) (by have := HZL.out; omega)
  rw [HZL.out] at hcmp
  have HCM := Lib.hid hcmp
  clear hcmp
  go_wp2_with fail
  refine HCM.out.mono ?_
  rintro e w2 ⟨rfl, q2, hw2⟩
  have hcl := compact_len Z
  have hp := own_put (ys := Lib.compact Z ++ List.replicate (Z.length - (Lib.compact Z).length) 0) q2 HO1.out (by simp; omega)
  rw [HZL.out] at hp
  rw [← hw2] at hp
  have hs := own_shrink hp.1 (n' := (Lib.compact Z).length) (by have := HZL.out; omega)
  have e1 : ((Lib.compact Z ++ List.replicate (D.length - (Lib.compact Z).length) (0 : Int)).map (Value.int .i64)).take ((Lib.compact Z).length * 1) = (Lib.compact Z).map (Value.int .i64) := by
    rw [List.map_append, Nat.mul_one, List.take_left' (by simp)]
  rw [e1] at hs
  have HFIN := Lib.hid hs
  have HG2 := Lib.hid (grown_trans' HG1.out hp.2)
  clear hp hs hw2 e1
  go_wp2
  go_ret
  rw [HS.out]
  exact ⟨rfl, HFIN.out, HG2.out⟩
end Go.Proofs.Ytgckkocndhfbnaa
