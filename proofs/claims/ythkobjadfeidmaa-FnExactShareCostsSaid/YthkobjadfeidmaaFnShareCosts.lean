/- The walk of the law FnExactShareCosts: it returns true, and nothing that was there is changed. -/
import Derived.Test.YthkobjadfeidmaaShareS
namespace Go.Proofs.Ythkobjadfeidmaa
open Go.RowKit
set_option linter.unusedVariables false

theorem shareF_len (cents : Int) (D : List Int) : (shareF cents D).length ≤ D.length := by
  unfold shareF; split
  · rw [shareOf, (shareN_len _ _ _ _).2, quoD_len]; exact Nat.le_refl _
  · simp
set_option maxRecDepth 100000 in
set_option maxHeartbeats 8000000 in
theorem law_ShareCosts (cents : Int) (A : Option Addr) (c : Nat) (D : List Int) (w : World) (_ : (Lit.int .i64 cents).wf = true) (hr : Rd w w.heap.size A D.length (D.map (Value.int .i64))) (hl : D.length ≤ maxLen) (_ : ∀ x ∈ D, (Lit.int .i64 x).wf = true) :
    Calls Try.prog 3 #[.int .i64 cents, .slice A D.length c] w fun e w' => e = .returned (.bool true) ∧ Below w.heap.size w w' := by
  unfold maxLen at hl
  by_cases hbig : (1048576 : Int) < D.length
  · go_enter Try.func3, Try.ntmps3
    go_wp2
    go_ret
    exact ⟨rfl, Below.refl _ _⟩
  go_enter Try.func3, Try.ntmps3
  go_wp2_with fail
  refine (toInt64S_c A c D w hr (by omega)).mono ?_
  rintro e w1 ⟨g1, rfl, ho1, hb1⟩
  have hB2 := hb1
  have hzw1 := hb1.size
  have HLho1 := Lib.hid (World.ownsRow.lt ho1)
  go_wp2_with fail
  refine (spec_ShareCosts cents (some ⟨g1, 0, none⟩) D.length D w1 (Rd.of_own1 ho1) (by omega) (by omega)).mono ?_
  rintro e w3 ⟨A3, c3, rfl, ho3, hb3, hq3, hqc3⟩
  have hnb3 := shareF_len cents D
  have hB4 := bt hB2 hb3
  have hzw3 := hb3.size
  replace ho1 := own_below ho1 hb3
  have HLho3 := Lib.hid (World.ownsRow.lt ho3)
  go_wp2_with fail
  refine (toInt64S_c A c D w3 (rdW hB4 hr) (by omega)).mono ?_
  rintro e w5 ⟨g5, rfl, ho5, hb5⟩
  have hB6 := bt hB4 hb5
  have hzw5 := hb5.size
  replace ho1 := own_below ho1 hb5
  replace ho3 := own_below ho3 hb5
  have HLho5 := Lib.hid (World.ownsRow.lt ho5)
  go_wp2_with fail
  refine (impl_ShareCosts cents (some ⟨g5, 0, none⟩) D.length D w5 (Rd.of_own1 ho5) (by omega) (by omega)).mono ?_
  rintro e w7 ⟨A7, c7, rfl, ho7, hb7, hq7, hqc7⟩
  have hnb7 := shareF_len cents D
  have hB8 := bt hB6 hb7
  have hzw7 := hb7.size
  replace ho1 := own_below ho1 hb7
  replace ho3 := own_below ho3 hb7
  replace ho5 := own_below ho5 hb7
  have HLho7 := Lib.hid (World.ownsRow.lt ho7)
  go_wp2_with fail
  refine (eqInt64S_c A7 A3 c7 c3 ((shareF cents D)) w7 (Rd.of_own1 ho7) (Rd.of_own1 ho3) (by omega)).mono ?_
  rintro e w9 ⟨rfl, hb9⟩
  have hB10 := bt hB8 hb9
  have hzw9 := hb9.size
  replace ho1 := own_below ho1 hb9
  replace ho3 := own_below ho3 hb9
  replace ho5 := own_below ho5 hb9
  replace ho7 := own_below ho7 hb9
  go_wp2_with fail
  refine (toInt64S_c A c D w9 (rdW hB10 hr) (by omega)).mono ?_
  rintro e w11 ⟨g11, rfl, ho11, hb11⟩
  have hB12 := bt hB10 hb11
  have hzw11 := hb11.size
  replace ho1 := own_below ho1 hb11
  replace ho3 := own_below ho3 hb11
  replace ho5 := own_below ho5 hb11
  replace ho7 := own_below ho7 hb11
  have HLho11 := Lib.hid (World.ownsRow.lt ho11)
  go_wp2_with fail
  refine (eqInt64S_c (some ⟨g5, 0, none⟩) (some ⟨g11, 0, none⟩) D.length D.length D w11 (Rd.of_own1 ho5) (Rd.of_own1 ho11) (by omega)).mono ?_
  rintro e w13 ⟨rfl, hb13⟩
  have hB14 := bt hB12 hb13
  have hzw13 := hb13.size
  replace ho1 := own_below ho1 hb13
  replace ho3 := own_below ho3 hb13
  replace ho5 := own_below ho5 hb13
  replace ho7 := own_below ho7 hb13
  replace ho11 := own_below ho11 hb13
  go_wp2_with fail
  refine (markInt64S_c (some ⟨g5, 0, none⟩) D.length D.length _ _ 1 w13 ho5 (by omega) (by omega) (by omega)).mono ?_
  rintro e w15 ⟨rfl, ho5x, hg15⟩
  replace ho5 := ho5x; clear ho5x
  have hB16 := below_grown hB14 hg15 (Nat.le_refl _) (fun k hk => by have := HLho5.out k hk; omega)
  have hzw15 := hg15.size
  replace ho1 := ho1.kept hg15 (own_ne HLho1.out HLho5.out (by omega))
  replace ho3 := ho3.kept hg15 (own_ne HLho3.out HLho5.out (by omega))
  replace ho7 := ho7.kept hg15 (own_ne HLho7.out HLho5.out (by omega))
  replace ho11 := ho11.kept hg15 (own_ne HLho11.out HLho5.out (by omega))
  go_wp2_with fail
  refine (eqInt64S_c A7 A3 c7 c3 ((shareF cents D)) w15 (Rd.of_own1 ho7) (Rd.of_own1 ho3) (by omega)).mono ?_
  rintro e w17 ⟨rfl, hb17⟩
  have hB18 := bt hB16 hb17
  have hzw17 := hb17.size
  replace ho1 := own_below ho1 hb17
  replace ho3 := own_below ho3 hb17
  replace ho5 := own_below ho5 hb17
  replace ho7 := own_below ho7 hb17
  replace ho11 := own_below ho11 hb17
  go_wp2_with fail
  refine (markInt64S_c A7 ((shareF cents D)).length c7 _ _ 1 w17 ho7 (by omega) (by omega) (by omega)).mono ?_
  rintro e w19 ⟨rfl, ho7x, hg19⟩
  replace ho7 := ho7x; clear ho7x
  have hB20 := below_grown hB18 hg19 (Nat.le_refl _) (fun k hk => by have := HLho7.out k hk; omega)
  have hzw19 := hg19.size
  replace ho1 := ho1.kept hg19 (own_ne HLho1.out HLho7.out (by omega))
  replace ho3 := ho3.kept hg19 (own_ne HLho3.out HLho7.out (by omega))
  replace ho5 := ho5.kept hg19 (own_ne HLho5.out HLho7.out (by omega))
  replace ho11 := ho11.kept hg19 (own_ne HLho11.out HLho7.out (by omega))
  go_wp2_with fail
  refine (heldInt64S_c A7 ((shareF cents D)).length c7 1 w19 (Rd.of_own1 ho7) (by omega) (by omega) (by omega)).mono ?_
  rintro e w21 ⟨rfl, hb21⟩
  have hB22 := bt hB20 hb21
  have hzw21 := hb21.size
  replace ho1 := own_below ho1 hb21
  replace ho3 := own_below ho3 hb21
  replace ho5 := own_below ho5 hb21
  replace ho7 := own_below ho7 hb21
  replace ho11 := own_below ho11 hb21
  go_wp2_with fail
  refine (toInt64S_c A c D w21 (rdW hB22 hr) (by omega)).mono ?_
  rintro e w23 ⟨g23, rfl, ho23, hb23⟩
  have hB24 := bt hB22 hb23
  have hzw23 := hb23.size
  replace ho1 := own_below ho1 hb23
  replace ho3 := own_below ho3 hb23
  replace ho5 := own_below ho5 hb23
  replace ho7 := own_below ho7 hb23
  replace ho11 := own_below ho11 hb23
  have HLho23 := Lib.hid (World.ownsRow.lt ho23)
  go_wp2_with fail
  refine (impl_ShareCosts cents (some ⟨g23, 0, none⟩) D.length D w23 (Rd.of_own1 ho23) (by omega) (by omega)).mono ?_
  rintro e w25 ⟨A25, c25, rfl, ho25, hb25, hq25, hqc25⟩
  have hnb25 := shareF_len cents D
  have hB26 := bt hB24 hb25
  have hzw25 := hb25.size
  replace ho1 := own_below ho1 hb25
  replace ho3 := own_below ho3 hb25
  replace ho5 := own_below ho5 hb25
  replace ho7 := own_below ho7 hb25
  replace ho11 := own_below ho11 hb25
  replace ho23 := own_below ho23 hb25
  have HLho25 := Lib.hid (World.ownsRow.lt ho25)
  go_wp2_with fail
  refine (eqInt64S_c A25 A3 c25 c3 ((shareF cents D)) w25 (Rd.of_own1 ho25) (Rd.of_own1 ho3) (by omega)).mono ?_
  rintro e w27 ⟨rfl, hb27⟩
  have hB28 := bt hB26 hb27
  have hzw27 := hb27.size
  replace ho1 := own_below ho1 hb27
  replace ho3 := own_below ho3 hb27
  replace ho5 := own_below ho5 hb27
  replace ho7 := own_below ho7 hb27
  replace ho11 := own_below ho11 hb27
  replace ho23 := own_below ho23 hb27
  replace ho25 := own_below ho25 hb27
  go_wp2_with fail
  refine (heldInt64S_c A7 ((shareF cents D)).length c7 1 w27 (Rd.of_own1 ho7) (by omega) (by omega) (by omega)).mono ?_
  rintro e w29 ⟨rfl, hb29⟩
  have hB30 := bt hB28 hb29
  have hzw29 := hb29.size
  replace ho1 := own_below ho1 hb29
  replace ho3 := own_below ho3 hb29
  replace ho5 := own_below ho5 hb29
  replace ho7 := own_below ho7 hb29
  replace ho11 := own_below ho11 hb29
  replace ho23 := own_below ho23 hb29
  replace ho25 := own_below ho25 hb29
  go_wp2
  go_ret
  exact ⟨rfl, hB30⟩
end Go.Proofs.Ythkobjadfeidmaa
