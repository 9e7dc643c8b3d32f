/- The walk of the law FnExactDecideAppeal: it returns true, and nothing that was there is changed. -/
import Derived.Test.YtmpdbkkaknmdnaaAppChg4
namespace Go.Proofs.Ytmpdbkkaknmdnaa
open Go.RowKit
set_option linter.unusedVariables false

set_option maxRecDepth 100000 in
set_option maxHeartbeats 8000000 in
theorem law_DecideAppeal (AH : Option Addr) (cH : Nat) (H : List Int) (J : Int) (A : Option Addr) (c : Nat) (L : List AppealD) (res day : Int) (w : World) (hrH : Rd w w.heap.size AH H.length (H.map (Value.int .i64))) (hlH : H.length ≤ maxLen) (_ : ∀ x ∈ H, (Lit.int .i64 x).wf = true) (_ : (Lit.int .i64 J).wf = true) (hr : Rd w w.heap.size A (L.length * 5) (L.flatMap appealC)) (hl : L.length ≤ maxLen) (_ : ∀ x ∈ L, AppealW x) (_ : (Lit.int .i64 res).wf = true) (_ : (Lit.int .i64 day).wf = true) :
    Calls Try.prog 9 #[.slice AH H.length cH, .int .i64 J, .slice A L.length c, .int .i64 res, .int .i64 day] w fun e w' => e = .returned (.bool true) ∧ Below w.heap.size w w' := by
  unfold maxLen at hl hlH
  by_cases hbig : (1048576 : Int) < H.length
  · go_enter Try.func9, Try.ntmps9
    go_wp2
    go_ret
    exact ⟨rfl, Below.refl _ _⟩
  go_enter Try.func9, Try.ntmps9
  go_wp2_with fail
  refine (szAppealS_c A L.length c 1048576 w (by omega) (by omega) (by omega)).mono ?_
  rintro e w1 ⟨r1, rfl, hr1a, hr1b, hr1c, hb1⟩
  have hB2 := hb1
  have hzw1 := hb1.size
  by_cases hsr1 : r1 < 0
  · go_wp2
    go_ret
    exact ⟨rfl, hB2⟩
  have hr1d := hr1c (by omega)
  go_wp2_with fail
  refine (toInt64S_c AH cH H w1 (rdW hB2 hrH) (by omega)).mono ?_
  rintro e w3 ⟨g3, rfl, ho3, hb3⟩
  have hB4 := bt hB2 hb3
  have hzw3 := hb3.size
  have HLho3 := Lib.hid (World.ownsRow.lt ho3)
  go_wp2_with fail
  refine (toAppealS_c A c L w3 (rdW hB4 hr) (by omega)).mono ?_
  rintro e w5 ⟨g5, rfl, ho5, hb5⟩
  have hB6 := bt hB4 hb5
  have hzw5 := hb5.size
  replace ho3 := own_below ho3 hb5
  have HLho5 := Lib.hid (World.ownsRow.lt ho5)
  go_wp2_with fail
  refine (spec_DecideAppeal (some ⟨g3, 0, none⟩) H.length H J (some ⟨g5, 0, none⟩) L.length L res day w5 (Rd.of_own1 ho3) (by omega) (by omega) (Rd.of_own ho5) (by omega) (by omega)).mono ?_
  rintro e w7 ⟨A7, c7, rfl, ho7, hb7, hq7, hqc7⟩
  have hnb7 := decR_len H J L res day
  have hB8 := bt hB6 hb7
  have hzw7 := hb7.size
  replace ho3 := own_below ho3 hb7
  replace ho5 := own_below ho5 hb7
  have HLho7 := Lib.hid (World.ownsRow.lt ho7)
  go_wp2_with fail
  refine (toInt64S_c AH cH H w7 (rdW hB8 hrH) (by omega)).mono ?_
  rintro e w9 ⟨g9, rfl, ho9, hb9⟩
  have hB10 := bt hB8 hb9
  have hzw9 := hb9.size
  replace ho3 := own_below ho3 hb9
  replace ho5 := own_below ho5 hb9
  replace ho7 := own_below ho7 hb9
  have HLho9 := Lib.hid (World.ownsRow.lt ho9)
  go_wp2_with fail
  refine (toAppealS_c A c L w9 (rdW hB10 hr) (by omega)).mono ?_
  rintro e w11 ⟨g11, rfl, ho11, hb11⟩
  have hB12 := bt hB10 hb11
  have hzw11 := hb11.size
  replace ho3 := own_below ho3 hb11
  replace ho5 := own_below ho5 hb11
  replace ho7 := own_below ho7 hb11
  replace ho9 := own_below ho9 hb11
  have HLho11 := Lib.hid (World.ownsRow.lt ho11)
  go_wp2_with fail
  refine (impl_DecideAppeal (some ⟨g9, 0, none⟩) H.length H J (some ⟨g11, 0, none⟩) L.length L res day w11 (Rd.of_own1 ho9) (by omega) (by omega) (Rd.of_own ho11) (by omega) (by omega)).mono ?_
  rintro e w13 ⟨A13, c13, rfl, ho13, hb13, hq13, hqc13⟩
  have hnb13 := decR_len H J L res day
  have hB14 := bt hB12 hb13
  have hzw13 := hb13.size
  replace ho3 := own_below ho3 hb13
  replace ho5 := own_below ho5 hb13
  replace ho7 := own_below ho7 hb13
  replace ho9 := own_below ho9 hb13
  replace ho11 := own_below ho11 hb13
  have HLho13 := Lib.hid (World.ownsRow.lt ho13)
  go_wp2_with fail
  refine (eqAppealS_c A13 A7 c13 c7 ((decR H J L res day).1) w13 (Rd.of_own ho13) (Rd.of_own ho7) (by omega)).mono ?_
  rintro e w15 ⟨rfl, hb15⟩
  have hB16 := bt hB14 hb15
  have hzw15 := hb15.size
  replace ho3 := own_below ho3 hb15
  replace ho5 := own_below ho5 hb15
  replace ho7 := own_below ho7 hb15
  replace ho9 := own_below ho9 hb15
  replace ho11 := own_below ho11 hb15
  replace ho13 := own_below ho13 hb15
  go_wp2_with fail
  refine (toInt64S_c AH cH H w15 (rdW hB16 hrH) (by omega)).mono ?_
  rintro e w17 ⟨g17, rfl, ho17, hb17⟩
  have hB18 := bt hB16 hb17
  have hzw17 := hb17.size
  replace ho3 := own_below ho3 hb17
  replace ho5 := own_below ho5 hb17
  replace ho7 := own_below ho7 hb17
  replace ho9 := own_below ho9 hb17
  replace ho11 := own_below ho11 hb17
  replace ho13 := own_below ho13 hb17
  have HLho17 := Lib.hid (World.ownsRow.lt ho17)
  go_wp2_with fail
  refine (eqInt64S_c (some ⟨g9, 0, none⟩) (some ⟨g17, 0, none⟩) H.length H.length H w17 (Rd.of_own1 ho9) (Rd.of_own1 ho17) (by omega)).mono ?_
  rintro e w19 ⟨rfl, hb19⟩
  have hB20 := bt hB18 hb19
  have hzw19 := hb19.size
  replace ho3 := own_below ho3 hb19
  replace ho5 := own_below ho5 hb19
  replace ho7 := own_below ho7 hb19
  replace ho9 := own_below ho9 hb19
  replace ho11 := own_below ho11 hb19
  replace ho13 := own_below ho13 hb19
  replace ho17 := own_below ho17 hb19
  go_wp2_with fail
  refine (toAppealS_c A c L w19 (rdW hB20 hr) (by omega)).mono ?_
  rintro e w21 ⟨g21, rfl, ho21, hb21⟩
  have hB22 := bt hB20 hb21
  have hzw21 := hb21.size
  replace ho3 := own_below ho3 hb21
  replace ho5 := own_below ho5 hb21
  replace ho7 := own_below ho7 hb21
  replace ho9 := own_below ho9 hb21
  replace ho11 := own_below ho11 hb21
  replace ho13 := own_below ho13 hb21
  replace ho17 := own_below ho17 hb21
  have HLho21 := Lib.hid (World.ownsRow.lt ho21)
  go_wp2_with fail
  refine (eqAppealS_c (some ⟨g11, 0, none⟩) (some ⟨g21, 0, none⟩) L.length L.length L w21 (Rd.of_own ho11) (Rd.of_own ho21) (by omega)).mono ?_
  rintro e w23 ⟨rfl, hb23⟩
  have hB24 := bt hB22 hb23
  have hzw23 := hb23.size
  replace ho3 := own_below ho3 hb23
  replace ho5 := own_below ho5 hb23
  replace ho7 := own_below ho7 hb23
  replace ho9 := own_below ho9 hb23
  replace ho11 := own_below ho11 hb23
  replace ho13 := own_below ho13 hb23
  replace ho17 := own_below ho17 hb23
  replace ho21 := own_below ho21 hb23
  go_wp2_with fail
  refine (markInt64S_c (some ⟨g9, 0, none⟩) H.length H.length _ _ 1 w23 ho9 (by omega) (by omega) (by omega)).mono ?_
  rintro e w25 ⟨rfl, ho9x, hg25⟩
  replace ho9 := ho9x; clear ho9x
  have hB26 := below_grown hB24 hg25 (Nat.le_refl _) (fun k hk => by have := HLho9.out k hk; omega)
  have hzw25 := hg25.size
  replace ho3 := ho3.kept hg25 (own_ne HLho3.out HLho9.out (by omega))
  replace ho5 := ho5.kept hg25 (own_ne HLho5.out HLho9.out (by omega))
  replace ho7 := ho7.kept hg25 (own_ne HLho7.out HLho9.out (by omega))
  replace ho11 := ho11.kept hg25 (own_ne HLho11.out HLho9.out (by omega))
  replace ho13 := ho13.kept hg25 (own_ne HLho13.out HLho9.out (by omega))
  replace ho17 := ho17.kept hg25 (own_ne HLho17.out HLho9.out (by omega))
  replace ho21 := ho21.kept hg25 (own_ne HLho21.out HLho9.out (by omega))
  go_wp2_with fail
  refine (markAppealS_c (some ⟨g11, 0, none⟩) L.length L.length _ _ (1 + (H.length : Nat)) w25 ho11 (by omega) (by omega) (by omega)).mono ?_
  rintro e w27 ⟨rfl, ho11x, hg27⟩
  replace ho11 := ho11x; clear ho11x
  have hB28 := below_grown hB26 hg27 (Nat.le_refl _) (fun k hk => by have := HLho11.out k hk; omega)
  have hzw27 := hg27.size
  replace ho3 := ho3.kept hg27 (own_ne HLho3.out HLho11.out (by omega))
  replace ho5 := ho5.kept hg27 (own_ne HLho5.out HLho11.out (by omega))
  replace ho7 := ho7.kept hg27 (own_ne HLho7.out HLho11.out (by omega))
  replace ho9 := ho9.kept hg27 (own_ne HLho9.out HLho11.out (by omega))
  replace ho13 := ho13.kept hg27 (own_ne HLho13.out HLho11.out (by omega))
  replace ho17 := ho17.kept hg27 (own_ne HLho17.out HLho11.out (by omega))
  replace ho21 := ho21.kept hg27 (own_ne HLho21.out HLho11.out (by omega))
  go_wp2_with fail
  refine (eqAppealS_c A13 A7 c13 c7 ((decR H J L res day).1) w27 (Rd.of_own ho13) (Rd.of_own ho7) (by omega)).mono ?_
  rintro e w29 ⟨rfl, hb29⟩
  have hB30 := bt hB28 hb29
  have hzw29 := hb29.size
  replace ho3 := own_below ho3 hb29
  replace ho5 := own_below ho5 hb29
  replace ho7 := own_below ho7 hb29
  replace ho9 := own_below ho9 hb29
  replace ho11 := own_below ho11 hb29
  replace ho13 := own_below ho13 hb29
  replace ho17 := own_below ho17 hb29
  replace ho21 := own_below ho21 hb29
  go_wp2_with fail
  refine (markAppealS_c A13 ((decR H J L res day).1).length c13 _ _ 1 w29 ho13 (by omega) (by omega) (by omega)).mono ?_
  rintro e w31 ⟨rfl, ho13x, hg31⟩
  replace ho13 := ho13x; clear ho13x
  have hB32 := below_grown hB30 hg31 (Nat.le_refl _) (fun k hk => by have := HLho13.out k hk; omega)
  have hzw31 := hg31.size
  replace ho3 := ho3.kept hg31 (own_ne HLho3.out HLho13.out (by omega))
  replace ho5 := ho5.kept hg31 (own_ne HLho5.out HLho13.out (by omega))
  replace ho7 := ho7.kept hg31 (own_ne HLho7.out HLho13.out (by omega))
  replace ho9 := ho9.kept hg31 (own_ne HLho9.out HLho13.out (by omega))
  replace ho11 := ho11.kept hg31 (own_ne HLho11.out HLho13.out (by omega))
  replace ho17 := ho17.kept hg31 (own_ne HLho17.out HLho13.out (by omega))
  replace ho21 := ho21.kept hg31 (own_ne HLho21.out HLho13.out (by omega))
  go_wp2_with fail
  refine (heldAppealS_c A13 ((decR H J L res day).1).length c13 1 w31 (Rd.of_own ho13) (by omega) (by omega) (by omega)).mono ?_
  rintro e w33 ⟨rfl, hb33⟩
  have hB34 := bt hB32 hb33
  have hzw33 := hb33.size
  replace ho3 := own_below ho3 hb33
  replace ho5 := own_below ho5 hb33
  replace ho7 := own_below ho7 hb33
  replace ho9 := own_below ho9 hb33
  replace ho11 := own_below ho11 hb33
  replace ho13 := own_below ho13 hb33
  replace ho17 := own_below ho17 hb33
  replace ho21 := own_below ho21 hb33
  go_wp2_with fail
  refine (toInt64S_c AH cH H w33 (rdW hB34 hrH) (by omega)).mono ?_
  rintro e w35 ⟨g35, rfl, ho35, hb35⟩
  have hB36 := bt hB34 hb35
  have hzw35 := hb35.size
  replace ho3 := own_below ho3 hb35
  replace ho5 := own_below ho5 hb35
  replace ho7 := own_below ho7 hb35
  replace ho9 := own_below ho9 hb35
  replace ho11 := own_below ho11 hb35
  replace ho13 := own_below ho13 hb35
  replace ho17 := own_below ho17 hb35
  replace ho21 := own_below ho21 hb35
  have HLho35 := Lib.hid (World.ownsRow.lt ho35)
  go_wp2_with fail
  refine (toAppealS_c A c L w35 (rdW hB36 hr) (by omega)).mono ?_
  rintro e w37 ⟨g37, rfl, ho37, hb37⟩
  have hB38 := bt hB36 hb37
  have hzw37 := hb37.size
  replace ho3 := own_below ho3 hb37
  replace ho5 := own_below ho5 hb37
  replace ho7 := own_below ho7 hb37
  replace ho9 := own_below ho9 hb37
  replace ho11 := own_below ho11 hb37
  replace ho13 := own_below ho13 hb37
  replace ho17 := own_below ho17 hb37
  replace ho21 := own_below ho21 hb37
  replace ho35 := own_below ho35 hb37
  have HLho37 := Lib.hid (World.ownsRow.lt ho37)
  go_wp2_with fail
  refine (impl_DecideAppeal (some ⟨g35, 0, none⟩) H.length H J (some ⟨g37, 0, none⟩) L.length L res day w37 (Rd.of_own1 ho35) (by omega) (by omega) (Rd.of_own ho37) (by omega) (by omega)).mono ?_
  rintro e w39 ⟨A39, c39, rfl, ho39, hb39, hq39, hqc39⟩
  have hnb39 := decR_len H J L res day
  have hB40 := bt hB38 hb39
  have hzw39 := hb39.size
  replace ho3 := own_below ho3 hb39
  replace ho5 := own_below ho5 hb39
  replace ho7 := own_below ho7 hb39
  replace ho9 := own_below ho9 hb39
  replace ho11 := own_below ho11 hb39
  replace ho13 := own_below ho13 hb39
  replace ho17 := own_below ho17 hb39
  replace ho21 := own_below ho21 hb39
  replace ho35 := own_below ho35 hb39
  replace ho37 := own_below ho37 hb39
  have HLho39 := Lib.hid (World.ownsRow.lt ho39)
  go_wp2_with fail
  refine (eqAppealS_c A39 A7 c39 c7 ((decR H J L res day).1) w39 (Rd.of_own ho39) (Rd.of_own ho7) (by omega)).mono ?_
  rintro e w41 ⟨rfl, hb41⟩
  have hB42 := bt hB40 hb41
  have hzw41 := hb41.size
  replace ho3 := own_below ho3 hb41
  replace ho5 := own_below ho5 hb41
  replace ho7 := own_below ho7 hb41
  replace ho9 := own_below ho9 hb41
  replace ho11 := own_below ho11 hb41
  replace ho13 := own_below ho13 hb41
  replace ho17 := own_below ho17 hb41
  replace ho21 := own_below ho21 hb41
  replace ho35 := own_below ho35 hb41
  replace ho37 := own_below ho37 hb41
  replace ho39 := own_below ho39 hb41
  go_wp2_with fail
  refine (heldAppealS_c A13 ((decR H J L res day).1).length c13 1 w41 (Rd.of_own ho13) (by omega) (by omega) (by omega)).mono ?_
  rintro e w43 ⟨rfl, hb43⟩
  have hB44 := bt hB42 hb43
  have hzw43 := hb43.size
  replace ho3 := own_below ho3 hb43
  replace ho5 := own_below ho5 hb43
  replace ho7 := own_below ho7 hb43
  replace ho9 := own_below ho9 hb43
  replace ho11 := own_below ho11 hb43
  replace ho13 := own_below ho13 hb43
  replace ho17 := own_below ho17 hb43
  replace ho21 := own_below ho21 hb43
  replace ho35 := own_below ho35 hb43
  replace ho37 := own_below ho37 hb43
  replace ho39 := own_below ho39 hb43
  go_wp2
  go_ret
  exact ⟨rfl, hB44⟩
end Go.Proofs.Ytmpdbkkaknmdnaa
