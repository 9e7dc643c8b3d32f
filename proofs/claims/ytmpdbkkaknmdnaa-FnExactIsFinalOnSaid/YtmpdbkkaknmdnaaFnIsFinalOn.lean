/- The walk of the law FnExactIsFinalOn: it returns true, and nothing that was there is changed. -/
import Derived.Test.YtmpdbkkaknmdnaaAppFin
namespace Go.Proofs.Ytmpdbkkaknmdnaa
open Go.RowKit
set_option linter.unusedVariables false

set_option maxRecDepth 100000 in
set_option maxHeartbeats 8000000 in
theorem law_IsFinalOn (AH : Option Addr) (cH : Nat) (H : List Int) (J : Int) (A : Option Addr) (c : Nat) (L : List AppealD) (day : Int) (w : World) (hrH : Rd w w.heap.size AH H.length (H.map (Value.int .i64))) (hlH : H.length ≤ maxLen) (_ : ∀ x ∈ H, (Lit.int .i64 x).wf = true) (_ : (Lit.int .i64 J).wf = true) (hr : Rd w w.heap.size A (L.length * 5) (L.flatMap appealC)) (hl : L.length ≤ maxLen) (_ : ∀ x ∈ L, AppealW x) (_ : (Lit.int .i64 day).wf = true) :
    Calls Try.prog 7 #[.slice AH H.length cH, .int .i64 J, .slice A L.length c, .int .i64 day] w fun e w' => e = .returned (.bool true) ∧ Below w.heap.size w w' := by
  unfold maxLen at hl hlH
  by_cases hbig : (1048576 : Int) < H.length
  · go_enter Try.func7, Try.ntmps7
    go_wp2
    go_ret
    exact ⟨rfl, Below.refl _ _⟩
  go_enter Try.func7, Try.ntmps7
  go_wp2_with fail
  refine (szAppealS_c A L.length c 1048576 w (by omega) (by omega) (by omega)).mono ?_
  rintro e w1 ⟨r1, rfl, hr1a, hr1b, hr1c, hb1⟩
  have hB2 := hb1
  have hzw1 := hb1.size
  by_cases hsr1 : r1 < 0
  · go_wp2
    go_ret
    exact ⟨rfl, hB2⟩
  have hr1d := hr1c (by omega)
  go_wp2_with fail
  refine (toInt64S_c AH cH H w1 (rdW hB2 hrH) (by omega)).mono ?_
  rintro e w3 ⟨g3, rfl, ho3, hb3⟩
  have hB4 := bt hB2 hb3
  have hzw3 := hb3.size
  have HLho3 := Lib.hid (World.ownsRow.lt ho3)
  go_wp2_with fail
  refine (toAppealS_c A c L w3 (rdW hB4 hr) (by omega)).mono ?_
  rintro e w5 ⟨g5, rfl, ho5, hb5⟩
  have hB6 := bt hB4 hb5
  have hzw5 := hb5.size
  replace ho3 := own_below ho3 hb5
  have HLho5 := Lib.hid (World.ownsRow.lt ho5)
  go_wp2_with fail
  refine (spec_IsFinalOn (some ⟨g3, 0, none⟩) H.length H J (some ⟨g5, 0, none⟩) L.length L day w5 (Rd.of_own1 ho3) (by omega) (by omega) (Rd.of_own ho5) (by omega) (by omega)).mono ?_
  rintro e w7 ⟨rfl, hb7⟩
  have hB8 := bt hB6 hb7
  have hzw7 := hb7.size
  replace ho3 := own_below ho3 hb7
  replace ho5 := own_below ho5 hb7
  go_wp2_with fail
  refine (toInt64S_c AH cH H w7 (rdW hB8 hrH) (by omega)).mono ?_
  rintro e w9 ⟨g9, rfl, ho9, hb9⟩
  have hB10 := bt hB8 hb9
  have hzw9 := hb9.size
  replace ho3 := own_below ho3 hb9
  replace ho5 := own_below ho5 hb9
  have HLho9 := Lib.hid (World.ownsRow.lt ho9)
  go_wp2_with fail
  refine (toAppealS_c A c L w9 (rdW hB10 hr) (by omega)).mono ?_
  rintro e w11 ⟨g11, rfl, ho11, hb11⟩
  have hB12 := bt hB10 hb11
  have hzw11 := hb11.size
  replace ho3 := own_below ho3 hb11
  replace ho5 := own_below ho5 hb11
  replace ho9 := own_below ho9 hb11
  have HLho11 := Lib.hid (World.ownsRow.lt ho11)
  go_wp2_with fail
  refine (impl_IsFinalOn (some ⟨g9, 0, none⟩) H.length H J (some ⟨g11, 0, none⟩) L.length L day w11 (Rd.of_own1 ho9) (by omega) (by omega) (Rd.of_own ho11) (by omega) (by omega)).mono ?_
  rintro e w13 ⟨rfl, hb13⟩
  have hB14 := bt hB12 hb13
  have hzw13 := hb13.size
  replace ho3 := own_below ho3 hb13
  replace ho5 := own_below ho5 hb13
  replace ho9 := own_below ho9 hb13
  replace ho11 := own_below ho11 hb13
  go_wp2_with fail
  refine (toInt64S_c AH cH H w13 (rdW hB14 hrH) (by omega)).mono ?_
  rintro e w15 ⟨g15, rfl, ho15, hb15⟩
  have hB16 := bt hB14 hb15
  have hzw15 := hb15.size
  replace ho3 := own_below ho3 hb15
  replace ho5 := own_below ho5 hb15
  replace ho9 := own_below ho9 hb15
  replace ho11 := own_below ho11 hb15
  have HLho15 := Lib.hid (World.ownsRow.lt ho15)
  go_wp2_with fail
  refine (eqInt64S_c (some ⟨g9, 0, none⟩) (some ⟨g15, 0, none⟩) H.length H.length H w15 (Rd.of_own1 ho9) (Rd.of_own1 ho15) (by omega)).mono ?_
  rintro e w17 ⟨rfl, hb17⟩
  have hB18 := bt hB16 hb17
  have hzw17 := hb17.size
  replace ho3 := own_below ho3 hb17
  replace ho5 := own_below ho5 hb17
  replace ho9 := own_below ho9 hb17
  replace ho11 := own_below ho11 hb17
  replace ho15 := own_below ho15 hb17
  go_wp2_with fail
  refine (toAppealS_c A c L w17 (rdW hB18 hr) (by omega)).mono ?_
  rintro e w19 ⟨g19, rfl, ho19, hb19⟩
  have hB20 := bt hB18 hb19
  have hzw19 := hb19.size
  replace ho3 := own_below ho3 hb19
  replace ho5 := own_below ho5 hb19
  replace ho9 := own_below ho9 hb19
  replace ho11 := own_below ho11 hb19
  replace ho15 := own_below ho15 hb19
  have HLho19 := Lib.hid (World.ownsRow.lt ho19)
  go_wp2_with fail
  refine (eqAppealS_c (some ⟨g11, 0, none⟩) (some ⟨g19, 0, none⟩) L.length L.length L w19 (Rd.of_own ho11) (Rd.of_own ho19) (by omega)).mono ?_
  rintro e w21 ⟨rfl, hb21⟩
  have hB22 := bt hB20 hb21
  have hzw21 := hb21.size
  replace ho3 := own_below ho3 hb21
  replace ho5 := own_below ho5 hb21
  replace ho9 := own_below ho9 hb21
  replace ho11 := own_below ho11 hb21
  replace ho15 := own_below ho15 hb21
  replace ho19 := own_below ho19 hb21
  go_wp2
  go_ret
  exact ⟨rfl, hB22⟩
end Go.Proofs.Ytmpdbkkaknmdnaa
