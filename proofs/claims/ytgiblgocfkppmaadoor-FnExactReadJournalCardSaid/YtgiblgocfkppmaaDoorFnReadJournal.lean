/- The walk of the law FnExactReadJournal: it returns true, and nothing that was there is changed. -/
import Derived.Test.YtgiblgocfkppmaaDoorRd6
namespace Go.Proofs.YtgiblgocfkppmaaDoor
open Go.RowKit
set_option linter.unusedVariables false

set_option maxRecDepth 100000 in
set_option maxHeartbeats 8000000 in
theorem law_ReadJournal (s : ByteArray) (w : World) (hs : s.size ≤ maxLen) (hE : JEnv w) :
    Calls Tryd.prog 8 #[.string s] w fun e w' => e = .returned (.bool true) ∧ Below w.heap.size w w' := by
  unfold maxLen at hs
  by_cases hbig : (1048576 : Int) < s.size
  · go_enter Tryd.func8, Tryd.ntmps8
    go_wp2
    go_ret
    exact ⟨rfl, Below.refl _ _⟩
  have HENV := Lib.hid hE
  clear hE
  go_enter Tryd.func8, Tryd.ntmps8
  go_wp2_with fail
  refine (spec_ReadJournal s w  (by omega)).mono ?_
  rintro e w1 ⟨A1, c1, rfl, ho1, hb1, hq1, hqc1⟩
  have hnb1 := rdAll_len s
  have hw1 := ents_w (rdAll_all s)
  have hB2 := hb1
  have hzw1 := hb1.size
  have HLho1 := Lib.hid (World.ownsRow.lt ho1)
  go_wp2_with fail
  refine (impl_ReadJournal s w1  (by omega) (HENV.out.below hB2)).mono ?_
  rintro e w3 ⟨A3, c3, rfl, ho3, hb3, hq3, hqc3⟩
  have hnb3 := rdAll_len s
  have hw3 := ents_w (rdAll_all s)
  have hB4 := bt hB2 hb3
  have hzw3 := hb3.size
  replace ho1 := own_below ho1 hb3
  have HLho3 := Lib.hid (World.ownsRow.lt ho3)
  go_wp2_with fail
  refine (eqEntryS_c A3 A1 c3 c1 ((rdAll s).1) w3 (Rd.of_own ho3) (Rd.of_own ho1) (by omega)).mono ?_
  rintro e w5 ⟨rfl, hb5⟩
  have hB6 := bt hB4 hb5
  have hzw5 := hb5.size
  replace ho1 := own_below ho1 hb5
  replace ho3 := own_below ho3 hb5
  go_wp2_with fail
  refine (markEntryS_c A3 ((rdAll s).1).length c3 _ _ 1 w5 ho3 (by omega) (by omega) (by omega)).mono ?_
  rintro e w7 ⟨rfl, ho3x, hg7⟩
  replace ho3 := ho3x; clear ho3x
  have hB8 := below_grown hB6 hg7 (Nat.le_refl _) (fun k hk => by have := HLho3.out k hk; omega)
  have hzw7 := hg7.size
  replace ho1 := ho1.kept hg7 (own_ne HLho1.out HLho3.out (by omega))
  go_wp2_with fail
  refine (heldEntryS_c A3 ((rdAll s).1).length c3 1 w7 (Rd.of_own ho3) (by omega) (by omega) (by omega)).mono ?_
  rintro e w9 ⟨rfl, hb9⟩
  have hB10 := bt hB8 hb9
  have hzw9 := hb9.size
  replace ho1 := own_below ho1 hb9
  replace ho3 := own_below ho3 hb9
  go_wp2_with fail
  refine (impl_ReadJournal s w9  (by omega) (HENV.out.below hB10)).mono ?_
  rintro e w11 ⟨A11, c11, rfl, ho11, hb11, hq11, hqc11⟩
  have hnb11 := rdAll_len s
  have hw11 := ents_w (rdAll_all s)
  have hB12 := bt hB10 hb11
  have hzw11 := hb11.size
  replace ho1 := own_below ho1 hb11
  replace ho3 := own_below ho3 hb11
  have HLho11 := Lib.hid (World.ownsRow.lt ho11)
  go_wp2_with fail
  refine (eqEntryS_c A11 A1 c11 c1 ((rdAll s).1) w11 (Rd.of_own ho11) (Rd.of_own ho1) (by omega)).mono ?_
  rintro e w13 ⟨rfl, hb13⟩
  have hB14 := bt hB12 hb13
  have hzw13 := hb13.size
  replace ho1 := own_below ho1 hb13
  replace ho3 := own_below ho3 hb13
  replace ho11 := own_below ho11 hb13
  go_wp2_with fail
  refine (heldEntryS_c A3 ((rdAll s).1).length c3 1 w13 (Rd.of_own ho3) (by omega) (by omega) (by omega)).mono ?_
  rintro e w15 ⟨rfl, hb15⟩
  have hB16 := bt hB14 hb15
  have hzw15 := hb15.size
  replace ho1 := own_below ho1 hb15
  replace ho3 := own_below ho3 hb15
  replace ho11 := own_below ho11 hb15
  go_wp2
  go_ret
  exact ⟨rfl, hB16⟩
end Go.Proofs.YtgiblgocfkppmaaDoor
