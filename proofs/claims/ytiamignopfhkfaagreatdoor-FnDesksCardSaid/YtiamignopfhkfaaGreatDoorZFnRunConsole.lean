/- The walk of the law FnExactRunConsole: it returns true, and nothing that was there is changed. -/
import Derived.Test.YtiamignopfhkfaaGreatDoorZRunI
import Derived.Test.YtiamignopfhkfaaGreatDoorZStr2
namespace Go.Proofs.YtiamignopfhkfaaGreatDoor
open Go.RowKit
set_option linter.unusedVariables false
theorem JEnvM.below {w w' : World} (h : JEnv w ∧ MaxW w) (hb : Below w.heap.size w w') : JEnv w' ∧ MaxW w' := ⟨h.1.below hb, h.2.elim fun m hm => ⟨m, (hb.cell (block_lt_of_cell hm)).trans hm⟩⟩
set_option maxRecDepth 100000 in
set_option maxHeartbeats 4000000 in
theorem law_RunConsole (s : ByteArray) (w : World) (hs : s.size ≤ maxLen) (hE : JEnv w ∧ MaxW w) :
    Calls Tryz.prog 6 #[.string s] w fun e w' => e = .returned (.bool true) ∧ Below w.heap.size w w' := by
  unfold maxLen at hs
  by_cases hbig : (1048576 : Int) < s.size
  · go_enter Tryz.func6, Tryz.ntmps6
    go_wp2
    go_ret
    exact ⟨rfl, Below.refl _ _⟩
  have h2 : s.size ≤ 2000000 := by omega
  have HS := Lib.hid (fun W => spec_RunConsole s W h2)
  have HI := Lib.hid (fun (W : World) (hb : Below w.heap.size w W) => impl_RunConsole s W h2 (JEnvM.below hE hb).1 (JEnvM.below hE hb).2)
  unfold ConP at HS HI
  have hn := outT_len s
  generalize outT s = X at *
  generalize codeT s = q at *
  go_enter Tryz.func6, Tryz.ntmps6
  go_wp2_with fail
  refine (HS.out w).mono ?_
  rintro e w1 ⟨A1, c1, rfl, ho1, hb1, -, -⟩
  have hB1 := hb1
  have H1 := Lib.hid ho1.lt
  go_wp2_with fail
  refine (HI.out w1 hB1).mono ?_
  rintro e w2 ⟨A2, c2, rfl, ho2, hb2, -, -⟩
  have hB2 := bt hB1 hb2
  have hz2 := hB2.size
  have hz12 := hb2.size
  have hz01 := hb1.size
  replace ho1 := own_below ho1 hb2
  have H2 := Lib.hid ho2.lt
  go_wp2_with fail
  refine (eqStringS_c A2 A1 c2 c1 X w2 (Rd.of_own1 ho2) (Rd.of_own1 ho1) (by omega)).mono ?_
  rintro e w3 ⟨rfl, hb3⟩
  have hB3 := bt hB2 hb3
  have hz3 := hb3.size
  replace ho1 := own_below ho1 hb3
  replace ho2 := own_below ho2 hb3
  go_wp2_with fail
  refine (markStringS_c A2 X.length c2 _ _ 1 w3 ho2 (by omega) (by omega) (by omega)).mono ?_
  rintro e w4 ⟨rfl, ho2x, hg4⟩
  have hB4 := below_grown hB3 hg4 (Nat.le_refl _) (fun k hk => by have := (H2.out k hk).1; omega)
  have hz4 := hg4.size
  replace ho1 := ho1.kept hg4 (own_ne H1.out H2.out (by omega))
  go_wp2_with fail
  refine (heldStringS_c A2 X.length c2 1 w4 (Rd.of_own1 ho2x) (by omega) (by omega) (by omega)).mono ?_
  rintro e w5 ⟨rfl, hb5⟩
  have hB5 := bt hB4 hb5
  have hz5 := hb5.size
  replace ho1 := own_below ho1 hb5
  replace ho2x := own_below ho2x hb5
  go_wp2_with fail
  refine (HI.out w5 hB5).mono ?_
  rintro e w6 ⟨A6, c6, rfl, ho6, hb6, -, -⟩
  have hB6 := bt hB5 hb6
  have hz6 := hb6.size
  replace ho1 := own_below ho1 hb6
  replace ho2x := own_below ho2x hb6
  go_wp2_with fail
  refine (eqStringS_c A6 A1 c6 c1 X w6 (Rd.of_own1 ho6) (Rd.of_own1 ho1) (by omega)).mono ?_
  rintro e w7 ⟨rfl, hb7⟩
  have hB7 := bt hB6 hb7
  have hz7 := hb7.size
  replace ho2x := own_below ho2x hb7
  go_wp2_with fail
  refine (heldStringS_c A2 X.length c2 1 w7 (Rd.of_own1 ho2x) (by omega) (by omega) (by omega)).mono ?_
  rintro e w8 ⟨rfl, hb8⟩
  have hB8 := bt hB7 hb8
  go_wp2
  go_ret
  exact ⟨rfl, hB8⟩
end Go.Proofs.YtiamignopfhkfaaGreatDoor
