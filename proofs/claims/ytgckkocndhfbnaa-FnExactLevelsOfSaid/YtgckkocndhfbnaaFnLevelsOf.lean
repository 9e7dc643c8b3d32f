/- The walk of the law FnExactLevelsOf: it returns true, and nothing that was there is changed. -/
import Derived.Test.YtgckkocndhfbnaaLevels
namespace Go.Proofs.Ytgckkocndhfbnaa
open Go.RowKit
set_option linter.unusedVariables false

set_option maxRecDepth 100000 in
set_option maxHeartbeats 8000000 in
theorem law_LevelsOf (s : ByteArray) (A : Option Addr) (c : Nat) (L : List MarkD) (w : World) (hls : s.size ≤ maxLen) (hr : Rd w w.heap.size A (L.length * 3) (L.flatMap markC)) (hl : L.length ≤ maxLen) (_ : ∀ x ∈ L, MarkW x) :
    Calls Try.prog 6 #[.string s, .slice A L.length c] w fun e w' => e = .returned (.bool true) ∧ Below w.heap.size w w' := by
  unfold maxLen at hl hls
  by_cases hbig : (1048576 : Int) < s.size
  · go_enter Try.func6, Try.ntmps6
    go_wp2
    go_ret
    exact ⟨rfl, Below.refl _ _⟩
  go_enter Try.func6, Try.ntmps6
  go_wp2_with fail
  refine (szMarkS_c A L.length c 1048576 w (by omega) (by omega) (by omega)).mono ?_
  rintro e w1 ⟨r1, rfl, hr1a, hr1b, hr1c, hb1⟩
  have hB2 := hb1
  have hzw1 := hb1.size
  by_cases hsr1 : r1 < 0
  · go_wp2
    go_ret
    exact ⟨rfl, hB2⟩
  have hr1d := hr1c (by omega)
  go_wp2_with fail
  refine (toMarkS_c A c L w1 (rdW hB2 hr) (by omega)).mono ?_
  rintro e w3 ⟨g3, rfl, ho3, hb3⟩
  have hB4 := bt hB2 hb3
  have hzw3 := hb3.size
  have HLho3 := Lib.hid (World.ownsRow.lt ho3)
  go_wp2_with fail
  refine (spec_LevelsOf s (some ⟨g3, 0, none⟩) L.length L w3 (by omega) (Rd.of_own ho3) (by omega) (by omega)).mono ?_
  rintro e w5 ⟨A5, c5, rfl, ho5, hb5, hq5, hqc5⟩
  have hnb5 := lvsR_len s L
  have hB6 := bt hB4 hb5
  have hzw5 := hb5.size
  replace ho3 := own_below ho3 hb5
  have HLho5 := Lib.hid (World.ownsRow.lt ho5)
  go_wp2_with fail
  refine (toMarkS_c A c L w5 (rdW hB6 hr) (by omega)).mono ?_
  rintro e w7 ⟨g7, rfl, ho7, hb7⟩
  have hB8 := bt hB6 hb7
  have hzw7 := hb7.size
  replace ho3 := own_below ho3 hb7
  replace ho5 := own_below ho5 hb7
  have HLho7 := Lib.hid (World.ownsRow.lt ho7)
  go_wp2_with fail
  refine (impl_LevelsOf s (some ⟨g7, 0, none⟩) L.length L w7 (by omega) (Rd.of_own ho7) (by omega) (by omega)).mono ?_
  rintro e w9 ⟨A9, c9, rfl, ho9, hb9, hq9, hqc9⟩
  have hnb9 := lvsR_len s L
  have hB10 := bt hB8 hb9
  have hzw9 := hb9.size
  replace ho3 := own_below ho3 hb9
  replace ho5 := own_below ho5 hb9
  replace ho7 := own_below ho7 hb9
  have HLho9 := Lib.hid (World.ownsRow.lt ho9)
  go_wp2_with fail
  refine (eqInt64S_c A9 A5 c9 c5 ((lvsR s L).1) w9 (Rd.of_own1 ho9) (Rd.of_own1 ho5) (by omega)).mono ?_
  rintro e w11 ⟨rfl, hb11⟩
  have hB12 := bt hB10 hb11
  have hzw11 := hb11.size
  replace ho3 := own_below ho3 hb11
  replace ho5 := own_below ho5 hb11
  replace ho7 := own_below ho7 hb11
  replace ho9 := own_below ho9 hb11
  go_wp2_with fail
  refine (toMarkS_c A c L w11 (rdW hB12 hr) (by omega)).mono ?_
  rintro e w13 ⟨g13, rfl, ho13, hb13⟩
  have hB14 := bt hB12 hb13
  have hzw13 := hb13.size
  replace ho3 := own_below ho3 hb13
  replace ho5 := own_below ho5 hb13
  replace ho7 := own_below ho7 hb13
  replace ho9 := own_below ho9 hb13
  have HLho13 := Lib.hid (World.ownsRow.lt ho13)
  go_wp2_with fail
  refine (eqMarkS_c (some ⟨g7, 0, none⟩) (some ⟨g13, 0, none⟩) L.length L.length L w13 (Rd.of_own ho7) (Rd.of_own ho13) (by omega)).mono ?_
  rintro e w15 ⟨rfl, hb15⟩
  have hB16 := bt hB14 hb15
  have hzw15 := hb15.size
  replace ho3 := own_below ho3 hb15
  replace ho5 := own_below ho5 hb15
  replace ho7 := own_below ho7 hb15
  replace ho9 := own_below ho9 hb15
  replace ho13 := own_below ho13 hb15
  go_wp2_with fail
  refine (markMarkS_c (some ⟨g7, 0, none⟩) L.length L.length _ _ 1 w15 ho7 (by omega) (by omega) (by omega)).mono ?_
  rintro e w17 ⟨rfl, ho7x, hg17⟩
  replace ho7 := ho7x; clear ho7x
  have hB18 := below_grown hB16 hg17 (Nat.le_refl _) (fun k hk => by have := HLho7.out k hk; omega)
  have hzw17 := hg17.size
  replace ho3 := ho3.kept hg17 (own_ne HLho3.out HLho7.out (by omega))
  replace ho5 := ho5.kept hg17 (own_ne HLho5.out HLho7.out (by omega))
  replace ho9 := ho9.kept hg17 (own_ne HLho9.out HLho7.out (by omega))
  replace ho13 := ho13.kept hg17 (own_ne HLho13.out HLho7.out (by omega))
  go_wp2_with fail
  refine (eqInt64S_c A9 A5 c9 c5 ((lvsR s L).1) w17 (Rd.of_own1 ho9) (Rd.of_own1 ho5) (by omega)).mono ?_
  rintro e w19 ⟨rfl, hb19⟩
  have hB20 := bt hB18 hb19
  have hzw19 := hb19.size
  replace ho3 := own_below ho3 hb19
  replace ho5 := own_below ho5 hb19
  replace ho7 := own_below ho7 hb19
  replace ho9 := own_below ho9 hb19
  replace ho13 := own_below ho13 hb19
  go_wp2_with fail
  refine (markInt64S_c A9 ((lvsR s L).1).length c9 _ _ 1 w19 ho9 (by omega) (by omega) (by omega)).mono ?_
  rintro e w21 ⟨rfl, ho9x, hg21⟩
  replace ho9 := ho9x; clear ho9x
  have hB22 := below_grown hB20 hg21 (Nat.le_refl _) (fun k hk => by have := HLho9.out k hk; omega)
  have hzw21 := hg21.size
  replace ho3 := ho3.kept hg21 (own_ne HLho3.out HLho9.out (by omega))
  replace ho5 := ho5.kept hg21 (own_ne HLho5.out HLho9.out (by omega))
  replace ho7 := ho7.kept hg21 (own_ne HLho7.out HLho9.out (by omega))
  replace ho13 := ho13.kept hg21 (own_ne HLho13.out HLho9.out (by omega))
  go_wp2_with fail
  refine (heldInt64S_c A9 ((lvsR s L).1).length c9 1 w21 (Rd.of_own1 ho9) (by omega) (by omega) (by omega)).mono ?_
  rintro e w23 ⟨rfl, hb23⟩
  have hB24 := bt hB22 hb23
  have hzw23 := hb23.size
  replace ho3 := own_below ho3 hb23
  replace ho5 := own_below ho5 hb23
  replace ho7 := own_below ho7 hb23
  replace ho9 := own_below ho9 hb23
  replace ho13 := own_below ho13 hb23
  go_wp2_with fail
  refine (toMarkS_c A c L w23 (rdW hB24 hr) (by omega)).mono ?_
  rintro e w25 ⟨g25, rfl, ho25, hb25⟩
  have hB26 := bt hB24 hb25
  have hzw25 := hb25.size
  replace ho3 := own_below ho3 hb25
  replace ho5 := own_below ho5 hb25
  replace ho7 := own_below ho7 hb25
  replace ho9 := own_below ho9 hb25
  replace ho13 := own_below ho13 hb25
  have HLho25 := Lib.hid (World.ownsRow.lt ho25)
  go_wp2_with fail
  refine (impl_LevelsOf s (some ⟨g25, 0, none⟩) L.length L w25 (by omega) (Rd.of_own ho25) (by omega) (by omega)).mono ?_
  rintro e w27 ⟨A27, c27, rfl, ho27, hb27, hq27, hqc27⟩
  have hnb27 := lvsR_len s L
  have hB28 := bt hB26 hb27
  have hzw27 := hb27.size
  replace ho3 := own_below ho3 hb27
  replace ho5 := own_below ho5 hb27
  replace ho7 := own_below ho7 hb27
  replace ho9 := own_below ho9 hb27
  replace ho13 := own_below ho13 hb27
  replace ho25 := own_below ho25 hb27
  have HLho27 := Lib.hid (World.ownsRow.lt ho27)
  go_wp2_with fail
  refine (eqInt64S_c A27 A5 c27 c5 ((lvsR s L).1) w27 (Rd.of_own1 ho27) (Rd.of_own1 ho5) (by omega)).mono ?_
  rintro e w29 ⟨rfl, hb29⟩
  have hB30 := bt hB28 hb29
  have hzw29 := hb29.size
  replace ho3 := own_below ho3 hb29
  replace ho5 := own_below ho5 hb29
  replace ho7 := own_below ho7 hb29
  replace ho9 := own_below ho9 hb29
  replace ho13 := own_below ho13 hb29
  replace ho25 := own_below ho25 hb29
  replace ho27 := own_below ho27 hb29
  go_wp2_with fail
  refine (heldInt64S_c A9 ((lvsR s L).1).length c9 1 w29 (Rd.of_own1 ho9) (by omega) (by omega) (by omega)).mono ?_
  rintro e w31 ⟨rfl, hb31⟩
  have hB32 := bt hB30 hb31
  have hzw31 := hb31.size
  replace ho3 := own_below ho3 hb31
  replace ho5 := own_below ho5 hb31
  replace ho7 := own_below ho7 hb31
  replace ho9 := own_below ho9 hb31
  replace ho13 := own_below ho13 hb31
  replace ho25 := own_below ho25 hb31
  replace ho27 := own_below ho27 hb31
  go_wp2
  go_ret
  exact ⟨rfl, hB32⟩
end Go.Proofs.Ytgckkocndhfbnaa
