/- The walk of the law FnExactMissingOf: it returns true, and nothing that was there is changed. -/
import Derived.Test.YtilanpmjemlopaaTpl21
import Derived.Test.YtilanpmjemlopaaMaxW
namespace Go.Proofs.Ytilanpmjemlopaa
open Go.RowKit
set_option linter.unusedVariables false
theorem missN_len (s : ByteArray) (V : List ValueD) : (missN s V).length ≤ 1200 := by
  unfold missN
  cases h : tplOf s with
  | none => simp
  | some T =>
    simp only []
    split
    · exact Nat.le_trans (missV_len V T) (tpl_wt h)
    · simp
set_option maxRecDepth 100000 in
set_option maxHeartbeats 8000000 in
theorem law_MissingOf (s : ByteArray) (A : Option Addr) (c : Nat) (L : List ValueD) (w : World) (hls : s.size ≤ maxLen) (hr : Rd w w.heap.size A (L.length * 2) (L.flatMap valueC)) (hl : L.length ≤ maxLen) (hW : ∀ x ∈ L, ValueW x) (hM : MaxW w) :
    Calls Try.prog 3 #[.string s, .slice A L.length c] w fun e w' => e = .returned (.bool true) ∧ Below w.heap.size w w' := by
  unfold maxLen at hl hls
  by_cases hbig : (1048576 : Int) < s.size
  · go_enter Try.func3, Try.ntmps3
    go_wp2
    go_ret
    exact ⟨rfl, by first | exact Below.refl _ _ | exact (Below.refl _ _).alloc (Nat.le_refl _) _⟩
  obtain ⟨mx, hmx⟩ := hM
  have hmb := block_lt_of_cell hmx
  have HMX := Lib.hid hmx
  clear hmx
  go_enter Try.func3, Try.ntmps3
  go_wp2_with fail
  refine (szValueS_c A c L 1048576 w hr (by omega) hW (by omega) (by omega)).mono ?_
  rintro e w1 ⟨r1, rfl, hr1a, hr1b, hr1c, hb1⟩
  have hB2 := hb1
  have hzw1 := hb1.size
  by_cases hsr1 : r1 < 0
  · go_wp2
    go_ret
    exact ⟨rfl, hB2⟩
  have hr1d := hr1c (by omega)
  go_wp2_with fail
  refine (toValueS_c A c L w1 (rdW hB2 hr) (by omega)).mono ?_
  rintro e w3 ⟨g3, rfl, ho3, hb3⟩
  have hB4 := bt hB2 hb3
  have hzw3 := hb3.size
  have HLho3 := Lib.hid (World.ownsRow.lt ho3)
  go_wp2_with fail
  refine (spec_MissingOf s (some ⟨g3, 0, none⟩) L.length L w3 (by omega) (Rd.of_own ho3) (by omega) (by omega) hW).mono ?_
  rintro e w5 ⟨A5, c5, rfl, ho5, hb5, hq5, hqc5⟩
  have hnb5 := missN_len s L
  have hB6 := bt hB4 hb5
  have hzw5 := hb5.size
  replace ho3 := own_below ho3 hb5
  have HLho5 := Lib.hid (World.ownsRow.lt ho5)
  go_wp2_with fail
  refine (toValueS_c A c L w5 (rdW hB6 hr) (by omega)).mono ?_
  rintro e w7 ⟨g7, rfl, ho7, hb7⟩
  have hB8 := bt hB6 hb7
  have hzw7 := hb7.size
  replace ho3 := own_below ho3 hb7
  replace ho5 := own_below ho5 hb7
  have HLho7 := Lib.hid (World.ownsRow.lt ho7)
  go_wp2_with fail
  refine (impl_MissingOf s (some ⟨g7, 0, none⟩) L.length L w7 (by omega) mx ((hB8.cell (p := ⟨_, 0, none⟩) hmb).trans HMX.out) (Rd.of_own ho7) (by omega) (by omega) hW).mono ?_
  rintro e w9 ⟨A9, c9, rfl, ho9, hb9, hq9, hqc9⟩
  have hnb9 := missN_len s L
  have hB10 := bt hB8 hb9
  have hzw9 := hb9.size
  replace ho3 := own_below ho3 hb9
  replace ho5 := own_below ho5 hb9
  replace ho7 := own_below ho7 hb9
  have HLho9 := Lib.hid (World.ownsRow.lt ho9)
  go_wp2_with fail
  refine (eqStringS_c A9 A5 c9 c5 (missN s L) w9 (Rd.of_own1 ho9) (Rd.of_own1 ho5) (by omega)).mono ?_
  rintro e w11 ⟨rfl, hb11⟩
  have hB12 := bt hB10 hb11
  have hzw11 := hb11.size
  replace ho3 := own_below ho3 hb11
  replace ho5 := own_below ho5 hb11
  replace ho7 := own_below ho7 hb11
  replace ho9 := own_below ho9 hb11
  go_wp2_with fail
  refine (toValueS_c A c L w11 (rdW hB12 hr) (by omega)).mono ?_
  rintro e w13 ⟨g13, rfl, ho13, hb13⟩
  have hB14 := bt hB12 hb13
  have hzw13 := hb13.size
  replace ho3 := own_below ho3 hb13
  replace ho5 := own_below ho5 hb13
  replace ho7 := own_below ho7 hb13
  replace ho9 := own_below ho9 hb13
  have HLho13 := Lib.hid (World.ownsRow.lt ho13)
  go_wp2_with fail
  refine (eqValueS_c (some ⟨g7, 0, none⟩) (some ⟨g13, 0, none⟩) L.length L.length L w13 (Rd.of_own ho7) (Rd.of_own ho13) (by omega)).mono ?_
  rintro e w15 ⟨rfl, hb15⟩
  have hB16 := bt hB14 hb15
  have hzw15 := hb15.size
  replace ho3 := own_below ho3 hb15
  replace ho5 := own_below ho5 hb15
  replace ho7 := own_below ho7 hb15
  replace ho9 := own_below ho9 hb15
  replace ho13 := own_below ho13 hb15
  go_wp2_with fail
  refine (markValueS_c (some ⟨g7, 0, none⟩) L.length L.length _ _ 1 w15 ho7 (by omega) (by omega) (by omega)).mono ?_
  rintro e w17 ⟨rfl, ho7x, hg17⟩
  replace ho7 := ho7x; clear ho7x
  have hB18 := below_grown hB16 hg17 (Nat.le_refl _) (fun k hk => by have := HLho7.out k hk; omega)
  have hzw17 := hg17.size
  replace ho3 := ho3.kept hg17 (own_ne HLho3.out HLho7.out (by omega))
  replace ho5 := ho5.kept hg17 (own_ne HLho5.out HLho7.out (by omega))
  replace ho9 := ho9.kept hg17 (own_ne HLho9.out HLho7.out (by omega))
  replace ho13 := ho13.kept hg17 (own_ne HLho13.out HLho7.out (by omega))
  go_wp2_with fail
  refine (eqStringS_c A9 A5 c9 c5 (missN s L) w17 (Rd.of_own1 ho9) (Rd.of_own1 ho5) (by omega)).mono ?_
  rintro e w19 ⟨rfl, hb19⟩
  have hB20 := bt hB18 hb19
  have hzw19 := hb19.size
  replace ho3 := own_below ho3 hb19
  replace ho5 := own_below ho5 hb19
  replace ho7 := own_below ho7 hb19
  replace ho9 := own_below ho9 hb19
  replace ho13 := own_below ho13 hb19
  go_wp2_with fail
  refine (markStringS_c A9 (missN s L).length c9 _ _ 1 w19 ho9 (by omega) (by omega) (by omega)).mono ?_
  rintro e w21 ⟨rfl, ho9x, hg21⟩
  replace ho9 := ho9x; clear ho9x
  have hB22 := below_grown hB20 hg21 (Nat.le_refl _) (fun k hk => by have := HLho9.out k hk; omega)
  have hzw21 := hg21.size
  replace ho3 := ho3.kept hg21 (own_ne HLho3.out HLho9.out (by omega))
  replace ho5 := ho5.kept hg21 (own_ne HLho5.out HLho9.out (by omega))
  replace ho7 := ho7.kept hg21 (own_ne HLho7.out HLho9.out (by omega))
  replace ho13 := ho13.kept hg21 (own_ne HLho13.out HLho9.out (by omega))
  go_wp2_with fail
  refine (heldStringS_c A9 (missN s L).length c9 1 w21 (Rd.of_own1 ho9) (by omega) (by omega) (by omega)).mono ?_
  rintro e w23 ⟨rfl, hb23⟩
  have hB24 := bt hB22 hb23
  have hzw23 := hb23.size
  replace ho3 := own_below ho3 hb23
  replace ho5 := own_below ho5 hb23
  replace ho7 := own_below ho7 hb23
  replace ho9 := own_below ho9 hb23
  replace ho13 := own_below ho13 hb23
  go_wp2_with fail
  refine (toValueS_c A c L w23 (rdW hB24 hr) (by omega)).mono ?_
  rintro e w25 ⟨g25, rfl, ho25, hb25⟩
  have hB26 := bt hB24 hb25
  have hzw25 := hb25.size
  replace ho3 := own_below ho3 hb25
  replace ho5 := own_below ho5 hb25
  replace ho7 := own_below ho7 hb25
  replace ho9 := own_below ho9 hb25
  replace ho13 := own_below ho13 hb25
  have HLho25 := Lib.hid (World.ownsRow.lt ho25)
  go_wp2_with fail
  refine (impl_MissingOf s (some ⟨g25, 0, none⟩) L.length L w25 (by omega) mx ((hB26.cell (p := ⟨_, 0, none⟩) hmb).trans HMX.out) (Rd.of_own ho25) (by omega) (by omega) hW).mono ?_
  rintro e w27 ⟨A27, c27, rfl, ho27, hb27, hq27, hqc27⟩
  have hnb27 := missN_len s L
  have hB28 := bt hB26 hb27
  have hzw27 := hb27.size
  replace ho3 := own_below ho3 hb27
  replace ho5 := own_below ho5 hb27
  replace ho7 := own_below ho7 hb27
  replace ho9 := own_below ho9 hb27
  replace ho13 := own_below ho13 hb27
  replace ho25 := own_below ho25 hb27
  have HLho27 := Lib.hid (World.ownsRow.lt ho27)
  go_wp2_with fail
  refine (eqStringS_c A27 A5 c27 c5 (missN s L) w27 (Rd.of_own1 ho27) (Rd.of_own1 ho5) (by omega)).mono ?_
  rintro e w29 ⟨rfl, hb29⟩
  have hB30 := bt hB28 hb29
  have hzw29 := hb29.size
  replace ho3 := own_below ho3 hb29
  replace ho5 := own_below ho5 hb29
  replace ho7 := own_below ho7 hb29
  replace ho9 := own_below ho9 hb29
  replace ho13 := own_below ho13 hb29
  replace ho25 := own_below ho25 hb29
  replace ho27 := own_below ho27 hb29
  go_wp2_with fail
  refine (heldStringS_c A9 (missN s L).length c9 1 w29 (Rd.of_own1 ho9) (by omega) (by omega) (by omega)).mono ?_
  rintro e w31 ⟨rfl, hb31⟩
  have hB32 := bt hB30 hb31
  have hzw31 := hb31.size
  replace ho3 := own_below ho3 hb31
  replace ho5 := own_below ho5 hb31
  replace ho7 := own_below ho7 hb31
  replace ho9 := own_below ho9 hb31
  replace ho13 := own_below ho13 hb31
  replace ho25 := own_below ho25 hb31
  replace ho27 := own_below ho27 hb31
  go_wp2
  go_ret
  exact ⟨rfl, hB32⟩
end Go.Proofs.Ytilanpmjemlopaa
