/- The walk of the law FnExactAddMark: it returns true, and nothing that was there is changed. -/
import Derived.Test.YtgckkocndhfbnaaAddM
namespace Go.Proofs.Ytgckkocndhfbnaa
open Go.RowKit
set_option linter.unusedVariables false

set_option maxRecDepth 100000 in
set_option maxHeartbeats 8000000 in
theorem law_AddMark (s : ByteArray) (A : Option Addr) (c : Nat) (L : List MarkD) (y0 y1 y2 : Int) (w : World) (hls : s.size ≤ maxLen) (hr : Rd w w.heap.size A (L.length * 3) (L.flatMap markC)) (hl : L.length ≤ maxLen) (_ : ∀ x ∈ L, MarkW x) (_ : (Lit.int .i64 y0).wf = true) (_ : (Lit.int .i64 y1).wf = true) (_ : (Lit.int .i64 y2).wf = true) :
    Calls Try.prog 4 #[.string s, .slice A L.length c, .agg #[.int .i64 y0, .int .i64 y1, .int .i64 y2]] w fun e w' => e = .returned (.bool true) ∧ Below w.heap.size w w' := by
  unfold maxLen at hl hls
  by_cases hbig : (1048576 : Int) < s.size
  · go_enter Try.func4, Try.ntmps4
    go_wp2
    go_ret
    exact ⟨rfl, by repeat (first | exact Below.refl _ _ | refine Below.alloc ?_ (by (try simp) <;> (try omega)) _)⟩
  go_enter Try.func4, Try.ntmps4
  go_wp2_with fail
  generalize hW1 : w.alloc _ = W1
  have hbW1 : Below w.heap.size w W1 := by subst hW1; exact (Below.refl _ _).alloc (Nat.le_refl _) _
  have hsW1 : W1.heap.size = w.heap.size + 1 := by subst hW1; simp
  have cxW1_0 : ∀ i, W1.cell? ⟨w.heap.size, i, none⟩ = (#[.int .i64 y0, .int .i64 y1, .int .i64 y2] : Array Value)[i]? := by intro i; subst hW1; simp [go_sem]
  have HSW1 := Lib.hid hsW1; clear hW1 hsW1
  have hgW1 := HSW1.out; clear HSW1
  have hzW1 : w.heap.size + 1 ≤ W1.heap.size := by omega
  clear hgW1
  have hB2 := hbW1
  go_wp2_with fail
  refine (szMarkS_c A L.length c 1048576 W1 (by omega) (by omega) (by omega)).mono ?_
  rintro e w3 ⟨r3, rfl, hr3a, hr3b, hr3c, hb3⟩
  have hB4 := bt hB2 hb3
  have hzw3 := hb3.size
  replace cxW1_0 := fun i => (hb3.cell (by (try simp only); omega)).trans (cxW1_0 i)
  by_cases hsr3 : r3 < 0
  · go_wp2
    go_ret
    exact ⟨rfl, hB4⟩
  have hr3d := hr3c (by omega)
  go_wp2_with fail
  have HKd : Hid (∀ W1 : World, Below w3.heap.size w3 W1 → ((∀ i, W1.cell? ⟨w.heap.size, i, none⟩ = (#[.int .i64 y0, .int .i64 y1, .int .i64 y2] : Array Value)[i]?) ∧ Below w3.heap.size w3 W1)) := fun W1 h => ⟨fun i => (h.cell (p := ⟨w.heap.size, i, none⟩) (by (try simp only); omega)).trans (cxW1_0 i), h⟩
  go_region_held3 (fun W1 => (∀ i, W1.cell? ⟨w.heap.size, i, none⟩ = (#[.int .i64 y0, .int .i64 y1, .int .i64 y2] : Array Value)[i]?) ∧ Below w3.heap.size w3 W1) (first | exact HKd.out _ ((Below.refl _ _).drew) | exact HKd.out _ (bt (by assumption) hb5) | exact HKd.out _ (bt (by assumption) hb6) | exact HKd.out _ (bt (by assumption) hb7))
    ((first | (go_at_call 22; go_split_ands; refine (toMarkS_c A c L _ (by exact rdW (bt hB4 (by assumption)) hr) (by omega)).mono ?_; rintro e w5 ⟨g5, rfl, ho5, hb5⟩) | (go_at_call 23; go_split_ands; refine (toMark_c y0 y1 y2 _).mono ?_; rintro e w6 ⟨rfl, hb6⟩) | (go_at_call 21; go_split_ands; refine (spec_AddMark s (some ⟨g5, 0, none⟩) L.length L y0 y1 y2 _ (by omega) (Rd.of_own (own_below ho5 hb6)) (by omega) (by omega) (.inr ⟨_, _, rfl⟩)).mono ?_; rintro e w7 ⟨A7, c7, rfl, ho7, hb7, hq7, hqc7⟩)))
  obtain ⟨cy8_0, hR8⟩ := HKd.out w7 (bt (bt (bt (by assumption) hb5) hb6) hb7)
  replace cxW1_0 := cy8_0; clear cy8_0
  clear HKd
  have hB9 := bt hB4 hR8
  have hz8 := hR8.size
  have hzw5 := hb5.size
  replace ho5 := own_below ho5 hb6
  have hzw6 := hb6.size
  replace ho5 := own_below ho5 hb7
  have hzw7 := hb7.size
  have hnb7 := addR_len s L ⟨y0, y1, y2⟩
  have HLho5 := Lib.hid (World.ownsRow.lt ho5)
  have HLho7 := Lib.hid (World.ownsRow.lt ho7)
  go_wp2_with fail
  refine (toMarkS_c A c L w7 (rdW hB9 hr) (by omega)).mono ?_
  rintro e w10 ⟨g10, rfl, ho10, hb10⟩
  have hB11 := bt hB9 hb10
  have hzw10 := hb10.size
  replace cxW1_0 := fun i => (hb10.cell (by (try simp only); omega)).trans (cxW1_0 i)
  replace ho5 := own_below ho5 hb10
  replace ho7 := own_below ho7 hb10
  have HLho10 := Lib.hid (World.ownsRow.lt ho10)
  go_wp2_with fail
  refine (toMark_c y0 y1 y2 _).mono ?_
  rintro e w12 ⟨rfl, hb12⟩
  have hB13 := bt hB11 hb12
  have hzw12 := hb12.size
  replace cxW1_0 := fun i => (hb12.cell (by (try simp only); omega)).trans (cxW1_0 i)
  replace ho5 := own_below ho5 hb12
  replace ho7 := own_below ho7 hb12
  replace ho10 := own_below ho10 hb12
  go_wp2_with fail
  refine (impl_AddMark s (some ⟨g10, 0, none⟩) L.length L y0 y1 y2 w12 (by omega) (Rd.of_own ho10) (by omega) (by omega)).mono ?_
  rintro e w14 ⟨A14, c14, rfl, ho14, hb14, hq14, hqc14⟩
  have hnb14 := addR_len s L ⟨y0, y1, y2⟩
  have hB15 := bt hB13 hb14
  have hzw14 := hb14.size
  replace cxW1_0 := fun i => (hb14.cell (by (try simp only); omega)).trans (cxW1_0 i)
  replace ho5 := own_below ho5 hb14
  replace ho7 := own_below ho7 hb14
  replace ho10 := own_below ho10 hb14
  have HLho14 := Lib.hid (World.ownsRow.lt ho14)
  go_wp2_with fail
  refine (eqMarkS_c A14 A7 c14 c7 ((addR s L ⟨y0, y1, y2⟩).1) w14 (Rd.of_own ho14) (Rd.of_own ho7) (by omega)).mono ?_
  rintro e w16 ⟨rfl, hb16⟩
  have hB17 := bt hB15 hb16
  have hzw16 := hb16.size
  replace cxW1_0 := fun i => (hb16.cell (by (try simp only); omega)).trans (cxW1_0 i)
  replace ho5 := own_below ho5 hb16
  replace ho7 := own_below ho7 hb16
  replace ho10 := own_below ho10 hb16
  replace ho14 := own_below ho14 hb16
  go_wp2_with fail
  refine (toMarkS_c A c L w16 (rdW hB17 hr) (by omega)).mono ?_
  rintro e w18 ⟨g18, rfl, ho18, hb18⟩
  have hB19 := bt hB17 hb18
  have hzw18 := hb18.size
  replace cxW1_0 := fun i => (hb18.cell (by (try simp only); omega)).trans (cxW1_0 i)
  replace ho5 := own_below ho5 hb18
  replace ho7 := own_below ho7 hb18
  replace ho10 := own_below ho10 hb18
  replace ho14 := own_below ho14 hb18
  have HLho18 := Lib.hid (World.ownsRow.lt ho18)
  go_wp2_with fail
  refine (eqMarkS_c (some ⟨g10, 0, none⟩) (some ⟨g18, 0, none⟩) L.length L.length L w18 (Rd.of_own ho10) (Rd.of_own ho18) (by omega)).mono ?_
  rintro e w20 ⟨rfl, hb20⟩
  have hB21 := bt hB19 hb20
  have hzw20 := hb20.size
  replace cxW1_0 := fun i => (hb20.cell (by (try simp only); omega)).trans (cxW1_0 i)
  replace ho5 := own_below ho5 hb20
  replace ho7 := own_below ho7 hb20
  replace ho10 := own_below ho10 hb20
  replace ho14 := own_below ho14 hb20
  replace ho18 := own_below ho18 hb20
  go_wp2_with fail
  refine (markMarkS_c (some ⟨g10, 0, none⟩) L.length L.length _ _ 1 w20 ho10 (by omega) (by omega) (by omega)).mono ?_
  rintro e w22 ⟨rfl, ho10x, hg22⟩
  replace ho10 := ho10x; clear ho10x
  have hB23 := below_grown hB21 hg22 (Nat.le_refl _) (fun k hk => by have := HLho10.out k hk; omega)
  have hzw22 := hg22.size
  replace cxW1_0 := fun i => (World.cell?_of_block (a := ⟨w.heap.size, i, none⟩) (hg22.block _ (by (try simp only); omega) (fun e => by have := HLho10.out _ e.symm; (try simp only at this); omega))).trans (cxW1_0 i)
  replace ho5 := ho5.kept hg22 (own_ne HLho5.out HLho10.out (by omega))
  replace ho7 := ho7.kept hg22 (own_ne HLho7.out HLho10.out (by omega))
  replace ho14 := ho14.kept hg22 (own_ne HLho14.out HLho10.out (by omega))
  replace ho18 := ho18.kept hg22 (own_ne HLho18.out HLho10.out (by omega))
  go_wp2_with fail
  refine (eqMarkS_c A14 A7 c14 c7 ((addR s L ⟨y0, y1, y2⟩).1) w22 (Rd.of_own ho14) (Rd.of_own ho7) (by omega)).mono ?_
  rintro e w24 ⟨rfl, hb24⟩
  have hB25 := bt hB23 hb24
  have hzw24 := hb24.size
  replace cxW1_0 := fun i => (hb24.cell (by (try simp only); omega)).trans (cxW1_0 i)
  replace ho5 := own_below ho5 hb24
  replace ho7 := own_below ho7 hb24
  replace ho10 := own_below ho10 hb24
  replace ho14 := own_below ho14 hb24
  replace ho18 := own_below ho18 hb24
  go_wp2_with fail
  refine (markMarkS_c A14 ((addR s L ⟨y0, y1, y2⟩).1).length c14 _ _ 1 w24 ho14 (by omega) (by omega) (by omega)).mono ?_
  rintro e w26 ⟨rfl, ho14x, hg26⟩
  replace ho14 := ho14x; clear ho14x
  have hB27 := below_grown hB25 hg26 (Nat.le_refl _) (fun k hk => by have := HLho14.out k hk; omega)
  have hzw26 := hg26.size
  replace cxW1_0 := fun i => (World.cell?_of_block (a := ⟨w.heap.size, i, none⟩) (hg26.block _ (by (try simp only); omega) (fun e => by have := HLho14.out _ e.symm; (try simp only at this); omega))).trans (cxW1_0 i)
  replace ho5 := ho5.kept hg26 (own_ne HLho5.out HLho14.out (by omega))
  replace ho7 := ho7.kept hg26 (own_ne HLho7.out HLho14.out (by omega))
  replace ho10 := ho10.kept hg26 (own_ne HLho10.out HLho14.out (by omega))
  replace ho18 := ho18.kept hg26 (own_ne HLho18.out HLho14.out (by omega))
  go_wp2_with fail
  refine (heldMarkS_c A14 ((addR s L ⟨y0, y1, y2⟩).1).length c14 1 w26 (Rd.of_own ho14) (by omega) (by omega) (by omega)).mono ?_
  rintro e w28 ⟨rfl, hb28⟩
  have hB29 := bt hB27 hb28
  have hzw28 := hb28.size
  replace cxW1_0 := fun i => (hb28.cell (by (try simp only); omega)).trans (cxW1_0 i)
  replace ho5 := own_below ho5 hb28
  replace ho7 := own_below ho7 hb28
  replace ho10 := own_below ho10 hb28
  replace ho14 := own_below ho14 hb28
  replace ho18 := own_below ho18 hb28
  go_wp2_with fail
  have HKd : Hid (∀ W1 : World, Below w28.heap.size w28 W1 → ((∀ i, W1.cell? ⟨w.heap.size, i, none⟩ = (#[.int .i64 y0, .int .i64 y1, .int .i64 y2] : Array Value)[i]?) ∧ Below w28.heap.size w28 W1)) := fun W1 h => ⟨fun i => (h.cell (p := ⟨w.heap.size, i, none⟩) (by (try simp only); omega)).trans (cxW1_0 i), h⟩
  go_region_held3 (fun W1 => (∀ i, W1.cell? ⟨w.heap.size, i, none⟩ = (#[.int .i64 y0, .int .i64 y1, .int .i64 y2] : Array Value)[i]?) ∧ Below w28.heap.size w28 W1) (first | exact HKd.out _ ((Below.refl _ _).drew) | exact HKd.out _ (bt (by assumption) hb30) | exact HKd.out _ (bt (by assumption) hb31) | exact HKd.out _ (bt (by assumption) hb32))
    ((first | (go_at_call 22; go_split_ands; refine (toMarkS_c A c L _ (by exact rdW (bt hB29 (by assumption)) hr) (by omega)).mono ?_; rintro e w30 ⟨g30, rfl, ho30, hb30⟩) | (go_at_call 23; go_split_ands; refine (toMark_c y0 y1 y2 _).mono ?_; rintro e w31 ⟨rfl, hb31⟩) | (go_at_call 24; go_split_ands; refine (impl_AddMark s (some ⟨g30, 0, none⟩) L.length L y0 y1 y2 _ (by omega) (Rd.of_own (own_below ho30 hb31)) (by omega) (by omega)).mono ?_; rintro e w32 ⟨A32, c32, rfl, ho32, hb32, hq32, hqc32⟩)))
  obtain ⟨cy33_0, hR33⟩ := HKd.out w32 (bt (bt (bt (by assumption) hb30) hb31) hb32)
  replace cxW1_0 := cy33_0; clear cy33_0
  clear HKd
  replace ho5 := own_below ho5 hR33
  replace ho7 := own_below ho7 hR33
  replace ho10 := own_below ho10 hR33
  replace ho14 := own_below ho14 hR33
  replace ho18 := own_below ho18 hR33
  have hB34 := bt hB29 hR33
  have hz33 := hR33.size
  have hzw30 := hb30.size
  replace ho30 := own_below ho30 hb31
  have hzw31 := hb31.size
  replace ho30 := own_below ho30 hb32
  have hzw32 := hb32.size
  have hnb32 := addR_len s L ⟨y0, y1, y2⟩
  have HLho30 := Lib.hid (World.ownsRow.lt ho30)
  have HLho32 := Lib.hid (World.ownsRow.lt ho32)
  go_wp2_with fail
  refine (eqMarkS_c A32 A7 c32 c7 ((addR s L ⟨y0, y1, y2⟩).1) w32 (Rd.of_own ho32) (Rd.of_own ho7) (by omega)).mono ?_
  rintro e w35 ⟨rfl, hb35⟩
  have hB36 := bt hB34 hb35
  have hzw35 := hb35.size
  replace cxW1_0 := fun i => (hb35.cell (by (try simp only); omega)).trans (cxW1_0 i)
  replace ho5 := own_below ho5 hb35
  replace ho7 := own_below ho7 hb35
  replace ho10 := own_below ho10 hb35
  replace ho14 := own_below ho14 hb35
  replace ho18 := own_below ho18 hb35
  replace ho30 := own_below ho30 hb35
  replace ho32 := own_below ho32 hb35
  go_wp2_with fail
  refine (heldMarkS_c A14 ((addR s L ⟨y0, y1, y2⟩).1).length c14 1 w35 (Rd.of_own ho14) (by omega) (by omega) (by omega)).mono ?_
  rintro e w37 ⟨rfl, hb37⟩
  have hB38 := bt hB36 hb37
  have hzw37 := hb37.size
  replace cxW1_0 := fun i => (hb37.cell (by (try simp only); omega)).trans (cxW1_0 i)
  replace ho5 := own_below ho5 hb37
  replace ho7 := own_below ho7 hb37
  replace ho10 := own_below ho10 hb37
  replace ho14 := own_below ho14 hb37
  replace ho18 := own_below ho18 hb37
  replace ho30 := own_below ho30 hb37
  replace ho32 := own_below ho32 hb37
  go_wp2
  go_ret
  exact ⟨rfl, hB38⟩
end Go.Proofs.Ytgckkocndhfbnaa
