/- Contract: readTemplate. -/
import Derived.Test.YtilanpmjemlopaaTpl6
namespace Go.Proofs.Ytilanpmjemlopaa
open Go.RowKit
set_option linter.unusedVariables false
theorem rplS_len {s : ByteArray} {D : List PlD} (h : rplS s = some D) : D.length ≤ 2 * s.size := by
  have := rpQ_len specC _ s.data.toList D (Nat.le_refl _) ((rpQ_rplS s).trans h)
  rwa [len_data] at this
theorem lcut_sub {l : List UInt8} {c x : UInt8} (h : x ∈ (Lib.cut l [c]).2.1) : x ∈ l := by
  rw [cut_rel] at h
  cases hc : cutP (isC c) l with
  | none => rw [hc] at h; cases h
  | some y => obtain ⟨a, b, r⟩ := y; rw [hc] at h; exact cut_sub2 hc x h
theorem lcut_len (l : List UInt8) (c : UInt8) : (Lib.cut l [c]).2.1.length ≤ l.length := by
  rw [cut_rel]
  cases hc : cutP (isC c) l with
  | none => simp
  | some y => obtain ⟨a, b, r⟩ := y; have := cutP_len hc; simp only []; omega
set_option maxRecDepth 100000 in
set_option maxHeartbeats 8000000 in
theorem readTemplate_c (s : ByteArray) (w : World) (hs : s.size ≤ 2000000) (m : Int) (hm : w.cell? ⟨0, 0, none⟩ = some (.int .i64 m)) : Calls Try.prog 30 #[.string s] w (ReadT s w) := by
  obtain ⟨i0, hi, hi0, hi1, hi2⟩ := info_parts part_info
  have HM := Lib.hid hm
  have hml := block_lt_of_cell hm
  clear hm
  go_enter Try.func30, Try.ntmps30
  cases hp : isPlainB s 600 with
  | false =>
    have HTP : Hid (tplOf s = none) := by unfold Hid tplOf; rw [hp]; rfl
    go_wp2_with (first | (go_at_call 50; refine (isPlain_b s 600 false w (by omega) hp).mono ?_; rintro e w' ⟨rfl, rfl⟩))
    go_ret2
    exact .inl ⟨HTP.out, rfl, Below.refl _ _⟩
  | true =>
    have HTP : Hid (tplOf s = rtQ specC s.data.toList) := by unfold Hid tplOf; rw [hp]; rfl
    have hpl : plainL s = true := by unfold isPlainB at hp; rw [Bool.and_eq_true] at hp; exact hp.1
    have HPL := Lib.hid hpl
    clear hpl
    go_wp2_with (first | (go_at_call 50; refine (isPlain_b s 600 true w (by omega) hp).mono ?_; rintro e w' ⟨rfl, rfl⟩) | fail)
    have ho := World.ownsRow_lit (base := w.heap.size) (e := 66) (size := 4) w #[] 0 (Nat.le_refl _) (by unfold maxLen; omega) rfl
    obtain ⟨gg, hgg⟩ : ∃ x, x = w.heap.size := ⟨_, rfl⟩
    have HO0 := Lib.hid ho
    have HB0 := Lib.hid ((Below.refl w.heap.size w).alloc (Nat.le_refl _) (.cells #[] 66))
    clear ho hgg
    go_wp2
    go_loopw [0, 4] (fun sv ov wr => ∃ (cur : ByteArray) (g c : Nat) (M : List PtM), sv = .string cur ∧ ov = .slice (some ⟨g, 0, none⟩) M.length c ∧ Hid (RT specC s (M.map PtM.d) cur) ∧ Hid (wr.ownsRow w.heap.size 66 4 (.slice (some ⟨g, 0, none⟩) M.length c) M.length (M.flatMap PtM.cells)) ∧ Hid (InnersOk wr g M) ∧ Below w.heap.size w wr)
      (fun sv _ _ => strLenV sv)
    case atStart => exact ⟨s, w.heap.size, _, [], rfl, rfl, RT.start _ _, HO0, InnersOk.nil _ _, HB0.out⟩
    case round =>
      obtain ⟨cur, g, c, M, rfl, rfl, HRT, HO1, HI1, hB1⟩ := hrel
      clear HO0 HB0
      have hplc : plainL cur = true := plain_sub HPL.out HRT.out.sub
      have hcs := HRT.out.le
      have hwt := HRT.out.wt
      have hwl := wt_len (M.map PtM.d)
      rw [List.length_map] at hwl
      have HB1 := Lib.hid hB1
      have hz1' := hB1.size
      clear hB1
      go_wp2_with fail
      refine (Try.strings_Cut (cur) ⟨#[91]⟩ m wr (by omega) ((HB1.out.cell hml).trans HM.out)).mono ?_
      rintro e w2 ⟨rfl, q2, hq2⟩
      have hbd2 : Below wr.heap.size wr w2 := by rw [hq2]; exact below_drewN (Below.refl _ _) q2
      have HO2 := Lib.hid (own_below HO1.out hbd2)
      have HI2 := Lib.hid (HI1.out.below hbd2)
      have HB2 := Lib.hid (bt HB1.out hbd2)
      have hz2 := hbd2.size
      clear hq2 hbd2
      cases hc : cutP (isC 91) cur.data.toList with
      | none =>
        have HE := Lib.hid (HRT.out.end_ hc)
        have hcr : Lib.cut cur.data.toList (⟨#[91]⟩ : ByteArray).data.toList = (cur.data.toList, [], false) := by have := cut_rel cur.data.toList 91; rw [hc] at this; exact this
        have HPL3 := Lib.hid hplc
        rw [hcr]
        clear hcr hc
        go_wp2_with fail
        refine (readPlaces_c (cur) w2 (by omega) HPL3.out m ((HB2.out.cell hml).trans HM.out)).mono ?_
        rintro e w3 (⟨hn3, rfl, hb3⟩ | ⟨D3, A3, c3, hn3, rfl, hown3, hb3⟩)
        all_goals
          have HN3 := Lib.hid hn3
          have HO3 := Lib.hid (own_below HO2.out hb3)
          have HI3 := Lib.hid (HI2.out.below hb3)
          have HB3 := Lib.hid (bt HB2.out hb3)
          have hz3 := hb3.size
          clear hn3 hb3
        · clear HO3 HI3
          go_wp2
          go_ret2
          exact .inl ⟨HTP.out.trans (HE.out.trans (by rw [show rpQ specC cur.data.toList = none from (rpQ_rplS cur).trans HN3.out]; rfl)), rfl, HB3.out⟩
        · have HD3 := Lib.hid hown3
          clear hown3
          have hDl := rplS_len HN3.out
          go_wp2_with (first | (at_builtin; refine wpList_catG w3 rfl _ _ 52 rfl w.heap.size 66 i0 _ 4 64 Try.underlying52 hi hi0 hi1 hi2 rfl (by decide) g M.length c (M.flatMap PtM.cells) (by rfl) HO3.out A3 D3.length c3 w3.heap.size (D3.flatMap plC) (by rfl) (Rd.of_own HD3.out) (one_plC _) (by unfold maxLen; omega) (by omega) (by omega) ?_; intro g4 c4 w4 ho4 hg4 ha4; have HO4 := Lib.hid (own_catM rfl (by simp) (mOf_cells D3) ho4); have HI4 := Lib.hid ((HI3.out.grown hg4 ha4).app (InnersOk.pts _ _ D3)); have HB4 := Lib.hid (below_grown HB3.out hg4 (Nat.le_refl _) (fun k hk => HO3.out.lt k hk |>.1)); have hz4 := hg4.size; clear ho4 hg4 ha4))
          go_ret2
          exact .inr ⟨M ++ D3.map mOf, g4, c4, HTP.out.trans ((HE.out).trans (by rw [show rpQ specC cur.data.toList = some D3 from (rpQ_rplS cur).trans HN3.out, Option.map_some, List.map_append, mOf_d])), by simp, HO4.out, HI4.out, HB4.out⟩
      | some x =>
        obtain ⟨a, b, r⟩ := x
        have hcr : Lib.cut cur.data.toList (⟨#[91]⟩ : ByteArray).data.toList = (a, r, true) := by have := cut_rel cur.data.toList 91; rw [hc] at this; exact this
        have l1 := cutP_len hc
        rw [len_data] at l1
        have HPL3 := Lib.hid (plain_sub (l := a) hplc (fun x hx => cut_sub1 hc x hx))
        have haz := mkB_size a
        have hrz := mkB_size r
        rw [hcr]
        clear hcr
        go_wp2_with fail
        refine (readPlaces_c (mkB a) w2 (by omega) HPL3.out m ((HB2.out.cell hml).trans HM.out)).mono ?_
        rintro e w3 (⟨hn3, rfl, hb3⟩ | ⟨D3, A3, c3, hn3, rfl, hown3, hb3⟩)
        all_goals
          have HN3 := Lib.hid hn3
          have HO3 := Lib.hid (own_below HO2.out hb3)
          have HI3 := Lib.hid (HI2.out.below hb3)
          have HB3 := Lib.hid (bt HB2.out hb3)
          have hz3 := hb3.size
          clear hn3 hb3
        · clear HO3 HI3
          have HNN := Lib.hid (HRT.out.bad0 hc ((rpQ_rplS (mkB a)).trans HN3.out))
          clear hc
          go_wp2
          go_ret2
          exact .inl ⟨HTP.out.trans (HNN.out), rfl, HB3.out⟩
        · have HD3 := Lib.hid hown3
          clear hown3
          have hDl := rplS_len HN3.out
          have haz2 := mkB_size a
          go_wp2_with (first | (at_builtin; refine wpList_catG w3 rfl _ _ 52 rfl w.heap.size 66 i0 _ 4 64 Try.underlying52 hi hi0 hi1 hi2 rfl (by decide) g M.length c (M.flatMap PtM.cells) (by rfl) HO3.out A3 D3.length c3 w3.heap.size (D3.flatMap plC) (by rfl) (Rd.of_own HD3.out) (one_plC _) (by unfold maxLen; omega) (by omega) (by omega) ?_; intro g4 c4 w4 ho4 hg4 ha4; have HO4 := Lib.hid (own_catM rfl (by simp) (mOf_cells D3) ho4); have HI4 := Lib.hid ((HI3.out.grown hg4 ha4).app (InnersOk.pts _ _ D3)); have HB4 := Lib.hid (below_grown HB3.out hg4 (Nat.le_refl _) (fun k hk => HO3.out.lt k hk |>.1)); have hz4 := hg4.size; clear ho4 hg4 ha4) | fail)
          refine (Try.strings_Cut (mkB r) ⟨#[93]⟩ m w4 (by omega) ((HB4.out.cell hml).trans HM.out)).mono ?_
          rintro e w5 ⟨rfl, q5, hq5⟩
          have hbd5 : Below w4.heap.size w4 w5 := by rw [hq5]; exact below_drewN (Below.refl _ _) q5
          have HO5 := Lib.hid (own_below HO4.out hbd5)
          have HI5 := Lib.hid (HI4.out.below hbd5)
          have HB5 := Lib.hid (bt HB4.out hbd5)
          have hz5 := hbd5.size
          clear hq5 hbd5
          have hcr5 : Lib.cut (mkB r).data.toList (⟨#[93]⟩ : ByteArray).data.toList = match cutP (isC 93) r with | none => (r, [], false) | some x => (x.1, x.2.2, true) := cut_rel r 93
          cases hd : cutP (isC 93) r with
          | none =>
            have HNN := Lib.hid (HRT.out.bad1 hc hd)
            rw [hd] at hcr5
            simp only [] at hcr5
            rw [hcr5]
            clear hcr5
            go_wp2_with fail
            refine (Try.strings_Cut (mkB r) ⟨#[124]⟩ m w5 (by omega) ((HB5.out.cell hml).trans HM.out)).mono ?_
            rintro e w6 ⟨rfl, q6, hq6⟩
            have hbd6 : Below w5.heap.size w5 w6 := by rw [hq6]; exact below_drewN (Below.refl _ _) q6
            have HO6 := Lib.hid (own_below HO5.out hbd6)
            have HI6 := Lib.hid (HI5.out.below hbd6)
            have HB6 := Lib.hid (bt HB5.out hbd6)
            have hz6 := hbd6.size
            clear hq6 hbd6
            have HPL7 : Hid (plainL (mkB (Lib.cut r [124]).2.1) = true) := plain_sub hplc (fun x hx => cut_sub2 hc x (lcut_sub hx))
            have htz : (mkB (Lib.cut r [124]).2.1).size ≤ r.length := by rw [mkB_size]; exact lcut_len r 124
            clear hc hd
            go_wp2_with fail
            refine (readPlaces_c (mkB (Lib.cut r [124]).2.1) w6 (by omega) HPL7.out m ((HB6.out.cell hml).trans HM.out)).mono ?_
            rintro e w7 (⟨hn7, rfl, hb7⟩ | ⟨D7, A7, c7, hn7, rfl, hown7, hb7⟩)
            all_goals
              have HN7 := Lib.hid hn7
              have HO7 := Lib.hid (own_below HO6.out hb7)
              have HI7 := Lib.hid (HI6.out.below hb7)
              have HB7 := Lib.hid (bt HB6.out hb7)
              have hz7 := hb7.size
              clear hn7 hb7
            · clear HO7 HI7
              go_wp2
              go_ret2
              exact .inl ⟨HTP.out.trans (HNN.out), rfl, HB7.out⟩
            · have HD7 := Lib.hid hown7
              clear hown7
              go_wp2
              go_ret2
              exact .inl ⟨HTP.out.trans (HNN.out), rfl, HB7.out⟩
          | some y =>
            obtain ⟨mm, b2, r2⟩ := y
            rw [hd] at hcr5
            simp only [] at hcr5
            rw [hcr5]
            clear hcr5
            have l2 := cutP_len hd
            have hmz := mkB_size mm
            go_wp2_with fail
            refine (Try.strings_Cut (mkB mm) ⟨#[124]⟩ m w5 (by omega) ((HB5.out.cell hml).trans HM.out)).mono ?_
            rintro e w6 ⟨rfl, q6, hq6⟩
            have hbd6 : Below w5.heap.size w5 w6 := by rw [hq6]; exact below_drewN (Below.refl _ _) q6
            have HO6 := Lib.hid (own_below HO5.out hbd6)
            have HI6 := Lib.hid (HI5.out.below hbd6)
            have HB6 := Lib.hid (bt HB5.out hbd6)
            have hz6 := hbd6.size
            clear hq6 hbd6
            have hcr6 : Lib.cut (mkB mm).data.toList (⟨#[124]⟩ : ByteArray).data.toList = match cutP (isC 124) mm with | none => (mm, [], false) | some x => (x.1, x.2.2, true) := cut_rel mm 124
            cases he : cutP (isC 124) mm with
            | none =>
              have HNN := Lib.hid (HRT.out.bad2 hc hd he)
              rw [he] at hcr6
              simp only [] at hcr6
              rw [hcr6]
              clear hcr6
              have HPL7 : Hid (plainL (⟨#[]⟩ : ByteArray) = true) := rfl
              have htz : (⟨#[]⟩ : ByteArray).size = 0 := rfl
              clear hc hd he
              go_wp2_with fail
              refine (readPlaces_c (⟨#[]⟩) w6 (by omega) HPL7.out m ((HB6.out.cell hml).trans HM.out)).mono ?_
              rintro e w7 (⟨hn7, rfl, hb7⟩ | ⟨D7, A7, c7, hn7, rfl, hown7, hb7⟩)
              all_goals
                have HN7 := Lib.hid hn7
                have HO7 := Lib.hid (own_below HO6.out hb7)
                have HI7 := Lib.hid (HI6.out.below hb7)
                have HB7 := Lib.hid (bt HB6.out hb7)
                have hz7 := hb7.size
                clear hn7 hb7
              · clear HO7 HI7
                go_wp2
                go_ret2
                exact .inl ⟨HTP.out.trans (HNN.out), rfl, HB7.out⟩
              · have HD7 := Lib.hid hown7
                clear hown7
                go_wp2
                go_ret2
                exact .inl ⟨HTP.out.trans (HNN.out), rfl, HB7.out⟩
            | some z =>
              obtain ⟨n, b3, t⟩ := z
              rw [he] at hcr6
              simp only [] at hcr6
              rw [hcr6]
              clear hcr6
              have HPL7 := Lib.hid (plain_sub (l := t) hplc (fun x hx => cut_sub2 hc x (cut_sub1 hd x (cut_sub2 he x hx))))
              have l3 := cutP_len he
              have htz := mkB_size t
              go_wp2_with fail
              refine (readPlaces_c (mkB t) w6 (by omega) HPL7.out m ((HB6.out.cell hml).trans HM.out)).mono ?_
              rintro e w7 (⟨hn7, rfl, hb7⟩ | ⟨D7, A7, c7, hn7, rfl, hown7, hb7⟩)
              all_goals
                have HN7 := Lib.hid hn7
                have HO7 := Lib.hid (own_below HO6.out hb7)
                have HI7 := Lib.hid (HI6.out.below hb7)
                have HB7 := Lib.hid (bt HB6.out hb7)
                have hz7 := hb7.size
                clear hn7 hb7
              · clear HO7 HI7
                have HNN := Lib.hid (HRT.out.bad3 hc hd he ((rpQ_rplS (mkB t)).trans HN7.out))
                clear hc hd he
                go_wp2
                go_ret2
                exact .inl ⟨HTP.out.trans (HNN.out), rfl, HB7.out⟩
              · have HD7 := Lib.hid hown7
                clear hown7
                have hnz : (mkB n).size ≤ 9223372036854775807 := by rw [mkB_size]; omega
                cases hw : isWordB (mkB n) with
                | false =>
                  have HN := Lib.hid (HRT.out.bad4 hc hd he hw)
                  clear hc hd he
                  go_wp2_with (first | (go_at_call 53; refine (impl_IsWord _ _ _ hnz hw).mono ?_; rintro e w' ⟨rfl, rfl⟩))
                  go_ret2
                  exact .inl ⟨HTP.out.trans HN.out, rfl, HB7.out⟩
                | true =>
                  obtain ⟨hRT9, hlt9⟩ := HRT.out.next hc ((rpQ_rplS (mkB a)).trans HN3.out) hd he ((rpQ_rplS (mkB t)).trans HN7.out) hw
                  have HRT9 := Lib.hid hRT9
                  clear hc hd he hRT9
                  have hbl := (Below.refl w7.heap.size w7).alloc (Nat.le_refl _) (.cells #[.string ⟨#[]⟩, .string ⟨n.toArray⟩, .bool true, .slice A7 D7.length c7] 66)
                  have hlit := World.ownsRow_lit (base := w7.heap.size) (e := 66) (size := 4) w7 #[.string ⟨#[]⟩, .string ⟨n.toArray⟩, .bool true, .slice A7 D7.length c7] 1 (Nat.le_refl _) (by unfold maxLen; omega) rfl
                  have HRL := Lib.hid (show Rd (w7.alloc (.cells #[.string ⟨#[]⟩, .string ⟨n.toArray⟩, .bool true, .slice A7 D7.length c7] 66)) (w7.alloc (.cells #[.string ⟨#[]⟩, .string ⟨n.toArray⟩, .bool true, .slice A7 D7.length c7] 66)).heap.size (some ⟨w7.heap.size, 0, none⟩) (1 * 4) [.string ⟨#[]⟩, .string ⟨n.toArray⟩, .bool true, .slice A7 D7.length c7] from Rd.of_own hlit)
                  have hM4 : (M ++ D3.map mOf).length = M.length + D3.length := by simp
                  have hOL := own_below HO7.out hbl
                  rw [hM4] at hOL
                  have HOL := Lib.hid hOL
                  have HM4 := Lib.hid hM4
                  clear hM4 hOL
                  have HIL := Lib.hid (HI7.out.below hbl)
                  have HBL := Lib.hid (bt HB7.out hbl)
                  have hDW := HD7.out.lt
                  have hgw : g4 < w6.heap.size := (HO6.out.lt _ rfl).2
                  have HIN := Lib.hid (show InnerOk (w7.alloc (.cells #[.string ⟨#[]⟩, .string ⟨n.toArray⟩, .bool true, .slice A7 D7.length c7] 66)) g4 ⟨⟨⟨#[]⟩, mkB n⟩, true, A7, c7, D7⟩ from ⟨rdW hbl (Rd.of_own HD7.out), fun ad e => by
                    have := hDW ad.block (by have e2 : A7 = some ad := e; subst e2; rfl)
                    have := hbl.size
                    omega⟩)
                  have hzl := hbl.size
                  have HONE := Lib.hid (show ∀ u ∈ ([.string ⟨#[]⟩, .string ⟨n.toArray⟩, .bool true, .slice A7 D7.length c7] : List Value), u.oneCell' = true from by
                    intro u hu
                    simp only [List.mem_cons, List.not_mem_nil, or_false] at hu
                    rcases hu with rfl | rfl | rfl | rfl <;> rfl)
                  have hwt9 := HRT9.out.wt
                  have hwl9 := wt_len (M.map PtM.d ++ D3.map ptOf ++ [secOf n D7])
                  simp only [List.length_append, List.length_map, List.length_cons, List.length_nil] at hwl9
                  have hMl : M.length + D3.length ≤ 4000000 := by omega
                  clear hlit hbl hDW hgw hwt9 hwl9
                  go_wp2_with (first | (go_at_call 53; refine (impl_IsWord _ _ _ hnz hw).mono ?_; rintro e w' ⟨rfl, rfl⟩) | (at_builtin; refine wpList_catG _ rfl _ _ 52 rfl w.heap.size 66 i0 _ 4 64 Try.underlying52 hi hi0 hi1 hi2 rfl (by decide) g4 (M.length + D3.length) c4 ((M ++ D3.map mOf).flatMap PtM.cells) (by rfl) HOL.out (some ⟨w7.heap.size, 0, none⟩) 1 1 (w7.alloc (.cells #[.string ⟨#[]⟩, .string ⟨n.toArray⟩, .bool true, .slice A7 D7.length c7] 66)).heap.size [.string ⟨#[]⟩, .string ⟨n.toArray⟩, .bool true, .slice A7 D7.length c7] (by rfl) HRL.out HONE.out (by unfold maxLen; omega) (by omega) (by omega) ?_; intro g9 c9 w9 ho9 hg9 ha9; have HO9 := Lib.hid (own_catM (N := [⟨⟨⟨#[]⟩, mkB n⟩, true, A7, c7, D7⟩]) HM4.out rfl rfl ho9); have HI9 := Lib.hid ((HIL.out.app (InnersOk.one HIN.out)).grown hg9 ha9); have HB9 := Lib.hid (below_grown HBL.out hg9 (Nat.le_refl _) (fun k hk => HOL.out.lt k hk |>.1)); clear ho9 hg9 ha9))
                  go_roundw
                  case rel => exact ⟨mkB r2, g9, c9, M ++ D3.map mOf ++ [⟨⟨⟨#[]⟩, mkB n⟩, true, A7, c7, D7⟩], rfl, by simp [Nat.add_assoc], by rw [List.map_append, List.map_append, mOf_d]; exact HRT9.out, HO9, HI9, HB9.out⟩
                  case measure => exact hlt9
end Go.Proofs.Ytilanpmjemlopaa
