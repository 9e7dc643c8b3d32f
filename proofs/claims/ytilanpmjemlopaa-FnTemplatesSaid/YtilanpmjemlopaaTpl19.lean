/- Contract: l28All. -/
import Derived.Test.YtilanpmjemlopaaTpl18
namespace Go.Proofs.Ytilanpmjemlopaa
open Go.RowKit
set_option linter.unusedVariables false
theorem setT_app2 (X Y : List ByteArray) : setT (X ++ setT Y) = setT (X ++ Y) := setT_eq fun x => by
  rw [List.mem_append, List.mem_append, (setT_props Y).2]
theorem l28Join_d (base : Nat) (A : Option Addr) (c : Nat) (X : List ByteArray) (A' : Option Addr) (c' : Nat) (Y : List ByteArray) (w : World) (ho : w.ownsRow base 9 1 (.slice A (setT X).length c) (setT X).length ((setT X).map Value.string)) (hbase : base ≤ w.heap.size) (B : Nat) (ho2 : w.ownsRow B 9 1 (.slice A' (setT Y).length c') (setT Y).length ((setT Y).map Value.string)) (hl : X.length + Y.length ≤ 2000000) :
    Calls Try.prog 46 #[.slice A (setT X).length c, .slice A' (setT Y).length c'] w fun e w' => ∃ (A2 : Option Addr) (c2 : Nat), e = .returned (.slice A2 (setT (X ++ Y)).length c2) ∧ w'.ownsRow base 9 1 (.slice A2 (setT (X ++ Y)).length c2) (setT (X ++ Y)).length ((setT (X ++ Y)).map Value.string) ∧ Below w.heap.size w w' := by
  have h := Rd.of_own ho2
  rw [Nat.mul_one] at h
  have hy := setT_len Y
  have := l28Join_c base A c X A' c' (setT Y) w ho hbase h (by omega)
  rw [setT_app2] at this
  exact this
def ReadA (V : List ValueD) (s : ByteArray) (w : World) (e : Ending) (wr : World) : Prop :=
  (aS V s.data.toList = none ∧ e = .returned (.tuple #[.string ⟨#[]⟩, .slice none 0 0, .slice none 0 0, .slice none 0 0, .bool false]) ∧ Below w.heap.size w wr) ∨
  ∃ (d : AD) (A : Option Addr) (c : Nat) (A' : Option Addr) (c' : Nat) (A2 : Option Addr) (c2 : Nat), aS V s.data.toList = some d ∧ e = .returned (.tuple #[.string (mkB d.text), .slice A (setT d.names).length c, .slice A' (setT d.secs).length c', .slice A2 (setT d.lack).length c2, .bool true]) ∧
    wr.ownsRow w.heap.size 9 1 (.slice A (setT d.names).length c) (setT d.names).length ((setT d.names).map Value.string) ∧ wr.ownsRow w.heap.size 9 1 (.slice A' (setT d.secs).length c') (setT d.secs).length ((setT d.secs).map Value.string) ∧ wr.ownsRow w.heap.size 9 1 (.slice A2 (setT d.lack).length c2) (setT d.lack).length ((setT d.lack).map Value.string) ∧ Below w.heap.size w wr
theorem fill_empty (V : List ValueD) : fS V (⟨#[]⟩ : ByteArray).data.toList = some ⟨[], []⟩ := by rw [fS_eq]; rfl
theorem unt_empty (c : UInt8) : UntP ⟨#[]⟩ c = (⟨#[]⟩, ⟨#[]⟩, false) := rfl
theorem acc_none {V : List ValueD} {n : ByteArray} (h : txtOf V n = none) : accV V n = false := by unfold accV; rw [h]; rfl
theorem acc_empty {V : List ValueD} {n t : ByteArray} (h : txtOf V n = some t) (h0 : t.size = 0) : accV V n = false := by unfold accV; rw [h]; simp [h0]
theorem acc_some {V : List ValueD} {n t : ByteArray} (h : txtOf V n = some t) (h0 : ¬ t.size = 0) : accV V n = true := by unfold accV; rw [h]; simp [h0]
theorem adS_no {V : List ValueD} {n : ByteArray} {i : FD} (h : accV V n = false) (D : AD) : D.app (adS V n i) = ⟨D.text, D.names ++ i.names, D.secs ++ [n], D.lack⟩ := by unfold AD.app adS; simp [h]
theorem adS_yes {V : List ValueD} {n : ByteArray} {i : FD} (h : accV V n = true) (D : AD) : D.app (adS V n i) = ⟨D.text ++ i.text, D.names ++ i.names, D.secs ++ [n], D.lack ++ keptN V i.names⟩ := by unfold AD.app adS; simp [h]
theorem adF_app {V : List ValueD} {d : FD} (D : AD) : D.app (adF V d) = ⟨D.text ++ d.text, D.names ++ d.names, D.secs, D.lack ++ keptN V d.names⟩ := by unfold AD.app adF; simp
set_option maxRecDepth 100000 in
set_option maxHeartbeats 16000000 in
theorem l28All_c (s : ByteArray) (vA : Option Addr) (vc : Nat) (V : List ValueD) (w : World) (hs : s.size ≤ 1100000) (hr : Rd w w.heap.size vA (V.length * 2) (V.flatMap valueC)) (hl : V.length ≤ 140737488355328) (hcap : V.length ≤ vc) (hV : ValB V) :
    Calls Try.prog 28 #[.string s, .slice vA V.length vc] w (ReadA V s w) := by
  have HV := Lib.hid hr; have HVB := Lib.hid hV
  clear hr hV
  go_enter Try.func28, Try.ntmps28
  go_upto_region 2 with fail
  have HS0 : Hid ((setT ([] : List ByteArray)).length = 0) := by unfold Hid; rw [setT_nil]; rfl
  obtain ⟨W0, hW0⟩ : ∃ x, x = (((w.alloc (.cells #[] 9)).alloc (.cells #[] 9)).alloc (.cells #[] 9)) := ⟨_, rfl⟩
  have HO1 : Hid (W0.ownsRow w.heap.size 9 1 (.slice (some ⟨w.heap.size, 0, none⟩) (setT ([] : List ByteArray)).length 0) (setT ([] : List ByteArray)).length ((setT ([] : List ByteArray)).map Value.string)) := by unfold Hid; rw [setT_nil]; exact own_empty (by rw [hW0]; exact Eq.trans (Below.heap_alloc _ _ _ (by simp <;> omega)) (heap_at1 w _ _)) (Nat.le_refl _)
  have HO2 : Hid (W0.ownsRow w.heap.size 9 1 (.slice (some ⟨w.heap.size + 1, 0, none⟩) (setT ([] : List ByteArray)).length 0) (setT ([] : List ByteArray)).length ((setT ([] : List ByteArray)).map Value.string)) := by unfold Hid; rw [setT_nil]; exact own_empty (by rw [hW0]; exact Eq.trans (Below.heap_alloc _ _ _ (by simp <;> omega)) (heap_alloc2_new w _ _)) (Nat.le_succ _)
  have HO3 : Hid (W0.ownsRow w.heap.size 9 1 (.slice (some ⟨w.heap.size + 1 + 1, 0, none⟩) (setT ([] : List ByteArray)).length 0) (setT ([] : List ByteArray)).length ((setT ([] : List ByteArray)).map Value.string)) := by unfold Hid; rw [setT_nil]; exact own_empty (by rw [hW0]; have h := heap_alloc_new ((w.alloc (.cells #[] 9)).alloc (.cells #[] 9)) (.cells #[] 9); simpa using h) (by omega)
  have HB0 : Hid (Below w.heap.size w W0) := by unfold Hid; rw [hW0]; exact (((Below.refl w.heap.size w).alloc (Nat.le_refl _) (.cells #[] 9)).alloc (by simp) (.cells #[] 9)).alloc (by simp <;> omega) (.cells #[] 9)
  rw [← hW0]
  clear hW0
  go_loopw [0, 9, 10, 11, 12] (fun sv ov pv qv mv v0 => ∃ (cur : ByteArray) (D : AD) (A1 : Option Addr) (c1 : Nat) (A2 : Option Addr) (c2 : Nat) (A3 : Option Addr) (c3 : Nat), sv = .string cur ∧ ov = .string (mkB D.text) ∧ pv = .slice A1 (setT D.names).length c1 ∧ qv = .slice A2 (setT D.secs).length c2 ∧ mv = .slice A3 (setT D.lack).length c3 ∧ Hid (RA V s D cur) ∧
    Hid (v0.ownsRow w.heap.size 9 1 (.slice A1 (setT D.names).length c1) (setT D.names).length ((setT D.names).map Value.string)) ∧ Hid (v0.ownsRow w.heap.size 9 1 (.slice A2 (setT D.secs).length c2) (setT D.secs).length ((setT D.secs).map Value.string)) ∧ Hid (v0.ownsRow w.heap.size 9 1 (.slice A3 (setT D.lack).length c3) (setT D.lack).length ((setT D.lack).map Value.string)) ∧ Hid (Below w.heap.size w v0)) (fun sv _ _ _ _ _ => strLenV sv)
  case atStart => exact ⟨s, ⟨[], [], [], []⟩, some ⟨w.heap.size, 0, none⟩, 0, some ⟨w.heap.size + 1, 0, none⟩, 0, some ⟨w.heap.size + 1 + 1, 0, none⟩, 0, rfl, rfl, by rw [HS0.out], by rw [HS0.out], by rw [HS0.out], RA.start V s, HO1, HO2, HO3, HB0⟩
  case round =>
    obtain ⟨v0, rfl⟩ : ∃ v0, v0 = wr := ⟨_, rfl⟩
    obtain ⟨cur, D, A1, c1, A2, c2, A3, c3, rfl, rfl, rfl, rfl, rfl, HRA, HPv0, HSv0, HMv0, HBv0⟩ := hrel
    clear HS0 HB0 HO1 HO2 HO3
    have hcs := HRA.out.le
    have hnm := HRA.out.nm
    have hsc := HRA.out.sc
    have hlk := HRA.out.lk
    have htx := HRA.out.tx
    have hs1 := setT_len D.names
    have hs2 := setT_len D.secs
    have hs3 := setT_len D.lack
    have hzr := HBv0.out.size
    have hmz := mkB_size D.text
    have HVv0 := Lib.hid (rdW HBv0.out HV.out)
    go_wp2_with fail
    refine (l28Until_c cur 91 91 v0 rfl (by omega)).mono ?_
    rintro e v1 ⟨rfl, hbv1⟩
    have HPv1 := Lib.hid (own_below HPv0.out hbv1)
    have HSv1 := Lib.hid (own_below HSv0.out hbv1)
    have HMv1 := Lib.hid (own_below HMv0.out hbv1)
    have HBv1 := Lib.hid (bt HBv0.out hbv1)
    have HVv1 := Lib.hid (rdW hbv1 HVv0.out)
    have hzv1 := hbv1.size
    clear hbv1 HPv0 HSv0 HMv0 HBv0 HVv0
    cases hc : cutP (isC 91) cur.data.toList with
    | none =>
      rw [unt_none hc]
      go_wp2_with fail
      refine (l28Fill_c cur vA vc V v1 (by omega) HVv1.out hl hcap HVB.out).mono ?_
      intro e v2 hv2
      rcases hv2 with ⟨hfv2, rfl, hbv2⟩ | ⟨dv2, Eav2, eav2, Ebv2, ebv2, hfv2, rfl, hav2, hcv2, hbv2⟩
      · skip
        have HPv2 := Lib.hid (own_below HPv1.out hbv2)
        have HSv2 := Lib.hid (own_below HSv1.out hbv2)
        have HMv2 := Lib.hid (own_below HMv1.out hbv2)
        have HBv2 := Lib.hid (bt HBv1.out hbv2)
        have HVv2 := Lib.hid (rdW hbv2 HVv1.out)
        have hzv2 := hbv2.size
        clear hbv2 HPv1 HSv1 HMv1 HBv1 HVv1
        have HE := Lib.hid (HRA.out.bad0 hc hfv2)
        go_wp2
        ((try simp only [Exit.inBlock, Exit.then]); refine bodyPost_ret (results_tmp5 rfl _ _ _) rfl ?_)
        exact .inl ⟨HE.out, rfl, HBv2.out⟩
      · skip
        have hflv2 := fS_len HVB.out _ _ _ (Nat.le_refl _) hfv2
        have HFav2 := Lib.hid hav2
        have HFbv2 := Lib.hid hcv2
        clear hav2 hcv2
        have HPv2 := Lib.hid (own_below HPv1.out hbv2)
        have HSv2 := Lib.hid (own_below HSv1.out hbv2)
        have HMv2 := Lib.hid (own_below HMv1.out hbv2)
        have HBv2 := Lib.hid (bt HBv1.out hbv2)
        have HVv2 := Lib.hid (rdW hbv2 HVv1.out)
        have hzv2 := hbv2.size
        clear hbv2 HPv1 HSv1 HMv1 HBv1 HVv1
        have HE := Lib.hid (HRA.out.end_ hc hfv2)
        rw [adF_app] at HE
        rw [len_data] at hflv2
        have hkv2 := keptN_len V dv2.names
        have hszv2 := mkB_size dv2.text
        have HT := Lib.hid (mkB_app2 D.text dv2.text)
        clear hc hfv2
        go_wp2_with fail
        refine (l28Join_d w.heap.size A1 c1 D.names Eav2 eav2 dv2.names v2 HPv2.out (by omega) _ HFav2.out (by omega)).mono ?_
        rintro e v3 ⟨G1, g1, rfl, hov3, hbv3⟩
        have HPv3 := Lib.hid hov3
        clear hov3 HPv2
        have HSv3 := Lib.hid (own_below HSv2.out hbv3)
        have HMv3 := Lib.hid (own_below HMv2.out hbv3)
        have HFbv3 := Lib.hid (own_below HFbv2.out hbv3)
        have HBv3 := Lib.hid (bt HBv2.out hbv3)
        have HVv3 := Lib.hid (rdW hbv3 HVv2.out)
        have hzv3 := hbv3.size
        clear hbv3 HSv2 HMv2 HFbv2 HBv2 HVv2
        go_wp2_with fail
        refine (l28Join_d w.heap.size A3 c3 D.lack Ebv2 ebv2 (keptN V dv2.names) v3 HMv3.out (by omega) _ HFbv3.out (by omega)).mono ?_
        rintro e v4 ⟨G3, g3, rfl, hov4, hbv4⟩
        have HMv4 := Lib.hid hov4
        clear hov4 HMv3
        have HPv4 := Lib.hid (own_below HPv3.out hbv4)
        have HSv4 := Lib.hid (own_below HSv3.out hbv4)
        have HBv4 := Lib.hid (bt HBv3.out hbv4)
        have HVv4 := Lib.hid (rdW hbv4 HVv3.out)
        have hzv4 := hbv4.size
        clear hbv4 HPv3 HSv3 HBv3 HVv3
        go_wp2
        ((try simp only [Exit.inBlock, Exit.then]); refine bodyPost_ret (results_tmp5 rfl _ _ _) rfl ?_)
        exact .inr ⟨_, G1, g1, A2, c2, G3, g3, HE.out, by first | rfl | (rw [HT.out]; rfl), HPv4.out, HSv4.out, HMv4.out, HBv4.out⟩
    | some x =>
      obtain ⟨a, b, r⟩ := x
      have hl1 := cutP_len hc
      rw [len_data] at hl1
      have hza := mkB_size a
      have hzr1 := mkB_size r
      rw [unt_some hc]
      go_wp2_with fail
      refine (l28Fill_c (mkB a) vA vc V v1 (by omega) HVv1.out hl hcap HVB.out).mono ?_
      intro e v2 hv2
      rcases hv2 with ⟨hfv2, rfl, hbv2⟩ | ⟨dv2, Eav2, eav2, Ebv2, ebv2, hfv2, rfl, hav2, hcv2, hbv2⟩
      · skip
        have HPv2 := Lib.hid (own_below HPv1.out hbv2)
        have HSv2 := Lib.hid (own_below HSv1.out hbv2)
        have HMv2 := Lib.hid (own_below HMv1.out hbv2)
        have HBv2 := Lib.hid (bt HBv1.out hbv2)
        have HVv2 := Lib.hid (rdW hbv2 HVv1.out)
        have hzv2 := hbv2.size
        clear hbv2 HPv1 HSv1 HMv1 HBv1 HVv1
        have HE := Lib.hid (HRA.out.bad1 hc hfv2)
        go_wp2
        ((try simp only [Exit.inBlock, Exit.then]); refine bodyPost_ret (results_tmp5 rfl _ _ _) rfl ?_)
        exact .inl ⟨HE.out, rfl, HBv2.out⟩
      · skip
        have hflv2 := fS_len HVB.out _ _ _ (Nat.le_refl _) hfv2
        have HFav2 := Lib.hid hav2
        have HFbv2 := Lib.hid hcv2
        clear hav2 hcv2
        have HPv2 := Lib.hid (own_below HPv1.out hbv2)
        have HSv2 := Lib.hid (own_below HSv1.out hbv2)
        have HMv2 := Lib.hid (own_below HMv1.out hbv2)
        have HBv2 := Lib.hid (bt HBv1.out hbv2)
        have HVv2 := Lib.hid (rdW hbv2 HVv1.out)
        have hzv2 := hbv2.size
        clear hbv2 HPv1 HSv1 HMv1 HBv1 HVv1
        have hkv2 := keptN_len V dv2.names
        have hszv2 := mkB_size dv2.text
        change dv2.names.length ≤ a.length ∧ dv2.text.length ≤ a.length * 2000001 at hflv2
        have HT := Lib.hid (mkB_app2 D.text dv2.text)
        go_upto_region 9 with fail
        rw [HT.out]
        go_wp2_with fail
        refine (l28Join_d w.heap.size A1 c1 D.names Eav2 eav2 dv2.names v2 HPv2.out (by omega) _ HFav2.out (by omega)).mono ?_
        rintro e v3 ⟨G1, g1, rfl, hov3, hbv3⟩
        have HPv3 := Lib.hid hov3
        clear hov3 HPv2
        have HSv3 := Lib.hid (own_below HSv2.out hbv3)
        have HMv3 := Lib.hid (own_below HMv2.out hbv3)
        have HFbv3 := Lib.hid (own_below HFbv2.out hbv3)
        have HBv3 := Lib.hid (bt HBv2.out hbv3)
        have HVv3 := Lib.hid (rdW hbv3 HVv2.out)
        have hzv3 := hbv3.size
        clear hbv3 HSv2 HMv2 HFbv2 HBv2 HVv2
        go_wp2_with fail
        refine (l28Join_d w.heap.size A3 c3 D.lack Ebv2 ebv2 (keptN V dv2.names) v3 HMv3.out (by omega) _ HFbv3.out (by omega)).mono ?_
        rintro e v4 ⟨G3, g3, rfl, hov4, hbv4⟩
        have HMv4 := Lib.hid hov4
        clear hov4 HMv3
        have HPv4 := Lib.hid (own_below HPv3.out hbv4)
        have HSv4 := Lib.hid (own_below HSv3.out hbv4)
        have HBv4 := Lib.hid (bt HBv3.out hbv4)
        have HVv4 := Lib.hid (rdW hbv4 HVv3.out)
        have hzv4 := hbv4.size
        clear hbv4 HPv3 HSv3 HBv3 HVv3
        go_wp2_with fail
        refine (l28Until_c (mkB r) 93 93 v4 rfl (by omega)).mono ?_
        rintro e v5 ⟨rfl, hbv5⟩
        have HPv5 := Lib.hid (own_below HPv4.out hbv5)
        have HSv5 := Lib.hid (own_below HSv4.out hbv5)
        have HMv5 := Lib.hid (own_below HMv4.out hbv5)
        have HBv5 := Lib.hid (bt HBv4.out hbv5)
        have HVv5 := Lib.hid (rdW hbv5 HVv4.out)
        have hzv5 := hbv5.size
        clear hbv5 HPv4 HSv4 HMv4 HBv4 HVv4
        cases hd : cutP (isC 93) r with
        | none =>
          rw [unt_none (s := mkB r) hd]
          go_wp2_with fail
          refine (l28Until_c ⟨#[]⟩ 124 124 v5 rfl (by decide)).mono ?_
          rintro e v6 ⟨rfl, hbv6⟩
          have HPv6 := Lib.hid (own_below HPv5.out hbv6)
          have HSv6 := Lib.hid (own_below HSv5.out hbv6)
          have HMv6 := Lib.hid (own_below HMv5.out hbv6)
          have HBv6 := Lib.hid (bt HBv5.out hbv6)
          have HVv6 := Lib.hid (rdW hbv6 HVv5.out)
          have hzv6 := hbv6.size
          clear hbv6 HPv5 HSv5 HMv5 HBv5 HVv5
          rw [unt_empty]
          go_wp2_with fail
          refine (l28Fill_c ⟨#[]⟩ vA vc V v6 (by decide) HVv6.out hl hcap HVB.out).mono ?_
          intro e v7 hv7
          rcases hv7 with ⟨hfv7, rfl, hbv7⟩ | ⟨dv7, Eav7, eav7, Ebv7, ebv7, hfv7, rfl, hav7, hcv7, hbv7⟩
          · skip
            have HPv7 := Lib.hid (own_below HPv6.out hbv7)
            have HSv7 := Lib.hid (own_below HSv6.out hbv7)
            have HMv7 := Lib.hid (own_below HMv6.out hbv7)
            have HBv7 := Lib.hid (bt HBv6.out hbv7)
            have HVv7 := Lib.hid (rdW hbv7 HVv6.out)
            have hzv7 := hbv7.size
            clear hbv7 HPv6 HSv6 HMv6 HBv6 HVv6
            rw [fill_empty] at hfv7; cases hfv7
          · skip
            have hflv7 := fS_len HVB.out _ _ _ (Nat.le_refl _) hfv7
            have HFav7 := Lib.hid hav7
            have HFbv7 := Lib.hid hcv7
            clear hav7 hcv7
            have HPv7 := Lib.hid (own_below HPv6.out hbv7)
            have HSv7 := Lib.hid (own_below HSv6.out hbv7)
            have HMv7 := Lib.hid (own_below HMv6.out hbv7)
            have HBv7 := Lib.hid (bt HBv6.out hbv7)
            have HVv7 := Lib.hid (rdW hbv7 HVv6.out)
            have hzv7 := hbv7.size
            clear hbv7 HPv6 HSv6 HMv6 HBv6 HVv6
            have HE := Lib.hid (HRA.out.bad2 hc hd)
            go_wp2
            ((try simp only [Exit.inBlock, Exit.then]); refine bodyPost_ret (results_tmp5 rfl _ _ _) rfl ?_)
            exact .inl ⟨HE.out, rfl, HBv7.out⟩
        | some y =>
          obtain ⟨m, b2, r2⟩ := y
          have hl2 := cutP_len hd
          have hzm := mkB_size m
          have hzq := mkB_size r2
          rw [unt_some (s := mkB r) hd]
          go_wp2_with fail
          refine (l28Until_c (mkB m) 124 124 v5 rfl (by omega)).mono ?_
          rintro e v6 ⟨rfl, hbv6⟩
          have HPv6 := Lib.hid (own_below HPv5.out hbv6)
          have HSv6 := Lib.hid (own_below HSv5.out hbv6)
          have HMv6 := Lib.hid (own_below HMv5.out hbv6)
          have HBv6 := Lib.hid (bt HBv5.out hbv6)
          have HVv6 := Lib.hid (rdW hbv6 HVv5.out)
          have hzv6 := hbv6.size
          clear hbv6 HPv5 HSv5 HMv5 HBv5 HVv5
          cases he : cutP (isC 124) m with
          | none =>
            rw [unt_none (s := mkB m) he]
            go_wp2_with fail
            refine (l28Fill_c ⟨#[]⟩ vA vc V v6 (by decide) HVv6.out hl hcap HVB.out).mono ?_
            intro e v7 hv7
            rcases hv7 with ⟨hfv7, rfl, hbv7⟩ | ⟨dv7, Eav7, eav7, Ebv7, ebv7, hfv7, rfl, hav7, hcv7, hbv7⟩
            · skip
              have HPv7 := Lib.hid (own_below HPv6.out hbv7)
              have HSv7 := Lib.hid (own_below HSv6.out hbv7)
              have HMv7 := Lib.hid (own_below HMv6.out hbv7)
              have HBv7 := Lib.hid (bt HBv6.out hbv7)
              have HVv7 := Lib.hid (rdW hbv7 HVv6.out)
              have hzv7 := hbv7.size
              clear hbv7 HPv6 HSv6 HMv6 HBv6 HVv6
              rw [fill_empty] at hfv7; cases hfv7
            · skip
              have hflv7 := fS_len HVB.out _ _ _ (Nat.le_refl _) hfv7
              have HFav7 := Lib.hid hav7
              have HFbv7 := Lib.hid hcv7
              clear hav7 hcv7
              have HPv7 := Lib.hid (own_below HPv6.out hbv7)
              have HSv7 := Lib.hid (own_below HSv6.out hbv7)
              have HMv7 := Lib.hid (own_below HMv6.out hbv7)
              have HBv7 := Lib.hid (bt HBv6.out hbv7)
              have HVv7 := Lib.hid (rdW hbv7 HVv6.out)
              have hzv7 := hbv7.size
              clear hbv7 HPv6 HSv6 HMv6 HBv6 HVv6
              have HE := Lib.hid (HRA.out.bad3 hc hd he)
              go_wp2
              ((try simp only [Exit.inBlock, Exit.then]); refine bodyPost_ret (results_tmp5 rfl _ _ _) rfl ?_)
              exact .inl ⟨HE.out, rfl, HBv7.out⟩
          | some z =>
            obtain ⟨n, b3, t⟩ := z
            have hl3 := cutP_len he
            have hzn := mkB_size n
            have hzt := mkB_size t
            rw [unt_some (s := mkB m) he]
            go_wp2_with fail
            refine (l28Fill_c (mkB t) vA vc V v6 (by omega) HVv6.out hl hcap HVB.out).mono ?_
            intro e v7 hv7
            rcases hv7 with ⟨hfv7, rfl, hbv7⟩ | ⟨dv7, Eav7, eav7, Ebv7, ebv7, hfv7, rfl, hav7, hcv7, hbv7⟩
            · skip
              have HPv7 := Lib.hid (own_below HPv6.out hbv7)
              have HSv7 := Lib.hid (own_below HSv6.out hbv7)
              have HMv7 := Lib.hid (own_below HMv6.out hbv7)
              have HBv7 := Lib.hid (bt HBv6.out hbv7)
              have HVv7 := Lib.hid (rdW hbv7 HVv6.out)
              have hzv7 := hbv7.size
              clear hbv7 HPv6 HSv6 HMv6 HBv6 HVv6
              cases hw : isWordB (mkB n) with
              | false =>
                have HE := Lib.hid (HRA.out.bad4 hc hd he hfv7)
                go_wp2_with (first | (go_at_call 47; refine (spec_IsWord (mkB n) false _ (by omega) hw).mono ?_; rintro e w' ⟨rfl, rfl⟩))
                ((try simp only [Exit.inBlock, Exit.then]); refine bodyPost_ret (results_tmp5 rfl _ _ _) rfl ?_)
                exact .inl ⟨HE.out, rfl, HBv7.out⟩
              | true =>
                have HE := Lib.hid (HRA.out.bad4 hc hd he hfv7)
                go_wp2_with (first | (go_at_call 47; refine (spec_IsWord (mkB n) true _ (by omega) hw).mono ?_; rintro e w' ⟨rfl, rfl⟩))
                ((try simp only [Exit.inBlock, Exit.then]); refine bodyPost_ret (results_tmp5 rfl _ _ _) rfl ?_)
                exact .inl ⟨HE.out, rfl, HBv7.out⟩
            · skip
              have hflv7 := fS_len HVB.out _ _ _ (Nat.le_refl _) hfv7
              have HFav7 := Lib.hid hav7
              have HFbv7 := Lib.hid hcv7
              clear hav7 hcv7
              have HPv7 := Lib.hid (own_below HPv6.out hbv7)
              have HSv7 := Lib.hid (own_below HSv6.out hbv7)
              have HMv7 := Lib.hid (own_below HMv6.out hbv7)
              have HBv7 := Lib.hid (bt HBv6.out hbv7)
              have HVv7 := Lib.hid (rdW hbv7 HVv6.out)
              have hzv7 := hbv7.size
              clear hbv7 HPv6 HSv6 HMv6 HBv6 HVv6
              change dv7.names.length ≤ t.length ∧ dv7.text.length ≤ t.length * 2000001 at hflv7
              have hkv7 := keptN_len V dv7.names
              have hszv7 := mkB_size dv7.text
              cases hw : isWordB (mkB n) with
              | false =>
                have HE := Lib.hid (HRA.out.bad5 hc hd he hw)
                go_wp2_with (first | (go_at_call 47; refine (spec_IsWord (mkB n) false _ (by omega) hw).mono ?_; rintro e w' ⟨rfl, rfl⟩))
                ((try simp only [Exit.inBlock, Exit.then]); refine bodyPost_ret (results_tmp5 rfl _ _ _) rfl ?_)
                exact .inl ⟨HE.out, rfl, HBv7.out⟩
              | true =>
                have hnx := HRA.out.next HVB.out hc hd he hfv2 hfv7 hw
                have HN := Lib.hid hnx.1
                have hlt := hnx.2
                clear hc hd he hfv2 hfv7 hnx
                go_wp2_with (first | (go_at_call 47; refine (spec_IsWord (mkB n) true _ (by omega) hw).mono ?_; rintro e w' ⟨rfl, rfl⟩) | fail)
                refine (l13Insert_c w.heap.size A2 c2 (setT D.secs) (mkB n) v7 HSv7.out (by omega) (by omega)).mono ?_
                rintro e v8 ⟨K2, k2, rfl, ho8, hbv8⟩
                rw [insS_setT] at ho8 ⊢
                have HSv8 := Lib.hid ho8
                clear ho8 HSv7
                have HPv8 := Lib.hid (own_below HPv7.out hbv8)
                have HMv8 := Lib.hid (own_below HMv7.out hbv8)
                have HFav8 := Lib.hid (own_below HFav7.out hbv8)
                have HFbv8 := Lib.hid (own_below HFbv7.out hbv8)
                have HBv8 := Lib.hid (bt HBv7.out hbv8)
                have HVv8 := Lib.hid (rdW hbv8 HVv7.out)
                have hzv8 := hbv8.size
                clear hbv8 HPv7 HMv7 HFav7 HFbv7 HBv7 HVv7
                go_wp2_with fail
                refine (l28Join_d w.heap.size G1 g1 (D.names ++ dv2.names) Eav7 eav7 dv7.names v8 HPv8.out (by omega) _ HFav8.out (by rw [List.length_append]; omega)).mono ?_
                rintro e v9 ⟨K1, k1, rfl, hov9, hbv9⟩
                have HPv9 := Lib.hid hov9
                clear hov9 HPv8
                have HSv9 := Lib.hid (own_below HSv8.out hbv9)
                have HMv9 := Lib.hid (own_below HMv8.out hbv9)
                have HFbv9 := Lib.hid (own_below HFbv8.out hbv9)
                have HBv9 := Lib.hid (bt HBv8.out hbv9)
                have HVv9 := Lib.hid (rdW hbv9 HVv8.out)
                have hzv9 := hbv9.size
                clear hbv9 HSv8 HMv8 HFbv8 HBv8 HVv8
                rcases fd_cases V (mkB n) 0 with ⟨ht, hf⟩ | ⟨k, hk, hf, ht⟩
                · have HFD := Lib.hid hf
                  clear hf
                  have HA := Lib.hid (adS_no (i := dv7) (acc_none ht) (D.app (adF V dv2)))
                  clear ht
                  rw [HA.out, adF_app] at HN
                  go_wp2_with (first | (go_at_call 49; refine (l28Find_c _ vc V (mkB n) v9 HVv9.out hl hcap).mono ?_; rintro e w' ⟨rfl, rfl⟩; rw [HFD.out]))
                  go_roundw
                  case rel => exact ⟨mkB r2, _, K1, k1, K2, k2, G3, g3, rfl, rfl, by first | rfl | rw [← List.append_assoc], by first | rfl | rw [← List.append_assoc], by first | rfl | rw [← List.append_assoc], HN, HPv9, HSv9, HMv9, HBv9⟩
                  case measure => exact hlt
                · rw [Int.zero_add] at hf
                  have HFD := Lib.hid hf
                  clear hf
                  by_cases h0 : V[k].text.size = 0
                  · skip
                    have HA := Lib.hid (adS_no (i := dv7) (acc_empty ht h0) (D.app (adF V dv2)))
                    obtain ⟨bf, offf, rfl, hbf, hcf⟩ := Rd.elem valueC 2 (fun _ => rfl) HVv9.out (by omega) hk
                    have f1 : v9.cell? ⟨bf, offf + k * 2 + 1, none⟩ = some (.string V[k].text) := hcf k hk 1 _ rfl
                    clear hcf
                    have hk0 : (0 : Int) ≤ (k : Int) := by omega
                    have hk1 : (k : Int) < (V.length : Int) := by omega
                    have hne : V[k].text = ⟨#[]⟩ := ba_ext (List.length_eq_zero_iff.1 (by rw [len_data]; exact h0))
                    rw [hne] at f1
                    clear ht h0 hne
                    rw [HA.out, adF_app] at HN
                    go_wp2_with (first | (go_at_call 49; refine (l28Find_c _ vc V (mkB n) v9 HVv9.out hl hcap).mono ?_; rintro e w' ⟨rfl, rfl⟩; rw [HFD.out]))
                    go_roundw
                    case rel => exact ⟨mkB r2, _, K1, k1, K2, k2, G3, g3, rfl, rfl, by first | rfl | rw [← List.append_assoc], by first | rfl | rw [← List.append_assoc], by first | rfl | rw [← List.append_assoc], HN, HPv9, HSv9, HMv9, HBv9⟩
                    case measure => exact hlt
                  · skip
                    have HA := Lib.hid (adS_yes (i := dv7) (acc_some ht h0) (D.app (adF V dv2)))
                    obtain ⟨bf, offf, rfl, hbf, hcf⟩ := Rd.elem valueC 2 (fun _ => rfl) HVv9.out (by omega) hk
                    have f1 : v9.cell? ⟨bf, offf + k * 2 + 1, none⟩ = some (.string V[k].text) := hcf k hk 1 _ rfl
                    clear hcf
                    have hk0 : (0 : Int) ≤ (k : Int) := by omega
                    have hk1 : (k : Int) < (V.length : Int) := by omega
                    have hcb : (V[k].text.toList == ([] : List UInt8)) = false := by
                      rw [beq_eq_false_iff_ne, Go.ByteArray.toList_eq]
                      intro e
                      exact h0 (by rw [← len_data, e]; rfl)
                    clear ht h0
                    rw [HA.out, adF_app] at HN
                    have HT2 := Lib.hid (mkB_app2 (D.text ++ dv2.text) dv7.text)
                    have hsz3 := mkB_size (D.text ++ dv2.text)
                    rw [List.length_append] at hsz3
                    go_wp2_with (first | (go_at_call 49; refine (l28Find_c _ vc V (mkB n) v9 HVv9.out hl hcap).mono ?_; rintro e w' ⟨rfl, rfl⟩; rw [HFD.out]) | fail)
                    refine (l28Join_d w.heap.size G3 g3 (D.lack ++ keptN V dv2.names) Ebv7 ebv7 (keptN V dv7.names) v9 HMv9.out (by omega) _ HFbv9.out (by rw [List.length_append]; omega)).mono ?_
                    rintro e v10 ⟨K3, k3, rfl, hov10, hbv10⟩
                    have HMv10 := Lib.hid hov10
                    clear hov10 HMv9
                    have HPv10 := Lib.hid (own_below HPv9.out hbv10)
                    have HSv10 := Lib.hid (own_below HSv9.out hbv10)
                    have HBv10 := Lib.hid (bt HBv9.out hbv10)
                    have HVv10 := Lib.hid (rdW hbv10 HVv9.out)
                    have hzv10 := hbv10.size
                    clear hbv10 HPv9 HSv9 HBv9 HVv9
                    go_wp2
                    go_roundw
                    case rel => exact ⟨mkB r2, _, K1, k1, K2, k2, K3, k3, rfl, by first | rfl | (rw [HT2.out]), by first | rfl | rw [← List.append_assoc], by first | rfl | rw [← List.append_assoc], by first | rfl | rw [← List.append_assoc], HN, HPv10, HSv10, HMv10, HBv10⟩
                    case measure => exact hlt
end Go.Proofs.Ytilanpmjemlopaa

