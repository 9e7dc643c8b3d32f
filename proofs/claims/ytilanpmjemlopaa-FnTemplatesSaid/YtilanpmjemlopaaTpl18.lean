/- Contract: l28Fill. -/
import Derived.Test.YtilanpmjemlopaaTpl17
namespace Go.Proofs.Ytilanpmjemlopaa
open Go.RowKit
set_option linter.unusedVariables false
theorem nxt_none {s : ByteArray} (h : cutP badC s.data.toList = none) : NxtP s = (s, 0, ⟨#[]⟩) := by unfold NxtP; rw [h]
theorem nxt_some {s : ByteArray} {a r : List UInt8} {b : UInt8} (h : cutP badC s.data.toList = some (a, b, r)) : NxtP s = (mkB a, (b.toNat : Int), mkB r) := by unfold NxtP; rw [h]
theorem unt_none {s : ByteArray} {c : UInt8} (h : cutP (isC c) s.data.toList = none) : UntP s c = (⟨#[]⟩, ⟨#[]⟩, false) := by unfold UntP; rw [h]
theorem unt_some {s : ByteArray} {c : UInt8} {a r : List UInt8} {b : UInt8} (h : cutP (isC c) s.data.toList = some (a, b, r)) : UntP s c = (mkB a, mkB r, true) := by unfold UntP; rw [h]
theorem u8_ne {b : UInt8} {n : Nat} (hn : n < 256) (h : b ≠ UInt8.ofNat n) : (b.toNat : Int) ≠ (n : Int) := by
  intro e
  apply h
  rw [← UInt8.toNat_inj, UInt8.toNat_ofNat', Nat.mod_eq_of_lt hn]; omega
theorem results_tmp4 {fn : Func} {t u v x : Tmp} (h : fn.results = #[.tmp t, .tmp u, .tmp v, .tmp x]) (tmps : Array Value) (P : Program) (w : World) :
    (results fn tmps).run P w = .ok (.tuple #[tmps.getD t undef, tmps.getD u undef, tmps.getD v undef, tmps.getD x undef]) w := by
  simp [results, h]
theorem results_tmp5 {fn : Func} {t u v x y : Tmp} (h : fn.results = #[.tmp t, .tmp u, .tmp v, .tmp x, .tmp y]) (tmps : Array Value) (P : Program) (w : World) :
    (results fn tmps).run P w = .ok (.tuple #[tmps.getD t undef, tmps.getD u undef, tmps.getD v undef, tmps.getD x undef, tmps.getD y undef]) w := by
  simp [results, h]
theorem fapp_nil {o : Option FD} {D : FD} {x : List UInt8} (h : o = some (D.app ⟨x, []⟩)) : o = some ⟨D.text ++ x, D.names⟩ := by
  rw [h]; unfold FD.app; rw [List.append_nil]
set_option maxRecDepth 100000 in
set_option maxHeartbeats 8000000 in
theorem l28Fill_c (s : ByteArray) (vA : Option Addr) (vc : Nat) (V : List ValueD) (w : World) (hs : s.size ≤ 2000000) (hr : Rd w w.heap.size vA (V.length * 2) (V.flatMap valueC)) (hl : V.length ≤ 140737488355328) (hcap : V.length ≤ vc) (hV : ValB V) :
    Calls Try.prog 45 #[.string s, .slice vA V.length vc] w (ReadF V s w) := by
  have HV := Lib.hid hr; have HVB := Lib.hid hV
  clear hr hV
  go_enter Try.func45, Try.ntmps45
  go_upto_region 2 with fail
  have HO1 : Hid (((w.alloc (.cells #[] 9)).alloc (.cells #[] 9)).ownsRow w.heap.size 9 1 (.slice (some ⟨w.heap.size, 0, none⟩) (setT ([])).length 0) (setT ([])).length ((setT ([])).map Value.string)) := by
    unfold Hid; rw [setT_nil]; exact own_empty (heap_at1 w _ _) (Nat.le_refl _)
  have HO2 : Hid (((w.alloc (.cells #[] 9)).alloc (.cells #[] 9)).ownsRow w.heap.size 9 1 (.slice (some ⟨w.heap.size + 1, 0, none⟩) (setT (keptN V [])).length 0) (setT (keptN V [])).length ((setT (keptN V [])).map Value.string)) := by
    unfold Hid; rw [show keptN V [] = [] from rfl, setT_nil]; exact own_empty (heap_alloc2_new w _ _) (Nat.le_succ _)
  have HB0 := Lib.hid (((Below.refl w.heap.size w).alloc (Nat.le_refl _) (.cells #[] 9)).alloc (by simp) (.cells #[] 9))
  have HS0 : Hid ((setT ([] : List ByteArray)).length = 0 ∧ (setT (keptN V [])).length = 0) := by
    unfold Hid; rw [show keptN V [] = [] from rfl, setT_nil]; exact ⟨rfl, rfl⟩
  go_loopw [0, 8, 9, 10] (fun sv ov pv mv wr => ∃ (cur : ByteArray) (D : FD) (A1 : Option Addr) (c1 : Nat) (A2 : Option Addr) (c2 : Nat), sv = .string cur ∧ ov = .string (mkB D.text) ∧ pv = .slice A1 (setT D.names).length c1 ∧ mv = .slice A2 (setT (keptN V D.names)).length c2 ∧ Hid (RF V s D cur) ∧
    Hid (wr.ownsRow w.heap.size 9 1 (.slice A1 (setT (D.names)).length c1) (setT (D.names)).length ((setT (D.names)).map Value.string)) ∧ Hid (wr.ownsRow w.heap.size 9 1 (.slice A2 (setT (keptN V D.names)).length c2) (setT (keptN V D.names)).length ((setT (keptN V D.names)).map Value.string)) ∧ Hid (Below w.heap.size w wr)) (fun sv _ _ _ _ => strLenV sv)
  case atStart => exact ⟨s, ⟨[], []⟩, some ⟨w.heap.size, 0, none⟩, 0, some ⟨w.heap.size + 1, 0, none⟩, 0, rfl, rfl, by rw [HS0.out.1], by rw [HS0.out.2], RF.start V s, HO1, HO2, HB0⟩
  case round =>
    obtain ⟨cur, D, A1, c1, A2, c2, rfl, rfl, rfl, rfl, HRF, HO1, HO2, HB⟩ := hrel
    clear HS0 HB0
    have hcs := HRF.out.le
    have hnm := HRF.out.nm
    have htx := HRF.out.tx
    have hkl := keptN_len V D.names
    have hs1 := setT_len D.names
    have hs2 := setT_len (keptN V D.names)
    have hzr := HB.out.size
    have hmz := mkB_size D.text
    go_wp2_with fail
    refine (l28Next_c cur wr (by omega)).mono ?_
    rintro e w2 ⟨rfl, hb2⟩
    have HB2 := Lib.hid (bt HB.out hb2)
    have HP2 := Lib.hid (own_below HO1.out hb2)
    have HQ2 := Lib.hid (own_below HO2.out hb2)
    clear hb2 HO1 HO2
    cases hc : cutP badC cur.data.toList with
    | none =>
      have HE := Lib.hid (fapp_nil (HRF.out.end_ hc))
      rw [nxt_none hc]
      have HT := Lib.hid (mkB_app D.text cur)
      clear hc
      go_wp2
      ((try simp only [Exit.inBlock, Exit.then]); refine bodyPost_ret (results_tmp4 rfl _ _ _) rfl ?_)
      unfold ReadF
      exact .inr ⟨_, A1, c1, A2, c2, HE.out, by rw [HT.out]; rfl, HP2.out, HQ2.out, HB2.out⟩
    | some x =>
      obtain ⟨a, b, r⟩ := x
      have hl1 := cutP_len hc
      rw [len_data] at hl1
      have hza := mkB_size a
      have hzr' := mkB_size r
      rw [nxt_some hc]
      have HT := Lib.hid (mkB_app2 D.text a)
      by_cases h0 : b = 0
      · subst h0
        have HE := Lib.hid (fapp_nil (HRF.out.zero hc))
        have hb0 : (((0 : UInt8).toNat : Nat) : Int) = 0 := rfl
        rw [hb0]
        clear hc hb0
        go_wp2
        ((try simp only [Exit.inBlock, Exit.then]); refine bodyPost_ret (results_tmp4 rfl _ _ _) rfl ?_)
        unfold ReadF
        exact .inr ⟨_, A1, c1, A2, c2, HE.out, by rw [HT.out]; rfl, HP2.out, HQ2.out, HB2.out⟩
      · by_cases hb : b = 123
        · subst hb
          have hb1 : (((123 : UInt8).toNat : Nat) : Int) = 123 := rfl
          rw [hb1]
          clear h0 hb1
          have HRFc := Lib.hid hc
          clear hc
          go_upto_region 4 with fail
          rw [HT.out]
          have hz2 := mkB_size (D.text ++ a)
          rw [List.length_append] at hz2
          go_wp2_with fail
          refine (l28Until_c (mkB r) 125 125 w2 rfl (by omega)).mono ?_
          rintro e w3 ⟨rfl, hb3⟩
          have HB3 := Lib.hid (bt HB2.out hb3)
          have HP3 := Lib.hid (own_below HP2.out hb3)
          have HQ3 := Lib.hid (own_below HQ2.out hb3)
          have hz3 := HB3.out.size
          clear hb3 HP2 HQ2
          cases hd : cutP (isC 125) r with
          | none =>
            have HE := Lib.hid (HRF.out.bad2 HRFc.out hd)
            rw [unt_none (s := mkB r) hd]
            clear hd
            go_wp2
            ((try simp only [Exit.inBlock, Exit.then]); refine bodyPost_ret (results_tmp4 rfl _ _ _) rfl ?_)
            exact .inl ⟨HE.out, rfl, HB3.out⟩
          | some y =>
            obtain ⟨n, b2, r2⟩ := y
            have hl2 := cutP_len hd
            have hzn := mkB_size n
            have hzq := mkB_size r2
            rw [unt_some (s := mkB r) hd]
            cases hw : isWordB (mkB n) with
            | false =>
              have HE := Lib.hid (HRF.out.bad3 HRFc.out hd hw)
              clear hd
              go_wp2_with (first | (go_at_call 47; refine (spec_IsWord (mkB n) false _ (by omega) hw).mono ?_; rintro e w' ⟨rfl, rfl⟩))
              ((try simp only [Exit.inBlock, Exit.then]); refine bodyPost_ret (results_tmp4 rfl _ _ _) rfl ?_)
              exact .inl ⟨HE.out, rfl, HB3.out⟩
            | true =>
              have hnx := HRF.out.next HVB.out HRFc.out hd hw
              have HN := Lib.hid hnx.1
              have hlt := hnx.2
              have hgv := getV_len HVB.out (mkB n)
              clear hd hnx
              go_wp2_with (first | (go_at_call 47; refine (spec_IsWord (mkB n) true _ (by omega) hw).mono ?_; rintro e w' ⟨rfl, rfl⟩) | fail)
              have hsn := setT_len (D.names ++ [mkB n])
              rw [List.length_append] at hsn
              simp only [List.length_cons, List.length_nil] at hsn
              refine (l13Insert_c w.heap.size A1 c1 (setT D.names) (mkB n) w3 HP3.out (by omega) (by omega)).mono ?_
              rintro e w4 ⟨A3, c3, rfl, ho4, hb4⟩
              rw [insS_setT] at ho4 ⊢
              have HP4 := Lib.hid ho4
              have HB4 := Lib.hid (bt HB3.out hb4)
              have HQ4 := Lib.hid (own_below HQ3.out hb4)
              have hz4 := hb4.size
              clear ho4 hb4 HP3 HQ3
              have HVr := Lib.hid (rdW HB4.out HV.out)
              rcases fd_cases V (mkB n) 0 with ⟨ht, hf⟩ | ⟨k, hk, hf, ht⟩
              · have HG := Lib.hid (getV_none ht)
                have HKN := Lib.hid (kept_snoc_yes (L := D.names) ht)
                have HFD := Lib.hid hf
                clear ht hf
                go_wp2_with (first | (go_at_call 49; refine (l28Find_c vA vc V (mkB n) w4 HVr.out hl hcap).mono ?_; rintro e w' ⟨rfl, rfl⟩; rw [HFD.out]) | fail)
                refine (l13Insert_c w.heap.size A2 c2 (setT (keptN V D.names)) (mkB n) w4 HQ4.out (by omega) (by omega)).mono ?_
                rintro e w5 ⟨A5, c5, rfl, ho5, hb5⟩
                rw [insS_setT, ← HKN.out] at ho5
                rw [insS_setT, ← HKN.out]
                have HP5 := Lib.hid (own_below HP4.out hb5)
                have HQ5 := Lib.hid ho5
                have HB5 := Lib.hid (bt HB4.out hb5)
                clear ho5 hb5 HP4 HQ4
                go_wp2
                go_roundw
                case rel => exact ⟨mkB r2, _, A3, c3, A5, c5, rfl, by unfold FD.app; rw [HG.out, List.append_nil], rfl, rfl, HN, HP5, HQ5, HB5⟩
                case measure => exact hlt
              · have HG := Lib.hid (getV_some ht)
                have HKN := Lib.hid (kept_snoc_no (L := D.names) ht)
                have hgs : V[k].text.size ≤ 2000000 := HVB.out _ (List.getElem_mem hk)
                rw [Int.zero_add] at hf
                have HFD := Lib.hid hf
                clear ht hf
                obtain ⟨bf, offf, rfl, hbf, hcf⟩ := Rd.elem valueC 2 (fun _ => rfl) HVr.out (by omega) hk
                have f1 : w4.cell? ⟨bf, offf + k * 2 + 1, none⟩ = some (.string V[k].text) := hcf k hk 1 _ rfl
                clear hcf
                have hk0 : (0 : Int) ≤ (k : Int) := by omega
                have hk1 : (k : Int) < (V.length : Int) := by omega
                have HT2 := Lib.hid (mkB_app (D.text ++ a) V[k].text)
                have hkn : ((k : Int) < 0) = False := by simp
                rw [← HKN.out] at HQ4 ⊢
                go_wp2_with (first | (go_at_call 49; refine (l28Find_c _ vc V (mkB n) w4 HVr.out hl hcap).mono ?_; rintro e w' ⟨rfl, rfl⟩; rw [HFD.out]))
                go_roundw
                case rel => exact ⟨mkB r2, _, A3, c3, A2, c2, rfl, by unfold FD.app; rw [HG.out, HT2.out, List.append_assoc], rfl, rfl, HN, HP4, HQ4, HB4⟩
                case measure => exact hlt
        · have HE := Lib.hid (HRF.out.bad1 hc h0 hb)
          have h0' := u8_ne (n := 0) (by omega) h0
          have hb' := u8_ne (n := 123) (by omega) hb
          generalize (b.toNat : Int) = z at *
          clear hc h0 hb
          go_wp2
          ((try simp only [Exit.inBlock, Exit.then]); refine bodyPost_ret (results_tmp4 rfl _ _ _) rfl ?_)
          exact .inl ⟨HE.out, rfl, HB2.out⟩
end Go.Proofs.Ytilanpmjemlopaa
