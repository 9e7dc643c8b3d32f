/- Contract: MarkWord of the reference. -/
import Derived.Test.YtgckkocndhfbnaaMarkWord1
namespace Go.Proofs.Ytgckkocndhfbnaa
open Go.RowKit
set_option linter.unusedVariables false
theorem codeL_all {s : ByteArray} {L : List MarkD} {lv : Int} (h : codeK s L ≠ 0) : codeL s L lv = codeK s L := by
  cases hb : inB lv 0 9
  · rw [codeL_out hb, if_neg h]
  · exact codeL_in hb
set_option maxRecDepth 100000 in
set_option maxHeartbeats 8000000 in
theorem spec_MarkWord (s : ByteArray) (A : Option Addr) (c : Nat) (L : List MarkD) (t : ByteArray) (lv : Int) (w : World) (hs : s.size ≤ 1048576) (hr : Rd w w.heap.size A (L.length * 3) (L.flatMap markC)) (hl : L.length ≤ 140737488355328) (hcap : L.length ≤ c) (htz : t.size ≤ 9223372036854775807) :
    Calls Try.prog 28 #[.string s, .slice A L.length c, .string t, .int .i64 lv] w (RowPost2 42 3 (mwR s L t lv).1.length ((mwR s L t lv).1.flatMap markC) (mwR s L t lv).2 w) := by
  obtain ⟨i0, hi, hz0, hz1, hz2⟩ := info_parts mark_info
  by_cases h0 : codeK s L = 0
  · obtain ⟨hT, hM⟩ := codeK_0 h0
    have h12 := (marks_parts hM).1
    have h400 := text_len hT
    cases hg : (inB lv 1 9 && isWordB t)
    · rw [mwR_rng h0 hg]
      cases hw : isWordB t
      · have hc : codeL s L (-1) = 2 := by rw [codeL_out (by decide), if_pos h0]
        have HC := Lib.hid (show ∀ (W : World) a, Calls Try.prog 49 #[.string s, .slice A L.length c, .int .i64 (-1)] W (fun e w2 => e = .returned (.int .i64 2) ∧ Below W.heap.size W w2) from fun W a => by rw [← hc]; exact l32Code_c s A c L (-1) W hs a hl hcap)
        clear hc hg
        go_enter Try.func28, Try.ntmps28
        go_wp2_with (first | (go_at_call 61; refine (spec_IsWord _ _ _ htz hw).mono ?_; rintro e w' ⟨rfl, rfl⟩))
        refine (HC.out w hr).mono ?_
        rintro e w1 ⟨rfl, hb1⟩
        go_wp2
        go_ret2
        exact rowPost2_nil hb1
      · by_cases hz : lv = 0
        · subst hz
          have hc : codeL s L (-1) = 2 := by rw [codeL_out (by decide), if_pos h0]
          have HC := Lib.hid (show ∀ (W : World) a, Calls Try.prog 49 #[.string s, .slice A L.length c, .int .i64 (-1)] W (fun e w2 => e = .returned (.int .i64 2) ∧ Below W.heap.size W w2) from fun W a => by rw [← hc]; exact l32Code_c s A c L (-1) W hs a hl hcap)
          clear hc hg
          go_enter Try.func28, Try.ntmps28
          go_wp2_with (first | (go_at_call 61; refine (spec_IsWord _ _ _ htz hw).mono ?_; rintro e w' ⟨rfl, rfl⟩))
          refine (HC.out w hr).mono ?_
          rintro e w1 ⟨rfl, hb1⟩
          go_wp2
          go_ret2
          exact rowPost2_nil hb1
        · have hlz : (lv == 0) = false := beq_eq_false_iff_ne.2 hz
          have hi9 : inB lv 0 9 = false := by
            rw [hw, Bool.and_true] at hg
            have := inB_niff.1 hg
            exact inB_niff.2 (by omega)
          have hc : codeL s L lv = 2 := by rw [codeL_out hi9, if_pos h0]
          have HC := Lib.hid (show ∀ (W : World) a, Calls Try.prog 49 #[.string s, .slice A L.length c, .int .i64 lv] W (fun e w2 => e = .returned (.int .i64 2) ∧ Below W.heap.size W w2) from fun W a => by rw [← hc]; exact l32Code_c s A c L lv W hs a hl hcap)
          clear hc hg hi9
          go_enter Try.func28, Try.ntmps28
          go_wp2_with (first | (go_at_call 61; refine (spec_IsWord _ _ _ htz hw).mono ?_; rintro e w' ⟨rfl, rfl⟩))
          refine (HC.out w hr).mono ?_
          rintro e w1 ⟨rfl, hb1⟩
          go_wp2
          go_ret2
          exact rowPost2_nil hb1
    · rw [mwR_ok h0 hg]
      have hg2 := hg
      rw [Bool.and_eq_true] at hg2
      have hlv := inB_iff.1 hg2.1
      have hw := hg2.2
      have htl := word_len hw
      have hv : ∀ o ∈ L, o.from_ < o.to := fun o ho => by
        obtain ⟨j, hj, rfl⟩ := List.getElem_of_mem ho
        exact (marks_elem (n := (s.size : Int)) (by omega) hM hj).2.1
      obtain ⟨R, hR⟩ : ∃ R, mwAll s t L lv = R := ⟨_, rfl⟩
      rw [hR]
      have HR0 : Hid (mwGo insS s t L lv (s.size + 1) 0 L = R) := (mw_same hv htl.1 (s.size + 1) 0 L (fun x hx => .inl hx)).trans hR
      have hlz : (lv == 0) = false := beq_eq_false_iff_ne.2 (by omega)
      have hc : codeL s L lv = 0 := by rw [codeL_in (inB_true (by omega) (by omega))]; exact h0
      have HC := Lib.hid (show ∀ (W : World) a, Calls Try.prog 49 #[.string s, .slice A L.length c, .int .i64 lv] W (fun e w2 => e = .returned (.int .i64 0) ∧ Below W.heap.size W w2) from fun W a => by rw [← hc]; exact l32Code_c s A c L lv W hs a hl hcap)
      have HON := Lib.hid (one_mark L)
      clear hR hg hg2 hv h0 hT hM hc
      go_enter Try.func28, Try.ntmps28
      go_wp2_with (first | (go_at_call 61; refine (spec_IsWord _ _ _ htz hw).mono ?_; rintro e w' ⟨rfl, rfl⟩))
      refine (HC.out w hr).mono ?_
      rintro e w1 ⟨rfl, hb1⟩
      have HL := Lib.hid (World.ownsRow_lit (base := w1.heap.size) (size := 3) (e := 42) w1 #[] 0 (Nat.le_refl _) (by unfold maxLen; omega) rfl)
      have HRx := Lib.hid ((rdW hb1 hr).alloc (Nat.le_refl _) (.cells #[] 42))
      have hBx : Below w.heap.size w (w1.alloc (.cells #[] 42)) := hb1.alloc hb1.size _
      clear hw
      go_wp2_with (first | (at_builtin; refine wpList_cat _ rfl _ _ 24 rfl w1.heap.size 42 i0 _ 3 24 Try.underlying24 hi hz0 hz1 hz2 rfl (by decide) (.slice (some ⟨w1.heap.size, 0, none⟩) 0 0) (0) ([]) (by rfl) HL.out A (L.length) c w1.heap.size (L.flatMap markC) (by rfl) HRx.out HON.out (by unfold maxLen; omega) (by omega) (by simp) ?_; intro A2 c2 w3 ho3 hg3; simp only [Nat.zero_add, List.nil_append] at ho3; have HG3 := Lib.hid hg3; have HOx := Lib.hid ho3; clear ho3 hg3))
      have hBs : Below w.heap.size w w3 := below_grown hBx HG3.out (Nat.le_refl _) (fun k hk => by cases hk; exact hb1.size)
      have HOs := Lib.hid (own_mono HOx.out hb1.size)
      have hzs := hBs.size
      clear HOx HG3 HL HRx hBx
      try go_wp2
      go_loopw [11, 13] (fun ov av wr => ∃ (A3 : Option Addr) (c3 : Nat) (D : List MarkD) (a f : Nat), av = .int .i64 a ∧ ov = .slice A3 D.length c3 ∧ s.size + 1 ≤ f + a ∧ a ≤ s.size + 16 ∧ D.length + f ≤ s.size + 13 ∧ Hid (mwGo insS s t L lv f a D = R) ∧ w.heap.size ≤ wr.heap.size ∧ Below w.heap.size w wr ∧ Hid (wr.ownsRow w.heap.size 42 3 (.slice A3 D.length c3) D.length (D.flatMap markC)))
        (fun _ av _ => 1000 - (intOf av).toNat)
      case atStart => exact ⟨_, _, L, 0, s.size + 1, rfl, rfl, by omega, by omega, by omega, HR0.out, by omega, hBs, HOs⟩
      case round =>
        obtain ⟨A3, c3, D, a, f, rfl, rfl, hfa, ha, hDf, HRr, hzr, hBr, HOr⟩ := hrel
        clear HOs
        have hcap3 := own_cap HOr.out
        obtain ⟨e, hea⟩ : ∃ e, a + t.size = e := ⟨_, rfl⟩
        have hae : (a : Int) + (t.size : Int) = (e : Int) := by omega
        have ha0 : (0 : Int) ≤ (a : Int) := by omega
        have hae1 : (a : Int) ≤ (e : Int) := by omega
        have hlt1 : a < e := by omega
        by_cases hgo : e ≤ s.size
        · obtain ⟨f, rfl⟩ : ∃ g, f = g + 1 := ⟨f - 1, by omega⟩
          have hgi : (e : Int) ≤ (s.size : Int) := by omega
          cases hq : eqAt s t a e
          · have HR2 := Lib.hid ((mw_miss hea hgo hq).symm.trans HRr.out)
            have hq1 : ((s.extract a e).toList == t.toList) = false := hq
            have hq2 : ((s.extract a e).toList != t.toList) = true := by rw [bne, hq1]; rfl
            have HEA := Lib.hid hea
            clear hq hea
            go_wp2
            go_roundw
            case rel => exact ⟨A3, c3, D, a + 1, f, by go_num, rfl, by omega, by omega, by omega, HR2, by first | omega | (simp; omega), by first | exact hBr | exact hBr.alloc (by omega) _, by first | exact HOr | exact Lib.hid (HOr.out.alloc _)⟩
            case measure => simp [intOf]; omega
          · have hq1 : ((s.extract a e).toList == t.toList) = true := hq
            have hq2 : ((s.extract a e).toList != t.toList) = false := by rw [bne, hq1]; rfl
            cases hh : hitB (a : Int) (e : Int) L
            · have HR2 := Lib.hid ((mw_ins hea hgo hq hh).symm.trans HRr.out)
              have HEA := Lib.hid hea
              have HH := Lib.hid hh
              clear hq hea hh
              go_wp2_with fail
              refine (l32Free_c A c L (a : Int) (e : Int) true wr (rdW hBr hr) (by omega) (by rw [HH.out]; rfl)).mono ?_
              rintro e2 w2 ⟨rfl, hb2⟩
              have hB2 := bt hBr hb2
              have hz2 := hb2.size
              have HO2 := Lib.hid (own_below HOr.out hb2)
              go_wp2_with fail
              refine (l32Insert_c A3 c3 D (a : Int) (e : Int) lv w2 (Rd.of_own HO2.out) (by omega) hcap3.1 (own_hA HO2.out)).mono ?_
              rintro e3 w3 ⟨A4, c4, rfl, ho4, hb4, hn4, hm4⟩
              have hB4 := bt hB2 hb4
              have hz4 := hb4.size
              have hil := insS_len D ⟨(a : Int), (e : Int), lv⟩
              have HO4 := Lib.hid (own_mono ho4 (base' := w.heap.size) (by omega))
              have HIL := Lib.hid hil
              clear ho4 hil
              go_wp2
              go_roundw
              case rel => exact ⟨A4, c4, insS D ⟨(a : Int), (e : Int), lv⟩, e, f, by go_num, by rw [HIL.out], by omega, by have := HEA.out; omega, by rw [HIL.out]; omega, HR2, by omega, hB4, by rw [HIL.out]; exact HO4⟩
              case measure => simp [intOf]; omega
            · have HR2 := Lib.hid ((mw_hit hea hgo hq hh).symm.trans HRr.out)
              have HEA := Lib.hid hea
              have HH := Lib.hid hh
              clear hq hea hh
              go_wp2_with fail
              refine (l32Free_c A c L (a : Int) (e : Int) false wr (rdW hBr hr) (by omega) (by rw [HH.out]; rfl)).mono ?_
              rintro e2 w2 ⟨rfl, hb2⟩
              have hB2 := bt hBr hb2
              have hz2 := hb2.size
              have HO2 := Lib.hid (own_below HOr.out hb2)
              go_wp2
              go_roundw
              case rel => exact ⟨A3, c3, D, e, f, by go_num, rfl, by omega, by have := HEA.out; omega, by omega, HR2, by omega, hB2, HO2⟩
              case measure => simp [intOf]; omega
        · have hgi : ¬ (e : Int) ≤ (s.size : Int) := by omega
          have hRD : D = R := (mw_end (by omega)).symm.trans HRr.out
          subst hRD
          by_cases h12 : D.length ≤ 12
          · have h12i : ¬ (12 : Int) < (D.length : Int) := by omega
            go_wp2
            go_ret2
            rw [show mwFin D = (D, 0) from if_pos h12]
            exact rowPost2_mk HOr.out hBr
          · have h12i : (12 : Int) < (D.length : Int) := by omega
            go_wp2
            go_ret2
            rw [show mwFin D = ([], 3) from if_neg h12]
            exact rowPost2_nil hBr
  · rw [mwR_bad h0]
    have hne : (codeK s L != 0) = true := bne_iff_ne.2 h0
    have hcode := fun (l : Int) (W : World) a => l32Code_c s A c L l W hs a hl hcap
    have hca := fun (l : Int) => codeL_all (lv := l) h0
    simp only [hca] at hcode
    clear hca
    generalize codeK s L = q at *
    have HC := Lib.hid hcode
    clear hcode
    cases hw : isWordB t
    · go_enter Try.func28, Try.ntmps28
      go_wp2_with (first | (go_at_call 61; refine (spec_IsWord _ _ _ htz hw).mono ?_; rintro e w' ⟨rfl, rfl⟩))
      refine (HC.out (-1) w hr).mono ?_
      rintro e w1 ⟨rfl, hb1⟩
      go_wp2
      go_ret2
      exact rowPost2_nil hb1
    · by_cases hz : lv = 0
      · subst hz
        go_enter Try.func28, Try.ntmps28
        go_wp2_with (first | (go_at_call 61; refine (spec_IsWord _ _ _ htz hw).mono ?_; rintro e w' ⟨rfl, rfl⟩))
        refine (HC.out (-1) w hr).mono ?_
        rintro e w1 ⟨rfl, hb1⟩
        go_wp2
        go_ret2
        exact rowPost2_nil hb1
      · have hlz : (lv == 0) = false := beq_eq_false_iff_ne.2 hz
        go_enter Try.func28, Try.ntmps28
        go_wp2_with (first | (go_at_call 61; refine (spec_IsWord _ _ _ htz hw).mono ?_; rintro e w' ⟨rfl, rfl⟩))
        refine (HC.out lv w hr).mono ?_
        rintro e w1 ⟨rfl, hb1⟩
        go_wp2
        go_ret2
        exact rowPost2_nil hb1
end Go.Proofs.Ytgckkocndhfbnaa
