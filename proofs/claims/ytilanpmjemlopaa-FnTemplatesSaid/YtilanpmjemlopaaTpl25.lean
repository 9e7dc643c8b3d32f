/- Contracts: FillTemplate, PlacesOf, SectionsOf of both, impl.IsTemplate. -/
import Derived.Test.YtilanpmjemlopaaTpl24
namespace Go.Proofs.Ytilanpmjemlopaa
open Go.RowKit
set_option linter.unusedVariables false
theorem len_pos {α : Type} {L : List α} (h : ¬ L = []) : (0 : Int) < (L.length : Int) := by
  have := List.length_pos_iff.2 h
  omega
set_option maxRecDepth 100000 in
set_option maxHeartbeats 4000000 in
theorem impl_FillTemplate (s : ByteArray) (A : Option Addr) (c : Nat) (V : List ValueD) (w : World) (hs : s.size ≤ 2000000) (m : Int) (hm : w.cell? ⟨0, 0, none⟩ = some (.int .i64 m)) (hr : Rd w w.heap.size A (V.length * 2) (V.flatMap valueC)) (hl : V.length ≤ 140737488355328) (hcap : V.length ≤ c) (hW : ∀ x ∈ V, ValueW x) :
    Calls Try.prog 16 #[.string s, .slice A V.length c] w fun e w' => e = .returned (.tuple #[.string (fillB s V), .int .i64 (fillE s V)]) ∧ Below w.heap.size w w' := by
  have HR := Lib.hid hr; have HW := Lib.hid hW
  clear hr hW
  have hrt := readTemplate_c s w hs m hm
  have HRT := Lib.hid hrt
  clear hrt hm
  go_enter Try.func16, Try.ntmps16
  go_wp2_with fail
  refine HRT.out.mono ?_
  intro e w2 h2
  rcases h2 with ⟨ht, rfl, hb2⟩ | ⟨M, g, c2, ht, rfl, ho2, hin2, hb2⟩
  · have HM := Lib.hid (fill_1 (V := V) ht)
    have HB2 := Lib.hid hb2
    clear ht hb2
    go_wp2
    go_ret2
    rw [HM.out.1, HM.out.2]
    exact ⟨rfl, HB2.out⟩
  · have hwt := tpl_wt ht
    have HTB := Lib.hid (tpl_txtB ht)
    have HO2 := Lib.hid ho2; have HI2 := Lib.hid hin2; have HB2 := Lib.hid hb2; have HT := Lib.hid ht
    have HR2 := Lib.hid (rdW hb2 HR.out)
    clear ho2 hin2 hb2 ht
    go_wp2_with fail
    refine (impl_AreValues A c V w2 HR2.out hl hcap HW.out).mono ?_
    rintro e w3 ⟨rfl, hb3⟩
    have HB3 := Lib.hid (bt HB2.out hb3)
    have HR3 := Lib.hid (rdW hb3 HR2.out)
    have HO3 := Lib.hid (own_below HO2.out hb3)
    have HI3 := Lib.hid (HI2.out.below hb3)
    clear hb3 HO2 HI2 HR2 HB2
    cases hv : valsOk V with
    | false =>
      have HM := Lib.hid (fill_2 (V := V) HT.out hv)
      go_wp2
      go_ret2
      rw [HM.out.1, HM.out.2]
      exact ⟨rfl, HB3.out⟩
    | true =>
      have HVB := Lib.hid (valsOk_B hv)
      have HTI := Lib.hid (textIT_eq (valsOk_G hv) (tpl_ok HT.out))
      go_wp2_with fail
      refine (missing_c (some ⟨g, 0, none⟩) c2 M A c V w3 HR3.out hl hcap (Rd.of_own HO3.out) (fun p hp => (HI3.out p hp).1) (by omega)).mono ?_
      rintro e w4 ⟨A4, c4, rfl, ho4, hb4⟩
      have HB4 := Lib.hid (bt HB3.out hb4)
      have HR4 := Lib.hid (rdW hb4 HR3.out)
      have HO4 := Lib.hid (own_below HO3.out hb4)
      have HI4 := Lib.hid (HI3.out.below hb4)
      clear ho4 hb4 HO3 HI3 HR3 HB3
      by_cases hmm : missV V (M.map PtM.d) = []
      · have HM := Lib.hid (fill_4 (V := V) HT.out hv hmm)
        have HL : Hid ((missV V (M.map PtM.d)).length = 0) := by unfold Hid; rw [hmm]; rfl
        clear hmm
        rw [HL.out]
        go_wp2_with fail
        refine (fill_c (some ⟨g, 0, none⟩) c2 M A c V w4 (Rd.of_own HO4.out) (fun p hp => (HI4.out p hp).1) (by omega) HTB.out HR4.out hl hcap HVB.out).mono ?_
        rintro e w5 ⟨rfl, hb5⟩
        have HB5 := Lib.hid (bt HB4.out hb5)
        clear hb5
        rw [HTI.out]
        go_wp2
        go_ret2
        rw [HM.out.1, HM.out.2]
        exact ⟨rfl, HB5.out⟩
      · have HM := Lib.hid (fill_3 (V := V) HT.out hv hmm)
        have hlp := len_pos hmm
        clear hmm
        go_wp2
        go_ret2
        rw [HM.out.1, HM.out.2]
        exact ⟨rfl, HB4.out⟩
noncomputable def plN (s : ByteArray) : List ByteArray := match tplOf s with
  | none => []
  | some T => setT (allT T)
noncomputable def seN (s : ByteArray) : List ByteArray := match tplOf s with
  | none => []
  | some T => setT (secsT T)
noncomputable def plE (s : ByteArray) : Int := if (tplOf s).isSome = true then 0 else 6
noncomputable def PlP (s : ByteArray) (w : World) (e : Ending) (w' : World) : Prop := RowPost2 9 1 (plN s).length ((plN s).map Value.string) (plE s) w e w'
noncomputable def SeP (s : ByteArray) (w : World) (e : Ending) (w' : World) : Prop := RowPost2 9 1 (seN s).length ((seN s).map Value.string) (plE s) w e w'
theorem pl_1 {s : ByteArray} (h : tplOf s = none) : plN s = [] ∧ seN s = [] ∧ plE s = 6 := by unfold plN seN plE; rw [h]; exact ⟨rfl, rfl, rfl⟩
theorem pl_2 {s : ByteArray} {T : List PtD} (h : tplOf s = some T) : plN s = setT (allT T) ∧ seN s = setT (secsT T) ∧ plE s = 0 := by unfold plN seN plE; rw [h]; exact ⟨rfl, rfl, rfl⟩
theorem placesT_eq (M : List PtM) : plsT (fun _ => true) (M.map PtM.d) = allT (M.map PtM.d) := rfl
set_option maxRecDepth 100000 in
set_option maxHeartbeats 4000000 in
theorem impl_PlacesOf (s : ByteArray) (w : World) (hs : s.size ≤ 2000000) (m : Int) (hm : w.cell? ⟨0, 0, none⟩ = some (.int .i64 m)) :
    Calls Try.prog 19 #[.string s] w (PlP s w) := by
  have hrt := readTemplate_c s w hs m hm
  have HRT := Lib.hid hrt
  clear hrt hm
  go_enter Try.func19, Try.ntmps19
  go_wp2_with fail
  refine HRT.out.mono ?_
  intro e w2 h2
  rcases h2 with ⟨ht, rfl, hb2⟩ | ⟨M, g, c2, ht, rfl, ho2, hin2, hb2⟩
  · have HM := Lib.hid (pl_1 ht)
    have HB2 := Lib.hid hb2
    clear ht hb2
    go_wp2
    go_ret2
    unfold PlP
    rw [HM.out.1, HM.out.2.2]
    exact rowPost2_nil HB2.out
  · have hwt := tpl_wt ht
    have HM := Lib.hid (pl_2 ht)
    have HO2 := Lib.hid ho2; have HI2 := Lib.hid hin2; have HB2 := Lib.hid hb2
    have hpl := plsT_len (fun _ => true) (M.map PtM.d)
    rw [placesT_eq] at hpl
    have HPE : Hid (plsT (fun _ => true) (M.map PtM.d) = allT (M.map PtM.d)) := rfl
    clear ho2 hin2 hb2 ht
    go_wp2_with fail
    refine (placesAll_c (some ⟨g, 0, none⟩) c2 M w2 (Rd.of_own HO2.out) (fun p hp => (HI2.out p hp).1) (by omega)).mono ?_
    rintro e w3 ⟨A3, c3, rfl, ho3, hb3⟩
    rw [HPE.out] at ho3 ⊢
    have HO3 := Lib.hid ho3
    have HB3 := Lib.hid (bt HB2.out hb3)
    have hz3 := hb3.size
    have hz2 := HB2.out.size
    clear ho3 hb3
    go_wp2_with fail
    refine (sortedNames_c w2.heap.size A3 c3 (allT (M.map PtM.d)) w3 HO3.out hz3 (by omega)).mono ?_
    rintro e w4 ⟨rfl, ho4, hb4⟩
    have HO4 := Lib.hid ho4
    have HB4 := Lib.hid (below_up HB3.out hb4 (by omega))
    clear ho4 hb4
    go_wp2
    go_ret2
    unfold PlP
    rw [HM.out.1, HM.out.2.2]
    exact rowPost2_mk (own_mono HO4.out hz2) HB4.out
end Go.Proofs.Ytilanpmjemlopaa
