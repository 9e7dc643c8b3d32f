/- Contracts: impl.SectionsOf, impl.IsTemplate; FillTemplate, PlacesOf, SectionsOf of the reference. -/
import Derived.Test.YtilanpmjemlopaaTpl25
namespace Go.Proofs.Ytilanpmjemlopaa
open Go.RowKit
set_option linter.unusedVariables false
set_option maxRecDepth 100000 in
theorem impl_IsTemplate (s : ByteArray) (w : World) (hs : s.size ≤ 2000000) (m : Int) (hm : w.cell? ⟨0, 0, none⟩ = some (.int .i64 m)) :
    Calls Try.prog 24 #[.string s] w fun e w' => e = .returned (.bool (tplOf s).isSome) ∧ Below w.heap.size w w' := by
  have hrt := readTemplate_c s w hs m hm
  have HRT := Lib.hid hrt
  clear hrt hm
  go_enter Try.func24, Try.ntmps24
  go_wp2_with fail
  refine HRT.out.mono ?_
  intro e w2 h2
  rcases h2 with ⟨ht, rfl, hb2⟩ | ⟨M, g, c2, ht, rfl, ho2, hin2, hb2⟩
  · have HT : Hid ((tplOf s).isSome = false) := by unfold Hid; rw [ht]; rfl
    have HB2 := Lib.hid hb2
    clear ht hb2
    go_wp2
    go_ret
    rw [HT.out]
    exact ⟨rfl, HB2.out⟩
  · have HT : Hid ((tplOf s).isSome = true) := by unfold Hid; rw [ht]; rfl
    have HB2 := Lib.hid hb2
    clear ht hb2 ho2 hin2
    go_wp2
    go_ret
    rw [HT.out]
    exact ⟨rfl, HB2.out⟩
def scK (M : List PtM) (k : Nat) : List ByteArray := secsT ((M.take k).map PtM.d)
theorem scK_step {M : List PtM} {k : Nat} (hk : k < M.length) : scK M (k + 1) = scK M k ++ secP M[k].d := by
  unfold scK secsT
  rw [List.take_succ_eq_append_getElem hk, List.map_append, List.flatMap_append]; simp
theorem sc_no {p : PtM} (h : p.sec = false) : secP p.d = [] := by unfold secP PtM.d; simp only [h]; rfl
theorem sc_yes {p : PtM} (h : p.sec = true) : secP p.d = [p.pl.name] := by unfold secP PtM.d; simp only [h]; rfl
theorem secs_len : ∀ T : List PtD, (secsT T).length ≤ T.length
  | [] => Nat.le_refl _
  | p :: T => by
    have h := secs_len T
    have h1 : (secP p).length ≤ 1 := by unfold secP; split <;> simp
    unfold secsT at h ⊢
    rw [List.flatMap_cons, List.length_append, List.length_cons]; omega
theorem scK_len {M : List PtM} (k : Nat) (hk : k ≤ M.length) : (scK M k).length ≤ k := by
  have := secs_len ((M.take k).map PtM.d)
  rw [List.length_map, List.length_take, Nat.min_eq_left hk] at this
  exact this
set_option maxRecDepth 100000 in
set_option maxHeartbeats 4000000 in
theorem impl_SectionsOf (s : ByteArray) (w : World) (hs : s.size ≤ 2000000) (m : Int) (hm : w.cell? ⟨0, 0, none⟩ = some (.int .i64 m)) :
    Calls Try.prog 21 #[.string s] w (SeP s w) := by
  obtain ⟨i0, hi, hz0, hz1, hz2⟩ := info_parts str_info
  have hrt := readTemplate_c s w hs m hm
  have HRT := Lib.hid hrt
  clear hrt hm
  go_enter Try.func21, Try.ntmps21
  go_wp2_with fail
  refine HRT.out.mono ?_
  intro e w2 h2
  rcases h2 with ⟨ht, rfl, hb2⟩ | ⟨M, g, c2, ht, rfl, ho2, hin2, hb2⟩
  · have HM := Lib.hid (pl_1 ht)
    have HB2 := Lib.hid hb2
    clear ht hb2
    go_wp2
    go_ret2
    unfold SeP
    rw [HM.out.2.1, HM.out.2.2]
    exact rowPost2_nil HB2.out
  · have hwt := tpl_wt ht
    have hml := wt_len (M.map PtM.d)
    rw [List.length_map] at hml
    have HM := Lib.hid (pl_2 ht)
    have HB2 := Lib.hid hb2
    have hRo := Rd.of_own ho2
    have HR2 := Lib.hid hRo
    clear ho2 hin2 hb2 ht hRo
    generalize (some (⟨g, 0, none⟩ : Addr)) = AA at *
    go_wp2_with fail
    have ho := World.ownsRow_lit (base := w2.heap.size) (e := 9) (size := 1) w2 #[] 0 (Nat.le_refl _) (by unfold maxLen; omega) rfl
    have HO0 : Hid ((w2.alloc (.cells #[] 9)).ownsRow w2.heap.size 9 1 (.slice (some ⟨w2.heap.size, 0, none⟩) (scK M 0).length 0) (scK M 0).length ((scK M 0).map Value.string)) := ho
    have HB0 := Lib.hid ((Below.refl w2.heap.size w2).alloc (Nat.le_refl _) (.cells #[] 9))
    clear ho
    go_wp2
    go_loopw [6, 19] (fun ov i wr => ∃ (k : Nat) (A1 : Option Addr) (c1 : Nat), k ≤ M.length ∧ i = .int .i64 k ∧ ov = .slice A1 (scK M k).length c1 ∧ Hid (wr.ownsRow w2.heap.size 9 1 (.slice A1 (scK M k).length c1) (scK M k).length ((scK M k).map Value.string)) ∧ Hid (Below w2.heap.size w2 wr)) (fun _ i _ => M.length - (intOf i).toNat)
    case atStart => exact ⟨0, _, _, by omega, rfl, rfl, HO0, HB0⟩
    case round =>
      obtain ⟨k, A1, c1, hk, rfl, rfl, HO, HB⟩ := hrel
      clear HO0 HB0
      have hzr := HB.out.size
      have hnl := scK_len k hk
      by_cases hlt : k < M.length
      · obtain ⟨bf, offf, rfl, hbf, hcf⟩ := Rd.elem PtM.cells 4 (fun _ => rfl) (rdW HB.out HR2.out) (by omega) hlt
        have f0 : wr.cell? ⟨bf, offf + k * 4, none⟩ = some (.string M[k].pl.text) := hcf k hlt 0 _ rfl
        have f1 : wr.cell? ⟨bf, offf + k * 4 + 1, none⟩ = some (.string M[k].pl.name) := hcf k hlt 1 _ rfl
        have f2 : wr.cell? ⟨bf, offf + k * 4 + 2, none⟩ = some (.bool M[k].sec) := hcf k hlt 2 _ rfl
        have f3 : wr.cell? ⟨bf, offf + k * 4 + 3, none⟩ = some (.slice M[k].A M[k].inner.length M[k].c) := hcf k hlt 3 _ rfl
        clear hcf
        have hki : (k : Int) < (M.length : Int) := by omega
        have hk0 : (0 : Int) ≤ (k : Int) := by omega
        have HSTEP := Lib.hid (scK_step hlt)
        cases hsec : M[k].sec with
        | false =>
          rw [hsec] at f2
          have HS := Lib.hid (HSTEP.out.trans (by rw [sc_no hsec, List.append_nil]))
          have hbW1 := (Below.refl wr.heap.size wr).alloc (Nat.le_refl _) (.cells #[.string M[k].pl.text, .string M[k].pl.name, .bool false, .slice M[k].A M[k].inner.length M[k].c] 66)
          go_wp2
          go_roundw
          case rel => exact ⟨k + 1, A1, c1, by omega, by go_num, by rw [HS.out], by unfold Hid; rw [HS.out]; exact own_below HO.out hbW1, Lib.hid (bt HB.out hbW1)⟩
          case measure => first | (simp [intOf]; done) | (simp [intOf]; omega)
        | true =>
          rw [hsec] at f2
          have HS := Lib.hid (HSTEP.out.trans (by rw [sc_yes hsec]))
          go_upto_region 8 with fail
          generalize hW1 : wr.alloc _ = W1
          have hbW1 : Below wr.heap.size wr W1 := by subst hW1; exact (Below.refl _ _).alloc (Nat.le_refl _) _
          have hsW1 : W1.heap.size = wr.heap.size + 1 := by subst hW1; simp
          have cxW1_0 : ∀ i, W1.cell? ⟨wr.heap.size, i, none⟩ = (#[.string M[k].pl.text, .string M[k].pl.name, .bool true, .slice M[k].A M[k].inner.length M[k].c] : Array Value)[i]? := by intro i; subst hW1; simp [go_sem]
          have HSW1 := Lib.hid hsW1; clear hW1 hsW1
          have HOW := Lib.hid (own_below HO.out hbW1)
          have HBW := Lib.hid (bt HB.out hbW1)
          have hzW : wr.heap.size < W1.heap.size := by have := HSW1.out; omega
          have cx0 := cxW1_0 0
          have cx1 := cxW1_0 1
          have cx2 := cxW1_0 2
          have cx3 := cxW1_0 3
          clear HSW1 cxW1_0
          go_wp2_with (first | (at_builtin; refine wpList_push W1 rfl _ _ 24 rfl w2.heap.size 9 i0 _ 1 16 Try.underlying24 hi hz0 hz1 hz2 rfl (by decide) (.slice A1 (scK M k).length c1) ((scK M k).length) ((scK M k).map Value.string) (by rfl) HOW.out [.string M[k].pl.name] 9 (by rfl) rfl (by simp [Value.oneCell']) (by unfold maxLen; omega) (by omega) (by omega) ?_; intro A7 c7 w7 ho7 hg7; have HO7 := Lib.hid (own_names HS.out ho7); have HB7 := Lib.hid (below_grown HBW.out hg7 (Nat.le_refl _) (fun k hk => HOW.out.lt k hk |>.1)); clear ho7 hg7))
          go_roundw
          case rel => exact ⟨k + 1, A7, c7, by omega, by go_num, by rw [HS.out]; simp, HO7, HB7⟩
          case measure => first | (simp [intOf]; done) | (simp [intOf]; omega)
      · obtain rfl : k = M.length := by omega
        have HE : Hid (scK M M.length = secsT (M.map PtM.d)) := by unfold Hid scK; rw [List.take_of_length_le (Nat.le_refl _)]
        have HSL := Lib.hid (secs_len (M.map PtM.d))
        rw [HE.out] at HO
        rw [HE.out]
        go_wp2_with fail
        refine (sortedNames_c w2.heap.size A1 c1 (secsT (M.map PtM.d)) wr HO.out hzr (by have := HSL.out; rw [List.length_map] at this; omega)).mono ?_
        rintro e w4 ⟨rfl, ho4, hb4⟩
        have HO4 := Lib.hid ho4
        have HB4 := Lib.hid (bt HB2.out (below_up HB.out hb4 (by omega)))
        have hzz := HB2.out.size
        clear ho4 hb4
        go_wp2
        go_ret2
        unfold SeP
        rw [HM.out.2.1, HM.out.2.2]
        exact rowPost2_mk (own_mono HO4.out hzz) HB4.out
theorem plE_not {s : ByteArray} (h : (tplOf s).isSome = false) : plN s = [] ∧ seN s = [] ∧ plE s = 6 := pl_1 (by cases ht : tplOf s with | none => rfl | some T => rw [ht] at h; cases h)
theorem tpl_some {s : ByteArray} (h : (tplOf s).isSome = true) : ∃ T, tplOf s = some T := Option.isSome_iff_exists.1 h
theorem fill_bad {s : ByteArray} {V : List ValueD} (h : missE s V ≠ 0) : fillB s V = ⟨#[]⟩ ∧ fillE s V = missE s V := by
  cases ht : tplOf s with
  | none => exact ⟨(fill_1 ht).1, (fill_1 ht).2.trans (miss_1 ht).2.symm⟩
  | some T =>
    cases hv : valsOk V with
    | false => exact ⟨(fill_2 ht hv).1, (fill_2 ht hv).2.trans (miss_2 ht hv).2.symm⟩
    | true => exact absurd (miss_3 ht hv).2 h
set_option maxRecDepth 100000 in
set_option maxHeartbeats 4000000 in
theorem spec_FillTemplate (s : ByteArray) (A : Option Addr) (c : Nat) (V : List ValueD) (w : World) (hs : s.size ≤ 1100000) (hVB : ValB V) (hr : Rd w w.heap.size A (V.length * 2) (V.flatMap valueC)) (hl : V.length ≤ 140737488355328) (hcap : V.length ≤ c) (hW : ∀ x ∈ V, ValueW x) :
    Calls Try.prog 17 #[.string s, .slice A V.length c] w fun e w' => e = .returned (.tuple #[.string (fillB s V), .int .i64 (fillE s V)]) ∧ Below w.heap.size w w' := by
  have HR := Lib.hid hr; have HW := Lib.hid hW; have HVB := Lib.hid hVB
  clear hr hW hVB
  go_enter Try.func17, Try.ntmps17
  go_wp2_with fail
  refine (l28Code_c s A c V w hs HR.out hl hcap HW.out).mono ?_
  rintro e w2 ⟨rfl, hb2⟩
  have HR2 := Lib.hid (rdW hb2 HR.out)
  have HB := Lib.hid hb2
  clear hb2
  by_cases h0 : missE s V = 0
  · obtain ⟨T, ht, hv⟩ := missE_0 h0
    have HA := Lib.hid (aS_tpl (V := V) ht)
    rw [h0]
    go_wp2_with fail
    refine (l28All_c s A c V w2 hs HR2.out hl hcap HVB.out).mono ?_
    intro e w3 h3
    rcases h3 with ⟨hf, rfl, hb3⟩ | ⟨d, A1, c1, A', c', A2, c2, hf, rfl, _, _, ho3, hb3⟩
    · rw [HA.out] at hf; cases hf
    · rw [HA.out] at hf
      cases hf
      have HB3 := Lib.hid (bt HB.out hb3)
      have HME : Hid (setT (adOf V T).lack = missV V T) := rfl
      have HTX : Hid (mkB (adOf V T).text = mkB (textT V T)) := rfl
      rw [HME.out, HTX.out]
      clear hb3 ho3 HA
      by_cases hmm : missV V T = []
      · have HM := Lib.hid (fill_4 ht hv hmm)
        have HL : Hid ((missV V T).length = 0) := by unfold Hid; rw [hmm]; rfl
        clear hmm ht hv h0
        rw [HL.out]
        go_wp2
        go_ret2
        rw [HM.out.1, HM.out.2]
        exact ⟨rfl, HB3.out⟩
      · have HM := Lib.hid (fill_3 ht hv hmm)
        have hlp := len_pos hmm
        clear hmm ht hv h0
        go_wp2
        go_ret2
        rw [HM.out.1, HM.out.2]
        exact ⟨rfl, HB3.out⟩
  · have HM := Lib.hid (fill_bad h0)
    generalize missE s V = q at *
    have hq : ((q : Int) == 0) = false := beq_eq_false_iff_ne.2 h0
    go_wp2_with fail
    refine (l28All_c s A c V w2 hs HR2.out hl hcap HVB.out).mono ?_
    intro e w3 h3
    rcases h3 with ⟨hf, rfl, hb3⟩ | ⟨d, A1, c1, A', c', A2, c2, hf, rfl, _, _, ho3, hb3⟩
    · have HB3 := Lib.hid (bt HB.out hb3)
      clear hb3 hf
      go_wp2
      go_ret2
      rw [HM.out.1, HM.out.2]
      exact ⟨rfl, HB3.out⟩
    · have HB3 := Lib.hid (bt HB.out hb3)
      clear hb3 hf ho3
      go_wp2
      go_ret2
      rw [HM.out.1, HM.out.2]
      exact ⟨rfl, HB3.out⟩
set_option maxRecDepth 100000 in
set_option maxHeartbeats 4000000 in
theorem spec_PlacesOf (s : ByteArray) (w : World) (hs : s.size ≤ 1100000) :
    Calls Try.prog 20 #[.string s] w (PlP s w) := by
  go_enter Try.func20, Try.ntmps20
  go_wp2_with fail
  refine (spec_IsTemplate s w hs).mono ?_
  rintro e w2 ⟨rfl, hb2⟩
  have HB := Lib.hid hb2
  clear hb2
  cases ht : (tplOf s).isSome with
  | false =>
    have HM := Lib.hid (plE_not ht)
    clear ht
    go_wp2
    go_ret2
    unfold PlP
    rw [HM.out.1, HM.out.2.2]
    exact rowPost2_nil HB.out
  | true =>
    obtain ⟨T, ht2⟩ := tpl_some ht
    have HM := Lib.hid (pl_2 ht2)
    have HA := Lib.hid (aS_tpl (V := []) ht2)
    clear ht ht2
    go_wp2_with fail
    refine (l28All_c s none 0 [] w2 hs ⟨rfl, fun h => absurd h (by simp)⟩ (by simp) (by simp) (fun x hx => by cases hx)).mono ?_
    intro e w3 h3
    rcases h3 with ⟨hf, rfl, hb3⟩ | ⟨d, A1, c1, A', c', A2, c2, hf, rfl, ho1, ho2, ho3, hb3⟩
    · rw [HA.out] at hf; cases hf
    · rw [HA.out] at hf
      cases hf
      have HO := Lib.hid ho1
      have HB3 := Lib.hid (bt HB.out hb3)
      have hz := HB.out.size
      clear hb3 ho1 ho2 ho3
      go_wp2
      go_ret2
      unfold PlP
      rw [HM.out.1, HM.out.2.2]
      exact rowPost2_mk (own_mono HO.out hz) HB3.out
set_option maxRecDepth 100000 in
set_option maxHeartbeats 4000000 in
theorem spec_SectionsOf (s : ByteArray) (w : World) (hs : s.size ≤ 1100000) :
    Calls Try.prog 22 #[.string s] w (SeP s w) := by
  go_enter Try.func22, Try.ntmps22
  go_wp2_with fail
  refine (spec_IsTemplate s w hs).mono ?_
  rintro e w2 ⟨rfl, hb2⟩
  have HB := Lib.hid hb2
  clear hb2
  cases ht : (tplOf s).isSome with
  | false =>
    have HM := Lib.hid (plE_not ht)
    clear ht
    go_wp2
    go_ret2
    unfold SeP
    rw [HM.out.2.1, HM.out.2.2]
    exact rowPost2_nil HB.out
  | true =>
    obtain ⟨T, ht2⟩ := tpl_some ht
    have HM := Lib.hid (pl_2 ht2)
    have HA := Lib.hid (aS_tpl (V := []) ht2)
    clear ht ht2
    go_wp2_with fail
    refine (l28All_c s none 0 [] w2 hs ⟨rfl, fun h => absurd h (by simp)⟩ (by simp) (by simp) (fun x hx => by cases hx)).mono ?_
    intro e w3 h3
    rcases h3 with ⟨hf, rfl, hb3⟩ | ⟨d, A1, c1, A', c', A2, c2, hf, rfl, ho1, ho2, ho3, hb3⟩
    · rw [HA.out] at hf; cases hf
    · rw [HA.out] at hf
      cases hf
      have HO := Lib.hid ho2
      have HB3 := Lib.hid (bt HB.out hb3)
      have hz := HB.out.size
      clear hb3 ho1 ho2 ho3
      go_wp2
      go_ret2
      unfold SeP
      rw [HM.out.2.1, HM.out.2.2]
      exact rowPost2_mk (own_mono HO.out hz) HB3.out
end Go.Proofs.Ytilanpmjemlopaa
