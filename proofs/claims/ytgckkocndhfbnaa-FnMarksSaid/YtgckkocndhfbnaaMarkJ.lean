/- Contracts: JoinMarks of both texts. -/
import Derived.Test.YtgckkocndhfbnaaMarks
namespace Go.Proofs.Ytgckkocndhfbnaa
open Go.RowKit
set_option linter.unusedVariables false
def joinStep (o : List MarkD) (x : MarkD) : List MarkD :=
  if 0 < o.length ∧ (o.getD (o.length - 1) default).to = x.from_ ∧ (o.getD (o.length - 1) default).level = x.level then o.take (o.length - 1) ++ [⟨(o.getD (o.length - 1) default).from_, x.to, (o.getD (o.length - 1) default).level⟩] else o ++ [x]
def joinAt (L : List MarkD) : Nat → List MarkD
  | 0 => []
  | k + 1 => joinStep (joinAt L k) (L.getD k default)
theorem joinAt_succ {L : List MarkD} {k : Nat} (hk : k < L.length) : joinAt L (k + 1) = joinStep (joinAt L k) L[k] := by rw [joinAt, getD_lt hk]
theorem joinStep_len (o : List MarkD) (x : MarkD) : (joinStep o x).length ≤ o.length + 1 := by
  unfold joinStep
  split
  · simp <;> omega
  · simp
theorem joinAt_len (L : List MarkD) : ∀ k, (joinAt L k).length ≤ k
  | 0 => by simp [joinAt]
  | k + 1 => by have := joinAt_len L k; have := joinStep_len (joinAt L k) (L.getD k default); rw [joinAt]; omega
theorem joinStep_app {o : List MarkD} {x : MarkD} (h : ¬ (0 < o.length ∧ (o.getD (o.length - 1) default).to = x.from_ ∧ (o.getD (o.length - 1) default).level = x.level)) : joinStep o x = o ++ [x] := by rw [joinStep, if_neg h]
theorem joinStep_set {o : List MarkD} {x0 x1 x2 y0 : Int} (h0 : 0 < o.length) (hy : o.getD (o.length - 1) default = ⟨y0, x0, x2⟩) : joinStep o ⟨x0, x1, x2⟩ = o.take (o.length - 1) ++ [⟨y0, x1, x2⟩] := by
  rw [joinStep, hy, if_pos ⟨h0, rfl, rfl⟩]
theorem joinStep_set_flat {o : List MarkD} {x0 x1 x2 y0 : Int} (h0 : 0 < o.length) (hy : o.getD (o.length - 1) default = ⟨y0, x0, x2⟩) : (o.flatMap markC).set ((o.length - 1) * 3 + 1) (.int .i64 x1) = (o.take (o.length - 1) ++ [(⟨y0, x1, x2⟩ : MarkD)]).flatMap markC := by
  have hs := snoc_ofG h0
  rw [hy] at hs
  have hm : (o.take (o.length - 1)).length = o.length - 1 := by simp
  have h5 := flat_setG (f := markC) (m := 3) (fun _ => rfl) (M := o.take (o.length - 1)) (x := ⟨y0, x0, x2⟩) (y := ⟨y0, x1, x2⟩) (j := 1) (v := .int .i64 x1) (by omega) rfl
  rw [hm, ← hs] at h5
  exact h5
def joinR (s : ByteArray) (L : List MarkD) : List MarkD × Int := if codeK s L = 0 then (joinAt L L.length, 0) else ([], codeK s L)
theorem joinR_bad {s : ByteArray} {L : List MarkD} (h : codeK s L ≠ 0) : joinR s L = ([], codeK s L) := by rw [joinR, if_neg h]
theorem joinR_ok {s : ByteArray} {L : List MarkD} (h : codeK s L = 0) : joinR s L = (joinAt L L.length, 0) := by rw [joinR, if_pos h]
theorem joinR_len (s : ByteArray) (L : List MarkD) : (joinR s L).1.length ≤ 12 := by
  unfold joinR
  split
  · rename_i h
    have := (marks_parts (codeK_0 h).2).1
    have := joinAt_len L L.length
    simp only; omega
  · simp


set_option maxRecDepth 100000 in
set_option maxHeartbeats 8000000 in
theorem impl_JoinMarks (s : ByteArray) (A : Option Addr) (c : Nat) (L : List MarkD) (w : World) (hs : s.size ≤ 1048576) (hr : Rd w w.heap.size A (L.length * 3) (L.flatMap markC)) (hl : L.length ≤ 140737488355328) (hcap : L.length ≤ c) :
    Calls Try.prog 38 #[.string s, .slice A L.length c] w (RowPost2 42 3 (joinR s L).1.length ((joinR s L).1.flatMap markC) (joinR s L).2 w) := by
  have hmc := marksCode_c s A c L w hs hr hl hcap
  by_cases hk : codeK s L = 0
  · rw [joinR_ok hk]
    rw [hk] at hmc
    have HM := Lib.hid hmc
    have h12 := (marks_parts (codeK_0 hk).2).1
    obtain ⟨i0, hi, hz0, hz1, hz2⟩ := info_parts mark_info
    clear hk hmc
    go_enter Try.func38, Try.ntmps38
    go_wp2_with fail
    refine HM.out.mono ?_
    rintro e w1 ⟨rfl, hB2⟩
    have HL := Lib.hid (own_mono (World.ownsRow_lit (base := w1.heap.size) (size := 3) (e := 42) w1 #[] 0 (Nat.le_refl _) (by unfold maxLen; omega) rfl) hB2.size)
    have hBx := hB2.alloc hB2.size (.cells #[] 42)
    go_wp2
    go_loopw [7, 20] (fun v i wr => ∃ (k : Nat) (A3 : Option Addr) (c3 : Nat), k ≤ L.length ∧ i = .int .i64 k ∧ v = .slice A3 (joinAt L k).length c3 ∧ Below w.heap.size w wr ∧ Hid (wr.ownsRow w.heap.size 42 3 (.slice A3 (joinAt L k).length c3) (joinAt L k).length ((joinAt L k).flatMap markC))) (fun _ i _ => L.length - (intOf i).toNat)
    case atStart => exact ⟨0, _, _, by omega, rfl, rfl, hBx, HL.out⟩
    case round =>
      obtain ⟨k, A3, c3, hk, rfl, rfl, hB, HO⟩ := hrel
      clear hB2 hBx HL
      by_cases hlt : k < L.length
      · obtain ⟨bf, offf, rfl, hbf, hcf⟩ := Rd.elem markC 3 (fun _ => rfl) (rdW hB hr) (by omega) hlt
        have f0 : wr.cell? ⟨bf, offf + k * 3, none⟩ = some (.int .i64 L[k].from_) := hcf k hlt 0 _ rfl
        have f1 : wr.cell? ⟨bf, offf + k * 3 + 1, none⟩ = some (.int .i64 L[k].to) := hcf k hlt 1 _ rfl
        have f2 : wr.cell? ⟨bf, offf + k * 3 + 2, none⟩ = some (.int .i64 L[k].level) := hcf k hlt 2 _ rfl
        have HS := Lib.hid (joinAt_succ hlt)
        have hol := joinAt_len L k
        have hcc := (own_cap HO.out).1
        have hk0 : (0 : Int) ≤ (k : Int) := by omega
        have hk1 : (k : Int) < (L.length : Int) := by omega
        clear hcf
        generalize joinAt L k = o at *
        generalize L[k] = x at *
        obtain ⟨x0, x1, x2⟩ := x
        by_cases h0 : o.length = 0
        · have ho0 : o = [] := List.eq_nil_of_length_eq_zero h0
          have HO0 := Lib.hid ho0
          have h0r : decide ((0 : Int) < o.length) = false := decide_eq_false (by omega)
          have h0s : decide (0 < o.length) = false := decide_eq_false (by omega)
          clear h0 ho0
          go_wp2_with fail
          generalize hW0 : wr.alloc _ = W0
          have hbW0 : Below wr.heap.size wr W0 := by subst hW0; exact (Below.refl _ _).alloc (Nat.le_refl _) _
          have hsW0 : W0.heap.size = wr.heap.size + 1 := by subst hW0; simp
          have cxW0_0 : ∀ i, W0.cell? ⟨wr.heap.size, i, none⟩ = (#[.int .i64 x0, .int .i64 x1, .int .i64 x2] : Array Value)[i]? := by intro i; subst hW0; simp [go_sem]
          have fzW0_0 : ∀ i, W0.frozen? ⟨wr.heap.size, i, none⟩ = false := by intro i; subst hW0; simp [go_sem]
          have HSW0 := Lib.hid hsW0; clear hW0 hsW0
          have hsz0 := HSW0.out
          have ho1 := own_below HO.out hbW0
          have hBW := bt hB hbW0
          have hbase := Lib.hid (hBW.size)
          clear HO
          go_wp2_with fail
          have k0 := block_regrown cxW0_0 (by omega)
          refine wp_region_bel mixed (by kernel_rfl) ?_
          repeat (any_goals (first | go_big_quiet_step ((fail)) | quiet_step ((fail)) | (refine wpQuiet_step (fun K hK => ?_); go_simp; (split <;> first | (refine hK _ ?_; clear hK K) | (apply Exists.intro; refine ⟨fun _ => ?_, hK _ ?_⟩; ((fail)); clear hK K)))))
          all_goals (refine wpQuiet_nil ?_; intro w1 hw1)
          clear k0
          replace cxW0_0 := fun i => (hw1.cell (by (try simp only); omega)).trans (cxW0_0 i)
          have ho2 := own_below ho1 hw1
          have hB1 := bt hBW hw1
          have hbs := Lib.hid hB1.size
          clear ho1 hbase hsz0
          go_wp2_with (first | (at_builtin; refine wpList_push w1 rfl _ _ 24 rfl w.heap.size 42 i0 _ 3 24 Try.underlying24 hi hz0 hz1 hz2 rfl (by decide) (.slice A3 o.length c3) (o.length) (o.flatMap markC) (by rfl) ho2 [.int .i64 x0, .int .i64 x1, .int .i64 x2] 42 (by rfl) rfl (by simp [Value.oneCell']) (by unfold maxLen; omega) (by omega) hbs.out ?_; intro A4 c4 w4 ho4 hg4))
          go_roundw
          case rel =>
            have e1 : joinStep o ⟨x0, x1, x2⟩ = o ++ [⟨x0, x1, x2⟩] := joinStep_app (by rintro ⟨h, _⟩; rw [HO0.out] at h; simp at h)
            have e2 : (o ++ [(⟨x0, x1, x2⟩ : MarkD)]).length = o.length + 1 := by simp
            have e3 : (o ++ [(⟨x0, x1, x2⟩ : MarkD)]).flatMap markC = o.flatMap markC ++ [.int .i64 x0, .int .i64 x1, .int .i64 x2] := by simp [markC]
            refine ⟨k + 1, A4, c4, by omega, by go_num, by rw [HS.out, e1, e2], below_grown hB1 hg4 (Nat.le_refl _) (fun k hk => (World.ownsRow.lt ho2 k hk).1), ?_⟩
            show World.ownsRow _ _ _ _ _ _ _
            rw [HS.out, e1, e2, e3]
            exact ho4
          case measure => simp [intOf]; omega
        · have h0p : 0 < o.length := by omega
          have H0 := Lib.hid h0p
          have h1 : (1 : Int) ≤ o.length := by omega
          have h1r : decide ((0 : Int) < o.length) = true := decide_eq_true (by omega)
          clear h0 h0p
          go_wp2_with fail
          generalize hW0 : wr.alloc _ = W0
          have hbW0 : Below wr.heap.size wr W0 := by subst hW0; exact (Below.refl _ _).alloc (Nat.le_refl _) _
          have hsW0 : W0.heap.size = wr.heap.size + 1 := by subst hW0; simp
          have cxW0_0 : ∀ i, W0.cell? ⟨wr.heap.size, i, none⟩ = (#[.int .i64 x0, .int .i64 x1, .int .i64 x2] : Array Value)[i]? := by intro i; subst hW0; simp [go_sem]
          have fzW0_0 : ∀ i, W0.frozen? ⟨wr.heap.size, i, none⟩ = false := by intro i; subst hW0; simp [go_sem]
          have HSW0 := Lib.hid hsW0; clear hW0 hsW0
          have hsz0 := HSW0.out
          have ho1 := own_below HO.out hbW0
          obtain ⟨g, rfl, hgb, hgl, hgc⟩ := own_lastG (m := 3) (f := markC) (fun _ => rfl) (by omega) ho1 H0.out
          generalize hy : o.getD (o.length - 1) default = y at *
          obtain ⟨y0, y1, y2⟩ := y
          have fy0 := hgc 0 _ rfl
          have fy1 := hgc 1 _ rfl
          have fy2 := hgc 2 _ rfl
          simp only [Nat.add_zero] at fy0
          have HY := Lib.hid hy
          have hBW := bt hB hbW0
          have HO1 := Lib.hid ho1
          have hi1 : (0 : Int) ≤ (o.length : Int) - 1 := by omega
          have hi2 : (o.length : Int) - 1 < (o.length : Int) := by omega
          clear HO hgc hy ho1
          have hiw : IntKind.i64.wrap ((o.length : Int) - 1) = (o.length : Int) - 1 := IntWalk.i64_in _ (by omega)
          have HIW := Lib.hid hiw
          clear hiw
          by_cases e1 : y1 = x0
          · replace e1 := e1.symm; subst e1
            by_cases e2 : y2 = x2
            · replace e2 := e2.symm; subst e2
              go_wp2_with fail
              have hiw := HIW.out
              have k0 := block_regrown cxW0_0 (by omega)
              have kfy0 := cell_regrown fy0
              have kfy1 := cell_regrown fy1
              have kfy2 := cell_regrown fy2
              refine wp_region_bel mixed (by kernel_rfl) ?_
              repeat (any_goals (first | go_big_quiet_step ((fail)) | quiet_step ((fail)) | (refine wpQuiet_step (fun K hK => ?_); go_simp; (split <;> first | (refine hK _ ?_; clear hK K) | (apply Exists.intro; refine ⟨fun _ => ?_, hK _ ?_⟩; ((fail)); clear hK K)))))
              all_goals (refine wpQuiet_nil ?_; intro w1 hw1)
              all_goals (clear kfy0 kfy1 kfy2 hiw k0; replace fy0 := (hw1.cell (by (try simp only); omega)).trans fy0; replace fy1 := (hw1.cell (by (try simp only); omega)).trans fy1; replace fy2 := (hw1.cell (by (try simp only); omega)).trans fy2)
              replace cxW0_0 := fun i => (hw1.cell (by (try simp only); omega)).trans (cxW0_0 i)
              have ho2 := own_below HO1.out hw1
              have hB1 := bt hBW hw1
              have hz := ho2.frozenAt ((o.length - 1) * 3 + 1)
              have hsg := ho2.stored ((o.length - 1) * 3 + 1) (.int .i64 x1)
              have HSG := Lib.hid hsg
              clear hsg
              have HO2 := Lib.hid ho2
              clear ho2 hsz0
              go_wp2
              go_roundw
              case rel =>
                have e1 := joinStep_set (x1 := x1) H0.out HY.out
                have e2 := joinStep_set_flat (x1 := x1) H0.out HY.out
                have e3 : (o.take (o.length - 1) ++ [(⟨y0, x1, x2⟩ : MarkD)]).length = o.length := by have := H0.out; simp; omega
                refine ⟨k + 1, some ⟨g, 0, none⟩, c3, by omega, by go_num, by rw [HS.out, e1, e3], below_grown hB1 (HSG.out).2 (Nat.le_refl _) (fun k hk => by cases hk; omega), ?_⟩
                show World.ownsRow _ _ _ _ _ _ _
                rw [HS.out, e1, e3, ← e2]
                exact (HSG.out).1
              case measure => simp [intOf]; omega
            · have e2b : (y2 == x2) = false := beq_eq_false_iff_ne.2 e2
              go_wp2_with fail
              have hiw := HIW.out
              have k0 := block_regrown cxW0_0 (by omega)
              have kfy0 := cell_regrown fy0
              have kfy1 := cell_regrown fy1
              have kfy2 := cell_regrown fy2
              refine wp_region_bel mixed (by kernel_rfl) ?_
              repeat (any_goals (first | go_big_quiet_step ((fail)) | quiet_step ((fail)) | (refine wpQuiet_step (fun K hK => ?_); go_simp; (split <;> first | (refine hK _ ?_; clear hK K) | (apply Exists.intro; refine ⟨fun _ => ?_, hK _ ?_⟩; ((fail)); clear hK K)))))
              all_goals (refine wpQuiet_nil ?_; intro w1 hw1)
              all_goals (clear kfy0 kfy1 kfy2 hiw k0; replace fy0 := (hw1.cell (by (try simp only); omega)).trans fy0; replace fy1 := (hw1.cell (by (try simp only); omega)).trans fy1; replace fy2 := (hw1.cell (by (try simp only); omega)).trans fy2)
              replace cxW0_0 := fun i => (hw1.cell (by (try simp only); omega)).trans (cxW0_0 i)
              have ho2 := own_below HO1.out hw1
              have hB1 := bt hBW hw1
              have hbs := Lib.hid hB1.size
              clear hsz0
              go_wp2_with (first | (at_builtin; refine wpList_push w1 rfl _ _ 24 rfl w.heap.size 42 i0 _ 3 24 Try.underlying24 hi hz0 hz1 hz2 rfl (by decide) (.slice (some ⟨g, 0, none⟩) o.length c3) (o.length) (o.flatMap markC) (by rfl) ho2 [.int .i64 x0, .int .i64 x1, .int .i64 x2] 42 (by rfl) rfl (by simp [Value.oneCell']) (by unfold maxLen; omega) (by omega) hbs.out ?_; intro A4 c4 w4 ho4 hg4))
              go_roundw
              case rel =>
                have e1 : joinStep o ⟨x0, x1, x2⟩ = o ++ [⟨x0, x1, x2⟩] := joinStep_app (by rw [HY.out]; rintro ⟨_, _, h⟩; exact e2 h)
                have e2 : (o ++ [(⟨x0, x1, x2⟩ : MarkD)]).length = o.length + 1 := by simp
                have e3 : (o ++ [(⟨x0, x1, x2⟩ : MarkD)]).flatMap markC = o.flatMap markC ++ [.int .i64 x0, .int .i64 x1, .int .i64 x2] := by simp [markC]
                refine ⟨k + 1, A4, c4, by omega, by go_num, by rw [HS.out, e1, e2], below_grown hB1 hg4 (Nat.le_refl _) (fun k hk => (World.ownsRow.lt ho2 k hk).1), ?_⟩
                show World.ownsRow _ _ _ _ _ _ _
                rw [HS.out, e1, e2, e3]
                exact ho4
              case measure => simp [intOf]; omega
          · have e1b : (y1 == x0) = false := beq_eq_false_iff_ne.2 e1
            go_wp2_with fail
            have hiw := HIW.out
            have k0 := block_regrown cxW0_0 (by omega)
            have kfy0 := cell_regrown fy0
            have kfy1 := cell_regrown fy1
            have kfy2 := cell_regrown fy2
            refine wp_region_bel mixed (by kernel_rfl) ?_
            repeat (any_goals (first | go_big_quiet_step ((fail)) | quiet_step ((fail)) | (refine wpQuiet_step (fun K hK => ?_); go_simp; (split <;> first | (refine hK _ ?_; clear hK K) | (apply Exists.intro; refine ⟨fun _ => ?_, hK _ ?_⟩; ((fail)); clear hK K)))))
            all_goals (refine wpQuiet_nil ?_; intro w1 hw1)
            all_goals (clear kfy0 kfy1 kfy2 hiw k0; replace fy0 := (hw1.cell (by (try simp only); omega)).trans fy0; replace fy1 := (hw1.cell (by (try simp only); omega)).trans fy1; replace fy2 := (hw1.cell (by (try simp only); omega)).trans fy2)
            replace cxW0_0 := fun i => (hw1.cell (by (try simp only); omega)).trans (cxW0_0 i)
            have ho2 := own_below HO1.out hw1
            have hB1 := bt hBW hw1
            have hbs := Lib.hid hB1.size
            clear hsz0
            go_wp2_with (first | (at_builtin; refine wpList_push w1 rfl _ _ 24 rfl w.heap.size 42 i0 _ 3 24 Try.underlying24 hi hz0 hz1 hz2 rfl (by decide) (.slice (some ⟨g, 0, none⟩) o.length c3) (o.length) (o.flatMap markC) (by rfl) ho2 [.int .i64 x0, .int .i64 x1, .int .i64 x2] 42 (by rfl) rfl (by simp [Value.oneCell']) (by unfold maxLen; omega) (by omega) hbs.out ?_; intro A4 c4 w4 ho4 hg4))
            go_roundw
            case rel =>
              have e1 : joinStep o ⟨x0, x1, x2⟩ = o ++ [⟨x0, x1, x2⟩] := joinStep_app (by rw [HY.out]; rintro ⟨_, h, _⟩; exact e1 h)
              have e2 : (o ++ [(⟨x0, x1, x2⟩ : MarkD)]).length = o.length + 1 := by simp
              have e3 : (o ++ [(⟨x0, x1, x2⟩ : MarkD)]).flatMap markC = o.flatMap markC ++ [.int .i64 x0, .int .i64 x1, .int .i64 x2] := by simp [markC]
              refine ⟨k + 1, A4, c4, by omega, by go_num, by rw [HS.out, e1, e2], below_grown hB1 hg4 (Nat.le_refl _) (fun k hk => (World.ownsRow.lt ho2 k hk).1), ?_⟩
              show World.ownsRow _ _ _ _ _ _ _
              rw [HS.out, e1, e2, e3]
              exact ho4
            case measure => simp [intOf]; omega
      · obtain rfl : k = L.length := by omega
        go_wp2
        go_ret2
        exact rowPost2_mk HO.out hB
  · rw [joinR_bad hk]
    have hne : (codeK s L != 0) = true := by rw [bne_iff_ne]; exact hk
    clear hk
    go_enter Try.func38, Try.ntmps38
    go_wp2_with fail
    refine hmc.mono ?_
    rintro e w1 ⟨rfl, hb1⟩
    clear hmc
    go_wp2
    go_ret2
    exact rowPost2_nil hb1


set_option maxRecDepth 100000 in
set_option maxHeartbeats 8000000 in
theorem spec_JoinMarks (s : ByteArray) (A : Option Addr) (c : Nat) (L : List MarkD) (w : World) (hs : s.size ≤ 1048576) (hr : Rd w w.heap.size A (L.length * 3) (L.flatMap markC)) (hl : L.length ≤ 140737488355328) (hcap : L.length ≤ c) :
    Calls Try.prog 39 #[.string s, .slice A L.length c] w (RowPost2 42 3 (joinR s L).1.length ((joinR s L).1.flatMap markC) (joinR s L).2 w) := by
  have hmc := l32Code_c s A c L 0 w hs hr hl hcap
  rw [codeL_in (by decide)] at hmc
  by_cases hk : codeK s L = 0
  · rw [joinR_ok hk]
    rw [hk] at hmc
    have HM := Lib.hid hmc
    have h12 := (marks_parts (codeK_0 hk).2).1
    obtain ⟨i0, hi, hz0, hz1, hz2⟩ := info_parts mark_info
    clear hk hmc
    go_enter Try.func39, Try.ntmps39
    go_wp2_with fail
    refine HM.out.mono ?_
    rintro e w1 ⟨rfl, hB2⟩
    have HL := Lib.hid (own_mono (World.ownsRow_lit (base := w1.heap.size) (size := 3) (e := 42) w1 #[] 0 (Nat.le_refl _) (by unfold maxLen; omega) rfl) hB2.size)
    have hBx := hB2.alloc hB2.size (.cells #[] 42)
    go_wp2
    go_loopw [7, 8] (fun v i wr => ∃ (k : Nat) (A3 : Option Addr) (c3 : Nat), k ≤ L.length ∧ i = .int .i64 k ∧ v = .slice A3 (joinAt L k).length c3 ∧ Below w.heap.size w wr ∧ Hid (wr.ownsRow w.heap.size 42 3 (.slice A3 (joinAt L k).length c3) (joinAt L k).length ((joinAt L k).flatMap markC))) (fun _ i _ => L.length - (intOf i).toNat)
    case atStart => exact ⟨0, _, _, by omega, rfl, rfl, hBx, HL.out⟩
    case round =>
      obtain ⟨k, A3, c3, hk, rfl, rfl, hB, HO⟩ := hrel
      clear hB2 hBx HL
      by_cases hlt : k < L.length
      · obtain ⟨bf, offf, rfl, hbf, hcf⟩ := Rd.elem markC 3 (fun _ => rfl) (rdW hB hr) (by omega) hlt
        have f0 : wr.cell? ⟨bf, offf + k * 3, none⟩ = some (.int .i64 L[k].from_) := hcf k hlt 0 _ rfl
        have f1 : wr.cell? ⟨bf, offf + k * 3 + 1, none⟩ = some (.int .i64 L[k].to) := hcf k hlt 1 _ rfl
        have f2 : wr.cell? ⟨bf, offf + k * 3 + 2, none⟩ = some (.int .i64 L[k].level) := hcf k hlt 2 _ rfl
        have HS := Lib.hid (joinAt_succ hlt)
        have hol := joinAt_len L k
        have hcc := (own_cap HO.out).1
        have hk0 : (0 : Int) ≤ (k : Int) := by omega
        have hk1 : (k : Int) < (L.length : Int) := by omega
        clear hcf
        generalize joinAt L k = o at *
        generalize L[k] = x at *
        obtain ⟨x0, x1, x2⟩ := x
        by_cases h0 : o.length = 0
        · have ho0 : o = [] := List.eq_nil_of_length_eq_zero h0
          have HO0 := Lib.hid ho0
          have hg1 : decide ((0 : Int) ≤ (o.length : Int) - 1) = false := decide_eq_false (by omega)
          have hg2 : decide ((1 : Int) ≤ (o.length : Int)) = false := decide_eq_false (by omega)
          have hg3 : ¬ ((1 : Int) ≤ (o.length : Int)) := by omega
          have ho1 := HO.out
          clear HO h0 ho0
          go_wp2_with fail
          have kf0 := cell_regrown f0
          have kf1 := cell_regrown f1
          have kf2 := cell_regrown f2
          refine wp_region_bel mixed (by kernel_rfl) ?_
          repeat (any_goals (first | go_big_quiet_step ((fail)) | quiet_step ((fail)) | (refine wpQuiet_step (fun K hK => ?_); go_simp; (split <;> first | (refine hK _ ?_; clear hK K) | (apply Exists.intro; refine ⟨fun _ => ?_, hK _ ?_⟩; ((fail)); clear hK K)))))
          all_goals (refine wpQuiet_nil ?_; intro w1 hw1)
          all_goals (clear kf0 kf1 kf2; replace f0 := (hw1.cell (by (try simp only); omega)).trans f0; replace f1 := (hw1.cell (by (try simp only); omega)).trans f1; replace f2 := (hw1.cell (by (try simp only); omega)).trans f2)
          have ho2 := own_below ho1 hw1
          have hB1 := bt hB hw1
          have hbs := Lib.hid hB1.size
          clear ho1
          go_wp2_with (first | (at_builtin; refine wpList_push w1 rfl _ _ 24 rfl w.heap.size 42 i0 _ 3 24 Try.underlying24 hi hz0 hz1 hz2 rfl (by decide) (.slice A3 o.length c3) (o.length) (o.flatMap markC) (by rfl) ho2 [.int .i64 x0, .int .i64 x1, .int .i64 x2] 42 (by rfl) rfl (by simp [Value.oneCell']) (by unfold maxLen; omega) (by omega) hbs.out ?_; intro A4 c4 w4 ho4 hg4))
          go_roundw
          case rel =>
            have e1 : joinStep o ⟨x0, x1, x2⟩ = o ++ [⟨x0, x1, x2⟩] := joinStep_app (by rintro ⟨h, _⟩; rw [HO0.out] at h; simp at h)
            have e2 : (o ++ [(⟨x0, x1, x2⟩ : MarkD)]).length = o.length + 1 := by simp
            have e3 : (o ++ [(⟨x0, x1, x2⟩ : MarkD)]).flatMap markC = o.flatMap markC ++ [.int .i64 x0, .int .i64 x1, .int .i64 x2] := by simp [markC]
            refine ⟨k + 1, A4, c4, by omega, by go_num, by rw [HS.out, e1, e2], below_grown hB1 hg4 (Nat.le_refl _) (fun k hk => (World.ownsRow.lt ho2 k hk).1), ?_⟩
            show World.ownsRow _ _ _ _ _ _ _
            rw [HS.out, e1, e2, e3]
            exact ho4
          case measure => simp [intOf]; omega
        · have h0p : 0 < o.length := by omega
          have H0 := Lib.hid h0p
          have h1 : (1 : Int) ≤ o.length := by omega
          have hg1 : decide ((0 : Int) ≤ (o.length : Int) - 1) = true := decide_eq_true (by omega)
          have hg2 : decide ((1 : Int) ≤ (o.length : Int)) = true := decide_eq_true (by omega)
          have ho1 := HO.out
          clear h0 h0p
          obtain ⟨g, rfl, hgb, hgl, hgc⟩ := own_lastG (m := 3) (f := markC) (fun _ => rfl) (by omega) ho1 H0.out
          generalize hy : o.getD (o.length - 1) default = y at *
          obtain ⟨y0, y1, y2⟩ := y
          have fy0 := hgc 0 _ rfl
          have fy1 := hgc 1 _ rfl
          have fy2 := hgc 2 _ rfl
          simp only [Nat.add_zero] at fy0
          have HY := Lib.hid hy
          have HO1 := Lib.hid ho1
          have hi1 : (0 : Int) ≤ (o.length : Int) - 1 := by omega
          have hi2 : (o.length : Int) - 1 < (o.length : Int) := by omega
          clear HO hgc hy ho1
          have hiw : IntKind.i64.wrap ((o.length : Int) - 1) = (o.length : Int) - 1 := IntWalk.i64_in _ (by omega)
          have HIW := Lib.hid hiw
          clear hiw
          by_cases e1 : y1 = x0
          · replace e1 := e1.symm; subst e1
            by_cases e2 : y2 = x2
            · replace e2 := e2.symm; subst e2
              go_wp2_with fail
              have hiw := HIW.out
              have kfy0 := cell_regrown fy0
              have kfy1 := cell_regrown fy1
              have kfy2 := cell_regrown fy2
              have kf0 := cell_regrown f0
              have kf1 := cell_regrown f1
              have kf2 := cell_regrown f2
              refine wp_region_bel mixed (by kernel_rfl) ?_
              repeat (any_goals (first | go_big_quiet_step ((fail)) | quiet_step ((fail)) | (refine wpQuiet_step (fun K hK => ?_); go_simp; (split <;> first | (refine hK _ ?_; clear hK K) | (apply Exists.intro; refine ⟨fun _ => ?_, hK _ ?_⟩; ((fail)); clear hK K)))))
              all_goals (refine wpQuiet_nil ?_; intro w1 hw1)
              all_goals (clear kfy0 kfy1 kfy2 kf0 kf1 kf2 hiw; replace fy0 := (hw1.cell (by (try simp only); omega)).trans fy0; replace fy1 := (hw1.cell (by (try simp only); omega)).trans fy1; replace fy2 := (hw1.cell (by (try simp only); omega)).trans fy2; replace f0 := (hw1.cell (by (try simp only); omega)).trans f0; replace f1 := (hw1.cell (by (try simp only); omega)).trans f1; replace f2 := (hw1.cell (by (try simp only); omega)).trans f2)
              have ho2 := own_below HO1.out hw1
              have hB1 := bt hB hw1
              have hz := ho2.frozenAt ((o.length - 1) * 3 + 1)
              have hsg := ho2.stored ((o.length - 1) * 3 + 1) (.int .i64 x1)
              have HSG := Lib.hid hsg
              clear hsg
              have HO2 := Lib.hid ho2
              clear ho2
              go_wp2
              go_roundw
              case rel =>
                have e1 := joinStep_set (x1 := x1) H0.out HY.out
                have e2 := joinStep_set_flat (x1 := x1) H0.out HY.out
                have e3 : (o.take (o.length - 1) ++ [(⟨y0, x1, x2⟩ : MarkD)]).length = o.length := by have := H0.out; simp; omega
                refine ⟨k + 1, some ⟨g, 0, none⟩, c3, by omega, by go_num, by rw [HS.out, e1, e3], below_grown hB1 (HSG.out).2 (Nat.le_refl _) (fun k hk => by cases hk; omega), ?_⟩
                show World.ownsRow _ _ _ _ _ _ _
                rw [HS.out, e1, e3, ← e2]
                exact (HSG.out).1
              case measure => simp [intOf]; omega
            · have e2b : (y2 == x2) = false := beq_eq_false_iff_ne.2 e2
              go_wp2_with fail
              have hiw := HIW.out
              have kfy0 := cell_regrown fy0
              have kfy1 := cell_regrown fy1
              have kfy2 := cell_regrown fy2
              have kf0 := cell_regrown f0
              have kf1 := cell_regrown f1
              have kf2 := cell_regrown f2
              refine wp_region_bel mixed (by kernel_rfl) ?_
              repeat (any_goals (first | go_big_quiet_step ((fail)) | quiet_step ((fail)) | (refine wpQuiet_step (fun K hK => ?_); go_simp; (split <;> first | (refine hK _ ?_; clear hK K) | (apply Exists.intro; refine ⟨fun _ => ?_, hK _ ?_⟩; ((fail)); clear hK K)))))
              all_goals (refine wpQuiet_nil ?_; intro w1 hw1)
              all_goals (clear kfy0 kfy1 kfy2 kf0 kf1 kf2 hiw; replace fy0 := (hw1.cell (by (try simp only); omega)).trans fy0; replace fy1 := (hw1.cell (by (try simp only); omega)).trans fy1; replace fy2 := (hw1.cell (by (try simp only); omega)).trans fy2; replace f0 := (hw1.cell (by (try simp only); omega)).trans f0; replace f1 := (hw1.cell (by (try simp only); omega)).trans f1; replace f2 := (hw1.cell (by (try simp only); omega)).trans f2)
              have ho2 := own_below HO1.out hw1
              have hB1 := bt hB hw1
              have hbs := Lib.hid hB1.size
              go_wp2_with (first | (at_builtin; refine wpList_push w1 rfl _ _ 24 rfl w.heap.size 42 i0 _ 3 24 Try.underlying24 hi hz0 hz1 hz2 rfl (by decide) (.slice (some ⟨g, 0, none⟩) o.length c3) (o.length) (o.flatMap markC) (by rfl) ho2 [.int .i64 x0, .int .i64 x1, .int .i64 x2] 42 (by rfl) rfl (by simp [Value.oneCell']) (by unfold maxLen; omega) (by omega) hbs.out ?_; intro A4 c4 w4 ho4 hg4))
              go_roundw
              case rel =>
                have e1 : joinStep o ⟨x0, x1, x2⟩ = o ++ [⟨x0, x1, x2⟩] := joinStep_app (by rw [HY.out]; rintro ⟨_, _, h⟩; exact e2 h)
                have e2 : (o ++ [(⟨x0, x1, x2⟩ : MarkD)]).length = o.length + 1 := by simp
                have e3 : (o ++ [(⟨x0, x1, x2⟩ : MarkD)]).flatMap markC = o.flatMap markC ++ [.int .i64 x0, .int .i64 x1, .int .i64 x2] := by simp [markC]
                refine ⟨k + 1, A4, c4, by omega, by go_num, by rw [HS.out, e1, e2], below_grown hB1 hg4 (Nat.le_refl _) (fun k hk => (World.ownsRow.lt ho2 k hk).1), ?_⟩
                show World.ownsRow _ _ _ _ _ _ _
                rw [HS.out, e1, e2, e3]
                exact ho4
              case measure => simp [intOf]; omega
          · have e1b : (y1 == x0) = false := beq_eq_false_iff_ne.2 e1
            go_wp2_with fail
            have hiw := HIW.out
            have kfy0 := cell_regrown fy0
            have kfy1 := cell_regrown fy1
            have kfy2 := cell_regrown fy2
            have kf0 := cell_regrown f0
            have kf1 := cell_regrown f1
            have kf2 := cell_regrown f2
            refine wp_region_bel mixed (by kernel_rfl) ?_
            repeat (any_goals (first | go_big_quiet_step ((fail)) | quiet_step ((fail)) | (refine wpQuiet_step (fun K hK => ?_); go_simp; (split <;> first | (refine hK _ ?_; clear hK K) | (apply Exists.intro; refine ⟨fun _ => ?_, hK _ ?_⟩; ((fail)); clear hK K)))))
            all_goals (refine wpQuiet_nil ?_; intro w1 hw1)
            all_goals (clear kfy0 kfy1 kfy2 kf0 kf1 kf2 hiw; replace fy0 := (hw1.cell (by (try simp only); omega)).trans fy0; replace fy1 := (hw1.cell (by (try simp only); omega)).trans fy1; replace fy2 := (hw1.cell (by (try simp only); omega)).trans fy2; replace f0 := (hw1.cell (by (try simp only); omega)).trans f0; replace f1 := (hw1.cell (by (try simp only); omega)).trans f1; replace f2 := (hw1.cell (by (try simp only); omega)).trans f2)
            have ho2 := own_below HO1.out hw1
            have hB1 := bt hB hw1
            have hbs := Lib.hid hB1.size
            go_wp2_with (first | (at_builtin; refine wpList_push w1 rfl _ _ 24 rfl w.heap.size 42 i0 _ 3 24 Try.underlying24 hi hz0 hz1 hz2 rfl (by decide) (.slice (some ⟨g, 0, none⟩) o.length c3) (o.length) (o.flatMap markC) (by rfl) ho2 [.int .i64 x0, .int .i64 x1, .int .i64 x2] 42 (by rfl) rfl (by simp [Value.oneCell']) (by unfold maxLen; omega) (by omega) hbs.out ?_; intro A4 c4 w4 ho4 hg4))
            go_roundw
            case rel =>
              have e1 : joinStep o ⟨x0, x1, x2⟩ = o ++ [⟨x0, x1, x2⟩] := joinStep_app (by rw [HY.out]; rintro ⟨_, h, _⟩; exact e1 h)
              have e2 : (o ++ [(⟨x0, x1, x2⟩ : MarkD)]).length = o.length + 1 := by simp
              have e3 : (o ++ [(⟨x0, x1, x2⟩ : MarkD)]).flatMap markC = o.flatMap markC ++ [.int .i64 x0, .int .i64 x1, .int .i64 x2] := by simp [markC]
              refine ⟨k + 1, A4, c4, by omega, by go_num, by rw [HS.out, e1, e2], below_grown hB1 hg4 (Nat.le_refl _) (fun k hk => (World.ownsRow.lt ho2 k hk).1), ?_⟩
              show World.ownsRow _ _ _ _ _ _ _
              rw [HS.out, e1, e2, e3]
              exact ho4
            case measure => simp [intOf]; omega
      · obtain rfl : k = L.length := by omega
        go_wp2
        go_ret2
        exact rowPost2_mk HO.out hB
  · rw [joinR_bad hk]
    have hne : (codeK s L != 0) = true := by rw [bne_iff_ne]; exact hk
    clear hk
    go_enter Try.func39, Try.ntmps39
    go_wp2_with fail
    refine hmc.mono ?_
    rintro e w1 ⟨rfl, hb1⟩
    clear hmc
    go_wp2
    go_ret2
    exact rowPost2_nil hb1

end Go.Proofs.Ytgckkocndhfbnaa
