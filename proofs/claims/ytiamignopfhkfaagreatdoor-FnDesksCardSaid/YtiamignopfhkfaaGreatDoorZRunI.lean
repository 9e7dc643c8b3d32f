/- Contracts: run, RunConsole, DeskAfter of the program. -/
import Derived.Test.YtiamignopfhkfaaGreatDoorZ22
import Derived.Test.YtiamignopfhkfaaGreatDoorZ34
namespace Go.Proofs.YtiamignopfhkfaaGreatDoor
open Go.RowKit
set_option linter.unusedVariables false
def noF : Nat → Prop := fun _ => False
theorem RowsW.mono {B B' : Nat} {d : DeskD} {A1 A2 A3 : Option Addr} {c1 c2 c3 : Nat} {W : World} (h : RowsW B d A1 A2 A3 c1 c2 c3 W) (hB : B' ≤ B) : RowsW B' d A1 A2 A3 c1 c2 c3 W := ⟨own_mono h.1 hB, own_mono h.2.1 hB, own_mono h.2.2 hB⟩
/-- What run hands back. -/
def RunQ (s : ByteArray) (w : World) (e : Ending) (w' : World) : Prop :=
  ∃ v A c, e = .returned (.tuple #[v, .slice A (outT s).length c, .int .i64 (codeT s)]) ∧ DeskB w.heap.size v (deskT s) w' ∧ w'.ownsRow w.heap.size 9 1 (.slice A (outT s).length c) (outT s).length ((outT s).map Value.string) ∧ Below w.heap.size w w'
/-- The desk stays while a row of texts grows. -/
theorem DeskIn.farOwn {B g base n : Nat} {d : DeskD} {W W' : World} {v : Value} {xs : List Value} (h : DeskIn B g noF d W) (ho : W.ownsRow base 9 1 v n xs) (hg : W.grownBy W' v.ownBlock) (hne : ∀ k, v.ownBlock = some k → k ≠ g) : DeskIn B g noF d W' := by
  obtain ⟨h1, ⟨h2, h3, h4, h5⟩, h6, A1, A2, A3, c1, c2, c3, ⟨k1, k2, k3⟩, hr, ha, hd⟩ := h
  have hz := hg.size
  have hgr : some g ≠ v.ownBlock := fun e => hne g e.symm rfl
  exact ⟨h1, ⟨h2, by omega, h4, fun k hk => hk.elim⟩, fun i => (hg.frozen_far ⟨g, i, none⟩ h3 hgr).trans (h6 i), A1, A2, A3, c1, c2, c3,
    ⟨(hg.cell_far ⟨g, 0, none⟩ h3 hgr).trans k1, (hg.cell_far ⟨g, 1, none⟩ h3 hgr).trans k2, (hg.cell_far ⟨g, 2, none⟩ h3 hgr).trans k3⟩,
    hr.far ho hg (by decide) (by decide) (by decide), ha, hd⟩
theorem DeskIn.first (B : Nat) {W : World} {g : Nat} (h : BD W g (.slice none 0 0) (.slice none 0 0) (.slice none 0 0)) (hB : B ≤ g) : DeskIn B g noF d0 W :=
  ⟨d0_good, ⟨hB, h.lt, fun hh => hh.elim, fun k hk => hk.elim⟩, h.frozen, none, none, none, 0, 0, 0, ⟨h.c0, h.c1, h.c2⟩, rows_nil B W, ⟨fun k hk => (by cases hk), fun k hk => (by cases hk), fun k hk => (by cases hk)⟩, fun k hk => (by cases hk), fun k hk => (by cases hk), fun k hk => (by cases hk)⟩
/-- The memory of the loop: the result's box, the desk, the lines of output. -/
def IW (w wB : World) (g : Nat) (L : List ByteArray) (A : Option Addr) (c k : Nat) (W : World) : Prop :=
  DeskIn w.heap.size g noF (runL d0 (L.take k)).1 W ∧ BD W w.heap.size (.slice none 0 0) (.slice none 0 0) (.slice none 0 0) ∧ W.ownsRow (g + 1) 9 1 (.slice A k c) k ((runL d0 (L.take k)).2.map Value.string) ∧ Below g wB W ∧ wB.heap.size = g ∧ g < W.heap.size
/-! ### the walks -/

set_option maxRecDepth 100000 in
set_option maxHeartbeats 8000000 in
theorem run_c (s : ByteArray) (w : World) (hs : s.size ≤ 2000000) (hE : JEnv w) (hM : MaxW w) : Calls Tryz.prog 32 #[.string s] w (RunQ s w) := by
  obtain ⟨i0, hi, hz0, hz1, hz2⟩ := info_parts str_info
  have HE := Lib.hid hE
  have HMW := Lib.hid hM
  obtain ⟨mx, hmx⟩ := hM
  have hbd := lines_bd hs
  have HY := Lib.hid (fun h => linesR_yes (s := s) h)
  have HN := Lib.hid (fun h => linesR_no (s := s) h)
  have hp := lines_pos s
  have HSP := Lib.hid (fun (W : World) (hb : Below w.heap.size w W) => splitL_c s W hs mx ((hb.cell (block_lt_of_cell hmx)).trans hmx))
  clear hmx hE
  go_enter Tryz.func32, Tryz.ntmps32
  go_wp2_with fail
  generalize hW0 : w.alloc (.cells #[.slice none 0 0, .slice none 0 0, .slice none 0 0] 34) = W0
  have hbW0 : Below w.heap.size w W0 := by subst hW0; exact (Below.refl _ _).alloc (Nat.le_refl _) _
  have HX2 := Lib.hid (show BD W0 w.heap.size (.slice none 0 0) (.slice none 0 0) (.slice none 0 0) by subst hW0; exact BD.new _ _ _ _)
  clear hW0
  have hz0w := HX2.out.lt
  refine (HSP.out W0 hbW0).mono ?_
  rintro e w1 ⟨D, rfl, hD, ho, hb1⟩
  subst hD
  have hB1 := bt hbW0 hb1
  replace HX2 := Lib.hid (HX2.out.below hb1)
  have hzw := HX2.out.lt
  obtain ⟨gL, hgL⟩ : ∃ g, W0.heap.size = g := ⟨_, rfl⟩
  rw [hgL] at ho ⊢
  have hgLl : gL < w1.heap.size := (own_lt ho).2
  have HR := Lib.hid (Rd.of_own1 ho)
  have HCL : Hid (∀ j (hj : j < (linesB s).length), w1.cell? ⟨gL, j, none⟩ = some (.string (linesB s)[j])) := fun j hj => by
    obtain ⟨b, off, e, _, hc⟩ := Rd.strs HR.out hp
    have h1 := hc j hj
    injection e with e; injection e with e1 e2 _
    subst e1; subst e2
    simpa using h1
  have hl1 : (linesB s).length - 1 < (linesB s).length := by omega
  have hc1 := HCL.out ((linesB s).length - 1) hl1
  clear ho HSP hb1 hbW0 hgL
  by_cases hx : (linesB s)[(linesB s).length - 1] = ⟨#[]⟩
  · have HLL := Lib.hid (HY.out hx)
    rw [hx] at hc1
    have HCT : Hid (∀ j (hj : j < ((linesB s).take ((linesB s).length - 1)).length), w1.cell? ⟨gL, j, none⟩ = some (.string ((linesB s).take ((linesB s).length - 1))[j])) := fun j hj => by
      rw [List.getElem_take]; exact HCL.out j (by rw [List.length_take] at hj; omega)
    have hLk : ((linesB s).take ((linesB s).length - 1)).length = (linesB s).length - 1 := by rw [List.length_take]; omega
    clear hx HY HN HCL
    generalize (linesB s).take ((linesB s).length - 1) = L at *
    generalize (linesB s).length = n at *
    obtain ⟨n, rfl⟩ : ∃ k, n = k + 1 := ⟨n - 1, by omega⟩
    rw [Nat.add_sub_cancel] at hc1 hLk
    have hni : ((n + 1 : Nat) : Int) - 1 = (n : Int) := by omega
    subst hLk
    by_cases h1 : s.size ≤ 1500
    · have h1d : decide ((s.size : Int) ≤ 1500) = true := decide_eq_true (by omega)
      by_cases h2 : L.length ≤ 40
      · have h2d : decide ((L.length : Int) ≤ 40) = true := decide_eq_true (by omega)
        have hf : fitB s = true := by unfold fitB; rw [HLL.out, decide_eq_true h1, decide_eq_true h2]; rfl
        have HP : Hid (∀ w' v A c, Below w.heap.size w w' → DeskB w.heap.size v (runL d0 L).1 w' → w'.ownsRow w.heap.size 9 1 (.slice A (runL d0 L).2.length c) (runL d0 L).2.length ((runL d0 L).2.map Value.string) → RunQ s w (.returned (.tuple #[v, .slice A (runL d0 L).2.length c, .int .i64 0])) w') := fun w' v A c hb hv ho => by
          unfold RunQ outT deskT codeT outD deskD; rw [hf, HLL.out]; exact ⟨v, A, c, rfl, hv, ho, hb⟩
        have HST := Lib.hid (fun k (hk : k < L.length) => runL_step hk d0)
        have HLN := Lib.hid (fun k (hk : k ≤ L.length) => run_len_take L hk)
        have HSZ : Hid (∀ x ∈ L, x.size ≤ 2000000) := by have h := lines_szR s hs; rw [HLL.out] at h; exact h
        go_wp2_with (first | (go_at_call 61; refine (few_x (s.size : Int) 1500 true _ h1d).mono ?_; rintro e w' ⟨rfl, rfl⟩) | (go_at_call 61; refine (few_x (L.length : Int) 40 true _ h2d).mono ?_; rintro e w' ⟨rfl, rfl⟩))
        have h3 := World.ownsRow_lit (base := w1.heap.size + 1) (e := 9) (size := 1) (w1.alloc (.cells #[.slice none 0 0, .slice none 0 0, .slice none 0 0] 34)) #[] 0 (by simp) (by unfold maxLen; omega) rfl
        have hbx : Below w1.heap.size w1 ((w1.alloc (.cells #[.slice none 0 0, .slice none 0 0, .slice none 0 0] 34)).alloc (.cells #[] 9)) := ((Below.refl _ _).alloc (Nat.le_refl _) _).alloc (by simp) _
        have HM : Hid (IW w w1 w1.heap.size L (some ⟨w1.heap.size + 1, 0, none⟩) 0 0 ((w1.alloc (.cells #[.slice none 0 0, .slice none 0 0, .slice none 0 0] 34)).alloc (.cells #[] 9))) :=
          ⟨DeskIn.first _ ((BD.new w1 _ _ _).below ((Below.refl _ _).alloc (Nat.le_refl _) _)) (Nat.le_of_lt hzw), HX2.out.below hbx, (by have e : (w1.alloc (.cells #[.slice none 0 0, .slice none 0 0, .slice none 0 0] 34)).heap.size = w1.heap.size + 1 := (by simp); rw [e] at h3; exact h3), hbx, rfl, by simp; omega⟩
        clear h3 hbx hf HX2
        go_loopw [7, 39] (fun ov iv wr => ∃ (k : Nat) (A : Option Addr) (c : Nat), ov = .slice A k c ∧ iv = .int .i64 k ∧ k ≤ L.length ∧ Hid (IW w w1 w1.heap.size L A c k wr)) (fun _ iv _ => L.length - (intOf iv).toNat)
        case atStart => exact ⟨0, _, _, rfl, rfl, by omega, HM⟩
        case round =>
          obtain ⟨k, A, c, rfl, rfl, hk, HA⟩ := hrel
          clear HM
          obtain ⟨hDI, hX2, hO, hBB, hgB, hgl⟩ := HA.out
          clear HA
          by_cases hlt : k < L.length
          · have hki : (k : Int) < (L.length : Int) := by omega
            have hk0 : (0 : Int) ≤ (k : Int) := by omega
            have cL : wr.cell? ⟨gL, k, none⟩ = some (.string L[k]) := (hBB.cell (p := ⟨gL, k, none⟩) hgLl).trans (HCT.out k hlt)
            have hxs := HSZ.out _ (List.getElem_mem hlt)
            have HSTk := Lib.hid (HST.out k hlt)
            have HLk := HLN.out k (by omega)
            have HLINE := Lib.hid (line_c w1.heap.size noF (runL d0 (L.take k)).1 w wr HE.out (below_then hB1 hBB (Nat.le_refl _)) hDI HMW.out L[k] hxs)
            unfold LineP at HLINE
            have hX2' := Lib.hid hX2; have hO' := Lib.hid hO
            clear hX2 hO hDI
            generalize runL d0 (L.take k) = R at *
            generalize L[k] = x at *
            obtain ⟨d, X⟩ := R
            simp only at HLINE HSTk HLk
            generalize lineD d x = R2 at *
            obtain ⟨d2, t2⟩ := R2
            simp only at HLINE HSTk
            go_wp2_with fail
            refine HLINE.out.mono ?_
            rintro e w5 ⟨rfl, hD5, hg5⟩
            have HX5 := Lib.hid (hX2'.out.far hg5 (fun e => by injection e with e; omega))
            have HO5 := Lib.hid (hO'.out.kept hg5 (.inr (fun e => by have := (hO'.out.lt _ e).1; omega)))
            have hB5 := below_grown hBB hg5 (Nat.le_refl _) (fun k hk => by injection hk with hk; omega)
            have HD5 := Lib.hid hD5
            have hz5 := hg5.size
            clear hD5 hg5 hX2' hO'
            go_wp2_with (first | (at_builtin; refine wpList_push w5 rfl _ _ 25 rfl (w1.heap.size + 1) 9 i0 _ 1 16 Tryz.underlying25 hi hz0 hz1 hz2 rfl (by decide) (.slice A k c) (k) (X.map Value.string) (by rfl) HO5.out [.string t2] 9 (by rfl) rfl (by simp [Value.oneCell']) (by unfold maxLen; omega) (by omega) (by omega) ?_; intro A8 c8 w8 ho8 hg8; have HD8 := Lib.hid (HD5.out.farOwn HO5.out hg8 (fun k hk => by have := (HO5.out.lt k hk).1; omega)); have HX8 := Lib.hid (HX5.out.farOwn HO5.out hg8 (by decide)); have HO8 := Lib.hid (own_snocT ho8); have hB8 := below_grown hB5 hg8 (Nat.le_refl _) (fun k hk => by have := (HO5.out.lt k hk).1; omega); have hz8 := hg8.size; clear ho8 hg8))
            go_roundw
            case rel => exact ⟨k + 1, A8, c8, rfl, by go_num, by omega, by rw [HSTk.out]; exact HD8.out, HX8.out, by rw [HSTk.out]; exact HO8.out, hB8, rfl, by omega⟩
            case measure => first | (simp [intOf]; done) | (simp [intOf]; omega)
          · obtain rfl : k = L.length := by omega
            have hki : ¬ (L.length : Int) < (L.length : Int) := by omega
            rw [List.take_length] at hDI hO
            have HLk := HLN.out L.length (Nat.le_refl _)
            rw [List.take_length] at HLk
            have HF : Hid (∀ w' v, Below w.heap.size w w' → DeskB w.heap.size v (runL d0 L).1 w' → w'.ownsRow w.heap.size 9 1 (.slice A L.length c) L.length ((runL d0 L).2.map Value.string) → RunQ s w (.returned (.tuple #[v, .slice A L.length c, .int .i64 0])) w') := fun w' v hb hv ho => by
              have h := HP.out w' v A c hb hv
              rw [HLk] at h; exact h ho
            have hBw : Below w.heap.size w wr := below_then hB1 hBB (Nat.le_refl _)
            generalize (runL d0 L).1 = d at *
            generalize (runL d0 L).2 = X at *
            obtain ⟨-, -, hfz, A1, A2, A3, c1, c2, c3, ⟨e0, e1, e2⟩, hrw, -⟩ := hDI
            have HRW := Lib.hid hrw
            have HO := Lib.hid (own_mono hO (Nat.le_of_lt (Nat.lt_succ_of_lt hzw)))
            have HX := Lib.hid hX2
            have r0 := hX2.c0
            have r1 := hX2.c1
            have r2 := hX2.c2
            have zr := hX2.frozen
            clear hrw hO hX2 HLk hfz
            go_wp2
            refine bodyPost_ret (v := .tuple #[.agg #[.slice A1 d.H.length c1, .slice A2 d.K.length c2, .slice A3 d.M.length c3], .slice A L.length c, .int .i64 0]) (by simp [results, Tryz.results32, go_sem, r0, r1, r2]) rfl ?_
            exact HF.out _ _ (bel3 hBw (Nat.le_refl _) _ _ _) ⟨A1, A2, A3, c1, c2, c3, rfl, HRW.out.put HX.out _ _ _⟩ (own_put HO.out HX.out (by decide) _ _ _)
      · have h2d : decide ((L.length : Int) ≤ 40) = false := decide_eq_false (by omega)
        have hf : fitB s = false := by unfold fitB; rw [HLL.out, decide_eq_false h2, Bool.and_false]
        have HP : Hid (∀ w' , Below w.heap.size w w' → RunQ s w (.returned (.tuple #[.agg #[.slice none 0 0, .slice none 0 0, .slice none 0 0], .slice none 0 0, .int .i64 3])) w') := fun w' hb => by
          unfold RunQ outT deskT codeT; rw [hf]; exact ⟨_, none, 0, rfl, ⟨none, none, none, 0, 0, 0, rfl, rows_nil _ w'⟩, World.ownsRow_nil _ _ _ _, hb⟩
        have r0 := HX2.out.c0
        have r1 := HX2.out.c1
        have r2 := HX2.out.c2
        have zr := HX2.out.frozen
        clear hf HE HMW HR
        go_wp2_with (first | (go_at_call 61; refine (few_x (s.size : Int) 1500 true _ h1d).mono ?_; rintro e w' ⟨rfl, rfl⟩) | (go_at_call 61; refine (few_x (L.length : Int) 40 false _ h2d).mono ?_; rintro e w' ⟨rfl, rfl⟩))
        refine bodyPost_ret (v := .tuple #[.agg #[.slice none 0 0, .slice none 0 0, .slice none 0 0], .slice none 0 0, .int .i64 3]) (by simp [results, Tryz.results32, go_sem, r0, r1, r2]) rfl ?_
        exact HP.out _ (bel3 hB1 (Nat.le_refl _) _ _ _)
    · have h1d : decide ((s.size : Int) ≤ 1500) = false := decide_eq_false (by omega)
      have hf : fitB s = false := by unfold fitB; rw [decide_eq_false h1, Bool.false_and]
      have HP : Hid (∀ w' , Below w.heap.size w w' → RunQ s w (.returned (.tuple #[.agg #[.slice none 0 0, .slice none 0 0, .slice none 0 0], .slice none 0 0, .int .i64 3])) w') := fun w' hb => by
        unfold RunQ outT deskT codeT; rw [hf]; exact ⟨_, none, 0, rfl, ⟨none, none, none, 0, 0, 0, rfl, rows_nil _ w'⟩, World.ownsRow_nil _ _ _ _, hb⟩
      have r0 := HX2.out.c0
      have r1 := HX2.out.c1
      have r2 := HX2.out.c2
      have zr := HX2.out.frozen
      clear hf HE HMW HR
      go_wp2_with (first | (go_at_call 61; refine (few_x (s.size : Int) 1500 false _ h1d).mono ?_; rintro e w' ⟨rfl, rfl⟩))
      refine bodyPost_ret (v := .tuple #[.agg #[.slice none 0 0, .slice none 0 0, .slice none 0 0], .slice none 0 0, .int .i64 3]) (by simp [results, Tryz.results32, go_sem, r0, r1, r2]) rfl ?_
      exact HP.out _ (bel3 hB1 (Nat.le_refl _) _ _ _)
  · have HLL := Lib.hid (HN.out hx)
    have hne := str_ne (l := []) hx
    have HCT := HCL
    clear hx HY HN HCL
    generalize (linesB s)[(linesB s).length - 1] = xl at *
    generalize linesB s = L at *
    have hpi : (0 : Int) ≤ (L.length : Int) - 1 := by omega
    obtain ⟨n, hn⟩ : ∃ k, L.length = k + 1 := ⟨L.length - 1, by omega⟩
    have hni : (L.length : Int) - 1 = (n : Int) := by omega
    have hnl : (n : Int) < (L.length : Int) := by omega
    rw [show L.length - 1 = n by omega] at hc1
    clear hn
    by_cases h1 : s.size ≤ 1500
    · have h1d : decide ((s.size : Int) ≤ 1500) = true := decide_eq_true (by omega)
      by_cases h2 : L.length ≤ 40
      · have h2d : decide ((L.length : Int) ≤ 40) = true := decide_eq_true (by omega)
        have hf : fitB s = true := by unfold fitB; rw [HLL.out, decide_eq_true h1, decide_eq_true h2]; rfl
        have HP : Hid (∀ w' v A c, Below w.heap.size w w' → DeskB w.heap.size v (runL d0 L).1 w' → w'.ownsRow w.heap.size 9 1 (.slice A (runL d0 L).2.length c) (runL d0 L).2.length ((runL d0 L).2.map Value.string) → RunQ s w (.returned (.tuple #[v, .slice A (runL d0 L).2.length c, .int .i64 0])) w') := fun w' v A c hb hv ho => by
          unfold RunQ outT deskT codeT outD deskD; rw [hf, HLL.out]; exact ⟨v, A, c, rfl, hv, ho, hb⟩
        have HST := Lib.hid (fun k (hk : k < L.length) => runL_step hk d0)
        have HLN := Lib.hid (fun k (hk : k ≤ L.length) => run_len_take L hk)
        have HSZ : Hid (∀ x ∈ L, x.size ≤ 2000000) := by have h := lines_szR s hs; rw [HLL.out] at h; exact h
        go_wp2_with (first | (go_at_call 61; refine (few_x (s.size : Int) 1500 true _ h1d).mono ?_; rintro e w' ⟨rfl, rfl⟩) | (go_at_call 61; refine (few_x (L.length : Int) 40 true _ h2d).mono ?_; rintro e w' ⟨rfl, rfl⟩))
        have h3 := World.ownsRow_lit (base := w1.heap.size + 1) (e := 9) (size := 1) (w1.alloc (.cells #[.slice none 0 0, .slice none 0 0, .slice none 0 0] 34)) #[] 0 (by simp) (by unfold maxLen; omega) rfl
        have hbx : Below w1.heap.size w1 ((w1.alloc (.cells #[.slice none 0 0, .slice none 0 0, .slice none 0 0] 34)).alloc (.cells #[] 9)) := ((Below.refl _ _).alloc (Nat.le_refl _) _).alloc (by simp) _
        have HM : Hid (IW w w1 w1.heap.size L (some ⟨w1.heap.size + 1, 0, none⟩) 0 0 ((w1.alloc (.cells #[.slice none 0 0, .slice none 0 0, .slice none 0 0] 34)).alloc (.cells #[] 9))) :=
          ⟨DeskIn.first _ ((BD.new w1 _ _ _).below ((Below.refl _ _).alloc (Nat.le_refl _) _)) (Nat.le_of_lt hzw), HX2.out.below hbx, (by have e : (w1.alloc (.cells #[.slice none 0 0, .slice none 0 0, .slice none 0 0] 34)).heap.size = w1.heap.size + 1 := (by simp); rw [e] at h3; exact h3), hbx, rfl, by simp; omega⟩
        clear h3 hbx hf HX2
        go_loopw [7, 39] (fun ov iv wr => ∃ (k : Nat) (A : Option Addr) (c : Nat), ov = .slice A k c ∧ iv = .int .i64 k ∧ k ≤ L.length ∧ Hid (IW w w1 w1.heap.size L A c k wr)) (fun _ iv _ => L.length - (intOf iv).toNat)
        case atStart => exact ⟨0, _, _, rfl, rfl, by omega, HM⟩
        case round =>
          obtain ⟨k, A, c, rfl, rfl, hk, HA⟩ := hrel
          clear HM
          obtain ⟨hDI, hX2, hO, hBB, hgB, hgl⟩ := HA.out
          clear HA
          by_cases hlt : k < L.length
          · have hki : (k : Int) < (L.length : Int) := by omega
            have hk0 : (0 : Int) ≤ (k : Int) := by omega
            have cL : wr.cell? ⟨gL, k, none⟩ = some (.string L[k]) := (hBB.cell (p := ⟨gL, k, none⟩) hgLl).trans (HCT.out k hlt)
            have hxs := HSZ.out _ (List.getElem_mem hlt)
            have HSTk := Lib.hid (HST.out k hlt)
            have HLk := HLN.out k (by omega)
            have HLINE := Lib.hid (line_c w1.heap.size noF (runL d0 (L.take k)).1 w wr HE.out (below_then hB1 hBB (Nat.le_refl _)) hDI HMW.out L[k] hxs)
            unfold LineP at HLINE
            have hX2' := Lib.hid hX2; have hO' := Lib.hid hO
            clear hX2 hO hDI
            generalize runL d0 (L.take k) = R at *
            generalize L[k] = x at *
            obtain ⟨d, X⟩ := R
            simp only at HLINE HSTk HLk
            generalize lineD d x = R2 at *
            obtain ⟨d2, t2⟩ := R2
            simp only at HLINE HSTk
            go_wp2_with fail
            refine HLINE.out.mono ?_
            rintro e w5 ⟨rfl, hD5, hg5⟩
            have HX5 := Lib.hid (hX2'.out.far hg5 (fun e => by injection e with e; omega))
            have HO5 := Lib.hid (hO'.out.kept hg5 (.inr (fun e => by have := (hO'.out.lt _ e).1; omega)))
            have hB5 := below_grown hBB hg5 (Nat.le_refl _) (fun k hk => by injection hk with hk; omega)
            have HD5 := Lib.hid hD5
            have hz5 := hg5.size
            clear hD5 hg5 hX2' hO'
            go_wp2_with (first | (at_builtin; refine wpList_push w5 rfl _ _ 25 rfl (w1.heap.size + 1) 9 i0 _ 1 16 Tryz.underlying25 hi hz0 hz1 hz2 rfl (by decide) (.slice A k c) (k) (X.map Value.string) (by rfl) HO5.out [.string t2] 9 (by rfl) rfl (by simp [Value.oneCell']) (by unfold maxLen; omega) (by omega) (by omega) ?_; intro A8 c8 w8 ho8 hg8; have HD8 := Lib.hid (HD5.out.farOwn HO5.out hg8 (fun k hk => by have := (HO5.out.lt k hk).1; omega)); have HX8 := Lib.hid (HX5.out.farOwn HO5.out hg8 (by decide)); have HO8 := Lib.hid (own_snocT ho8); have hB8 := below_grown hB5 hg8 (Nat.le_refl _) (fun k hk => by have := (HO5.out.lt k hk).1; omega); have hz8 := hg8.size; clear ho8 hg8))
            go_roundw
            case rel => exact ⟨k + 1, A8, c8, rfl, by go_num, by omega, by rw [HSTk.out]; exact HD8.out, HX8.out, by rw [HSTk.out]; exact HO8.out, hB8, rfl, by omega⟩
            case measure => first | (simp [intOf]; done) | (simp [intOf]; omega)
          · obtain rfl : k = L.length := by omega
            have hki : ¬ (L.length : Int) < (L.length : Int) := by omega
            rw [List.take_length] at hDI hO
            have HLk := HLN.out L.length (Nat.le_refl _)
            rw [List.take_length] at HLk
            have HF : Hid (∀ w' v, Below w.heap.size w w' → DeskB w.heap.size v (runL d0 L).1 w' → w'.ownsRow w.heap.size 9 1 (.slice A L.length c) L.length ((runL d0 L).2.map Value.string) → RunQ s w (.returned (.tuple #[v, .slice A L.length c, .int .i64 0])) w') := fun w' v hb hv ho => by
              have h := HP.out w' v A c hb hv
              rw [HLk] at h; exact h ho
            have hBw : Below w.heap.size w wr := below_then hB1 hBB (Nat.le_refl _)
            generalize (runL d0 L).1 = d at *
            generalize (runL d0 L).2 = X at *
            obtain ⟨-, -, hfz, A1, A2, A3, c1, c2, c3, ⟨e0, e1, e2⟩, hrw, -⟩ := hDI
            have HRW := Lib.hid hrw
            have HO := Lib.hid (own_mono hO (Nat.le_of_lt (Nat.lt_succ_of_lt hzw)))
            have HX := Lib.hid hX2
            have r0 := hX2.c0
            have r1 := hX2.c1
            have r2 := hX2.c2
            have zr := hX2.frozen
            clear hrw hO hX2 HLk hfz
            go_wp2
            refine bodyPost_ret (v := .tuple #[.agg #[.slice A1 d.H.length c1, .slice A2 d.K.length c2, .slice A3 d.M.length c3], .slice A L.length c, .int .i64 0]) (by simp [results, Tryz.results32, go_sem, r0, r1, r2]) rfl ?_
            exact HF.out _ _ (bel3 hBw (Nat.le_refl _) _ _ _) ⟨A1, A2, A3, c1, c2, c3, rfl, HRW.out.put HX.out _ _ _⟩ (own_put HO.out HX.out (by decide) _ _ _)
      · have h2d : decide ((L.length : Int) ≤ 40) = false := decide_eq_false (by omega)
        have hf : fitB s = false := by unfold fitB; rw [HLL.out, decide_eq_false h2, Bool.and_false]
        have HP : Hid (∀ w' , Below w.heap.size w w' → RunQ s w (.returned (.tuple #[.agg #[.slice none 0 0, .slice none 0 0, .slice none 0 0], .slice none 0 0, .int .i64 3])) w') := fun w' hb => by
          unfold RunQ outT deskT codeT; rw [hf]; exact ⟨_, none, 0, rfl, ⟨none, none, none, 0, 0, 0, rfl, rows_nil _ w'⟩, World.ownsRow_nil _ _ _ _, hb⟩
        have r0 := HX2.out.c0
        have r1 := HX2.out.c1
        have r2 := HX2.out.c2
        have zr := HX2.out.frozen
        clear hf HE HMW HR
        go_wp2_with (first | (go_at_call 61; refine (few_x (s.size : Int) 1500 true _ h1d).mono ?_; rintro e w' ⟨rfl, rfl⟩) | (go_at_call 61; refine (few_x (L.length : Int) 40 false _ h2d).mono ?_; rintro e w' ⟨rfl, rfl⟩))
        refine bodyPost_ret (v := .tuple #[.agg #[.slice none 0 0, .slice none 0 0, .slice none 0 0], .slice none 0 0, .int .i64 3]) (by simp [results, Tryz.results32, go_sem, r0, r1, r2]) rfl ?_
        exact HP.out _ (bel3 hB1 (Nat.le_refl _) _ _ _)
    · have h1d : decide ((s.size : Int) ≤ 1500) = false := decide_eq_false (by omega)
      have hf : fitB s = false := by unfold fitB; rw [decide_eq_false h1, Bool.false_and]
      have HP : Hid (∀ w' , Below w.heap.size w w' → RunQ s w (.returned (.tuple #[.agg #[.slice none 0 0, .slice none 0 0, .slice none 0 0], .slice none 0 0, .int .i64 3])) w') := fun w' hb => by
        unfold RunQ outT deskT codeT; rw [hf]; exact ⟨_, none, 0, rfl, ⟨none, none, none, 0, 0, 0, rfl, rows_nil _ w'⟩, World.ownsRow_nil _ _ _ _, hb⟩
      have r0 := HX2.out.c0
      have r1 := HX2.out.c1
      have r2 := HX2.out.c2
      have zr := HX2.out.frozen
      clear hf HE HMW HR
      go_wp2_with (first | (go_at_call 61; refine (few_x (s.size : Int) 1500 false _ h1d).mono ?_; rintro e w' ⟨rfl, rfl⟩))
      refine bodyPost_ret (v := .tuple #[.agg #[.slice none 0 0, .slice none 0 0, .slice none 0 0], .slice none 0 0, .int .i64 3]) (by simp [results, Tryz.results32, go_sem, r0, r1, r2]) rfl ?_
      exact HP.out _ (bel3 hB1 (Nat.le_refl _) _ _ _)
set_option maxHeartbeats 2000000 in
theorem impl_RunConsole (s : ByteArray) (w : World) (hs : s.size ≤ 2000000) (hE : JEnv w) (hM : MaxW w) : Calls Tryz.prog 9 #[.string s] w (ConP s w) := by
  have HC := Lib.hid (run_c s w hs hE hM)
  unfold RunQ at HC
  have HP : Hid (∀ (w' : World) (A : Option Addr) (c : Nat), w'.ownsRow w.heap.size 9 1 (.slice A (outT s).length c) (outT s).length ((outT s).map Value.string) → Below w.heap.size w w' → ConP s w (.returned (.tuple #[.slice A (outT s).length c, .int .i64 (codeT s)])) w') := fun w' A c ho hb => rowPost2_mk ho hb
  generalize outT s = X at *
  generalize codeT s = q at *
  generalize deskT s = d at *
  clear hE hM
  go_enter Tryz.func9, Tryz.ntmps9
  go_wp2_with fail
  refine HC.out.mono ?_
  rintro e w1 ⟨v, A, c, rfl, ⟨A1, A2, A3, c1, c2, c3, rfl, hr⟩, ho, hb1⟩
  have HO := Lib.hid ho
  have hz := hb1.size
  clear ho hr
  go_wp2
  go_ret2
  exact HP.out _ A c (HO.out.alloc _) (hb1.alloc hz _)
/-- What DeskAfter of the program hands back. -/
def AftI (s : ByteArray) (w : World) (e : Ending) (w' : World) : Prop := ∃ v, e = .returned (.tuple #[v, .int .i64 (codeT s)]) ∧ DeskB w.heap.size v (deskT s) w' ∧ Below w.heap.size w w'
set_option maxHeartbeats 2000000 in
theorem impl_DeskAfter (s : ByteArray) (w : World) (hs : s.size ≤ 2000000) (hE : JEnv w) (hM : MaxW w) : Calls Tryz.prog 16 #[.string s] w (AftI s w) := by
  have HC := Lib.hid (fun (W : World) (hb : Below w.heap.size w W) => run_c s W hs (hE.below hb) (hM.elim fun m hm => ⟨m, (hb.cell (block_lt_of_cell hm)).trans hm⟩))
  unfold RunQ at HC
  have HP : Hid (∀ (w' : World) v, DeskB w.heap.size v (deskT s) w' → Below w.heap.size w w' → AftI s w (.returned (.tuple #[v, .int .i64 (codeT s)])) w') := fun w' v hv hb => ⟨v, rfl, hv, hb⟩
  generalize outT s = X at *
  generalize codeT s = q at *
  generalize deskT s = d at *
  clear hE hM
  go_enter Tryz.func16, Tryz.ntmps16
  go_wp2_with fail
  generalize hW0 : w.alloc (.cells #[.slice none 0 0, .slice none 0 0, .slice none 0 0] 34) = W0
  have hbW0 : Below w.heap.size w W0 := by subst hW0; exact (Below.refl _ _).alloc (Nat.le_refl _) _
  have HX2 := Lib.hid (show BD W0 w.heap.size (.slice none 0 0) (.slice none 0 0) (.slice none 0 0) by subst hW0; exact BD.new _ _ _ _)
  clear hW0
  refine (HC.out W0 hbW0).mono ?_
  rintro e w1 ⟨v, A, c, rfl, ⟨A1, A2, A3, c1, c2, c3, rfl, hr⟩, -, hb1⟩
  replace HX2 := Lib.hid (HX2.out.below hb1)
  have hB1 := bt hbW0 hb1
  have hle := hbW0.size
  go_upto_region 2 with fail
  have HX4 := Lib.hid (BD.new w1 (.slice A1 d.H.length c1) (.slice A2 d.K.length c2) (.slice A3 d.M.length c3))
  have hb4 : Below w1.heap.size w1 (w1.alloc (.cells #[.slice A1 d.H.length c1, .slice A2 d.K.length c2, .slice A3 d.M.length c3] 34)) := (Below.refl _ _).alloc (Nat.le_refl _) _
  replace HX2 := Lib.hid (HX2.out.below hb4)
  have HR := Lib.hid (hr.below hb4)
  have hB4 := bt hB1 hb4
  clear hr hb4
  generalize w1.alloc (.cells #[.slice A1 d.H.length c1, .slice A2 d.K.length c2, .slice A3 d.M.length c3] 34) = W4 at *
  have e0 := HX4.out.c0
  have e1 := HX4.out.c1
  have e2 := HX4.out.c2
  have r0 := HX2.out.c0
  have r1 := HX2.out.c1
  have r2 := HX2.out.c2
  have zr := HX2.out.frozen
  go_wp2
  refine bodyPost_ret (v := .tuple #[.agg #[.slice A1 d.H.length c1, .slice A2 d.K.length c2, .slice A3 d.M.length c3], .int .i64 q]) (by simp [results, Tryz.results16, go_sem, r0, r1, r2]) rfl ?_
  exact HP.out _ _ ⟨A1, A2, A3, c1, c2, c3, rfl, (HR.out.mono hle).put HX2.out _ _ _⟩ (bel3 hB4 (Nat.le_refl _) _ _ _)
end Go.Proofs.YtiamignopfhkfaaGreatDoor
