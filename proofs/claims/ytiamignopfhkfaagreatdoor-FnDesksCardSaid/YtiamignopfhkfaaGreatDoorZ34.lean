/- Contracts: l34All, RunConsole, DeskAfter of the reference. Contracts: RunConsole, DeskAfter of the reference. -/
import Derived.Test.YtiamignopfhkfaaGreatDoorZ33
import Derived.Deep.DrawnRows
section
namespace Go.Proofs.YtiamignopfhkfaaGreatDoor
open Go.RowKit
set_option linter.unusedVariables false
/-- What l34All hands back. -/
def AllPost (L : List ByteArray) (w : World) (e : Ending) (w' : World) : Prop :=
  ∃ v A c, e = .returned (.tuple #[v, .slice A (runL d0 L).2.length c]) ∧ DeskV v (runL d0 L).1 w' ∧ w'.ownsRow w.heap.size 9 1 (.slice A (runL d0 L).2.length c) (runL d0 L).2.length ((runL d0 L).2.map Value.string) ∧ Below w.heap.size w w'
/-- The memory of the loop. -/
def AW (w : World) (b : Nat) (L : List ByteArray) (A : Option Addr) (c k : Nat) (W : World) : Prop :=
  ∃ A1 A2 A3 c1 c2 c3, (BD W b (.slice A1 (runL d0 (L.take k)).1.H.length c1) (.slice A2 (runL d0 (L.take k)).1.K.length c2) (.slice A3 (runL d0 (L.take k)).1.M.length c3)) ∧ BD W w.heap.size (.slice none 0 0) (.slice none 0 0) (.slice none 0 0) ∧ RowsW 0 (runL d0 (L.take k)).1 A1 A2 A3 c1 c2 c3 W ∧
    W.ownsRow w.heap.size 9 1 (.slice A k c) k ((runL d0 (L.take k)).2.map Value.string) ∧ Below w.heap.size w W ∧ w.heap.size < b
theorem run_len_take (L : List ByteArray) {k : Nat} (hk : k ≤ L.length) : (runL d0 (L.take k)).2.length = k := by rw [runL_len, List.length_take, Nat.min_eq_left hk]
theorem own_snocT {W : World} {B c k : Nat} {A : Option Addr} {X : List ByteArray} {y : ByteArray} (h : W.ownsRow B 9 1 (.slice A (k + 1) c) (k + 1) (X.map Value.string ++ [.string y])) : W.ownsRow B 9 1 (.slice A (k + 1) c) (k + 1) ((X ++ [y]).map Value.string) := by
  rw [List.map_append]; exact h
theorem own_put {W : World} {b base size n : Nat} {e : TypeId} {v v0 v1 v2 : Value} {xs : List Value} (h : W.ownsRow base e size v n xs) (hB : BD W b v0 v1 v2) (hne : e ≠ 34) (x y z : Value) : (((W.setCell ⟨b, 0, none⟩ x).setCell ⟨b, 1, none⟩ y).setCell ⟨b, 2, none⟩ z).ownsRow base e size v n xs :=
  own_set (own_set (own_set h (own_not_box h hB hne) _ _) (own_not_box h hB hne) _ _) (own_not_box h hB hne) _ _
theorem lines_szR (s : ByteArray) (hs : s.size ≤ 2000000) : ∀ x ∈ linesR s, x.size ≤ 2000000 := by
  intro x hx
  have h : x ∈ linesB s := by
    unfold linesR at hx
    split at hx
    · exact List.dropLast_subset _ hx
    · exact hx
  have := lines_sz s x h
  omega
set_option maxRecDepth 100000 in
set_option maxHeartbeats 8000000 in
theorem l34All_c (A0 : Option Addr) (c0 : Nat) (L : List ByteArray) (w : World) (hr : Rd w w.heap.size A0 L.length (L.map Value.string)) (hl : L.length ≤ 2000001) (hcap : L.length ≤ c0) (hs : ∀ x ∈ L, x.size ≤ 2000000) : Calls Tryz.prog 34 #[.slice A0 L.length c0] w (AllPost L w) := by
  obtain ⟨i0, hi, hz0, hz1, hz2⟩ := info_parts str_info
  have HGD := Lib.hid (fun k => (runL_good (L.take k) d0 d0_good).1)
  have HST := Lib.hid (fun k (hk : k < L.length) => runL_step hk d0)
  have HLN := Lib.hid (fun k (hk : k ≤ L.length) => run_len_take L hk)
  go_enter Tryz.func34, Tryz.ntmps34
  go_wp2_with fail
  generalize hW0 : w.alloc (.cells #[.slice none 0 0, .slice none 0 0, .slice none 0 0] 34) = W0
  have hbW0 : Below w.heap.size w W0 := by subst hW0; exact (Below.refl _ _).alloc (Nat.le_refl _) _
  have HX2 := Lib.hid (show BD W0 w.heap.size (.slice none 0 0) (.slice none 0 0) (.slice none 0 0) by subst hW0; exact BD.new _ _ _ _)
  clear hW0
  refine (l34First_c W0).mono ?_
  rintro e w1 ⟨v, rfl, ⟨A1, A2, A3, c1, c2, c3, rfl, hr1⟩, hb1⟩
  have hB1 := bt hbW0 hb1
  have hzw := (HX2.out.below hb1).lt
  go_wp2_with fail
  have h2 := World.ownsRow_lit (base := w.heap.size) (e := 9) (size := 1) (w1.alloc (.cells #[.slice A1 d0.H.length c1, .slice A2 d0.K.length c2, .slice A3 d0.M.length c3] 34)) #[] 0 (by simp; omega) (by unfold maxLen; omega) rfl
  have hbx : Below w1.heap.size w1 ((w1.alloc (.cells #[.slice A1 d0.H.length c1, .slice A2 d0.K.length c2, .slice A3 d0.M.length c3] 34)).alloc (.cells #[] 9)) := ((Below.refl _ _).alloc (Nat.le_refl _) _).alloc (by simp) _
  have HM : Hid (AW w w1.heap.size L (some ⟨w1.heap.size + 1, 0, none⟩) 0 0 ((w1.alloc (.cells #[.slice A1 d0.H.length c1, .slice A2 d0.K.length c2, .slice A3 d0.M.length c3] 34)).alloc (.cells #[] 9))) :=
    ⟨A1, A2, A3, c1, c2, c3, (BD.new w1 _ _ _).below ((Below.refl _ _).alloc (Nat.le_refl _) _), (HX2.out.below hb1).below hbx, hr1.below hbx, (by have e : (w1.alloc (.cells #[.slice A1 d0.H.length c1, .slice A2 d0.K.length c2, .slice A3 d0.M.length c3] 34)).heap.size = w1.heap.size + 1 := (by simp); rw [e] at h2; exact h2), bt hB1 hbx, hzw⟩
  clear h2 hr1 hb1 HX2
  go_loopw [5, 6] (fun ov iv wr => ∃ (k : Nat) (A : Option Addr) (c : Nat), ov = .slice A k c ∧ iv = .int .i64 k ∧ k ≤ L.length ∧ Hid (AW w w1.heap.size L A c k wr)) (fun _ iv _ => L.length - (intOf iv).toNat)
  case atStart => exact ⟨0, _, _, rfl, rfl, by omega, HM⟩
  case round =>
    obtain ⟨k, A, c, rfl, rfl, hk, HA⟩ := hrel
    clear HM hbx
    obtain ⟨A1, A2, A3, c1, c2, c3, hb4, hb2, hrows, hown, hB, hbw⟩ := HA.out
    clear HA
    have hzr := hb4.lt
    by_cases hlt : k < L.length
    · have hki : (k : Int) < (L.length : Int) := by omega
      have hk0 : (0 : Int) ≤ (k : Int) := by omega
      obtain ⟨bL, oL, rfl, hbL, hcL⟩ := Rd.strs hr hlt
      have cL : wr.cell? ⟨bL, oL + k, none⟩ = some (.string L[k]) := (hB.cell (p := ⟨bL, oL + k, none⟩) hbL).trans (hcL k hlt)
      have hzL := hB.size
      have hxs := hs _ (List.getElem_mem hlt)
      have HSTk := Lib.hid (HST.out k hlt)
      have HLk := HLN.out k (by omega)
      have HRUN := Lib.hid (fun (W : World) (hb : Below wr.heap.size wr W) => l34Run_c A1 A2 A3 c1 c2 c3 (runL d0 (L.take k)).1 L[k] W (HGD.out k) (hrows.below hb) hxs)
      unfold RunPost at HRUN
      generalize runL d0 (L.take k) = R at *
      generalize L[k] = x at *
      obtain ⟨d, X⟩ := R
      simp only at HRUN HSTk HLk hb4 hrows hown
      generalize lineD d x = R2 at *
      obtain ⟨d2, t2⟩ := R2
      simp only at HRUN HSTk
      have HO := Lib.hid hown
      have HX4 := Lib.hid hb4
      have HX2 := Lib.hid hb2
      have e0 := hb4.c0
      have e1 := hb4.c1
      have e2 := hb4.c2
      clear hown hb4 hb2 hrows hcL hxs
      go_wp2_with fail
      have HKd : Hid (∀ W1 : World, Below wr.heap.size wr W1 → ((W1.cell? ⟨w1.heap.size, 0, none⟩ = some (.slice A1 d.H.length c1)) ∧ (W1.cell? ⟨w1.heap.size, 1, none⟩ = some (.slice A2 d.K.length c2)) ∧ (W1.cell? ⟨w1.heap.size, 2, none⟩ = some (.slice A3 d.M.length c3)) ∧ (W1.cell? ⟨bL, oL + k, none⟩ = some (.string x)) ∧ Below wr.heap.size wr W1)) := fun W1 h => ⟨(HX4.out.below h).c0, (HX4.out.below h).c1, (HX4.out.below h).c2, (h.cell (p := ⟨bL, oL + k, none⟩) (by simp only; omega)).trans cL, h⟩
      go_region_held3 (fun W1 => (W1.cell? ⟨w1.heap.size, 0, none⟩ = some (.slice A1 d.H.length c1)) ∧ (W1.cell? ⟨w1.heap.size, 1, none⟩ = some (.slice A2 d.K.length c2)) ∧ (W1.cell? ⟨w1.heap.size, 2, none⟩ = some (.slice A3 d.M.length c3)) ∧ (W1.cell? ⟨bL, oL + k, none⟩ = some (.string x)) ∧ Below wr.heap.size wr W1) (first | exact HKd.out _ ((Below.refl _ _).drew) | exact HKd.out _ (((Below.refl _ _).alloc (Nat.le_refl _) _).drew) | exact HKd.out _ (bt (by assumption) hb5) | exact HKd.out _ ((bt (by assumption) hb5).alloc hz5 _) | exact HKd.out _ ((((bt (by assumption) hb5).setCell (p := ⟨wr.heap.size, 0, none⟩) (Nat.le_refl _) _).setCell (p := ⟨wr.heap.size, 1, none⟩) (Nat.le_refl _) _).setCell (p := ⟨wr.heap.size, 2, none⟩) (Nat.le_refl _) _))
        ((first
          | (go_at_call 64; go_split_ands; refine (HRUN.out _ (by assumption)).mono ?_; rintro e w5 ⟨v, rfl, ⟨A4, A5, A6, c4, c5, c6, rfl, hr5⟩, hb5⟩; have hz5 : wr.heap.size ≤ w5.heap.size := (by have h := hb5.size; simp at h; omega); (try (have b7 : BD w5 wr.heap.size (.slice none 0 0) (.slice none 0 0) (.slice none 0 0) := ((BD.new wr _ _ _).drew).below hb5; have f0 := b7.c0; have f1 := b7.c1; have f2 := b7.c2; have zf := b7.frozen)))))
      all_goals
        have hW : Below wr.heap.size wr w5 := bt (by assumption) hb5
        clear e0 e1 e2 cL
        first
          | (have HX7 := Lib.hid (b7.put (.slice A4 d2.H.length c4) (.slice A5 d2.K.length c5) (.slice A6 d2.M.length c6))
             have HR6 := Lib.hid (hr5.put b7 (.slice A4 d2.H.length c4) (.slice A5 d2.K.length c5) (.slice A6 d2.M.length c6))
             have hBr : Below wr.heap.size wr (((w5.setCell ⟨wr.heap.size, 0, none⟩ (.slice A4 d2.H.length c4)).setCell ⟨wr.heap.size, 1, none⟩ (.slice A5 d2.K.length c5)).setCell ⟨wr.heap.size, 2, none⟩ (.slice A6 d2.M.length c6)) := ((hW.setCell (p := ⟨wr.heap.size, 0, none⟩) (Nat.le_refl _) _).setCell (p := ⟨wr.heap.size, 1, none⟩) (Nat.le_refl _) _).setCell (p := ⟨wr.heap.size, 2, none⟩) (Nat.le_refl _) _
             clear b7 f0 f1 f2 zf
             generalize (((w5.setCell ⟨wr.heap.size, 0, none⟩ (.slice A4 d2.H.length c4)).setCell ⟨wr.heap.size, 1, none⟩ (.slice A5 d2.K.length c5)).setCell ⟨wr.heap.size, 2, none⟩ (.slice A6 d2.M.length c6)) = W6 at *)
          | (have HX7 := Lib.hid (BD.new w5 (.slice A4 d2.H.length c4) (.slice A5 d2.K.length c5) (.slice A6 d2.M.length c6))
             have hb6 : Below w5.heap.size w5 (w5.alloc (.cells #[.slice A4 d2.H.length c4, .slice A5 d2.K.length c5, .slice A6 d2.M.length c6] 34)) := (Below.refl _ _).alloc (Nat.le_refl _) _
             have HR6 := Lib.hid (hr5.below hb6)
             have hBr := bt hW hb6
             clear hb6
             generalize w5.alloc (.cells #[.slice A4 d2.H.length c4, .slice A5 d2.K.length c5, .slice A6 d2.M.length c6] 34) = W6 at *)
        replace HX4 := Lib.hid (HX4.out.below hBr)
        replace HX2 := Lib.hid (HX2.out.below hBr)
        replace HO := Lib.hid (own_below HO.out hBr)
        have hB6 := bt hB hBr
        clear hr5
        have g0 := HX7.out.c0
        have g1 := HX7.out.c1
        have g2 := HX7.out.c2
        have f0 := HX4.out.c0
        have f1 := HX4.out.c1
        have f2 := HX4.out.c2
        have zf := HX4.out.frozen
        go_upto_region 8 with fail
        have HX4n := Lib.hid (HX4.out.put (.slice A4 d2.H.length c4) (.slice A5 d2.K.length c5) (.slice A6 d2.M.length c6))
        have HX2n := Lib.hid (HX2.out.other3 (c := w1.heap.size) (x := .slice A4 d2.H.length c4) (y := .slice A5 d2.K.length c5) (z := .slice A6 d2.M.length c6) (by omega))
        have HR7 := Lib.hid (HR6.out.put HX4.out (.slice A4 d2.H.length c4) (.slice A5 d2.K.length c5) (.slice A6 d2.M.length c6))
        have HO7 := Lib.hid (own_put HO.out HX4.out (by decide) (.slice A4 d2.H.length c4) (.slice A5 d2.K.length c5) (.slice A6 d2.M.length c6))
        have hB7 := bel3 hB6 (b := w1.heap.size) (by omega) (.slice A4 d2.H.length c4) (.slice A5 d2.K.length c5) (.slice A6 d2.M.length c6)
        generalize (((W6.setCell ⟨w1.heap.size, 0, none⟩ (.slice A4 d2.H.length c4)).setCell ⟨w1.heap.size, 1, none⟩ (.slice A5 d2.K.length c5)).setCell ⟨w1.heap.size, 2, none⟩ (.slice A6 d2.M.length c6)) = W7 at *
        clear g0 g1 g2 f0 f1 f2 zf HX7 HX4 HX2 HR6 HO hBr hW
        have hz7 := hB7.size
        go_wp2_with (first | (at_builtin; refine wpList_push W7 rfl _ _ 25 rfl w.heap.size 9 i0 _ 1 16 Tryz.underlying25 hi hz0 hz1 hz2 rfl (by decide) (.slice A k c) (k) (X.map Value.string) (by rfl) HO7.out [.string t2] 9 (by rfl) rfl (by simp [Value.oneCell']) (by unfold maxLen; omega) (by omega) (by omega) ?_; intro A8 c8 w8 ho8 hg8; have HX4m := Lib.hid (HX4n.out.farOwn HO7.out hg8 (by decide)); have HX2m := Lib.hid (HX2n.out.farOwn HO7.out hg8 (by decide)); have HR8 := Lib.hid (HR7.out.far HO7.out hg8 (by decide) (by decide) (by decide)); have HO8 := Lib.hid (own_snocT ho8); have hB8 := below_grown hB7 hg8 (Nat.le_refl _) (fun k hk => HO7.out.lt k hk |>.1); clear ho8 hg8))
        go_roundw
        case rel => exact ⟨k + 1, A8, c8, rfl, by go_num, by omega, A4, A5, A6, c4, c5, c6, by rw [HSTk.out]; exact HX4m.out, HX2m.out, by rw [HSTk.out]; exact HR8.out, by rw [HSTk.out]; exact HO8.out, hB8, hbw⟩
        case measure => first | (simp [intOf]; done) | (simp [intOf]; omega)
    · obtain rfl : k = L.length := by omega
      have hki : ¬ (L.length : Int) < (L.length : Int) := by omega
      rw [List.take_length] at hb4 hrows hown
      have HLk := HLN.out L.length (Nat.le_refl _)
      rw [List.take_length] at HLk
      have HF : Hid (∀ W' v, DeskV v (runL d0 L).1 W' → W'.ownsRow w.heap.size 9 1 (.slice A L.length c) L.length ((runL d0 L).2.map Value.string) → Below w.heap.size w W' → AllPost L w (.returned (.tuple #[v, .slice A L.length c])) W') := fun W' v h1 h2 h3 => ⟨v, A, c, by rw [HLk], h1, by rw [HLk]; exact h2, h3⟩
      have HRW := Lib.hid hrows
      have HO := Lib.hid hown
      generalize (runL d0 L).1 = d at *
      generalize (runL d0 L).2 = X at *
      have HX2 := Lib.hid hb2
      have e0 := hb4.c0
      have e1 := hb4.c1
      have e2 := hb4.c2
      have r0 := hb2.c0
      have r1 := hb2.c1
      have r2 := hb2.c2
      have zr := hb2.frozen
      clear hrows hown hb4 hb2 HLk
      go_wp2
      refine bodyPost_ret (v := .tuple #[.agg #[.slice A1 d.H.length c1, .slice A2 d.K.length c2, .slice A3 d.M.length c3], .slice A L.length c]) (by simp [results, Tryz.results34, go_sem, r0, r1, r2]) rfl ?_
      exact HF.out _ _ ⟨A1, A2, A3, c1, c2, c3, rfl, HRW.out.put HX2.out _ _ _⟩ (own_put HO.out HX2.out (by decide) _ _ _) (bel3 hB (Nat.le_refl _) _ _ _)
end Go.Proofs.YtiamignopfhkfaaGreatDoor
end
section
namespace Go.Proofs.YtiamignopfhkfaaGreatDoor
open Go.RowKit
set_option linter.unusedVariables false
/-- What RunConsole hands back: the lines of output, or that the text is too long. -/
def ConP (s : ByteArray) (w : World) (e : Ending) (w' : World) : Prop := RowPost2 9 1 (outT s).length ((outT s).map Value.string) (codeT s) w e w'
set_option maxRecDepth 100000 in
set_option maxHeartbeats 4000000 in
theorem spec_RunConsole (s : ByteArray) (w : World) (hs : s.size ≤ 2000000) : Calls Tryz.prog 10 #[.string s] w (ConP s w) := by
  have HF := Lib.hid (l34Fits_c s w hs)
  have HL := Lib.hid (fun W => l34Lines_c s W hs)
  unfold LinQ at HL
  have HSZ := Lib.hid (lines_szR s hs)
  have HA := Lib.hid (fun (W : World) A c hr hl hc => l34All_c A c (linesR s) W hr hl hc HSZ.out)
  unfold AllPost at HA
  cases hf : fitB s
  · have HP : Hid (∀ w', Below w.heap.size w w' → ConP s w (.returned (.tuple #[.slice none 0 0, .int .i64 3])) w') := fun w' hb => by
      unfold ConP outT codeT; rw [hf]; exact rowPost2_nil hb
    rw [hf] at HF
    clear hf
    go_enter Tryz.func10, Tryz.ntmps10
    go_wp2_with fail
    refine HF.out.mono ?_
    rintro e w1 ⟨rfl, hb1⟩
    go_wp2
    go_ret2
    exact HP.out w1 hb1
  · have HP : Hid (∀ W w' A c, Below w.heap.size w W → Below W.heap.size W w' → w'.ownsRow W.heap.size 9 1 (.slice A (runL d0 (linesR s)).2.length c) (runL d0 (linesR s)).2.length ((runL d0 (linesR s)).2.map Value.string) → ConP s w (.returned (.tuple #[.slice A (runL d0 (linesR s)).2.length c, .int .i64 0])) w') := fun W w' A c hb hb2 ho => by
      unfold ConP outT codeT; rw [hf]; exact rowPost2_mk (own_mono ho hb.size) (bt hb hb2)
    rw [hf] at HF
    clear hf
    generalize (runL d0 (linesR s)).2 = X at *
    generalize (runL d0 (linesR s)).1 = d at *
    generalize (linesR s) = LR at *
    go_enter Tryz.func10, Tryz.ntmps10
    go_wp2_with fail
    refine HF.out.mono ?_
    rintro e w1 ⟨rfl, hb1⟩
    go_wp2_with fail
    refine (HL.out w1).mono ?_
    rintro e w2 ⟨A, c, rfl, hc, hl, hr, hb2⟩
    go_wp2_with fail
    refine (HA.out w2 _ c hr hl hc).mono ?_
    rintro e w3 ⟨v, A3, c3, rfl, ⟨A4, A5, A6, c4, c5, c6, rfl, hr3⟩, ho, hb3⟩
    have HO := Lib.hid ho
    clear ho hr3
    go_wp2
    go_ret2
    exact HP.out w2 _ A3 c3 (bt hb1 hb2) (hb3.alloc hb3.size _) (HO.out.alloc _)
/-- What DeskAfter of the reference hands back. -/
def AftQ (s : ByteArray) (w : World) (e : Ending) (w' : World) : Prop := ∃ v, e = .returned (.tuple #[v, .int .i64 (codeT s)]) ∧ DeskV v (deskT s) w' ∧ Below w.heap.size w w'
set_option maxRecDepth 100000 in
set_option maxHeartbeats 4000000 in
theorem spec_DeskAfter (s : ByteArray) (w : World) (hs : s.size ≤ 2000000) : Calls Tryz.prog 15 #[.string s] w (AftQ s w) := by
  have HF := Lib.hid (fun W => l34Fits_c s W hs)
  have HL := Lib.hid (fun W => l34Lines_c s W hs)
  unfold LinQ at HL
  have HSZ := Lib.hid (lines_szR s hs)
  have HA := Lib.hid (fun (W : World) A c hr hl hc => l34All_c A c (linesR s) W hr hl hc HSZ.out)
  unfold AllPost at HA
  cases hf : fitB s
  · have HP : Hid (∀ w', Below w.heap.size w w' → AftQ s w (.returned (.tuple #[.agg #[.slice none 0 0, .slice none 0 0, .slice none 0 0], .int .i64 3])) w') := fun w' hb => by
      unfold AftQ deskT codeT; rw [hf]; exact ⟨_, rfl, ⟨none, none, none, 0, 0, 0, rfl, rows_nil 0 w'⟩, hb⟩
    rw [hf] at HF
    clear hf
    go_enter Tryz.func15, Tryz.ntmps15
    go_wp2_with fail
    generalize hW0 : w.alloc (.cells #[.slice none 0 0, .slice none 0 0, .slice none 0 0] 34) = W0
    have hbW0 : Below w.heap.size w W0 := by subst hW0; exact (Below.refl _ _).alloc (Nat.le_refl _) _
    have HX2 := Lib.hid (show BD W0 w.heap.size (.slice none 0 0) (.slice none 0 0) (.slice none 0 0) by subst hW0; exact BD.new _ _ _ _)
    clear hW0
    refine (HF.out W0).mono ?_
    rintro e w1 ⟨rfl, hb1⟩
    replace HX2 := Lib.hid (HX2.out.below hb1)
    have r0 := HX2.out.c0
    have r1 := HX2.out.c1
    have r2 := HX2.out.c2
    have zr := HX2.out.frozen
    go_wp2
    refine bodyPost_ret (v := .tuple #[.agg #[.slice none 0 0, .slice none 0 0, .slice none 0 0], .int .i64 3]) (by simp [results, Tryz.results15, go_sem, r0, r1, r2]) rfl ?_
    exact HP.out _ (bel3 (bt hbW0 hb1) (Nat.le_refl _) _ _ _)
  · have HP : Hid (∀ w' v, Below w.heap.size w w' → DeskV v (runL d0 (linesR s)).1 w' → AftQ s w (.returned (.tuple #[v, .int .i64 0])) w') := fun w' v hb hv => by
      unfold AftQ deskT codeT; rw [hf]; exact ⟨_, rfl, hv, hb⟩
    rw [hf] at HF
    clear hf
    generalize (runL d0 (linesR s)).2 = X at *
    generalize (runL d0 (linesR s)).1 = d at *
    generalize (linesR s) = LR at *
    go_enter Tryz.func15, Tryz.ntmps15
    go_wp2_with fail
    generalize hW0 : w.alloc (.cells #[.slice none 0 0, .slice none 0 0, .slice none 0 0] 34) = W0
    have hbW0 : Below w.heap.size w W0 := by subst hW0; exact (Below.refl _ _).alloc (Nat.le_refl _) _
    have HX2 := Lib.hid (show BD W0 w.heap.size (.slice none 0 0) (.slice none 0 0) (.slice none 0 0) by subst hW0; exact BD.new _ _ _ _)
    clear hW0
    refine (HF.out W0).mono ?_
    rintro e w1 ⟨rfl, hb1⟩
    go_wp2_with fail
    refine (HL.out w1).mono ?_
    rintro e w2 ⟨A, c, rfl, hc, hl, hr, hb2⟩
    go_wp2_with fail
    refine (HA.out w2 _ c hr hl hc).mono ?_
    rintro e w3 ⟨v, A9, c9, rfl, ⟨A1, A2, A3, c1, c2, c3, rfl, hr3⟩, -, hb3⟩
    have hB3 := bt hbW0 (bt hb1 (bt hb2 hb3))
    replace HX2 := Lib.hid (HX2.out.below (bt hb1 (bt hb2 hb3)))
    go_upto_region 4 with fail
    have HX4 := Lib.hid (BD.new w3 (.slice A1 d.H.length c1) (.slice A2 d.K.length c2) (.slice A3 d.M.length c3))
    have hb4 : Below w3.heap.size w3 (w3.alloc (.cells #[.slice A1 d.H.length c1, .slice A2 d.K.length c2, .slice A3 d.M.length c3] 34)) := (Below.refl _ _).alloc (Nat.le_refl _) _
    replace HX2 := Lib.hid (HX2.out.below hb4)
    have HR := Lib.hid (hr3.below hb4)
    have hB4 := bt hB3 hb4
    clear hr3 hb4
    generalize w3.alloc (.cells #[.slice A1 d.H.length c1, .slice A2 d.K.length c2, .slice A3 d.M.length c3] 34) = W4 at *
    have e0 := HX4.out.c0
    have e1 := HX4.out.c1
    have e2 := HX4.out.c2
    have r0 := HX2.out.c0
    have r1 := HX2.out.c1
    have r2 := HX2.out.c2
    have zr := HX2.out.frozen
    go_wp2
    refine bodyPost_ret (v := .tuple #[.agg #[.slice A1 d.H.length c1, .slice A2 d.K.length c2, .slice A3 d.M.length c3], .int .i64 0]) (by simp [results, Tryz.results15, go_sem, r0, r1, r2]) rfl ?_
    exact HP.out _ _ (bel3 hB4 (Nat.le_refl _) _ _ _) ⟨A1, A2, A3, c1, c2, c3, rfl, HR.out.put HX2.out _ _ _⟩
end Go.Proofs.YtiamignopfhkfaaGreatDoor
end
