/- Contract: places of a row of parts with sections. -/
import Derived.Test.YtilanpmjemlopaaTpl8
import Derived.Test.YtilanpmjemlopaaRow
namespace Go.Proofs.Ytilanpmjemlopaa
open Go.RowKit
set_option linter.unusedVariables false
/-- The names of the places of a part; those of a section if its name is accepted. -/
def plP (acc : ByteArray → Bool) (p : PtD) : List ByteArray := if p.sec = true then (if acc p.pl.name = true then nmsD p.inner else []) else nmP p.pl
def plsT (acc : ByteArray → Bool) (L : List PtD) : List ByteArray := L.flatMap (plP acc)
def plM (acc : ByteArray → Bool) (p : PtM) : List ByteArray := plP acc p.d
def plsM (acc : ByteArray → Bool) (M : List PtM) : List ByteArray := M.flatMap (plM acc)
theorem plsM_eq (acc : ByteArray → Bool) (M : List PtM) : plsM acc M = plsT acc (M.map PtM.d) := by
  unfold plsM plsT; rw [List.flatMap_map]; rfl
theorem plM_pt {acc : ByteArray → Bool} {p : PtM} (h : p.sec = false) : plM acc p = nmP p.pl := by
  unfold plM plP PtM.d; simp only [h]; rfl
theorem plM_yes {acc : ByteArray → Bool} {p : PtM} (h : p.sec = true) (ha : acc p.pl.name = true) : plM acc p = nmsD p.inner := by
  unfold plM plP PtM.d; simp only [h, ha]; rfl
theorem plM_no {acc : ByteArray → Bool} {p : PtM} (h : p.sec = true) (ha : acc p.pl.name = false) : plM acc p = [] := by
  unfold plM plP PtM.d; simp only [h, ha]; rfl
theorem plP_len (acc : ByteArray → Bool) (p : PtD) : (plP acc p).length ≤ 1 + p.inner.length := by
  have h1 := nmsD_len p.inner
  have h2 : (nmP p.pl).length ≤ 1 := by unfold nmP; split <;> simp
  unfold plP
  split
  · split
    · omega
    · simp
  · omega
theorem plsT_len (acc : ByteArray → Bool) : ∀ L : List PtD, (plsT acc L).length ≤ wtT L
  | [] => Nat.le_refl _
  | p :: L => by
    have h1 := plsT_len acc L
    have h2 := plP_len acc p
    unfold plsT at h1 ⊢
    rw [List.flatMap_cons, List.length_append, wtT]; omega
theorem wt_take : ∀ (L : List PtD) (k : Nat), wtT (L.take k) ≤ wtT L
  | [], k => by simp
  | p :: L, 0 => by simp [wtT]
  | p :: L, k + 1 => by have := wt_take L k; rw [List.take_succ_cons, wtT, wtT]; omega
theorem plsM_take (acc : ByteArray → Bool) {M : List PtM} (k : Nat) : (plsM acc (M.take k)).length ≤ wtT (M.map PtM.d) := by
  rw [plsM_eq, List.map_take]
  exact Nat.le_trans (plsT_len _ _) (wt_take _ _)
theorem wt_step {M : List PtM} {k : Nat} (hk : k < M.length) : wtT ((M.map PtM.d).take k) + 1 + M[k].inner.length ≤ wtT (M.map PtM.d) := by
  have h := wt_take (M.map PtM.d) (k + 1)
  rw [List.take_succ_eq_append_getElem (by simpa using hk), wtT_app] at h
  simp only [List.getElem_map, wtT, PtM.d] at h
  omega
theorem inner_le {M : List PtM} {k : Nat} (hk : k < M.length) : M[k].inner.length ≤ wtT (M.map PtM.d) := by have := wt_step hk; omega
theorem plsM_take2 (acc : ByteArray → Bool) {M : List PtM} {k : Nat} (hk : k < M.length) (hs : M[k].sec = true) : (plsM acc (M.take k)).length + (nmsD M[k].inner).length ≤ wtT (M.map PtM.d) := by
  have h1 := wt_step hk
  have h2 := nmsD_len M[k].inner
  have h3 := plsT_len acc ((M.take k).map PtM.d)
  rw [plsM_eq]
  rw [List.map_take] at h3 ⊢
  omega
theorem own_names2 {W : World} {b c : Nat} {A : Option Addr} {X Y Z : List ByteArray} (h : Y = X ++ Z) (ho : W.ownsRow b 9 1 (.slice A (X.length + Z.length) c) (X.length + Z.length) (X.map Value.string ++ Z.map Value.string)) : W.ownsRow b 9 1 (.slice A Y.length c) Y.length (Y.map Value.string) := by
  subst h
  rw [List.length_append, List.map_append]; exact ho
set_option maxRecDepth 100000 in
set_option maxHeartbeats 4000000 in
theorem places1_c (A : Option Addr) (c : Nat) (M : List PtM) (b : Nat) (vA : Option Addr) (vc : Nat) (V : List ValueD) (w : World) (h0 : w.cell? ⟨b, 0, none⟩ = some (.slice vA V.length vc)) (hb : b < w.heap.size) (hv : Rd w w.heap.size vA (V.length * 2) (V.flatMap valueC)) (hvl : V.length ≤ 140737488355328) (hvc : V.length ≤ vc) (hr : Rd w w.heap.size A (M.length * 4) (M.flatMap PtM.cells)) (hin : ∀ p ∈ M, Rd w w.heap.size p.A (p.inner.length * 4) (p.inner.flatMap plC)) (hl : wtT (M.map PtM.d) ≤ 4000000) :
    Calls Try.prog 40 #[.slice A M.length c, .func (.func 58) #[] #[.pointer (some ⟨b, 0, none⟩)]] w fun e w' => ∃ (A' : Option Addr) (c' : Nat), e = .returned (.slice A' (plsT (accV V) (M.map PtM.d)).length c') ∧ w'.ownsRow w.heap.size 9 1 (.slice A' (plsT (accV V) (M.map PtM.d)).length c') (plsT (accV V) (M.map PtM.d)).length ((plsT (accV V) (M.map PtM.d)).map Value.string) ∧ Below w.heap.size w w' := by
  obtain ⟨i0, hi, hz0, hz1, hz2⟩ := info_parts str_info
  have HR := Lib.hid hr
  have HIN := Lib.hid hin
  have hml := wt_len (M.map PtM.d)
  rw [List.length_map] at hml
  clear hr hin
  have HV := Lib.hid hv
  have H0 := Lib.hid h0
  clear hv h0
  go_enter Try.func40, Try.ntmps40
  go_wp2_with fail
  have ho := World.ownsRow_lit (base := w.heap.size) (e := 9) (size := 1) w #[] 0 (Nat.le_refl _) (by unfold maxLen; omega) rfl
  have HO0 := Lib.hid ho
  have HB0 := Lib.hid ((Below.refl w.heap.size w).alloc (Nat.le_refl _) (.cells #[] 9))
  clear ho
  go_wp2
  go_loopw [5, 11] (fun ov i wr => ∃ (k : Nat) (A1 : Option Addr) (c1 : Nat), k ≤ M.length ∧ i = .int .i64 k ∧ ov = .slice A1 (plsM (accV V) (M.take k)).length c1 ∧ Hid (wr.ownsRow w.heap.size 9 1 (.slice A1 (plsM (accV V) (M.take k)).length c1) (plsM (accV V) (M.take k)).length ((plsM (accV V) (M.take k)).map Value.string)) ∧ Hid (Below w.heap.size w wr)) (fun _ i _ => M.length - (intOf i).toNat)
  case atStart => exact ⟨0, _, _, by omega, rfl, rfl, HO0, HB0⟩
  case round =>
    obtain ⟨k, A1, c1, hk, rfl, rfl, HO, HB⟩ := hrel
    clear HO0 HB0
    have hzr := HB.out.size
    have hnl := plsM_take (accV V) (M := M) k
    by_cases hlt : k < M.length
    · obtain ⟨bf, offf, rfl, hbf, hcf⟩ := Rd.elem PtM.cells 4 (fun _ => rfl) (rdW HB.out HR.out) (by omega) hlt
      have f0 : wr.cell? ⟨bf, offf + k * 4, none⟩ = some (.string M[k].pl.text) := hcf k hlt 0 _ rfl
      have f1 : wr.cell? ⟨bf, offf + k * 4 + 1, none⟩ = some (.string M[k].pl.name) := hcf k hlt 1 _ rfl
      have f2 : wr.cell? ⟨bf, offf + k * 4 + 2, none⟩ = some (.bool M[k].sec) := hcf k hlt 2 _ rfl
      have f3 : wr.cell? ⟨bf, offf + k * 4 + 3, none⟩ = some (.slice M[k].A M[k].inner.length M[k].c) := hcf k hlt 3 _ rfl
      clear hcf
      have hki : (k : Int) < (M.length : Int) := by omega
      have hk0 : (0 : Int) ≤ (k : Int) := by omega
      have HSTEP := Lib.hid (show plsM (accV V) (M.take (k + 1)) = plsM (accV V) (M.take k) ++ plM (accV V) M[k] from flat_step _ hlt)
      cases hsec : M[k].sec with
      | false =>
        rw [hsec] at f2
        by_cases hn : M[k].pl.name.size = 0
        · have HS := Lib.hid (HSTEP.out.trans (by rw [plM_pt hsec, nmP_0 hn]))
          have hne : M[k].pl.name = ⟨#[]⟩ := ba_ext (List.length_eq_zero_iff.1 (by rw [len_data]; exact hn))
          rw [hne] at f1
          clear hn hne HSTEP
          have hbW1 := (Below.refl wr.heap.size wr).alloc (Nat.le_refl _) (.cells #[.string M[k].pl.text, .string ⟨#[]⟩, .bool false, .slice M[k].A M[k].inner.length M[k].c] 66)
          go_wp2
          go_roundw
          case rel => exact ⟨k + 1, A1, c1, by omega, by go_num, by rw [HS.out]; simp, by unfold Hid; rw [HS.out, List.append_nil]; exact own_below HO.out hbW1, Lib.hid (bt HB.out hbW1)⟩
          case measure => first | (simp [intOf]; done) | (simp [intOf]; omega)
        · have HS := Lib.hid (HSTEP.out.trans (by rw [plM_pt hsec, nmP_1 hn]))
          have hcb : (M[k].pl.name.toList == ([] : List UInt8)) = false := by
            rw [beq_eq_false_iff_ne, Go.ByteArray.toList_eq]
            intro e
            exact hn (by rw [← len_data, e]; rfl)
          clear hn HSTEP
          go_upto_region 5 with fail
          generalize hW1 : wr.alloc _ = W1
          have hbW1 : Below wr.heap.size wr W1 := by subst hW1; exact (Below.refl _ _).alloc (Nat.le_refl _) _
          have hsW1 : W1.heap.size = wr.heap.size + 1 := by subst hW1; simp
          have cxW1_0 : ∀ i, W1.cell? ⟨wr.heap.size, i, none⟩ = (#[.string M[k].pl.text, .string M[k].pl.name, .bool false, .slice M[k].A M[k].inner.length M[k].c] : Array Value)[i]? := by intro i; subst hW1; simp [go_sem]
          have HSW1 := Lib.hid hsW1; clear hW1 hsW1
          have HOW := Lib.hid (own_below HO.out hbW1)
          have HBW := Lib.hid (bt HB.out hbW1)
          have hzW : wr.heap.size < W1.heap.size := by have := HSW1.out; omega
          have cx0 := cxW1_0 0
          have cx1 := cxW1_0 1
          have cx2 := cxW1_0 2
          have cx3 := cxW1_0 3
          clear HSW1 cxW1_0
          go_wp2_with (first | (at_builtin; refine wpList_push W1 rfl _ _ 24 rfl w.heap.size 9 i0 _ 1 16 Try.underlying24 hi hz0 hz1 hz2 rfl (by decide) (.slice A1 (plsM (accV V) (M.take k)).length c1) ((plsM (accV V) (M.take k)).length) ((plsM (accV V) (M.take k)).map Value.string) (by rfl) HOW.out [.string M[k].pl.name] 9 (by rfl) rfl (by simp [Value.oneCell']) (by unfold maxLen; omega) (by omega) (by omega) ?_; intro A7 c7 w7 ho7 hg7; have HO7 := Lib.hid (own_names HS.out ho7); have HB7 := Lib.hid (below_grown HBW.out hg7 (Nat.le_refl _) (fun k hk => HOW.out.lt k hk |>.1)); clear ho7 hg7))
          go_roundw
          case rel => exact ⟨k + 1, A7, c7, by omega, by go_num, by rw [HS.out]; simp, HO7, HB7⟩
          case measure => first | (simp [intOf]; done) | (simp [intOf]; omega)
      | true =>
        rw [hsec] at f2
        have hkin := HIN.out M[k] (List.getElem_mem hlt)
        have hkil := inner_le hlt
        have hknl := nmsD_len M[k].inner
        have hpl2 := plsM_take2 (accV V) hlt hsec
        go_upto_region 5 with fail
        generalize hW1 : wr.alloc _ = W1
        have hbW1 : Below wr.heap.size wr W1 := by subst hW1; exact (Below.refl _ _).alloc (Nat.le_refl _) _
        have hsW1 : W1.heap.size = wr.heap.size + 1 := by subst hW1; simp
        have cxW1_0 : ∀ i, W1.cell? ⟨wr.heap.size, i, none⟩ = (#[.string M[k].pl.text, .string M[k].pl.name, .bool true, .slice M[k].A M[k].inner.length M[k].c] : Array Value)[i]? := by intro i; subst hW1; simp [go_sem]
        have HSW1 := Lib.hid hsW1; clear hW1 hsW1
        have hzW : wr.heap.size < W1.heap.size := by have := HSW1.out; omega
        have cx0 := cxW1_0 0
        have cx1 := cxW1_0 1
        have cx2 := cxW1_0 2
        have cx3 := cxW1_0 3
        clear HSW1 cxW1_0
        have HOW := Lib.hid (own_below HO.out hbW1)
        have HBW := Lib.hid (bt HB.out hbW1)
        go_wp2_with fail
        refine (miss1_c M[k].pl.name b vA vc V W1 ((HBW.out.cell (p := ⟨b, 0, none⟩) hb).trans H0.out) (rdW HBW.out HV.out) hvl hvc).mono ?_
        rintro e w3 ⟨rfl, hb3⟩
        have HO3 := Lib.hid (own_below HOW.out hb3)
        have HB3 := Lib.hid (bt HBW.out hb3)
        have hz3 := hb3.size
        have hx1 := (hb3.cell (p := ⟨wr.heap.size, 1, none⟩) (by simp only; omega)).trans cx1
        have hx2 := (hb3.cell (p := ⟨wr.heap.size, 2, none⟩) (by simp only; omega)).trans cx2
        have hx3 := (hb3.cell (p := ⟨wr.heap.size, 3, none⟩) (by simp only; omega)).trans cx3
        clear cx0 cx1 cx2 cx3 f0 f1 f2 f3
        cases hacc : accV V M[k].pl.name with
        | true =>
          have HS := Lib.hid (HSTEP.out.trans (by rw [plM_yes hsec hacc]))
          clear HSTEP
          go_wp2_with (first | (go_at_call 40; refine (placesF_c _ _ M[k].inner _ w3 (rdW HB3.out hkin) (by omega)).mono ?_; rintro e w4 ⟨A5, c5, rfl, ho5, hb4⟩; have HO4 := Lib.hid (own_below HO3.out hb4); have HB4 := Lib.hid (bt HB3.out hb4); have hz4 := hb4.size) | (at_builtin; refine wpList_cat w4 rfl _ _ 24 rfl w.heap.size 9 i0 _ 1 16 Try.underlying24 hi hz0 hz1 hz2 rfl (by decide) (.slice A1 (plsM (accV V) (M.take k)).length c1) ((plsM (accV V) (M.take k)).length) ((plsM (accV V) (M.take k)).map Value.string) (by rfl) HO4.out A5 (nmsD M[k].inner).length c5 w4.heap.size ((nmsD M[k].inner).map Value.string) (by rfl) (Rd.of_own ho5) (one_strs _) (by unfold maxLen; omega) (by omega) (by omega) ?_; intro A7 c7 w7 ho7 hg7; have HO7 := Lib.hid (own_names2 HS.out ho7); have HB7 := Lib.hid (below_grown HB4.out hg7 (Nat.le_refl _) (fun k hk => HO4.out.lt k hk |>.1)); clear ho7 hg7))
          go_roundw
          case rel => exact ⟨k + 1, A7, c7, by omega, by go_num, by rw [HS.out]; simp, HO7, HB7⟩
          case measure => first | (simp [intOf]; done) | (simp [intOf]; omega)
        | false =>
          have HS := Lib.hid (HSTEP.out.trans (by rw [plM_no hsec hacc]))
          clear HSTEP
          go_wp2
          go_roundw
          case rel => exact ⟨k + 1, A1, c1, by omega, by go_num, by rw [HS.out]; simp, by unfold Hid; rw [HS.out, List.append_nil]; exact HO3.out, HB3⟩
          case measure => first | (simp [intOf]; done) | (simp [intOf]; omega)
    · obtain rfl : k = M.length := by omega
      have HE := Lib.hid ((congrArg (plsM (accV V)) (List.take_of_length_le (Nat.le_refl M.length))).trans (plsM_eq _ M))
      go_wp2
      go_ret
      rw [HE.out] at HO
      exact ⟨A1, c1, by first | (rw [HE.out]; rfl) | (rw [← plsM_eq]; rfl), HO.out, HB.out⟩
set_option maxRecDepth 100000 in
set_option maxHeartbeats 4000000 in
theorem placesAll_c (A : Option Addr) (c : Nat) (M : List PtM) (w : World) (hr : Rd w w.heap.size A (M.length * 4) (M.flatMap PtM.cells)) (hin : ∀ p ∈ M, Rd w w.heap.size p.A (p.inner.length * 4) (p.inner.flatMap plC)) (hl : wtT (M.map PtM.d) ≤ 4000000) :
    Calls Try.prog 40 #[.slice A M.length c, .func (.func 41) #[] #[]] w fun e w' => ∃ (A' : Option Addr) (c' : Nat), e = .returned (.slice A' (plsT (fun _ => true) (M.map PtM.d)).length c') ∧ w'.ownsRow w.heap.size 9 1 (.slice A' (plsT (fun _ => true) (M.map PtM.d)).length c') (plsT (fun _ => true) (M.map PtM.d)).length ((plsT (fun _ => true) (M.map PtM.d)).map Value.string) ∧ Below w.heap.size w w' := by
  obtain ⟨i0, hi, hz0, hz1, hz2⟩ := info_parts str_info
  have HR := Lib.hid hr
  have HIN := Lib.hid hin
  have hml := wt_len (M.map PtM.d)
  rw [List.length_map] at hml
  clear hr hin
  go_enter Try.func40, Try.ntmps40
  go_wp2_with fail
  have ho := World.ownsRow_lit (base := w.heap.size) (e := 9) (size := 1) w #[] 0 (Nat.le_refl _) (by unfold maxLen; omega) rfl
  have HO0 := Lib.hid ho
  have HB0 := Lib.hid ((Below.refl w.heap.size w).alloc (Nat.le_refl _) (.cells #[] 9))
  clear ho
  go_wp2
  go_loopw [5, 11] (fun ov i wr => ∃ (k : Nat) (A1 : Option Addr) (c1 : Nat), k ≤ M.length ∧ i = .int .i64 k ∧ ov = .slice A1 (plsM (fun _ => true) (M.take k)).length c1 ∧ Hid (wr.ownsRow w.heap.size 9 1 (.slice A1 (plsM (fun _ => true) (M.take k)).length c1) (plsM (fun _ => true) (M.take k)).length ((plsM (fun _ => true) (M.take k)).map Value.string)) ∧ Hid (Below w.heap.size w wr)) (fun _ i _ => M.length - (intOf i).toNat)
  case atStart => exact ⟨0, _, _, by omega, rfl, rfl, HO0, HB0⟩
  case round =>
    obtain ⟨k, A1, c1, hk, rfl, rfl, HO, HB⟩ := hrel
    clear HO0 HB0
    have hzr := HB.out.size
    have hnl := plsM_take (fun _ => true) (M := M) k
    by_cases hlt : k < M.length
    · obtain ⟨bf, offf, rfl, hbf, hcf⟩ := Rd.elem PtM.cells 4 (fun _ => rfl) (rdW HB.out HR.out) (by omega) hlt
      have f0 : wr.cell? ⟨bf, offf + k * 4, none⟩ = some (.string M[k].pl.text) := hcf k hlt 0 _ rfl
      have f1 : wr.cell? ⟨bf, offf + k * 4 + 1, none⟩ = some (.string M[k].pl.name) := hcf k hlt 1 _ rfl
      have f2 : wr.cell? ⟨bf, offf + k * 4 + 2, none⟩ = some (.bool M[k].sec) := hcf k hlt 2 _ rfl
      have f3 : wr.cell? ⟨bf, offf + k * 4 + 3, none⟩ = some (.slice M[k].A M[k].inner.length M[k].c) := hcf k hlt 3 _ rfl
      clear hcf
      have hki : (k : Int) < (M.length : Int) := by omega
      have hk0 : (0 : Int) ≤ (k : Int) := by omega
      have HSTEP := Lib.hid (show plsM (fun _ => true) (M.take (k + 1)) = plsM (fun _ => true) (M.take k) ++ plM (fun _ => true) M[k] from flat_step _ hlt)
      cases hsec : M[k].sec with
      | false =>
        rw [hsec] at f2
        by_cases hn : M[k].pl.name.size = 0
        · have HS := Lib.hid (HSTEP.out.trans (by rw [plM_pt hsec, nmP_0 hn]))
          have hne : M[k].pl.name = ⟨#[]⟩ := ba_ext (List.length_eq_zero_iff.1 (by rw [len_data]; exact hn))
          rw [hne] at f1
          clear hn hne HSTEP
          have hbW1 := (Below.refl wr.heap.size wr).alloc (Nat.le_refl _) (.cells #[.string M[k].pl.text, .string ⟨#[]⟩, .bool false, .slice M[k].A M[k].inner.length M[k].c] 66)
          go_wp2
          go_roundw
          case rel => exact ⟨k + 1, A1, c1, by omega, by go_num, by rw [HS.out]; simp, by unfold Hid; rw [HS.out, List.append_nil]; exact own_below HO.out hbW1, Lib.hid (bt HB.out hbW1)⟩
          case measure => first | (simp [intOf]; done) | (simp [intOf]; omega)
        · have HS := Lib.hid (HSTEP.out.trans (by rw [plM_pt hsec, nmP_1 hn]))
          have hcb : (M[k].pl.name.toList == ([] : List UInt8)) = false := by
            rw [beq_eq_false_iff_ne, Go.ByteArray.toList_eq]
            intro e
            exact hn (by rw [← len_data, e]; rfl)
          clear hn HSTEP
          go_upto_region 5 with fail
          generalize hW1 : wr.alloc _ = W1
          have hbW1 : Below wr.heap.size wr W1 := by subst hW1; exact (Below.refl _ _).alloc (Nat.le_refl _) _
          have hsW1 : W1.heap.size = wr.heap.size + 1 := by subst hW1; simp
          have cxW1_0 : ∀ i, W1.cell? ⟨wr.heap.size, i, none⟩ = (#[.string M[k].pl.text, .string M[k].pl.name, .bool false, .slice M[k].A M[k].inner.length M[k].c] : Array Value)[i]? := by intro i; subst hW1; simp [go_sem]
          have HSW1 := Lib.hid hsW1; clear hW1 hsW1
          have HOW := Lib.hid (own_below HO.out hbW1)
          have HBW := Lib.hid (bt HB.out hbW1)
          have hzW : wr.heap.size < W1.heap.size := by have := HSW1.out; omega
          have cx0 := cxW1_0 0
          have cx1 := cxW1_0 1
          have cx2 := cxW1_0 2
          have cx3 := cxW1_0 3
          clear HSW1 cxW1_0
          go_wp2_with (first | (at_builtin; refine wpList_push W1 rfl _ _ 24 rfl w.heap.size 9 i0 _ 1 16 Try.underlying24 hi hz0 hz1 hz2 rfl (by decide) (.slice A1 (plsM (fun _ => true) (M.take k)).length c1) ((plsM (fun _ => true) (M.take k)).length) ((plsM (fun _ => true) (M.take k)).map Value.string) (by rfl) HOW.out [.string M[k].pl.name] 9 (by rfl) rfl (by simp [Value.oneCell']) (by unfold maxLen; omega) (by omega) (by omega) ?_; intro A7 c7 w7 ho7 hg7; have HO7 := Lib.hid (own_names HS.out ho7); have HB7 := Lib.hid (below_grown HBW.out hg7 (Nat.le_refl _) (fun k hk => HOW.out.lt k hk |>.1)); clear ho7 hg7))
          go_roundw
          case rel => exact ⟨k + 1, A7, c7, by omega, by go_num, by rw [HS.out]; simp, HO7, HB7⟩
          case measure => first | (simp [intOf]; done) | (simp [intOf]; omega)
      | true =>
        rw [hsec] at f2
        have hkin := HIN.out M[k] (List.getElem_mem hlt)
        have hkil := inner_le hlt
        have hknl := nmsD_len M[k].inner
        have hpl2 := plsM_take2 (fun _ => true) hlt hsec
        go_upto_region 5 with fail
        generalize hW1 : wr.alloc _ = W1
        have hbW1 : Below wr.heap.size wr W1 := by subst hW1; exact (Below.refl _ _).alloc (Nat.le_refl _) _
        have hsW1 : W1.heap.size = wr.heap.size + 1 := by subst hW1; simp
        have cxW1_0 : ∀ i, W1.cell? ⟨wr.heap.size, i, none⟩ = (#[.string M[k].pl.text, .string M[k].pl.name, .bool true, .slice M[k].A M[k].inner.length M[k].c] : Array Value)[i]? := by intro i; subst hW1; simp [go_sem]
        have HSW1 := Lib.hid hsW1; clear hW1 hsW1
        have hzW : wr.heap.size < W1.heap.size := by have := HSW1.out; omega
        have cx0 := cxW1_0 0
        have cx1 := cxW1_0 1
        have cx2 := cxW1_0 2
        have cx3 := cxW1_0 3
        clear HSW1 cxW1_0
        have HOW := Lib.hid (own_below HO.out hbW1)
        have HBW := Lib.hid (bt HB.out hbW1)
        go_wp2_with fail
        refine (placesOf1_c M[k].pl.name W1).mono ?_
        rintro e w3 ⟨rfl, hb3⟩
        have HO3 := Lib.hid (own_below HOW.out hb3)
        have HB3 := Lib.hid (bt HBW.out hb3)
        have hz3 := hb3.size
        have hx1 := (hb3.cell (p := ⟨wr.heap.size, 1, none⟩) (by simp only; omega)).trans cx1
        have hx2 := (hb3.cell (p := ⟨wr.heap.size, 2, none⟩) (by simp only; omega)).trans cx2
        have hx3 := (hb3.cell (p := ⟨wr.heap.size, 3, none⟩) (by simp only; omega)).trans cx3
        clear cx0 cx1 cx2 cx3 f0 f1 f2 f3
        have HS := Lib.hid (HSTEP.out.trans (by rw [plM_yes hsec rfl]))
        clear HSTEP
        go_wp2_with (first | (go_at_call 40; refine (placesF_c _ _ M[k].inner _ w3 (rdW HB3.out hkin) (by omega)).mono ?_; rintro e w4 ⟨A5, c5, rfl, ho5, hb4⟩; have HO4 := Lib.hid (own_below HO3.out hb4); have HB4 := Lib.hid (bt HB3.out hb4); have hz4 := hb4.size) | (at_builtin; refine wpList_cat w4 rfl _ _ 24 rfl w.heap.size 9 i0 _ 1 16 Try.underlying24 hi hz0 hz1 hz2 rfl (by decide) (.slice A1 (plsM (fun _ => true) (M.take k)).length c1) ((plsM (fun _ => true) (M.take k)).length) ((plsM (fun _ => true) (M.take k)).map Value.string) (by rfl) HO4.out A5 (nmsD M[k].inner).length c5 w4.heap.size ((nmsD M[k].inner).map Value.string) (by rfl) (Rd.of_own ho5) (one_strs _) (by unfold maxLen; omega) (by omega) (by omega) ?_; intro A7 c7 w7 ho7 hg7; have HO7 := Lib.hid (own_names2 HS.out ho7); have HB7 := Lib.hid (below_grown HB4.out hg7 (Nat.le_refl _) (fun k hk => HO4.out.lt k hk |>.1)); clear ho7 hg7))
        go_roundw
        case rel => exact ⟨k + 1, A7, c7, by omega, by go_num, by rw [HS.out]; simp, HO7, HB7⟩
        case measure => first | (simp [intOf]; done) | (simp [intOf]; omega)
    · obtain rfl : k = M.length := by omega
      have HE := Lib.hid ((congrArg (plsM (fun _ => true)) (List.take_of_length_le (Nat.le_refl M.length))).trans (plsM_eq _ M))
      go_wp2
      go_ret
      rw [HE.out] at HO
      exact ⟨A1, c1, by first | (rw [HE.out]; rfl) | (rw [← plsM_eq]; rfl), HO.out, HB.out⟩
end Go.Proofs.Ytilanpmjemlopaa
