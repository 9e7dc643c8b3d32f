/- Contracts: RaiseTariff of both texts. -/
import Derived.Test.YthkobjadfeidmaaPays
import Derived.Test.YthkobjadfeidmaaRow
import Derived.StillTailTactics
import Derived.Deep.RegionLaw
import Derived.Deep.DrawnRows
namespace Go.Proofs.Ythkobjadfeidmaa
open Go.RowKit
set_option linter.unusedVariables false
attribute [local go_sem ↓] Go.wp_at_zero Go.wp_at_succ
def raiseC (c p m : Int) : Int := min m ((c * (100 + p) + 99) / 100)
theorem l01Floor_c (x : Int) (w : World) (h : 0 ≤ x ∧ x ≤ 1000000000000) : Calls Try.prog 72 #[.int .i64 (-x), .int .i64 100] w fun e w' => e = .returned (.int .i64 (-((x + 99) / 100))) ∧ w = w' := by
  have h1 : (-x).tdiv 100 = -(x / 100) := by rw [Int.neg_tdiv, Int.tdiv_eq_ediv_of_nonneg h.1]
  have h2 : (-x).tmod 100 = -(x % 100) := by rw [Int.neg_tmod, Int.tmod_eq_emod_of_nonneg h.1]
  by_cases h0 : x % 100 = 0
  · go_enter Try.func72, Try.ntmps72
    go_wp2
    go_ret
    exact ⟨ret_int (by omega), rfl⟩
  · go_enter Try.func72, Try.ntmps72
    go_wp2
    go_ret
    exact ⟨ret_int (by omega), rfl⟩
theorem l01Ceil_c (x : Int) (w : World) (h : 0 ≤ x ∧ x ≤ 1000000000000) : Calls Try.prog 68 #[.int .i64 x, .int .i64 100] w fun e w' => e = .returned (.int .i64 ((x + 99) / 100)) ∧ w = w' := by
  go_enter Try.func68, Try.ntmps68
  go_wp2_with fail
  refine (l01Floor_c x w h).mono ?_
  rintro e w' ⟨rfl, rfl⟩
  go_wp2
  go_ret
  exact ⟨ret_int (by omega), rfl⟩
theorem l29More_c (c p m : Int) (w : World) (hc : 0 ≤ c ∧ c ≤ 100000) (hp : 0 ≤ p ∧ p ≤ 100) (hm : 0 ≤ m ∧ m ≤ 100000) : Calls Try.prog 48 #[.int .i64 c, .int .i64 p, .int .i64 m] w fun e w' => e = .returned (.int .i64 (raiseC c p m)) ∧ w = w' := by
  have hx := mul_bd hc hp
  have hr : raiseC c p m = min m (c + (c * p + 99) / 100) := by
    unfold raiseC
    have : c * (100 + p) = 100 * c + c * p := by rw [Int.mul_add]; omega
    rw [this]; omega
  have HR := Lib.hid hr; clear hr
  go_enter Try.func48, Try.ntmps48
  go_wp2_with fail
  refine (l01Ceil_c (c * p) w (by omega)).mono ?_
  rintro e w' ⟨rfl, rfl⟩
  generalize c * p = q at *
  by_cases hmin : m ≤ c + (q + 99) / 100
  · go_wp2
    go_ret
    exact ⟨ret_int (by rw [HR.out]; omega), rfl⟩
  · go_wp2
    go_ret
    exact ⟨ret_int (by rw [HR.out]; omega), rfl⟩
def raiseL (L : List TierD) (p : Int) : List TierD := L.map fun t => ⟨t.days, raiseC t.cents p 100000⟩
/-- What RaiseTariff hands back: a tariff with a row of its own, and a code. -/
def RaiseP (L : List TierD) (me mi mo p : Int) (w : World) (e : Ending) (w' : World) : Prop :=
  if tarOk L me mi mo = true ∧ inB p 0 100 = true then ∃ A' c', e = .returned (.tuple #[.agg #[.slice A' L.length c', .int .i64 (raiseC me p 10000), .int .i64 (raiseC mi p 10000), .int .i64 (raiseC mo p 100000)], .int .i64 0]) ∧
    w'.ownsRow w.heap.size 63 2 (.slice A' L.length c') L.length ((raiseL L p).flatMap tierC) ∧ Below w.heap.size w w'
  else e = .returned (.tuple #[.agg #[.slice none 0 0, .int .i64 0, .int .i64 0, .int .i64 0], .int .i64 (if tarOk L me mi mo = true then 2 else 1)]) ∧ Below w.heap.size w w'
theorem box_other {W : World} {b b' j : Nat} {u : Value} {cs : Array Value} (h : ∀ i, W.cell? ⟨b, i, none⟩ = cs[i]?) (hne : b ≠ b') : ∀ i, (W.setCell ⟨b', j, none⟩ u).cell? ⟨b, i, none⟩ = cs[i]? :=
  fun i => (World.cell?_of_block (a := ⟨b, i, none⟩) (Below.heap_setCell _ _ _ _ hne)).trans (h i)
theorem box_set {W : World} {b j : Nat} {u : Value} {cs : Array Value} (h : ∀ i, W.cell? ⟨b, i, none⟩ = cs[i]?) (hj : j < cs.size) : ∀ i, (W.setCell ⟨b, j, none⟩ u).cell? ⟨b, i, none⟩ = (cs.setIfInBounds j u)[i]? := by
  intro i
  by_cases e : i = j
  · subst e
    simp [go_sem, h, hj]
  · simp [go_sem, h, Ne.symm e]
theorem fz_set {W : World} {b : Nat} (h : ∀ i, W.frozen? ⟨b, i, none⟩ = false) (p : Addr) (u : Value) : ∀ i, (W.setCell p u).frozen? ⟨b, i, none⟩ = false := fun i => by simp [go_sem, h]
theorem own_setBelow {W : World} {base : Nat} {e : TypeId} {size n : Nat} {v : Value} {xs : List Value} (h : W.ownsRow base e size v n xs) {b : Nat} (hb : b < base) (j : Nat) (u : Value) : (W.setCell ⟨b, j, none⟩ u).ownsRow base e size v n xs :=
  h.kept (grown_set (World.grownBy.refl _ _)) (.inr (fun e => by have := h.lt _ e; omega))
theorem tar_len {L : List TierD} {me mi mo : Int} (h : tarOk L me mi mo = true) : 1 ≤ L.length ∧ L.length ≤ 5 := by
  simp only [tarOk, tiersOk, Bool.and_eq_true] at h
  have := inB_iff.1 h.1.1.1.2
  omega
theorem raise_len (L : List TierD) (p : Int) : (raiseL L p).length = L.length := by simp [raiseL]
theorem raise_step {L : List TierD} {k : Nat} (p : Int) (hk : k < L.length) : ((raiseL L p).take k).flatMap tierC ++ [.int .i64 L[k].days, .int .i64 (raiseC L[k].cents p 100000)] = ((raiseL L p).take (k + 1)).flatMap tierC := by
  rw [List.take_succ_eq_append_getElem (by rw [raise_len]; exact hk), List.flatMap_append]
  simp [raiseL, tierC]
set_option maxRecDepth 100000 in
set_option maxHeartbeats 4000000 in
theorem spec_RaiseTariff (A : Option Addr) (c : Nat) (L : List TierD) (me mi mo : Int) (p : Int) (w : World) (hr : Rd w w.heap.size A (L.length * 2) (L.flatMap tierC)) (hl : L.length ≤ 140737488355328) : Calls Try.prog 14 #[.agg #[.slice A L.length c, .int .i64 me, .int .i64 mi, .int .i64 mo], .int .i64 p] w (RaiseP L me mi mo p w) := by
  obtain ⟨i0, hi, hz0, hz1, hz2⟩ := info_parts tier_info
  go_enter Try.func14, Try.ntmps14
  go_wp2_with fail
  generalize hW0 : (w.alloc _).alloc _ = W0
  have hbW0 : Below w.heap.size w W0 := by subst hW0; exact ((Below.refl _ _).alloc (Nat.le_refl _) _).alloc (by (try simp) <;> (try omega)) _
  have hsW0 : W0.heap.size = w.heap.size + 2 := by subst hW0; simp
  have cxW0_0 : ∀ i, W0.cell? ⟨w.heap.size, i, none⟩ = (#[.slice A L.length c, .int .i64 me, .int .i64 mi, .int .i64 mo] : Array Value)[i]? := by intro i; subst hW0; simp [go_sem]
  have fzW0_0 : ∀ i, W0.frozen? ⟨w.heap.size, i, none⟩ = false := by intro i; subst hW0; simp [go_sem]
  have cxW0_1 : ∀ i, W0.cell? ⟨w.heap.size + 1, i, none⟩ = (#[.slice none 0 0, .int .i64 0, .int .i64 0, .int .i64 0] : Array Value)[i]? := by intro i; subst hW0; simp [go_sem]
  have fzW0_1 : ∀ i, W0.frozen? ⟨w.heap.size + 1, i, none⟩ = false := by intro i; subst hW0; simp [go_sem]
  have HSW0 := Lib.hid hsW0; clear hW0 hsW0
  have hzw : w.heap.size + 2 ≤ W0.heap.size := by have := HSW0.out; omega
  clear HSW0 fzW0_0
  cases hT : tarOk L me mi mo
  · refine (spec_IsTariff A c L me mi mo _ W0 (rdW hbW0 hr) hl hT).mono ?_
    rintro e w1 ⟨rfl, hb1⟩
    replace cxW0_1 := fun i => (hb1.cell (by (try simp only); omega)).trans (cxW0_1 i)
    replace fzW0_1 := fun i => (hb1.frozen (by (try simp only); omega)).trans (fzW0_1 i)
    go_wp2
    exact bodyPost_ret (v := .tuple #[.agg #[.slice none 0 0, .int .i64 0, .int .i64 0, .int .i64 0], .int .i64 1]) (by simp [results, Try.results14, go_sem, cxW0_1]) rfl (by
      rw [RaiseP, if_neg (by simp [hT])]
      refine ⟨by simp [hT], ?_⟩
      repeat (refine Below.setCell ?_ (by (try simp only); omega) _)
      exact bt hbW0 hb1)
  refine (spec_IsTariff A c L me mi mo _ W0 (rdW hbW0 hr) hl hT).mono ?_
  rintro e w1 ⟨rfl, hb1⟩
  have hzb1 := hb1.size
  have hL5 := tar_len hT
  have hB1 := bt hbW0 hb1
  replace cxW0_0 := fun i => (hb1.cell (by (try simp only); omega)).trans (cxW0_0 i)
  replace cxW0_1 := fun i => (hb1.cell (by (try simp only); omega)).trans (cxW0_1 i)
  replace fzW0_1 := fun i => (hb1.frozen (by (try simp only); omega)).trans (fzW0_1 i)
  go_wp2_with fail
  cases hP : inB p 0 100
  · refine (l01In_b _ _ _ _ w1 hP).mono ?_
    rintro e w2 ⟨rfl, rfl⟩
    go_wp2
    exact bodyPost_ret (v := .tuple #[.agg #[.slice none 0 0, .int .i64 0, .int .i64 0, .int .i64 0], .int .i64 2]) (by simp [results, Try.results14, go_sem, cxW0_1]) rfl (by
      rw [RaiseP, if_neg (by simp [hP])]
      refine ⟨by simp [hT], ?_⟩
      repeat (refine Below.setCell ?_ (by (try simp only); omega) _)
      exact hB1)
  refine (l01In_b _ _ _ _ w1 hP).mono ?_
  rintro e w2 ⟨rfl, rfl⟩
  have hp := inB_iff.1 hP
  obtain ⟨k1, k2, k3⟩ := tar_bds hT
  have HK : Hid (∀ W1 : World, Below w1.heap.size w1 W1 → (∀ i, W1.cell? ⟨w.heap.size, i, none⟩ = (#[.slice A L.length c, .int .i64 me, .int .i64 mi, .int .i64 mo] : Array Value)[i]?) ∧ Below w1.heap.size w1 W1) := Lib.hid (fun W1 h => ⟨fun i => (h.cell (p := ⟨w.heap.size, i, none⟩) (by (try simp only); omega)).trans (cxW0_0 i), h⟩)
  go_wp2_with fail
  go_region_held3 (fun W1 => (∀ i, W1.cell? ⟨w.heap.size, i, none⟩ = (#[.slice A L.length c, .int .i64 me, .int .i64 mi, .int .i64 mo] : Array Value)[i]?) ∧ Below w1.heap.size w1 W1) (first | exact HK.out _ (Below.refl _ _).drew | exact HK.out _ ((Below.refl _ _).alloc (Nat.le_refl _) _).drew)
    ((go_at_call 48; refine Calls.mono (l29More_c _ p _ _ ?_ hp ?_) ?_; (any_goals omega); rintro e w2 ⟨rfl, rfl⟩))
  all_goals
    generalize hW2 : (w1.alloc (.cells #[.slice none 0 0, .int .i64 (raiseC me p 10000), .int .i64 (raiseC mi p 10000), .int .i64 (raiseC mo p 100000)] 35)).drew = W2
    have hb2 : Below w1.heap.size w1 W2 := by subst hW2; exact ((Below.refl _ _).alloc (Nat.le_refl _) _).drew
    have cx2 : ∀ i, W2.cell? ⟨w1.heap.size, i, none⟩ = (#[.slice none 0 0, .int .i64 (raiseC me p 10000), .int .i64 (raiseC mi p 10000), .int .i64 (raiseC mo p 100000)] : Array Value)[i]? := by intro i; subst hW2; simp [go_sem]
    have fz2 : ∀ i, W2.frozen? ⟨w1.heap.size, i, none⟩ = false := by intro i; subst hW2; simp [go_sem]
    have hzW2 : w1.heap.size + 1 ≤ W2.heap.size := by subst hW2; simp
    clear hW2 HK
    go_wp2
    go_loopw [7] (fun i wr => ∃ (k : Nat) (A' : Option Addr) (c' : Nat), k ≤ L.length ∧ i = .int .i64 k ∧ Below w1.heap.size w1 wr ∧ W2.heap.size ≤ wr.heap.size ∧ Hid (wr.ownsRow W2.heap.size 63 2 (.slice A' k c') k (((raiseL L p).take k).flatMap tierC)) ∧
      (∀ i, wr.cell? ⟨w1.heap.size, i, none⟩ = (#[.slice A' k c', .int .i64 (raiseC me p 10000), .int .i64 (raiseC mi p 10000), .int .i64 (raiseC mo p 100000)] : Array Value)[i]?) ∧ (∀ i, wr.frozen? ⟨w1.heap.size, i, none⟩ = false))
      (fun i _ => L.length - (intOf i).toNat)
    case atStart => exact ⟨0, none, 0, by omega, rfl, hb2, Nat.le_refl _, World.ownsRow_nil _ _ _ _, cx2, fz2⟩
    case round =>
      obtain ⟨k, A', c', hk, rfl, hB, hzr, HO, cx6, fz6⟩ := hrel
      clear cx2 fz2
      have cy0 := fun i => (hB.cell (p := ⟨w.heap.size, i, none⟩) (by (try simp only); omega)).trans (cxW0_0 i)
      by_cases hlt : k < L.length
      · have HT := Lib.hid hT; have HP := Lib.hid hP
        have HC := Lib.hid (tar_cents hT L[k] (List.getElem_mem hlt))
        have HS := Lib.hid (raise_step p hlt)
        clear hT hP
        obtain ⟨bf, offf, rfl, hbf, hcf⟩ := Rd.elem tierC 2 (fun _ => rfl) (rdW (bt hB1 hB) hr) (by omega) hlt
        have f0 : wr.cell? ⟨bf, offf + k * 2, none⟩ = some (.int .i64 L[k].days) := hcf k hlt 0 _ rfl
        have f1 : wr.cell? ⟨bf, offf + k * 2 + 1, none⟩ = some (.int .i64 L[k].cents) := hcf k hlt 1 _ rfl
        have hbf2 : bf < w.heap.size := by
          obtain ⟨b', off', e, hb', _⟩ := hr.2 (by omega)
          injection e with e; injection e with e _; omega
        clear hcf
        have hcents := HC.out
        generalize L[k].days = x0 at *
        generalize L[k].cents = x1 at *
        have hk0 : (0 : Int) ≤ (k : Int) := by omega
        have hkl : (k : Int) < (L.length : Int) := by omega
        have HK : Hid (∀ W1 : World, Below w1.heap.size wr W1 → (∀ i, W1.cell? ⟨w.heap.size, i, none⟩ = (#[.slice (some ⟨bf, offf, none⟩) L.length c, .int .i64 me, .int .i64 mi, .int .i64 mo] : Array Value)[i]?) ∧ W1.cell? ⟨bf, offf + k * 2, none⟩ = some (.int .i64 x0) ∧ W1.cell? ⟨bf, offf + k * 2 + 1, none⟩ = some (.int .i64 x1) ∧ Below w1.heap.size wr W1) := Lib.hid (fun W1 h => ⟨fun i => (h.cell (p := ⟨w.heap.size, i, none⟩) (by (try simp only); omega)).trans (cy0 i), (h.cell (by (try simp only); omega)).trans f0, (h.cell (by (try simp only); omega)).trans f1, h⟩)
        have ca : ∀ (o : Obj) (i : Nat), ((wr.alloc o).drew).cell? ⟨w1.heap.size, i, none⟩ = (#[.slice A' k c', .int .i64 (raiseC me p 10000), .int .i64 (raiseC mi p 10000), .int .i64 (raiseC mo p 100000)] : Array Value)[i]? := fun o i => (((Below.refl _ wr).alloc (Nat.le_refl _) o).cell (p := ⟨w1.heap.size, i, none⟩) (by (try simp only); omega)).trans (cx6 i)
        have fa : ∀ (o : Obj) (i : Nat), ((wr.alloc o).drew).frozen? ⟨w1.heap.size, i, none⟩ = false := fun o i => (((Below.refl _ wr).alloc (Nat.le_refl _) o).frozen (p := ⟨w1.heap.size, i, none⟩) (by (try simp only); omega)).trans (fz6 i)
        go_wp2_with fail
        rw [show Op.load 33 (Operand.tmp 36) = id (Op.load 33 (Operand.tmp 36)) from rfl]
        go_region_held3 (fun W1 => (∀ i, W1.cell? ⟨w.heap.size, i, none⟩ = (#[.slice (some ⟨bf, offf, none⟩) L.length c, .int .i64 me, .int .i64 mi, .int .i64 mo] : Array Value)[i]?) ∧ W1.cell? ⟨bf, offf + k * 2, none⟩ = some (.int .i64 x0) ∧ W1.cell? ⟨bf, offf + k * 2 + 1, none⟩ = some (.int .i64 x1) ∧ Below w1.heap.size wr W1)
          (first | exact HK.out _ (Below.refl _ _).drew | exact HK.out _ ((Below.refl _ _).alloc (by omega) _).drew | exact HK.out _ hB5 | exact HK.out _ (hB5.setCell (by (try simp only); omega) _))
          ((first
            | (go_at_call 48; refine Calls.mono (l29More_c _ p _ _ ?_ hp ?_) ?_; (any_goals omega); rintro e w2 ⟨rfl, rfl⟩)
            | (refine step_cat ((wr.alloc (.cells #[.int .i64 x0, .int .i64 (raiseC x1 p 100000)] 63)).drew) (by rfl) (.tmp 37) (.tmp 53) 33 (by rfl) W2.heap.size 63 i0 _ 2 16 Try.underlying33 hi hz0 hz1 hz2 rfl (by omega) (.slice A' k c') k (((raiseL L p).take k).flatMap tierC) (by rfl) ((HO.out.alloc _).drew) (some ⟨wr.heap.size, 0, none⟩) 1 1 _ [.int .i64 x0, .int .i64 (raiseC x1 p 100000)] (by rfl) (Rd.of_block (heap_alloc_new wr _)) (by simp [Value.oneCell']) (by unfold maxLen; omega) (by omega) (by (try simp); omega) (k + 1) (by omega) ?_; intro A2 c2 w5 ho5 hg5; have HO5 := Lib.hid ho5; have HG5 := Lib.hid hg5;
               have hB5 : Below w1.heap.size wr w5 := below_grown (((Below.refl _ wr).alloc (by omega) _).drew) hg5 (by omega) (fun k hk => by have := HO.out.lt k hk; omega);
               have cx5 := fun i => (hg5.cell_far ⟨w1.heap.size, i, none⟩ (by simp <;> omega) (fun e => by have := HO.out.lt _ e.symm; simp only at this; omega)).trans (ca _ i);
               have fx5 := fun i => (hg5.frozen_far ⟨w1.heap.size, i, none⟩ (by simp <;> omega) (fun e => by have := HO.out.lt _ e.symm; simp only at this; omega)).trans (fa _ i))))
        all_goals
          go_wp2
          go_roundw
          case rel =>
            refine ⟨k + 1, A2, c2, by omega, by go_num, ?_, ?_, ?_, ?_, ?_⟩
            · exact (hB.trans hB5).setCell (by (try simp only); omega) _
            · have := hg5.size; simp at this ⊢; omega
            · have h5 := HO5.out
              rw [HS.out] at h5
              exact own_setBelow h5 (by omega) _ _
            · intro i; exact (box_set cx5 (by simp) i).trans (by simp)
            · exact fz_set fx5 _ _
          case measure => simp [intOf]; omega
      · obtain rfl : k = L.length := by omega
        have hBw : Below w.heap.size w wr := bt hB1 (hB.mono (Nat.le_refl _))
        have cy1 := fun i => (hB.cell (p := ⟨w.heap.size + 1, i, none⟩) (by (try simp only); omega)).trans (cxW0_1 i)
        have fy1 := fun i => (hB.frozen (p := ⟨w.heap.size + 1, i, none⟩) (by (try simp only); omega)).trans (fzW0_1 i)
        go_wp2
        exact bodyPost_ret (v := .tuple #[.agg #[.slice A' L.length c', .int .i64 (raiseC me p 10000), .int .i64 (raiseC mi p 10000), .int .i64 (raiseC mo p 100000)], .int .i64 0]) (by simp [results, Try.results14, go_sem, cy1]) rfl (by
          rw [RaiseP, if_pos ⟨hT, hP⟩]
          refine ⟨A', c', rfl, ?_, ?_⟩
          · have h5 := HO.out
            rw [List.take_of_length_le (by rw [raise_len]; exact Nat.le_refl _)] at h5
            refine own_mono (base := W2.heap.size) ?_ (by omega)
            repeat (refine own_setBelow ?_ (by omega) _ _)
            exact h5
          · repeat (refine Below.setCell ?_ (by (try simp only); omega) _)
            exact hBw)
end Go.Proofs.Ythkobjadfeidmaa
