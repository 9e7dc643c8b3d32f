/- Contract: impl.RaiseTariff, its closure included. -/
import Derived.Test.YthkobjadfeidmaaRaise
namespace Go.Proofs.Ythkobjadfeidmaa
open Go.RowKit
set_option linter.unusedVariables false
attribute [local go_sem ↓] Go.wp_at_zero Go.wp_at_succ
theorem raise_c (c p m : Int) (b : Nat) (w : World) (hc : 0 ≤ c ∧ c ≤ 100000) (hp : 0 ≤ p ∧ p ≤ 100) (hm : 0 ≤ m ∧ m ≤ 100000) (hx : w.cell? ⟨b, 0, none⟩ = some (.int .i64 p)) :
    Calls Try.prog 50 #[.int .i64 c, .int .i64 m, .pointer (some ⟨b, 0, none⟩)] w fun e w' => e = .returned (.int .i64 (raiseC c p m)) ∧ w = w' := by
  have hy : 0 ≤ c * (100 + p) ∧ c * (100 + p) ≤ 20000000 := mul_bd (A := 100000) (B := 200) hc (by omega)
  have HR : Hid (raiseC c p m = min m ((c * (100 + p) + 99) / 100)) := rfl
  have h0 : IntKind.i64.wrap (100 + p) = 100 + p := IntWalk.i64_in _ (by omega)
  by_cases hmin : m ≤ (c * (100 + p) + 99) / 100
  · go_enter Try.func50, Try.ntmps50
    go_wp2
    go_ret
    exact ⟨ret_int (by rw [HR.out]; omega), rfl⟩
  · go_enter Try.func50, Try.ntmps50
    go_wp2
    go_ret
    exact ⟨ret_int (by rw [HR.out]; omega), rfl⟩
set_option maxRecDepth 100000 in
set_option maxHeartbeats 4000000 in
theorem impl_RaiseTariff (A : Option Addr) (c : Nat) (L : List TierD) (me mi mo : Int) (p : Int) (w : World) (hr : Rd w w.heap.size A (L.length * 2) (L.flatMap tierC)) (hl : L.length ≤ 140737488355328) : Calls Try.prog 16 #[.agg #[.slice A L.length c, .int .i64 me, .int .i64 mi, .int .i64 mo], .int .i64 p] w (RaiseP L me mi mo p w) := by
  obtain ⟨i0, hi, hz0, hz1, hz2⟩ := info_parts tier_info
  go_enter Try.func16, Try.ntmps16
  go_wp2_with fail
  generalize hW0 : ((w.alloc _).alloc _).alloc _ = W0
  have hbW0 : Below w.heap.size w W0 := by subst hW0; exact (((Below.refl _ _).alloc (Nat.le_refl _) _).alloc (by (try simp) <;> (try omega)) _).alloc (by (try simp) <;> (try omega)) _
  have hsW0 : W0.heap.size = w.heap.size + 3 := by subst hW0; simp
  have cxW0_0 : ∀ i, W0.cell? ⟨w.heap.size, i, none⟩ = (#[.slice A L.length c, .int .i64 me, .int .i64 mi, .int .i64 mo] : Array Value)[i]? := by intro i; subst hW0; simp [go_sem]
  have fzW0_0 : ∀ i, W0.frozen? ⟨w.heap.size, i, none⟩ = false := by intro i; subst hW0; simp [go_sem]
  have cxW0_1 : ∀ i, W0.cell? ⟨w.heap.size + 1, i, none⟩ = (#[.int .i64 p] : Array Value)[i]? := by intro i; subst hW0; simp [go_sem]
  have fzW0_1 : ∀ i, W0.frozen? ⟨w.heap.size + 1, i, none⟩ = false := by intro i; subst hW0; simp [go_sem]
  have cxW0_2 : ∀ i, W0.cell? ⟨w.heap.size + 1 + 1, i, none⟩ = (#[.slice none 0 0, .int .i64 0, .int .i64 0, .int .i64 0] : Array Value)[i]? := by intro i; subst hW0; simp [go_sem]
  have fzW0_2 : ∀ i, W0.frozen? ⟨w.heap.size + 1 + 1, i, none⟩ = false := by intro i; subst hW0; simp [go_sem]
  have HSW0 := Lib.hid hsW0; clear hW0 hsW0
  have hzw : w.heap.size + 3 ≤ W0.heap.size := by have := HSW0.out; omega
  clear HSW0 fzW0_0 fzW0_1
  cases hT : tarOk L me mi mo
  · refine (impl_IsTariff A c L me mi mo _ W0 (rdW hbW0 hr) hl hT).mono ?_
    rintro e w1 ⟨rfl, hb1⟩
    replace cxW0_2 := fun i => (hb1.cell (by (try simp only); omega)).trans (cxW0_2 i)
    replace fzW0_2 := fun i => (hb1.frozen (by (try simp only); omega)).trans (fzW0_2 i)
    go_wp2
    exact bodyPost_ret (v := .tuple #[.agg #[.slice none 0 0, .int .i64 0, .int .i64 0, .int .i64 0], .int .i64 1]) (by simp [results, Try.results16, go_sem, cxW0_2]) rfl (by
      rw [RaiseP, if_neg (by simp [hT])]
      refine ⟨by simp [hT], ?_⟩
      repeat (refine Below.setCell ?_ (by (try simp only); omega) _)
      exact bt hbW0 hb1)
  refine (impl_IsTariff A c L me mi mo _ W0 (rdW hbW0 hr) hl hT).mono ?_
  rintro e w1 ⟨rfl, hb1⟩
  have hzb1 := hb1.size
  have hL5 := tar_len hT
  have hB1 := bt hbW0 hb1
  replace cxW0_0 := fun i => (hb1.cell (by (try simp only); omega)).trans (cxW0_0 i)
  replace cxW0_1 := fun i => (hb1.cell (by (try simp only); omega)).trans (cxW0_1 i)
  replace cxW0_2 := fun i => (hb1.cell (by (try simp only); omega)).trans (cxW0_2 i)
  replace fzW0_2 := fun i => (hb1.frozen (by (try simp only); omega)).trans (fzW0_2 i)
  go_wp2_with fail
  cases hP : inB p 0 100
  · refine (within_b _ _ _ _ w1 hP).mono ?_
    rintro e w2 ⟨rfl, rfl⟩
    go_wp2
    exact bodyPost_ret (v := .tuple #[.agg #[.slice none 0 0, .int .i64 0, .int .i64 0, .int .i64 0], .int .i64 2]) (by simp [results, Try.results16, go_sem, cxW0_2]) rfl (by
      rw [RaiseP, if_neg (by simp [hP])]
      refine ⟨by simp [hT], ?_⟩
      repeat (refine Below.setCell ?_ (by (try simp only); omega) _)
      exact hB1)
  refine (within_b _ _ _ _ w1 hP).mono ?_
  rintro e w2 ⟨rfl, rfl⟩
  have hp := inB_iff.1 hP
  obtain ⟨k1, k2, k3⟩ := tar_bds hT
  have HK : Hid (∀ W1 : World, Below w1.heap.size w1 W1 → (∀ i, W1.cell? ⟨w.heap.size, i, none⟩ = (#[.slice A L.length c, .int .i64 me, .int .i64 mi, .int .i64 mo] : Array Value)[i]?) ∧ W1.cell? ⟨w.heap.size + 1, 0, none⟩ = some (.int .i64 p) ∧ Below w1.heap.size w1 W1) := Lib.hid (fun W1 h => ⟨fun i => (h.cell (p := ⟨w.heap.size, i, none⟩) (by (try simp only); omega)).trans (cxW0_0 i), (h.cell (p := ⟨w.heap.size + 1, 0, none⟩) (by (try simp only); omega)).trans (cxW0_1 0), h⟩)
  go_wp2_with fail
  go_region_held3 (fun W1 => (∀ i, W1.cell? ⟨w.heap.size, i, none⟩ = (#[.slice A L.length c, .int .i64 me, .int .i64 mi, .int .i64 mo] : Array Value)[i]?) ∧ W1.cell? ⟨w.heap.size + 1, 0, none⟩ = some (.int .i64 p) ∧ Below w1.heap.size w1 W1) (first | exact HK.out _ (Below.refl _ _).drew | exact HK.out _ ((Below.refl _ _).alloc (Nat.le_refl _) _).drew)
    ((go_at_call 50; go_split_ands; refine Calls.mono (raise_c _ p _ _ _ ?_ ?_ ?_ ?_) ?_; (any_goals (first | omega | assumption)); rintro e w2 ⟨rfl, rfl⟩))
  all_goals
    generalize hW2 : (w1.alloc (.cells #[.slice none 0 0, .int .i64 (raiseC me p 10000), .int .i64 (raiseC mi p 10000), .int .i64 (raiseC mo p 100000)] 35)).drew = W2
    have hb2 : Below w1.heap.size w1 W2 := by subst hW2; exact ((Below.refl _ _).alloc (Nat.le_refl _) _).drew
    have cx2 : ∀ i, W2.cell? ⟨w1.heap.size, i, none⟩ = (#[.slice none 0 0, .int .i64 (raiseC me p 10000), .int .i64 (raiseC mi p 10000), .int .i64 (raiseC mo p 100000)] : Array Value)[i]? := by intro i; subst hW2; simp [go_sem]
    have fz2 : ∀ i, W2.frozen? ⟨w1.heap.size, i, none⟩ = false := by intro i; subst hW2; simp [go_sem]
    have hzW2 : w1.heap.size + 1 ≤ W2.heap.size := by subst hW2; simp
    have cz0 := fun i => (hb2.cell (p := ⟨w.heap.size, i, none⟩) (by (try simp only); omega)).trans (cxW0_0 i)
    clear hW2 HK
    go_wp2
    go_loopw [35] (fun i wr => ∃ (k : Nat) (A' : Option Addr) (c' : Nat), k ≤ L.length ∧ i = .int .i64 k ∧ Below w1.heap.size w1 wr ∧ W2.heap.size ≤ wr.heap.size ∧ Hid (wr.ownsRow W2.heap.size 63 2 (.slice A' k c') k (((raiseL L p).take k).flatMap tierC)) ∧
      (∀ i, wr.cell? ⟨w1.heap.size, i, none⟩ = (#[.slice A' k c', .int .i64 (raiseC me p 10000), .int .i64 (raiseC mi p 10000), .int .i64 (raiseC mo p 100000)] : Array Value)[i]?) ∧ (∀ i, wr.frozen? ⟨w1.heap.size, i, none⟩ = false))
      (fun i _ => L.length - (intOf i).toNat)
    case atStart => exact ⟨0, none, 0, by omega, rfl, hb2, Nat.le_refl _, World.ownsRow_nil _ _ _ _, cx2, fz2⟩
    case round =>
      obtain ⟨k, A', c', hk, rfl, hB, hzr, HO, cx6, fz6⟩ := hrel
      clear cx2 fz2 cz0
      by_cases hlt : k < L.length
      · have HT := Lib.hid hT; have HP := Lib.hid hP
        have HC := Lib.hid (tar_cents hT L[k] (List.getElem_mem hlt))
        have HS := Lib.hid (raise_step p hlt)
        clear hT hP
        obtain ⟨bf, offf, rfl, hbf, hcf⟩ := Rd.elem tierC 2 (fun _ => rfl) (rdW (bt hB1 hB) hr) (by omega) hlt
        have f0 : wr.cell? ⟨bf, offf + k * 2, none⟩ = some (.int .i64 L[k].days) := hcf k hlt 0 _ rfl
        have f1 : wr.cell? ⟨bf, offf + k * 2 + 1, none⟩ = some (.int .i64 L[k].cents) := hcf k hlt 1 _ rfl
        clear hcf
        have hcents := HC.out
        generalize L[k].days = x0 at *
        generalize L[k].cents = x1 at *
        have hk0 : (0 : Int) ≤ (k : Int) := by omega
        have hkl : (k : Int) < (L.length : Int) := by omega
        go_wp2_with fail
        generalize hW3 : wr.alloc _ = W3
        have hbW3 : Below wr.heap.size wr W3 := by subst hW3; exact (Below.refl _ _).alloc (Nat.le_refl _) _
        have hsW3 : W3.heap.size = wr.heap.size + 1 := by subst hW3; simp
        have cxW3_0 : ∀ i, W3.cell? ⟨wr.heap.size, i, none⟩ = (#[.int .i64 x0, .int .i64 x1] : Array Value)[i]? := by intro i; subst hW3; simp [go_sem]
        have fzW3_0 : ∀ i, W3.frozen? ⟨wr.heap.size, i, none⟩ = false := by intro i; subst hW3; simp [go_sem]
        have HSW3 := Lib.hid hsW3; clear hW3 hsW3
        have hzW3 : wr.heap.size + 1 ≤ W3.heap.size := by have := HSW3.out; omega
        clear HSW3 fzW3_0 f0 f1
        have hB3 := hB.trans (hbW3.mono (show w1.heap.size ≤ wr.heap.size by omega))
        have HO3 := Lib.hid (own_below HO.out hbW3)
        have cx7 := fun i => (hbW3.cell (p := ⟨w1.heap.size, i, none⟩) (by (try simp only); omega)).trans (cx6 i)
        have fz7 := fun i => (hbW3.frozen (p := ⟨w1.heap.size, i, none⟩) (by (try simp only); omega)).trans (fz6 i)
        have cp : W3.cell? ⟨w.heap.size + 1, 0, none⟩ = some (.int .i64 p) := (hB3.cell (p := ⟨w.heap.size + 1, 0, none⟩) (by (try simp only); omega)).trans (cxW0_1 0)
        have HNE := Lib.hid (show some wr.heap.size ≠ (Value.slice A' k c').ownBlock from fun e => by have := HO.out.lt _ e.symm; omega)
        clear cx6 fz6 HO
        have HK : Hid (∀ W1 : World, W3.heap.size ≤ W1.heap.size → (∀ i, W1.cell? ⟨wr.heap.size, i, none⟩ = W3.cell? ⟨wr.heap.size, i, none⟩) → (∀ i, W1.cell? ⟨w.heap.size + 1, i, none⟩ = W3.cell? ⟨w.heap.size + 1, i, none⟩) → (∀ i, W1.cell? ⟨wr.heap.size, i, none⟩ = (#[.int .i64 x0, .int .i64 x1] : Array Value)[i]?) ∧ W1.cell? ⟨w.heap.size + 1, 0, none⟩ = some (.int .i64 p)) := Lib.hid (fun W1 _ h1 h2 => ⟨fun i => (h1 i).trans (cxW3_0 i), (h2 0).trans cp⟩)
        have ca : ∀ (o : Obj) (i : Nat), ((W3.alloc o).drew).cell? ⟨w1.heap.size, i, none⟩ = (#[.slice A' k c', .int .i64 (raiseC me p 10000), .int .i64 (raiseC mi p 10000), .int .i64 (raiseC mo p 100000)] : Array Value)[i]? := fun o i => (((Below.refl _ W3).alloc (Nat.le_refl _) o).cell (p := ⟨w1.heap.size, i, none⟩) (by (try simp only); omega)).trans (cx7 i)
        have fa : ∀ (o : Obj) (i : Nat), ((W3.alloc o).drew).frozen? ⟨w1.heap.size, i, none⟩ = false := fun o i => (((Below.refl _ W3).alloc (Nat.le_refl _) o).frozen (p := ⟨w1.heap.size, i, none⟩) (by (try simp only); omega)).trans (fz7 i)
        have hal : ∀ (o : Obj) (b : Nat), b < W3.heap.size → ∀ i, ((W3.alloc o).drew).cell? ⟨b, i, none⟩ = W3.cell? ⟨b, i, none⟩ := fun o b hb i => ((Below.refl _ W3).alloc (Nat.le_refl _) o).cell (p := ⟨b, i, none⟩) hb
        have HAL := Lib.hid hal; clear hal
        go_wp2_with fail
        rw [show Op.load 33 (Operand.tmp 39) = id (Op.load 33 (Operand.tmp 39)) from rfl]
        go_region_held3 (fun W1 => (∀ i, W1.cell? ⟨wr.heap.size, i, none⟩ = (#[.int .i64 x0, .int .i64 x1] : Array Value)[i]?) ∧ W1.cell? ⟨w.heap.size + 1, 0, none⟩ = some (.int .i64 p))
          (first | exact HK.out _ (Nat.le_refl _) (fun _ => rfl) (fun _ => rfl) | exact HK.out _ (by simp) (HAL.out _ _ (by omega)) (HAL.out _ _ (by omega)) | exact HS5 | exact ⟨box_other HS5.1 (by omega), (World.cell?_of_block (a := ⟨w.heap.size + 1, 0, none⟩) (Below.heap_setCell _ _ _ _ (by (try simp only); omega))).trans HS5.2⟩)
          ((first
            | (go_at_call 50; go_split_ands; refine Calls.mono (raise_c _ p _ _ _ ?_ ?_ ?_ ?_) ?_; (any_goals (first | omega | assumption)); rintro e w2 ⟨rfl, rfl⟩)
            | (refine step_cat ((W3.alloc (.cells #[.int .i64 x0, .int .i64 (raiseC x1 p 100000)] 63)).drew) (by rfl) (.tmp 40) (.tmp 48) 33 (by rfl) W2.heap.size 63 i0 _ 2 16 Try.underlying33 hi hz0 hz1 hz2 rfl (by omega) (.slice A' k c') k (((raiseL L p).take k).flatMap tierC) (by rfl) ((HO3.out.alloc _).drew) (some ⟨W3.heap.size, 0, none⟩) 1 1 _ [.int .i64 x0, .int .i64 (raiseC x1 p 100000)] (by rfl) (Rd.of_block (heap_alloc_new W3 _)) (by simp [Value.oneCell']) (by unfold maxLen; omega) (by omega) (by (try simp); omega) (k + 1) (by omega) ?_; intro A2 c2 w5 ho5 hg5; have HO5 := Lib.hid ho5; have HG5 := Lib.hid hg5;
               have hB5 : Below w1.heap.size W3 w5 := below_grown (((Below.refl _ W3).alloc (by omega) _).drew) hg5 (by omega) (fun k hk => by have := HO3.out.lt k hk; omega);
               have cx5 := fun i => (hg5.cell_far ⟨w1.heap.size, i, none⟩ (by simp <;> omega) (fun e => by have := HO3.out.lt _ e.symm; simp only at this; omega)).trans (ca _ i);
               have fx5 := fun i => (hg5.frozen_far ⟨w1.heap.size, i, none⟩ (by simp <;> omega) (fun e => by have := HO3.out.lt _ e.symm; simp only at this; omega)).trans (fa _ i);
               have HT5 := fun i => (hg5.cell_far ⟨wr.heap.size, i, none⟩ (by simp <;> omega) (HNE.out)).trans ((HAL.out _ _ (by omega) i).trans (cxW3_0 i));
               have HP5 := fun i => (hB5.cell (p := ⟨w.heap.size + 1, i, none⟩) (by (try simp only); omega)).trans (hB3.cell (p := ⟨w.heap.size + 1, i, none⟩) (by (try simp only); omega));
               have HS5 : (∀ i, w5.cell? ⟨wr.heap.size, i, none⟩ = (#[.int .i64 x0, .int .i64 x1] : Array Value)[i]?) ∧ w5.cell? ⟨w.heap.size + 1, 0, none⟩ = some (.int .i64 p) := ⟨HT5, (HP5 0).trans (cxW0_1 0)⟩)))
        all_goals
          go_wp2
          go_roundw
          case rel =>
            refine ⟨k + 1, A2, c2, by omega, by go_num, ?_, ?_, ?_, ?_, ?_⟩
            · exact (hB3.trans hB5).setCell (by (try simp only); omega) _
            · have := hg5.size; simp at this ⊢; omega
            · have h5 := HO5.out
              rw [HS.out] at h5
              exact own_setBelow h5 (by omega) _ _
            · intro i; exact (box_set cx5 (by simp) i).trans (by simp)
            · exact fz_set fx5 _ _
          case measure => simp [intOf]; omega
      · obtain rfl : k = L.length := by omega
        have hBw : Below w.heap.size w wr := bt hB1 (hB.mono (Nat.le_refl _))
        have cy1 := fun i => (hB.cell (p := ⟨w.heap.size + 2, i, none⟩) (by (try simp only); omega)).trans (cxW0_2 i)
        have fy1 := fun i => (hB.frozen (p := ⟨w.heap.size + 2, i, none⟩) (by (try simp only); omega)).trans (fzW0_2 i)
        go_wp2
        exact bodyPost_ret (v := .tuple #[.agg #[.slice A' L.length c', .int .i64 (raiseC me p 10000), .int .i64 (raiseC mi p 10000), .int .i64 (raiseC mo p 100000)], .int .i64 0]) (by simp [results, Try.results16, go_sem, cy1]) rfl (by
          rw [RaiseP, if_pos ⟨hT, hP⟩]
          refine ⟨A', c', rfl, ?_, ?_⟩
          · have h5 := HO.out
            rw [List.take_of_length_le (by rw [raise_len]; exact Nat.le_refl _)] at h5
            refine own_mono (base := W2.heap.size) ?_ (by omega)
            repeat (refine own_setBelow ?_ (by omega) _ _)
            exact h5
          · repeat (refine Below.setCell ?_ (by (try simp only); omega) _)
            exact hBw)
end Go.Proofs.Ythkobjadfeidmaa
