/- Contracts of the draws of motions: DrawWaitingFor, DrawNextStates, DrawDueOn. -/
import Derived.Test.YtdohegpbdlcnjaaDrawM3
namespace Go.Proofs.Ytdohegpbdlcnjaa
open Go.RowKit
set_option linter.unusedVariables false
attribute [local go_sem ↓] Go.wp_at_zero Go.wp_at_succ
theorem below_src {w w1 w2 : World} (h : Below w.heap.size w w1) (hg : w1.grownBy w2 (some w.heap.size)) : Below w.heap.size w w2 := below_grown h hg (Nat.le_refl _) (fun g h => by injection h with h; omega)
theorem l01Pick4 (B g : Nat) (a b c d : Int) (t : TypeId) (W : World) (hS : Src (W.alloc (.cells #[.int .i64 a, .int .i64 b, .int .i64 c, .int .i64 d] t)) B g) (hne : W.heap.size ≠ g) :
    Calls Try.prog 69 #[.pointer (some ⟨g, 0, none⟩), .slice (some ⟨W.heap.size, 0, none⟩) 4 4] (W.alloc (.cells #[.int .i64 a, .int .i64 b, .int .i64 c, .int .i64 d] t)) (PickP B g [a, b, c, d] (W.alloc (.cells #[.int .i64 a, .int .i64 b, .int .i64 c, .int .i64 d] t))) :=
  l01Pick_c B g W.heap.size 0 4 [a, b, c, d] _ hS hne (pick_box (fun i => by simp [go_sem])) (by simp) (by simp) (by simp)
theorem not_src {W : World} {b g : Nat} {t : TypeId} {s : Nat} {A : Option Addr} {n c : Nat} {xs : List Value} (h : W.ownsRow b t s (.slice A n c) n xs) (hg : g < b) : ∀ k off, A = some ⟨k, off, none⟩ → k ≠ g := by
  rintro k off rfl rfl
  have := (h.lt k rfl).1
  omega
set_option maxRecDepth 100000 in
set_option maxHeartbeats 4000000 in
theorem DrawWaitingFor_c (A : Option Addr) (c : Nat) (L : List Int) (w : World) (hr : Rd w w.heap.size A L.length (L.map (Value.int .u8))) (hx : ∀ x ∈ L, 0 ≤ x ∧ x ≤ 255) (hL : L.length ≤ 4096) (hc : L.length ≤ c) : Calls Try.prog 8 #[.slice A L.length c] w fun e w' => ∃ (A2 : Option Addr) (c2 : Nat) (M : List MotionD) (n : Int), e = .returned (.tuple #[.slice A2 M.length c2, .int .i64 n]) ∧ (w'.ownsRow w.heap.size 46 6 (.slice A2 M.length c2) M.length (M.flatMap motionC) ∧ M.length ≤ 13 ∧ (∀ x ∈ M, MotionW x)) ∧ (Lit.int .i64 n).wf = true ∧ Below w.heap.size w w' := by
  go_enter Try.func8, Try.ntmps8
  go_wp2_with fail
  refine (l01From_c A c L w hr hx hL hc).mono ?_
  rintro e w1 ⟨rfl, hS, hb1⟩
  have HS1 := Lib.hid hS
  have hlt1 := hS.lt
  clear hr hx hS
  go_wp2_with fail
  refine (l30List_c _ _ w1 HS1.out).mono ?_
  rintro e w2 ⟨A2, c2, M, rfl, ho, hl, hW, hq, hg⟩
  have HO := Lib.hid ho; have HQ := Lib.hid hq; have HG := Lib.hid hg; have HW := Lib.hid hW
  have hcap := own_cap ho
  have hz2 := hg.size
  clear ho hq hg hW
  go_wp2_with fail
  refine (l30Number_c _ _ A2 c2 M w2 HQ.out (Rd.of_own HO.out) (by omega) hcap.1 HW.out (not_src HO.out hlt1)).mono ?_
  rintro e w3 ⟨n, rfl, hwf, hq3, hg3⟩
  go_wp2
  go_ret2
  exact ⟨A2, c2, M, n, rfl, ⟨own_mono (HO.out.kept hg3 (.inr (fun e => by have := HO.out.lt _ e; omega))) hb1.size, hl, HW.out⟩, hwf, below_src hb1 (grown_trans' HG.out hg3)⟩
set_option maxRecDepth 100000 in
set_option maxHeartbeats 4000000 in
theorem DrawNextStates_c (A : Option Addr) (c : Nat) (L : List Int) (w : World) (hr : Rd w w.heap.size A L.length (L.map (Value.int .u8))) (hx : ∀ x ∈ L, 0 ≤ x ∧ x ≤ 255) (hL : L.length ≤ 4096) (hc : L.length ≤ c) : Calls Try.prog 21 #[.slice A L.length c] w fun e w' => ∃ (A2 : Option Addr) (c2 : Nat) (M : List MotionD) (n day : Int), e = .returned (.tuple #[.slice A2 M.length c2, .int .i64 n, .int .i64 day]) ∧ (w'.ownsRow w.heap.size 46 6 (.slice A2 M.length c2) M.length (M.flatMap motionC) ∧ M.length ≤ 13 ∧ (∀ x ∈ M, MotionW x)) ∧ (Lit.int .i64 n).wf = true ∧ Below w.heap.size w w' := by
  go_enter Try.func21, Try.ntmps21
  go_wp2_with fail
  refine (l01From_c A c L w hr hx hL hc).mono ?_
  rintro e w1 ⟨rfl, hS, hb1⟩
  have HS1 := Lib.hid hS
  have hlt1 := hS.lt
  have HB1 := Lib.hid hb1
  have hbs := hb1.size
  clear hr hx hS hb1
  go_wp2_with fail
  refine (l30List_c _ _ w1 HS1.out).mono ?_
  rintro e w2 ⟨A2, c2, M, rfl, ho, hl, hW, hq, hg⟩
  have HO := Lib.hid ho; have HQw2 := Lib.hid hq; have HGw2 := Lib.hid hg; have HW := Lib.hid hW
  have hcap := own_cap ho
  have hz2 := hg.size
  clear ho hq hg hW
  go_wp2_with fail
  refine (l30Number_c _ _ A2 c2 M w2 HQw2.out (Rd.of_own HO.out) (by omega) hcap.1 HW.out (not_src HO.out hlt1)).mono ?_
  rintro e w3 ⟨n, rfl, hwf, hq3, hg3⟩
  have HO3 := Lib.hid (HO.out.kept hg3 (.inr (fun e => by have := HO.out.lt _ e; omega)))
  have HQw3 := Lib.hid hq3; have HGw3 := Lib.hid (grown_trans' HGw2.out hg3); have hz3 := hg3.size; have HWF := Lib.hid hwf
  clear HO HQw2 HGw2 hq3 hg3 hwf
  go_wp2_with fail
  refine (l30Find_c A2 M.length c2 M n w3 rfl (Rd.of_own HO3.out) (by omega)).mono ?_
  rintro e w4 ⟨rfl, rfl⟩
  by_cases h0 : findM n M 0 < 0
  · have h0' : ¬ (0 ≤ findM n M 0) := by omega
    generalize findM n M 0 = z at *
    go_wp2_with fail
    generalize hW4 : w3.alloc _ = W4
    have hbW4 : Below w3.heap.size w3 W4 := by subst hW4; exact (Below.refl _ _).alloc (Nat.le_refl _) _
    have hsW4 : W4.heap.size = w3.heap.size + 1 := by subst hW4; simp
    have cxW4_0 : ∀ i, W4.cell? ⟨w3.heap.size, i, none⟩ = (#[.int .i64 120, .int .i64 20000, .int .i64 20001] : Array Value)[i]? := by intro i; subst hW4; simp [go_sem]
    have fzW4_0 : ∀ i, W4.frozen? ⟨w3.heap.size, i, none⟩ = false := by intro i; subst hW4; simp [go_sem]
    have HSW4 := Lib.hid hsW4; clear hW4 hsW4
    have HQW4 := Lib.hid (HQw3.out.below hbW4); have HGW4 := Lib.hid (grown_trans' HGw3.out (grown_of_below hbW4 _)); have hzW4 : W4.heap.size = w3.heap.size + 1 := HSW4.out
    clear HSW4
    have HO4 := Lib.hid (own_below HO3.out hbW4)
    refine (l01Pick_c w.heap.size w.heap.size (w3.heap.size) 0 _ [120, 20000, 20001] W4 HQW4.out (by omega) (pick_box (L := [120, 20000, 20001]) (fun i => by exact cxW4_0 i)) (by simp) (by simp) (by simp)).mono ?_
    rintro e w5 ⟨p, rfl, hpm, hqw5, hgw5⟩
    have HQw5 := Lib.hid hqw5; have HGw5 := Lib.hid (grown_trans' HGW4.out hgw5); have hzw5 := hgw5.size; have Hpm := Lib.hid hpm
    clear hqw5 hpm
    have HO5 := Lib.hid (HO4.out.kept hgw5 (.inr (fun e => by have := HO4.out.lt _ e; omega)))
    go_wp2
    go_ret3
    exact ⟨A2, c2, M, n, p, rfl, ⟨own_mono HO5.out HB1.out.size, hl, HW.out⟩, HWF.out, below_src HB1.out HGw5.out⟩
  · obtain ⟨j, hj, hjl⟩ := findM_idx h0
    have hj0 : (0 : Int) ≤ (j : Int) := by omega
    have hjL : (j : Int) < (M.length : Int) := by omega
    rw [hj]
    clear h0 hj
    go_wp2_with fail
    refine (l01Next_c w.heap.size w.heap.size 8 w3 HQw3.out (by omega)).mono ?_
    rintro e w4 ⟨a, rfl, ⟨ha0, ha1⟩, hqw4, hgw4⟩
    have HQw4 := Lib.hid hqw4; have HGw4 := Lib.hid (grown_trans' HGw3.out hgw4); have hzw4 := hgw4.size
    clear hqw4
    have HO4 := Lib.hid (HO3.out.kept hgw4 (.inr (fun e => by have := HO3.out.lt _ e; omega)))
    by_cases ha : 0 < a
    · obtain ⟨bf, offf, rfl, hbf, hcf⟩ := Rd.elem motionC 6 (fun _ => rfl) (Rd.of_own HO4.out) (by omega) hjl
      have f0 : w4.cell? ⟨bf, offf + j * 6, none⟩ = some (.int .i64 M[j].number) := hcf j hjl 0 _ rfl
      have f1 : w4.cell? ⟨bf, offf + j * 6 + 1, none⟩ = some (.string M[j].party) := hcf j hjl 1 _ rfl
      have f2 : w4.cell? ⟨bf, offf + j * 6 + 2, none⟩ = some (.int .i64 M[j].filed) := hcf j hjl 2 _ rfl
      have f3 : w4.cell? ⟨bf, offf + j * 6 + 3, none⟩ = some (.int .i64 M[j].changed) := hcf j hjl 3 _ rfl
      have f4 : w4.cell? ⟨bf, offf + j * 6 + 4, none⟩ = some (.int .i64 M[j].state) := hcf j hjl 4 _ rfl
      have f5 : w4.cell? ⟨bf, offf + j * 6 + 5, none⟩ = some (.int .i64 M[j].after) := hcf j hjl 5 _ rfl
      have CEL : Hid (∀ W1 : World, W1.ownsRow w1.heap.size 46 6 (.slice (some ⟨bf, offf, none⟩) M.length c2) M.length (M.flatMap motionC) → W1.cell? ⟨bf, offf + j * 6 + 2, none⟩ = some (.int .i64 M[j].filed) ∧ W1.cell? ⟨bf, offf + j * 6 + 3, none⟩ = some (.int .i64 M[j].changed)) := fun W1 h => by
        obtain ⟨hbq, hcq⟩ := Rd.elemS motionC 6 (fun _ => rfl) (Rd.of_own h) (by omega) hjl
        have q0 : W1.cell? ⟨bf, offf + j * 6, none⟩ = some (.int .i64 M[j].number) := hcq j hjl 0 _ rfl
        have q1 : W1.cell? ⟨bf, offf + j * 6 + 1, none⟩ = some (.string M[j].party) := hcq j hjl 1 _ rfl
        have q2 : W1.cell? ⟨bf, offf + j * 6 + 2, none⟩ = some (.int .i64 M[j].filed) := hcq j hjl 2 _ rfl
        have q3 : W1.cell? ⟨bf, offf + j * 6 + 3, none⟩ = some (.int .i64 M[j].changed) := hcq j hjl 3 _ rfl
        have q4 : W1.cell? ⟨bf, offf + j * 6 + 4, none⟩ = some (.int .i64 M[j].state) := hcq j hjl 4 _ rfl
        have q5 : W1.cell? ⟨bf, offf + j * 6 + 5, none⟩ = some (.int .i64 M[j].after) := hcq j hjl 5 _ rfl
        exact ⟨q2, q3⟩
      clear hcf f0 f1 f2 f3 f4 f5
      generalize M[j].filed = x2 at *
      generalize M[j].changed = x3 at *
      go_wp2_with fail
      have hgn : w4.heap.size ≠ w.heap.size := by omega
      have HS0 : Hid (Src w4.drew w.heap.size w.heap.size ∧ w4.grownBy w4.drew (some w.heap.size) ∧ w4.drew.ownsRow w1.heap.size 46 6 (.slice (some ⟨bf, offf, none⟩) M.length c2) M.length (M.flatMap motionC) ∧ w4.drew.cell? ⟨bf, offf + j * 6 + 2, none⟩ = some (.int .i64 x2) ∧ w4.drew.cell? ⟨bf, offf + j * 6 + 3, none⟩ = some (.int .i64 x3)) := ⟨HQw4.out, ⟨rfl, rfl, rfl, Nat.le_refl _, fun _ _ _ => rfl⟩, HO4.out, CEL.out _ HO4.out⟩
      have KAL : Hid (∀ (W1 : World) (o : Obj), (Src W1 w.heap.size w.heap.size ∧ w4.grownBy W1 (some w.heap.size) ∧ W1.ownsRow w1.heap.size 46 6 (.slice (some ⟨bf, offf, none⟩) M.length c2) M.length (M.flatMap motionC) ∧ W1.cell? ⟨bf, offf + j * 6 + 2, none⟩ = some (.int .i64 x2) ∧ W1.cell? ⟨bf, offf + j * 6 + 3, none⟩ = some (.int .i64 x3)) → (Src (W1.alloc o) w.heap.size w.heap.size ∧ w4.grownBy (W1.alloc o) (some w.heap.size) ∧ (W1.alloc o).ownsRow w1.heap.size 46 6 (.slice (some ⟨bf, offf, none⟩) M.length c2) M.length (M.flatMap motionC) ∧ (W1.alloc o).cell? ⟨bf, offf + j * 6 + 2, none⟩ = some (.int .i64 x2) ∧ (W1.alloc o).cell? ⟨bf, offf + j * 6 + 3, none⟩ = some (.int .i64 x3))) := fun W1 o h => ⟨h.1.below ((Below.refl _ _).alloc (Nat.le_refl _) _), grown_trans' h.2.1 (grown_of_below ((Below.refl _ _).alloc (Nat.le_refl _) _) _), h.2.2.1.alloc _, CEL.out _ (h.2.2.1.alloc _)⟩
      have KNX : Hid (∀ (W1 W3 : World), W1.grownBy W3 (some w.heap.size) → Src W3 w.heap.size w.heap.size → Src W1 w.heap.size w.heap.size → w4.grownBy W1 (some w.heap.size) → W1.ownsRow w1.heap.size 46 6 (.slice (some ⟨bf, offf, none⟩) M.length c2) M.length (M.flatMap motionC) → (Src W3 w.heap.size w.heap.size ∧ w4.grownBy W3 (some w.heap.size) ∧ W3.ownsRow w1.heap.size 46 6 (.slice (some ⟨bf, offf, none⟩) M.length c2) M.length (M.flatMap motionC) ∧ W3.cell? ⟨bf, offf + j * 6 + 2, none⟩ = some (.int .i64 x2) ∧ W3.cell? ⟨bf, offf + j * 6 + 3, none⟩ = some (.int .i64 x3))) := fun W1 W3 hg hq _ h2 h3 => ⟨hq, grown_trans' h2 hg, h3.kept hg (.inr (fun e => by have := h3.lt _ e; omega)), CEL.out _ (h3.kept hg (.inr (fun e => by have := h3.lt _ e; omega)))⟩
      go_region_held3 (fun W1 => Src W1 w.heap.size w.heap.size ∧ w4.grownBy W1 (some w.heap.size) ∧ W1.ownsRow w1.heap.size 46 6 (.slice (some ⟨bf, offf, none⟩) M.length c2) M.length (M.flatMap motionC) ∧ W1.cell? ⟨bf, offf + j * 6 + 2, none⟩ = some (.int .i64 x2) ∧ W1.cell? ⟨bf, offf + j * 6 + 3, none⟩ = some (.int .i64 x3))
        (first | exact HS0.out | exact KAL.out _ _ (by assumption) | exact KNX.out _ _ (by assumption) (by assumption) (by assumption) (by assumption) (by assumption) | assumption)
        ((first
          | (go_at_call 68; go_split_ands; refine Calls.mono (l01Next_c w.heap.size w.heap.size _ _ ?_ ?_) ?_; (any_goals (first | assumption | omega)); rintro e w6 ⟨k6, rfl, ⟨hk60, hk61⟩, hq6, hg6⟩; have hzg6 := hg6.size; have hle6 : w4.heap.size ≤ w6.heap.size := (by have h := hg6.size; simp at h; omega))
          | (go_at_call 69; go_split_ands; refine Calls.mono (l01Pick4 w.heap.size w.heap.size _ _ _ _ _ _ (by assumption) (by omega)) ?_; rintro e w8 ⟨p, rfl, hpm, hq8, hg8⟩)))
      all_goals
        have hSS : Src w8 w.heap.size w.heap.size ∧ w4.grownBy w8 (some w.heap.size) ∧ w8.ownsRow w1.heap.size 46 6 (.slice (some ⟨bf, offf, none⟩) M.length c2) M.length (M.flatMap motionC) ∧ w8.cell? ⟨bf, offf + j * 6 + 2, none⟩ = some (.int .i64 x2) ∧ w8.cell? ⟨bf, offf + j * 6 + 3, none⟩ = some (.int .i64 x3) := by assumption
        have HSS := Lib.hid hSS; clear hSS
        go_wp2
        go_ret3
        exact ⟨some ⟨bf, offf, none⟩, c2, M, n, p, rfl, ⟨own_mono HSS.out.2.2.1 HB1.out.size, hl, HW.out⟩, HWF.out, below_src HB1.out (grown_trans' HGw4.out HSS.out.2.1)⟩
    · go_wp2_with fail
      generalize hW5 : w4.alloc _ = W5
      have hbW5 : Below w4.heap.size w4 W5 := by subst hW5; exact (Below.refl _ _).alloc (Nat.le_refl _) _
      have hsW5 : W5.heap.size = w4.heap.size + 1 := by subst hW5; simp
      have cxW5_0 : ∀ i, W5.cell? ⟨w4.heap.size, i, none⟩ = (#[.int .i64 120, .int .i64 20000, .int .i64 20001] : Array Value)[i]? := by intro i; subst hW5; simp [go_sem]
      have fzW5_0 : ∀ i, W5.frozen? ⟨w4.heap.size, i, none⟩ = false := by intro i; subst hW5; simp [go_sem]
      have HSW5 := Lib.hid hsW5; clear hW5 hsW5
      have HQW5 := Lib.hid (HQw4.out.below hbW5); have HGW5 := Lib.hid (grown_trans' HGw4.out (grown_of_below hbW5 _)); have hzW5 : W5.heap.size = w4.heap.size + 1 := HSW5.out
      clear HSW5
      have HO5 := Lib.hid (own_below HO4.out hbW5)
      refine (l01Pick_c w.heap.size w.heap.size (w4.heap.size) 0 _ [120, 20000, 20001] W5 HQW5.out (by omega) (pick_box (L := [120, 20000, 20001]) (fun i => by exact cxW5_0 i)) (by simp) (by simp) (by simp)).mono ?_
      rintro e w6 ⟨p, rfl, hpm, hqw6, hgw6⟩
      have HQw6 := Lib.hid hqw6; have HGw6 := Lib.hid (grown_trans' HGW5.out hgw6); have hzw6 := hgw6.size; have Hpm := Lib.hid hpm
      clear hqw6 hpm
      have HO6 := Lib.hid (HO5.out.kept hgw6 (.inr (fun e => by have := HO5.out.lt _ e; omega)))
      go_wp2
      go_ret3
      exact ⟨A2, c2, M, n, p, rfl, ⟨own_mono HO6.out HB1.out.size, hl, HW.out⟩, HWF.out, below_src HB1.out HGw6.out⟩
set_option maxRecDepth 100000 in
set_option maxHeartbeats 4000000 in
theorem DrawDueOn_c (A : Option Addr) (c : Nat) (L : List Int) (w : World) (hr : Rd w w.heap.size A L.length (L.map (Value.int .u8))) (hx : ∀ x ∈ L, 0 ≤ x ∧ x ≤ 255) (hL : L.length ≤ 4096) (hc : L.length ≤ c) : Calls Try.prog 15 #[.slice A L.length c] w fun e w' => ∃ (A2 : Option Addr) (c2 : Nat) (M : List MotionD) (day : Int), e = .returned (.tuple #[.slice A2 M.length c2, .int .i64 day]) ∧ (w'.ownsRow w.heap.size 46 6 (.slice A2 M.length c2) M.length (M.flatMap motionC) ∧ M.length ≤ 13 ∧ (∀ x ∈ M, MotionW x)) ∧ Below w.heap.size w w' := by
  go_enter Try.func15, Try.ntmps15
  go_wp2_with fail
  refine (DrawNextStates_c A c L w hr hx hL hc).mono ?_
  rintro e w1 ⟨A2, c2, M, n, day, rfl, ⟨ho, hl, hW⟩, hwf, hb⟩
  go_wp2
  go_ret2
  exact ⟨A2, c2, M, day, rfl, ⟨ho, hl, hW⟩, hb⟩
end Go.Proofs.Ytdohegpbdlcnjaa
