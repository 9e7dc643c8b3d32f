/- Contracts of the draws of calls: l10Good, l10List. -/
import Derived.Test.YtiamignopfhkfaaGreatDoorZSrc2
import Derived.Test.YtiamignopfhkfaaGreatDoorZ6
import Derived.Deep.RegionLaw
import Derived.Deep.DrawnRows
import Derived.Deep.RegionWith
namespace Go.Proofs.YtiamignopfhkfaaGreatDoor
open Go.RowKit
set_option linter.unusedVariables false
attribute [local go_sem ↓] Go.wp_at_zero Go.wp_at_succ
def CalG (n : Nat) (B g : Nat) (w : World) (e : Ending) (w' : World) : Prop := ∃ (A : Option Addr) (c : Nat) (L : List CallD), e = .returned (.slice A L.length c) ∧ w'.ownsRow w.heap.size 68 4 (.slice A L.length c) L.length (L.flatMap callC) ∧ L.length ≤ n ∧ (∀ x ∈ L, 0 ≤ x.day ∧ x.day ≤ 1000) ∧ Src w' B g ∧ w.grownBy w' (some g)
theorem own_snocC {W : World} {b : Nat} {A : Option Addr} {c : Nat} {D : List CallD} {y : CallD} (h : W.ownsRow b 68 4 (.slice A (D.length + 1) c) (D.length + 1) (D.flatMap callC ++ callC y)) : W.ownsRow b 68 4 (.slice A (D ++ [y]).length c) (D ++ [y]).length ((D ++ [y]).flatMap callC) := by
  rw [List.length_append, List.flatMap_append, show [y].flatMap callC = callC y from by simp]; exact h
def DayB (D : List CallD) : Prop := ∀ x ∈ D, 0 ≤ x.day ∧ x.day ≤ 1000
theorem dayB_snoc {D : List CallD} (h : DayB D) {y : CallD} (hy : 0 ≤ y.day ∧ y.day ≤ 1000) : DayB (D ++ [y]) := fun x hx => by
  rcases List.mem_append.1 hx with h2 | h2
  · exact h x h2
  · rw [List.mem_singleton.1 h2]; exact hy
def lenC : Value → Nat
  | .slice _ n _ => n
  | _ => 0
/-- Block b holds a call. -/
def KD (W : World) (b : Nat) (v0 v1 v2 v3 : Value) : Prop := W.heap[b]? = some (.cells #[v0, v1, v2, v3] 68 (0, 0))
section
variable {W W' : World} {b : Nat} {v0 v1 v2 v3 : Value}
theorem KD.lt (h : KD W b v0 v1 v2 v3) : b < W.heap.size := (Array.getElem?_eq_some_iff.1 h).1
theorem KD.cell (h : KD W b v0 v1 v2 v3) (i : Nat) : W.cell? ⟨b, i, none⟩ = (#[v0, v1, v2, v3] : Array Value)[i]? := by unfold KD at h; simp [World.cell?, h]
theorem KD.c0 (h : KD W b v0 v1 v2 v3) : W.cell? ⟨b, 0, none⟩ = some v0 := h.cell 0
theorem KD.c1 (h : KD W b v0 v1 v2 v3) : W.cell? ⟨b, 1, none⟩ = some v1 := h.cell 1
theorem KD.c2 (h : KD W b v0 v1 v2 v3) : W.cell? ⟨b, 2, none⟩ = some v2 := h.cell 2
theorem KD.c3 (h : KD W b v0 v1 v2 v3) : W.cell? ⟨b, 3, none⟩ = some v3 := h.cell 3
theorem KD.frozen (h : KD W b v0 v1 v2 v3) (i : Nat) : W.frozen? ⟨b, i, none⟩ = false := by unfold KD at h; simp [World.frozen?, h]
theorem KD.drew (h : KD W b v0 v1 v2 v3) : KD W.drew b v0 v1 v2 v3 := h
theorem KD.far {row : Option Nat} (h : KD W b v0 v1 v2 v3) (hg : W.grownBy W' row) (hne : some b ≠ row) : KD W' b v0 v1 v2 v3 := (hg.block b h.lt hne).trans h
theorem KD.set2 (h : KD W b v0 v1 v2 v3) (x : Value) : KD (W.setCell ⟨b, 2, none⟩ x) b v0 v1 x v3 := by unfold KD at h ⊢; simp [World.setCell, Array.getElem?_modify, h]
theorem KD.set3 (h : KD W b v0 v1 v2 v3) (x : Value) : KD (W.setCell ⟨b, 3, none⟩ x) b v0 v1 v2 x := by unfold KD at h ⊢; simp [World.setCell, Array.getElem?_modify, h]
theorem KD.new (W : World) (v0 v1 v2 v3 : Value) : KD (W.alloc (.cells #[v0, v1, v2, v3] 68)) W.heap.size v0 v1 v2 v3 := heap_alloc_new W _
end

set_option maxRecDepth 100000 in
set_option maxHeartbeats 8000000 in
theorem l10Good_c (B g : Nat) (w : World) (hS : Src w B g) : Calls Tryz.prog 74 #[.pointer (some ⟨g, 0, none⟩)] w (CalG 6 B g w) := by
  obtain ⟨i0, hi, hz0, hz1, hz2⟩ := info_parts call_info
  have hgB := hS.ge; have hgl := hS.lt
  have HQw := Lib.hid hS; have HGw := Lib.hid (World.grownBy.refl w (some g)); clear hS
  go_enter Tryz.func74, Tryz.ntmps74
  go_wp2_with fail
  have ho := World.ownsRow_lit (base := w.heap.size) (e := 68) (size := 4) w #[] 0 (Nat.le_refl _) (by unfold maxLen; omega) rfl
  generalize hW2 : w.alloc (.cells #[] 68) = W2 at ho ⊢
  have hb2 : Below w.heap.size w W2 := by subst hW2; exact (Below.refl _ _).alloc (Nat.le_refl _) _
  have hzW2 := hb2.size
  have HQW2 := Lib.hid (HQw.out.below hb2); have HGW2 := Lib.hid (grown_trans' HGw.out (grown_of_below hb2 _))
  clear hW2
  refine (l01Next_c B g (5) W2 HQW2.out (by omega)).mono ?_
  rintro e w3 ⟨x, rfl, ⟨hx0, hx1⟩, hqw3, hgw3⟩
  have HQw3 := Lib.hid hqw3; have HGw3 := Lib.hid (grown_trans' HGW2.out hgw3); have hzw3 := hgw3.size
  clear hqw3
  have HO3 := Lib.hid (ho.kept hgw3 (.inr (by simp [Value.ownBlock]; omega)))
  clear ho
  go_wp2_with fail
  refine (l01Next_c B g (7) w3 HQw3.out (by omega)).mono ?_
  rintro e w4 ⟨n, rfl, ⟨hn0, hn1⟩, hqw4, hgw4⟩
  have HQw4 := Lib.hid hqw4; have HGw4 := Lib.hid (grown_trans' HGw3.out hgw4); have hzw4 := hgw4.size
  clear hqw4
  have HO := Lib.hid (HO3.out.kept hgw4 (.inr (fun e => by have := HO3.out.lt _ e; omega)))
  obtain ⟨n, rfl⟩ := Int.eq_ofNat_of_zero_le hn0
  have HDN : Hid (DayB []) := fun x hx => by cases hx
  go_wp2
  go_loopw [3, 4, 5] (fun ov xv nv wr => ∃ (A : Option Addr) (c : Nat) (D : List CallD) (y : Int) (j : Nat), nv = .int .i64 j ∧ xv = .int .i64 y ∧ ov = .slice A D.length c ∧ j + D.length ≤ 6 ∧ (1 ≤ y ∧ y + 5 * (j : Int) ≤ 60) ∧ Hid (DayB D) ∧ w.heap.size ≤ wr.heap.size ∧ Hid (wr.ownsRow w.heap.size 68 4 (.slice A D.length c) D.length (D.flatMap callC)) ∧ Hid (Src wr B g) ∧ Hid (w.grownBy wr (some g)))
    (fun _ _ nv _ => (intOf nv).toNat)
  case atStart => exact ⟨_, _, [], 1 + x, n, rfl, by go_num, rfl, by simp; omega, by omega, HDN, by omega, HO, HQw4, HGw4⟩
  case round =>
    obtain ⟨A, c, D, y, j, rfl, rfl, rfl, hj, hy, HD, hzr, HOr, HQwr, HGwr⟩ := hrel
    clear HO HO3 HDN
    by_cases hj0 : 0 < j
    · have hji : (0 : Int) < (j : Int) := by omega
      go_wp2_with fail
      refine (l01Next_c B g (12) wr HQwr.out (by omega)).mono ?_
      rintro e w5 ⟨f, rfl, ⟨hf0, hf1⟩, hqw5, hgw5⟩
      have HQw5 := Lib.hid hqw5; have HGw5 := Lib.hid (grown_trans' HGwr.out hgw5); have hzw5 := hgw5.size
      clear hqw5
      have HO5 := Lib.hid (HOr.out.kept hgw5 (.inr (fun e => by have := HOr.out.lt _ e; omega)))
      have HLT5 := Lib.hid HO5.out.lt
      go_wp2_with fail
      have KB := Lib.hid (KD.new w5 (.int .i64 y) (.int .i64 (120 + f)) (.int .i64 (120 + f)) (.int .i64 0))
      have hbW6 : Below w5.heap.size w5 (w5.alloc (.cells #[.int .i64 y, .int .i64 (120 + f), .int .i64 (120 + f), .int .i64 0] 68)) := (Below.refl _ _).alloc (Nat.le_refl _) _
      generalize w5.alloc (.cells #[.int .i64 y, .int .i64 (120 + f), .int .i64 (120 + f), .int .i64 0] 68) = W6 at *
      have HQW6 := Lib.hid (HQw5.out.below hbW6); have HGW6 := Lib.hid (grown_trans' HGw5.out (grown_of_below hbW6 _))
      have HO6 := Lib.hid (own_below HO5.out hbW6)
      have hz6 := KB.out.lt
      have hg5 := HQw5.out.lt
      refine (l01Next_c B g (2) W6 HQW6.out (by omega)).mono ?_
      rintro e w7 ⟨q, rfl, ⟨hq0, hq1⟩, hqw7, hgw7⟩
      have HQw7 := Lib.hid hqw7; have HGw7 := Lib.hid (grown_trans' HGW6.out hgw7); have hzw7 := hgw7.size
      clear hqw7
      have HO7 := Lib.hid (HO6.out.kept hgw7 (.inr (fun e => by have := HO6.out.lt _ e; omega)))
      replace KB := Lib.hid (KB.out.far hgw7 (fun e => by injection e with e; omega))
      by_cases hq : q = 0
      · subst hq
        go_wp2_with fail
        refine (l01Next_c B g (2) w7 HQw7.out (by omega)).mono ?_
        rintro e w8 ⟨r, rfl, ⟨hr0, hr1⟩, hqw8, hgw8⟩
        have HQw8 := Lib.hid hqw8; have HGw8 := Lib.hid (grown_trans' HGw7.out hgw8); have hzw8 := hgw8.size
        clear hqw8
        have HO8 := Lib.hid (HO7.out.kept hgw8 (.inr (fun e => by have := HO7.out.lt _ e; omega)))
        replace KB := Lib.hid (KB.out.far hgw8 (fun e => by injection e with e; omega))
        have g3 := KB.out.c3
        have zf := KB.out.frozen
        have hB5 : B ≤ w5.heap.size := by omega
        have hne5 : w5.heap.size ≠ g := by omega
        have hgr5 : w.heap.size ≤ w5.heap.size := by omega
        go_wp2_with fail
        have KC := Lib.hid (KB.out.set3 (.int .i64 (1 + r)))
        have HOC := Lib.hid (own_set HO8.out (fun k hk => by have := (HLT5.out k hk).2; omega) (b := w5.heap.size) 3 (.int .i64 (1 + r)))
        have HQC := Lib.hid (HQw8.out.setOther hB5 hne5 3 (.int .i64 (1 + r)))
        have HGC := Lib.hid (grown_own HGw8.out hgr5 3 (.int .i64 (1 + r)))
        generalize w8.setCell ⟨w5.heap.size, 3, none⟩ (.int .i64 (1 + r)) = W9 at *
        clear g3 zf KB HO8 HQw8 HGw8 HO7 HO6
        have hz9a := KC.out.lt
        have hg9a := HQC.out.lt
        have g1 := KC.out.c1
        have HKF : Hid (∀ W' : World, W9.drew.grownBy W' (some g) → KD W' w5.heap.size (.int .i64 y) (.int .i64 (120 + f)) (.int .i64 (120 + f)) (.int .i64 (1 + r)) ∧ W'.ownsRow w.heap.size 68 4 (.slice A D.length c) D.length (D.flatMap callC) ∧ w.grownBy W' (some g)) := fun W' hg => ⟨KC.out.drew.far hg (fun e => by injection e with e; omega), World.ownsRow.kept (w := W9.drew) HOC.out hg (.inr (fun e => by have := HOC.out.lt _ e; omega)), grown_trans' (show w.grownBy W9.drew (some g) from ⟨HGC.out.os, HGC.out.tape, HGC.out.output, HGC.out.size, HGC.out.block⟩) hg⟩
        go_region_with (first | (go_at_call 37; refine (l01Next_c B g 100 W9.drew HQC.out (by omega)).mono ?_; rintro e w10 ⟨d2, rfl, ⟨hd0, hd1⟩, hq10, hg10⟩; obtain ⟨k10, o10, n10⟩ := HKF.out w10 hg10; have f1 := k10.c1; have f2 := k10.c2; have zf := k10.frozen))
        all_goals
          have hw1 : IntKind.i64.wrap (120 + f + 1) = 120 + f + 1 := IntWalk.i64_in _ (by omega)
          have hw2 : IntKind.i64.wrap (120 + f + 1 + d2) = 120 + f + 1 + d2 := IntWalk.i64_in _ (by omega)
          rw [hw1, hw2]
          have HKB := Lib.hid (k10.set2 (.int .i64 (120 + f + 1 + d2)))
          have HOB := Lib.hid (own_set o10 (fun k hk => by have := (HLT5.out k hk).2; omega) (b := w5.heap.size) 2 (.int .i64 (120 + f + 1 + d2)))
          have HQB := Lib.hid (hq10.setOther hB5 hne5 2 (.int .i64 (120 + f + 1 + d2)))
          have HGB := Lib.hid (grown_own n10 hgr5 2 (.int .i64 (120 + f + 1 + d2)))
          generalize w10.setCell ⟨w5.heap.size, 2, none⟩ (.int .i64 (120 + f + 1 + d2)) = W11 at *
          have KB := HKB
          have hgB := HQB.out.lt
          have hlB := KB.out.lt
          clear f1 f2 zf g1 k10 o10 n10 hq10 hg10 HKF HKB KC HOC HQC HGC HO5
          have g0 := KB.out.c0
          have g1 := KB.out.c1
          have g2 := KB.out.c2
          have g3 := KB.out.c3
          have hday : 0 ≤ 120 + f + 1 + d2 ∧ 120 + f + 1 + d2 ≤ 1000 := by omega
          go_wp2_with (first | (at_builtin; refine wpList_push W11 rfl _ _ 31 rfl w.heap.size 68 i0 _ 4 32 Tryz.underlying31 hi hz0 hz1 hz2 rfl (by decide) (.slice A D.length c) (D.length) (D.flatMap callC) (by rfl) HOB.out [.int .i64 y, .int .i64 (120 + f), .int .i64 (120 + f + 1 + d2), .int .i64 (1 + r)] 68 (by rfl) rfl (by simp [Value.oneCell']) (by unfold maxLen; omega) (by omega) (by omega) ?_; intro A9 c9 w9 ho9 hg9; have HO9 := Lib.hid (own_snocC (y := ⟨y, 120 + f, 120 + f + 1 + d2, 1 + r⟩) ho9); have HQw9 := Lib.hid (HQB.out.other hg9 (fun k hk => by have := HOB.out.lt k hk; omega)); have HGw9 := Lib.hid (HGB.out.andThen hg9 (fun k hk => .inl (by have := HOB.out.lt k hk; omega))); have hz9 := hg9.size; clear ho9 hg9))
          refine (l01Next_c B g (4) w9 HQw9.out (by omega)).mono ?_
          rintro e w10 ⟨z, rfl, ⟨hz0, hz1⟩, hqw10, hgw10⟩
          have HQw10 := Lib.hid hqw10; have HGw10 := Lib.hid (grown_trans' HGw9.out hgw10); have hzw10 := hgw10.size
          clear hqw10
          have HO10 := Lib.hid (HO9.out.kept hgw10 (.inr (fun e => by have := HO9.out.lt _ e; omega)))
          go_wp2
          go_roundw
          case rel => exact ⟨A9, c9, D ++ [⟨y, 120 + f, 120 + f + 1 + d2, 1 + r⟩], y + 1 + z, j - 1, by go_num, by go_num, by simp, by simp; omega, by omega, Lib.hid (dayB_snoc HD.out hday), by omega, HO10, HQw10, HGw10⟩
          case measure => first | (simp [intOf]; done) | (simp [intOf]; omega)
      · have HOB := HO7
        have HQB := HQw7
        have HGB := HGw7
        have g0 := KB.out.c0
        have g1 := KB.out.c1
        have g2 := KB.out.c2
        have g3 := KB.out.c3
        have hday : 0 ≤ 120 + f ∧ 120 + f ≤ 1000 := by omega
        go_wp2_with (first | (at_builtin; refine wpList_push w7 rfl _ _ 31 rfl w.heap.size 68 i0 _ 4 32 Tryz.underlying31 hi hz0 hz1 hz2 rfl (by decide) (.slice A D.length c) (D.length) (D.flatMap callC) (by rfl) HOB.out [.int .i64 y, .int .i64 (120 + f), .int .i64 (120 + f), .int .i64 (0)] 68 (by rfl) rfl (by simp [Value.oneCell']) (by unfold maxLen; omega) (by omega) (by omega) ?_; intro A9 c9 w9 ho9 hg9; have HO9 := Lib.hid (own_snocC (y := ⟨y, 120 + f, 120 + f, 0⟩) ho9); have HQw9 := Lib.hid (HQB.out.other hg9 (fun k hk => by have := HOB.out.lt k hk; omega)); have HGw9 := Lib.hid (HGB.out.andThen hg9 (fun k hk => .inl (by have := HOB.out.lt k hk; omega))); have hz9 := hg9.size; clear ho9 hg9))
        refine (l01Next_c B g (4) w9 HQw9.out (by omega)).mono ?_
        rintro e w10 ⟨z, rfl, ⟨hz0, hz1⟩, hqw10, hgw10⟩
        have HQw10 := Lib.hid hqw10; have HGw10 := Lib.hid (grown_trans' HGw9.out hgw10); have hzw10 := hgw10.size
        clear hqw10
        have HO10 := Lib.hid (HO9.out.kept hgw10 (.inr (fun e => by have := HO9.out.lt _ e; omega)))
        go_wp2
        go_roundw
        case rel => exact ⟨A9, c9, D ++ [⟨y, 120 + f, 120 + f, 0⟩], y + 1 + z, j - 1, by go_num, by go_num, by simp, by simp; omega, by omega, Lib.hid (dayB_snoc HD.out hday), by omega, HO10, HQw10, HGw10⟩
        case measure => first | (simp [intOf]; done) | (simp [intOf]; omega)
    · obtain rfl : j = 0 := by omega
      go_wp2
      go_ret
      exact ⟨A, c, D, rfl, HOr.out, by omega, HD.out, HQwr.out, HGwr.out⟩

theorem put_call {B g : Nat} {w W : World} (hS : Src w B g) {h c k i : Nat} {L : List CallD} {u : Value} {y : CallD} (HO : W.ownsRow w.heap.size 68 4 (.slice (some ⟨h, 0, none⟩) L.length c) L.length (L.flatMap callC)) (HQ : Src W B g) (HG : w.grownBy W (some g)) (hl : L.length ≤ 6) (hW : DayB L)
    (hk : k < L.length) (hi : i < 4) (e : (callC L[k]).set i u = callC y) (hy : 0 ≤ y.day ∧ y.day ≤ 1000) : CalG 22 B g w (.returned (.slice (some ⟨h, 0, none⟩) L.length c)) (W.setCell ⟨h, k * 4 + i, none⟩ u) := by
  have h1 := (HO.stored (k * 4 + i) u).1
  have hb := (own_lt HO).1
  have hge := hS.ge
  have hlt := hS.lt
  rw [flat_set_at (f := callC) (m := 4) (fun _ => rfl) hk hi e] at h1
  refine ⟨some ⟨h, 0, none⟩, c, L.set k y, by rw [List.length_set], by rw [List.length_set]; exact h1, by rw [List.length_set]; omega, fun x hx => ?_, HQ.setOther (by omega) (by omega) _ _, grown_own HG hb _ _⟩
  rcases List.mem_or_eq_of_mem_set hx with h | h
  · exact hW x h
  · rw [h]; exact hy
set_option maxRecDepth 100000 in
set_option maxHeartbeats 4000000 in
theorem l10List_c (B g : Nat) (w : World) (hS : Src w B g) : Calls Tryz.prog 51 #[.pointer (some ⟨g, 0, none⟩)] w (CalG 22 B g w) := by
  have HS := Lib.hid hS
  have hgB := hS.ge; have hgl := hS.lt
  have HQw := Lib.hid hS; have HGw := Lib.hid (World.grownBy.refl w (some g)); clear hS
  go_enter Tryz.func51, Tryz.ntmps51
  go_wp2_with fail
  refine (l10Good_c B g w HS.out).mono ?_
  rintro e w1 ⟨A, c, L, rfl, ho, h12, hW, hq, hg⟩
  have HO := Lib.hid ho; have HQw1 := Lib.hid hq; have HGw1 := Lib.hid hg
  have HW : Hid (DayB L) := hW
  have hzw1 := hg.size
  have hcap := own_cap ho
  clear ho hq hg hW
  by_cases hL : 0 < L.length
  · have hLi : (0 : Int) < (L.length : Int) := by omega
    obtain ⟨h, rfl, hh1, hh2⟩ := own_head HO.out hL
    go_wp2_with fail
    refine (l01Next_c B g ((L.length : Int)) w1 HQw1.out (by omega)).mono ?_
    rintro e w2 ⟨k, rfl, ⟨hk0, hk1⟩, hqw2, hgw2⟩
    have HQw2 := Lib.hid hqw2; have HGw2 := Lib.hid (grown_trans' HGw1.out hgw2); have hzw2 := hgw2.size
    clear hqw2
    have HO2 := Lib.hid (HO.out.kept hgw2 (.inr (fun e => by have := HO.out.lt _ e; omega)))
    obtain ⟨k, rfl⟩ := Int.eq_ofNat_of_zero_le hk0
    have hlt : k < L.length := by omega
    have hkc : (k : Int) < (L.length : Int) := by omega
    go_wp2_with fail
    refine (l01Next_c B g (40) w2 HQw2.out (by omega)).mono ?_
    rintro e w3 ⟨q, rfl, ⟨hq0, hq1⟩, hqw3, hgw3⟩
    have HQw3 := Lib.hid hqw3; have HGw3 := Lib.hid (grown_trans' HGw2.out hgw3); have hzw3 := hgw3.size
    clear hqw3
    have HO3 := Lib.hid (HO2.out.kept hgw3 (.inr (fun e => by have := HO2.out.lt _ e; omega)))
    have HC := Lib.hid (fun (W1 : World) (h : W1.ownsRow w.heap.size 68 4 (.slice (some ⟨h, 0, none⟩) L.length c) L.length (L.flatMap callC)) (j : Nat) (hj : j < L.length * 4) => own_cell h (j := j) hj)
    have HDK := Lib.hid (HW.out _ (List.getElem_mem hlt))
    clear HO HO2 HQw1 HQw2 HGw1 HGw2
    by_cases c0 : q = 0
    · subst c0
      go_wp2_with fail
      refine (l01Next_c B g (5) w3 HQw3.out (by omega)).mono ?_
      rintro e w4 ⟨s, rfl, ⟨hs0, hs1⟩, hqw4, hgw4⟩
      have HQw4 := Lib.hid hqw4; have HGw4 := Lib.hid (grown_trans' HGw3.out hgw4); have hzw4 := hgw4.size
      clear hqw4
      have HO4 := Lib.hid (HO3.out.kept hgw4 (.inr (fun e => by have := HO3.out.lt _ e; omega)))
      obtain ⟨u3, f3⟩ := HC.out w4 HO4.out (k * 4 + 3) (by omega)
      have z3 := HO4.out.frozenAt (k * 4 + 3)
      go_wp2
      go_ret
      exact put_call HS.out (i := 3) (y := ⟨L[k].number, L[k].first, L[k].day, s - 1⟩) HO4.out HQw4.out HGw4.out (by omega) HW.out hlt (by omega) rfl HDK.out
    by_cases c1 : q = 1
    · subst c1
      obtain ⟨u1, f1⟩ := HC.out w3 HO3.out (k * 4 + 1) (by omega)
      have z1 := HO3.out.frozenAt (k * 4 + 1)
      obtain ⟨hbq, hcq⟩ := Rd.elemS callC 4 (fun _ => rfl) (Rd.of_own HO3.out) (by omega) hlt
      have q0 : w3.cell? ⟨h, 0 + k * 4, none⟩ = some (.int .i64 L[k].number) := hcq k hlt 0 _ rfl
      have q1 : w3.cell? ⟨h, 0 + k * 4 + 1, none⟩ = some (.int .i64 L[k].first) := hcq k hlt 1 _ rfl
      have q2 : w3.cell? ⟨h, 0 + k * 4 + 2, none⟩ = some (.int .i64 L[k].day) := hcq k hlt 2 _ rfl
      have q3 : w3.cell? ⟨h, 0 + k * 4 + 3, none⟩ = some (.int .i64 L[k].moves) := hcq k hlt 3 _ rfl
      simp only [Nat.zero_add] at q2
      clear hcq q0 q1 q3
      have hdk := HDK.out
      generalize hx : L[k] = x at *
      obtain ⟨x0, x1, x2, x3⟩ := x
      have HX := Lib.hid hx
      simp only at hdk
      clear hx
      go_wp2
      go_ret
      exact put_call HS.out (i := 1) (y := ⟨x0, x2 + 1, x2, x3⟩) HO3.out HQw3.out HGw3.out (by omega) HW.out hlt (by omega) (by rw [HX.out]; rfl) hdk
    by_cases c2 : q = 2
    · subst c2
      go_wp2_with fail
      generalize hW4 : w3.alloc _ = W4
      have hbW4 : Below w3.heap.size w3 W4 := by subst hW4; exact (Below.refl _ _).alloc (Nat.le_refl _) _
      have hsW4 : W4.heap.size = w3.heap.size + 1 := by subst hW4; simp
      have cxW4_0 : ∀ i, W4.cell? ⟨w3.heap.size, i, none⟩ = (#[.int .i64 0, .int .i64 1000000, .int .i64 1000001] : Array Value)[i]? := by intro i; subst hW4; simp [go_sem]
      have fzW4_0 : ∀ i, W4.frozen? ⟨w3.heap.size, i, none⟩ = false := by intro i; subst hW4; simp [go_sem]
      have HSW4 := Lib.hid hsW4; clear hW4 hsW4
      have HQW4 := Lib.hid (HQw3.out.below hbW4); have HGW4 := Lib.hid (grown_trans' HGw3.out (grown_of_below hbW4 _)); have hzW4 : W4.heap.size = w3.heap.size + 1 := HSW4.out
      clear HSW4
      have HO4 := Lib.hid (own_below HO3.out hbW4)
      refine (l01Pick_c B g (w3.heap.size) 0 _ [0, 1000000, 1000001] W4 HQW4.out (by omega) (pick_box (L := [0, 1000000, 1000001]) (fun i => by exact cxW4_0 i)) (by simp) (by simp) (by simp)).mono ?_
      rintro e w5 ⟨p, rfl, hpm, hqw5, hgw5⟩
      have HQw5 := Lib.hid hqw5; have HGw5 := Lib.hid (grown_trans' HGW4.out hgw5); have hzw5 := hgw5.size; have Hpm := Lib.hid hpm
      clear hqw5 hpm
      have HO5 := Lib.hid (HO4.out.kept hgw5 (.inr (fun e => by have := HO4.out.lt _ e; omega)))
      obtain ⟨u0, f0⟩ := HC.out w5 HO5.out (k * 4) (by omega)
      have z0 := HO5.out.frozenAt (k * 4)
      go_wp2
      go_ret
      exact put_call HS.out (i := 0) (y := ⟨p, L[k].first, L[k].day, L[k].moves⟩) HO5.out HQw5.out HGw5.out (by omega) HW.out hlt (by omega) rfl HDK.out
    by_cases c3 : q = 3
    · subst c3
      obtain ⟨i0, hi, hz0, hz1, hz2⟩ := info_parts call_info
      have HSZ : Hid (w.heap.size ≤ w3.heap.size) := by unfold Hid; omega
      clear HC
      go_wp2
      go_loopw [3, 5] (fun ov xv wr => ∃ (A : Option Addr) (c : Nat) (D : List CallD) (y : Int), ov = .slice A D.length c ∧ xv = .int .i64 y ∧ D.length ≤ 21 ∧ (200 ≤ y ∧ y ≤ 200 + (D.length : Int)) ∧ Hid (DayB D) ∧ w.heap.size ≤ wr.heap.size ∧ Hid (wr.ownsRow w.heap.size 68 4 (.slice A D.length c) D.length (D.flatMap callC)) ∧ Hid (Src wr B g) ∧ Hid (w.grownBy wr (some g)))
        (fun ov _ _ => 30 - lenC ov)
      case atStart => exact ⟨_, _, L, 200, rfl, rfl, by omega, by omega, HW, HSZ.out, HO3, HQw3, HGw3⟩
      case round =>
        obtain ⟨v0, rfl⟩ : ∃ v0, v0 = wr := ⟨_, rfl⟩
        obtain ⟨A, c, D, y, rfl, rfl, hD, hy, HN, hzr, HOr, HQv0, HGv0⟩ := hrel
        clear HO3 HSZ HQw3 HGw3 HW hL hLi HDK
        have hcap := own_cap HOr.out
        go_wp2_with fail
        refine (l01Next_c B g (2) v0 HQv0.out (by omega)).mono ?_
        rintro e v1 ⟨a, rfl, ⟨ha0, ha1⟩, hqv1, hgv1⟩
        have HQv1 := Lib.hid hqv1; have HGv1 := Lib.hid (grown_trans' HGv0.out hgv1); have hzv1 := hgv1.size
        clear hqv1
        have HO1 := Lib.hid (HOr.out.kept hgv1 (.inr (fun e => by have := HOr.out.lt _ e; omega)))
        by_cases hgo : (D.length : Int) < 20 + a
        · go_wp2_with (first | (at_builtin; refine wpList_push v1 rfl _ _ 31 rfl w.heap.size 68 i0 _ 4 32 Tryz.underlying31 hi hz0 hz1 hz2 rfl (by decide) (.slice A D.length c) (D.length) (D.flatMap callC) (by rfl) HO1.out [.int .i64 y, .int .i64 125, .int .i64 125, .int .i64 0] 68 (by rfl) rfl (by simp [Value.oneCell']) (by unfold maxLen; omega) (by omega) (by omega) ?_; intro A5 c5 v5 ho5 hg5; have HO5 := Lib.hid (own_snocC (y := ⟨y, 125, 125, 0⟩) ho5); have HQv5 := Lib.hid (HQv1.out.other hg5 (fun k hk => by have := HO1.out.lt k hk; omega)); have HGv5 := Lib.hid (HGv1.out.andThen hg5 (fun k hk => .inl (by have := HO1.out.lt k hk; omega))); have hz5 := hg5.size; clear ho5 hg5))
          go_roundw
          case rel => exact ⟨A5, c5, D ++ [⟨y, 125, 125, 0⟩], y + 1, by simp, by go_num, by simp; omega, by simp; omega, Lib.hid (dayB_snoc HN.out ⟨by show (0 : Int) ≤ 125; omega, by show (125 : Int) ≤ 1000; omega⟩), by omega, HO5, HQv5, HGv5⟩
          case measure => simp [lenC]; omega
        · go_wp2
          go_ret
          exact ⟨A, c, D, rfl, HO1.out, by omega, HN.out, HQv1.out, HGv1.out⟩
    have hq4 : 4 ≤ q := by omega
    go_wp2
    go_ret
    exact ⟨some ⟨h, 0, none⟩, c, L, rfl, HO3.out, by omega, HW.out, HQw3.out, HGw3.out⟩
  · have hLi : ¬ (0 : Int) < (L.length : Int) := by omega
    go_wp2
    go_ret
    exact ⟨A, c, L, rfl, HO.out, by omega, HW.out, HQw1.out, HGw1.out⟩
end Go.Proofs.YtiamignopfhkfaaGreatDoor
