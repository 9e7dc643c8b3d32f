/- Contract of the draw of a tariff: l29Tariff. -/
import Derived.Test.YthkobjadfeidmaaSrc2
import Derived.Test.YthkobjadfeidmaaRow
import Derived.Test.YthkobjadfeidmaaTier
import Derived.Deep.RegionLaw
import Derived.Deep.DrawnRows
namespace Go.Proofs.Ythkobjadfeidmaa
open Go.RowKit
set_option linter.unusedVariables false
attribute [local go_sem ↓] Go.wp_at_zero Go.wp_at_succ
theorem own_setOther {W : World} {base : Nat} {e : TypeId} {size n : Nat} {v : Value} {xs : List Value} (h : W.ownsRow base e size v n xs) {b : Nat} (hne : v.ownBlock ≠ some b) (j : Nat) (u : Value) : (W.setCell ⟨b, j, none⟩ u).ownsRow base e size v n xs :=
  h.kept (grown_set (World.grownBy.refl _ _)) (.inr hne)
/-- A row of tiers is no block whose first cell is a slice. -/
theorem tier_ne {W : World} {base c : Nat} {e : TypeId} {A : Option Addr} {L : List TierD} (h : W.ownsRow base e 2 (.slice A L.length c) L.length (L.flatMap tierC)) {b : Nat} {cs : Array Value} {A' : Option Addr} {n' c' : Nat} (hb : ∀ i, W.cell? ⟨b, i, none⟩ = cs[i]?) (h0 : cs[0]? = some (.slice A' n' c')) (hn : 1 ≤ L.length) : (Value.slice A L.length c).ownBlock ≠ some b := by
  obtain ⟨k, rfl, hk1, hk2⟩ := own_head h (by omega)
  intro e
  have e2 : k = b := by simpa [Value.ownBlock] using e
  subst e2
  have h1 := h.cellAt 0 (by omega)
  rw [hb 0, h0] at h1
  cases L with
  | nil => simp at hn
  | cons t L => simp [tierC] at h1
theorem own_snocT {W : World} {base c : Nat} {e : TypeId} {A : Option Addr} {L : List TierD} {x y : Int} (h : W.ownsRow base e 2 (.slice A (L.length + 1) c) (L.length + 1) (L.flatMap tierC ++ [.int .i64 x, .int .i64 y])) : W.ownsRow base e 2 (.slice A (L ++ [(⟨x, y⟩ : TierD)]).length c) (L ++ [(⟨x, y⟩ : TierD)]).length ((L ++ [(⟨x, y⟩ : TierD)]).flatMap tierC) := by
  simpa [tierC] using h
theorem grown_drew' {w w' : World} {r : Option Nat} (h : w.grownBy w' r) : w.drew.grownBy w' r := ⟨h.os, h.tape, h.output, h.size, h.block⟩
theorem grown_ofdrew {w w' : World} {r : Option Nat} (h : w.drew.grownBy w' r) : w.grownBy w' r := ⟨h.os, h.tape, h.output, h.size, h.block⟩
theorem box_other {W : World} {b b' j : Nat} {u : Value} {cs : Array Value} (h : ∀ i, W.cell? ⟨b, i, none⟩ = cs[i]?) (hne : b ≠ b') : ∀ i, (W.setCell ⟨b', j, none⟩ u).cell? ⟨b, i, none⟩ = cs[i]? :=
  fun i => (World.cell?_of_block (a := ⟨b, i, none⟩) (Below.heap_setCell _ _ _ _ hne)).trans (h i)
theorem box_set {W : World} {b j : Nat} {u : Value} {cs : Array Value} (h : ∀ i, W.cell? ⟨b, i, none⟩ = cs[i]?) (hj : j < cs.size) : ∀ i, (W.setCell ⟨b, j, none⟩ u).cell? ⟨b, i, none⟩ = (cs.setIfInBounds j u)[i]? := by
  intro i
  by_cases e : i = j
  · subst e
    simp [go_sem, h, hj]
  · simp [go_sem, h, Ne.symm e]
theorem fz_set {W : World} {b : Nat} (h : ∀ i, W.frozen? ⟨b, i, none⟩ = false) (p : Addr) (u : Value) : ∀ i, (W.setCell p u).frozen? ⟨b, i, none⟩ = false := fun i => by simp [go_sem, h]
def TarP (B g : Nat) (w : World) (e : Ending) (w' : World) : Prop := ∃ (A : Option Addr) (c : Nat) (L : List TierD) (me mi mo : Int), e = .returned (.agg #[.slice A L.length c, .int .i64 me, .int .i64 mi, .int .i64 mo]) ∧
  w'.ownsRow w.heap.size 63 2 (.slice A L.length c) L.length (L.flatMap tierC) ∧ L.length ≤ 10 ∧ Src w' B g ∧ w.grownBy w' (some g)

set_option maxRecDepth 100000 in
set_option maxHeartbeats 4000000 in
theorem l29Tariff_c (B g : Nat) (w : World) (hS : Src w B g) : Calls Try.prog 57 #[.pointer (some ⟨g, 0, none⟩)] w (TarP B g w) := by
  obtain ⟨i0, hi, hz0, hz1, hz2⟩ := info_parts tier_info
  have hgB := hS.ge; have hgl := hS.lt
  have HQw := Lib.hid hS; have HGw := Lib.hid (World.grownBy.refl w (some g)); clear hS
  go_enter Try.func57, Try.ntmps57
  go_wp2_with fail
  generalize hW0 : w.alloc _ = W0
  have hbW0 : Below w.heap.size w W0 := by subst hW0; exact (Below.refl _ _).alloc (Nat.le_refl _) _
  have hsW0 : W0.heap.size = w.heap.size + 1 := by subst hW0; simp
  have cxW0_0 : ∀ i, W0.cell? ⟨w.heap.size, i, none⟩ = (#[.slice none 0 0, .int .i64 0, .int .i64 0, .int .i64 0] : Array Value)[i]? := by intro i; subst hW0; simp [go_sem]
  have fzW0_0 : ∀ i, W0.frozen? ⟨w.heap.size, i, none⟩ = false := by intro i; subst hW0; simp [go_sem]
  have HSW0 := Lib.hid hsW0; clear hW0 hsW0
  have HQW0 := Lib.hid (HQw.out.below hbW0); have HGW0 := Lib.hid (grown_trans' HGw.out (grown_of_below hbW0 _)); have hzW0 : W0.heap.size = w.heap.size + 1 := HSW0.out
  clear HSW0
  refine (l01Next_c B g 2000 W0 HQW0.out (by omega)).mono ?_
  rintro e w1 ⟨a, rfl, ⟨ha0, ha1⟩, hqw1, hgw1⟩
  have HQw1 := Lib.hid hqw1; have HGw1 := Lib.hid (grown_trans' HGW0.out hgw1); have hzw1 := hgw1.size
  replace cxW0_0 := fun i => (hgw1.cell_far _ (by (try simp only); omega) (by simp; omega)).trans (cxW0_0 i)
  replace fzW0_0 := fun i => (hgw1.frozen_far _ (by (try simp only); omega) (by simp; omega)).trans (fzW0_0 i)
  clear hqw1
  go_wp2_with fail
  have ho2 := World.ownsRow_lit (base := w.heap.size) (e := 63) (size := 2) w1 #[.int .i64 1, .int .i64 (1000 + a)] 1 (by omega) (by unfold maxLen; omega) rfl
  generalize hW2 : w1.alloc (.cells #[.int .i64 1, .int .i64 (1000 + a)] 63) = W2 at ho2 ⊢
  have hb2 : Below w1.heap.size w1 W2 := by subst hW2; exact (Below.refl _ _).alloc (Nat.le_refl _) _
  have hs2 : W2.heap.size = w1.heap.size + 1 := by subst hW2; simp
  have HQW2 := Lib.hid (HQw1.out.below hb2); have HGW2 := Lib.hid (grown_trans' HGw1.out (grown_of_below hb2 _))
  replace cxW0_0 := fun i => (hb2.cell (by (try simp only); omega)).trans (cxW0_0 i)
  replace fzW0_0 := fun i => (hb2.frozen (by (try simp only); omega)).trans (fzW0_0 i)
  clear hW2
  refine (l01Next_c B g 2000 W2 HQW2.out (by omega)).mono ?_
  rintro e w3 ⟨b, rfl, ⟨hb0, hb1⟩, hqw3, hgw3⟩
  have HQw3 := Lib.hid hqw3; have HGw3 := Lib.hid (grown_trans' HGW2.out hgw3); have hzw3 := hgw3.size
  replace cxW0_0 := fun i => (hgw3.cell_far _ (by (try simp only); omega) (by simp; omega)).trans (cxW0_0 i)
  replace fzW0_0 := fun i => (hgw3.frozen_far _ (by (try simp only); omega) (by simp; omega)).trans (fzW0_0 i)
  clear hqw3
  replace ho2 := ho2.kept hgw3 (.inr (by simp [Value.ownBlock]; omega))
  go_wp2_with fail
  refine (l01Next_c B g 90 w3 HQw3.out (by omega)).mono ?_
  rintro e w4 ⟨c, rfl, ⟨hc0, hc1⟩, hqw4, hgw4⟩
  have HQw4 := Lib.hid hqw4; have HGw4 := Lib.hid (grown_trans' HGw3.out hgw4); have hzw4 := hgw4.size
  replace cxW0_0 := fun i => (hgw4.cell_far _ (by (try simp only); omega) (by simp; omega)).trans (cxW0_0 i)
  replace fzW0_0 := fun i => (hgw4.frozen_far _ (by (try simp only); omega) (by simp; omega)).trans (fzW0_0 i)
  clear hqw4
  replace ho2 := ho2.kept hgw4 (.inr (by simp [Value.ownBlock]; omega))
  go_wp2_with fail
  refine (l01Next_c B g 9000 w4 HQw4.out (by omega)).mono ?_
  rintro e w5 ⟨d, rfl, ⟨hd0, hd1⟩, hqw5, hgw5⟩
  have HQw5 := Lib.hid hqw5; have HGw5 := Lib.hid (grown_trans' HGw4.out hgw5); have hzw5 := hgw5.size
  replace cxW0_0 := fun i => (hgw5.cell_far _ (by (try simp only); omega) (by simp; omega)).trans (cxW0_0 i)
  replace fzW0_0 := fun i => (hgw5.frozen_far _ (by (try simp only); omega) (by simp; omega)).trans (fzW0_0 i)
  clear hqw5
  replace ho2 := ho2.kept hgw5 (.inr (by simp [Value.ownBlock]; omega))
  go_wp2_with fail
  generalize hW6 : w5.alloc _ = W6
  have hbW6 : Below w5.heap.size w5 W6 := by subst hW6; exact (Below.refl _ _).alloc (Nat.le_refl _) _
  have hsW6 : W6.heap.size = w5.heap.size + 1 := by subst hW6; simp
  have cxW6_0 : ∀ i, W6.cell? ⟨w5.heap.size, i, none⟩ = (#[.slice (some ⟨w1.heap.size, 0, none⟩) 1 1, .int .i64 b, .int .i64 c, .int .i64 d] : Array Value)[i]? := by intro i; subst hW6; simp [go_sem]
  have fzW6_0 : ∀ i, W6.frozen? ⟨w5.heap.size, i, none⟩ = false := by intro i; subst hW6; simp [go_sem]
  have HSW6 := Lib.hid hsW6; clear hW6 hsW6
  have HQW6 := Lib.hid (HQw5.out.below hbW6); have HGW6 := Lib.hid (grown_trans' HGw5.out (grown_of_below hbW6 _)); have hzW6 : W6.heap.size = w5.heap.size + 1 := HSW6.out
  replace cxW0_0 := fun i => (hbW6.cell (by (try simp only); omega)).trans (cxW0_0 i)
  replace fzW0_0 := fun i => (hbW6.frozen (by (try simp only); omega)).trans (fzW0_0 i)
  clear HSW6
  replace ho2 := own_below ho2 hbW6
  refine (l01Next_c B g 4 W6 HQW6.out (by omega)).mono ?_
  rintro e w7 ⟨n, rfl, ⟨hn0, hn1⟩, hqw7, hgw7⟩
  have HQw7 := Lib.hid hqw7; have HGw7 := Lib.hid (grown_trans' HGW6.out hgw7); have hzw7 := hgw7.size
  replace cxW0_0 := fun i => (hgw7.cell_far _ (by (try simp only); omega) (by simp; omega)).trans (cxW0_0 i)
  replace fzW0_0 := fun i => (hgw7.frozen_far _ (by (try simp only); omega) (by simp; omega)).trans (fzW0_0 i)
  replace cxW6_0 := fun i => (hgw7.cell_far _ (by (try simp only); omega) (by simp; omega)).trans (cxW6_0 i)
  replace fzW6_0 := fun i => (hgw7.frozen_far _ (by (try simp only); omega) (by simp; omega)).trans (fzW6_0 i)
  clear hqw7
  replace ho2 := ho2.kept hgw7 (.inr (by simp [Value.ownBlock]; omega))
  obtain ⟨n, rfl⟩ := Int.eq_ofNat_of_zero_le hn0
  go_wp2
  go_loopw [4, 5] (fun dv nv wr => ∃ (A : Option Addr) (cc : Nat) (L : List TierD) (j : Nat) (dy : Int), dv = .int .i64 dy ∧ nv = .int .i64 j ∧ (j ≤ 4 ∧ 1 ≤ dy ∧ dy ≤ 100 - (j : Int) * 12 ∧ 1 ≤ L.length ∧ L.length + j ≤ 8) ∧ w5.heap.size < wr.heap.size ∧ Hid (wr.ownsRow w.heap.size 63 2 (.slice A L.length cc) L.length (L.flatMap tierC)) ∧ Hid (Src wr B g) ∧ Hid (w.grownBy wr (some g)) ∧
      (∀ i, wr.cell? ⟨w.heap.size, i, none⟩ = (#[.slice none 0 0, .int .i64 0, .int .i64 0, .int .i64 0] : Array Value)[i]?) ∧ (∀ i, wr.frozen? ⟨w.heap.size, i, none⟩ = false) ∧
      (∀ i, wr.cell? ⟨w5.heap.size, i, none⟩ = (#[.slice A L.length cc, .int .i64 b, .int .i64 c, .int .i64 d] : Array Value)[i]?) ∧ (∀ i, wr.frozen? ⟨w5.heap.size, i, none⟩ = false))
    (fun _ nv _ => (intOf nv).toNat)
  case atStart => exact ⟨some ⟨w1.heap.size, 0, none⟩, 1, [⟨1, 1000 + a⟩], n, 1, rfl, rfl, ⟨by omega, by omega, by omega, by simp, by simp; omega⟩, by omega, ho2, HQw7, HGw7, cxW0_0, fzW0_0, cxW6_0, fzW6_0⟩
  case round =>
    obtain ⟨A, cc, L, j, dy, rfl, rfl, ⟨hj, hd0, hd1, hL0, hL1⟩, hsz, HO, HQwr, HGwr, cxW0, fzW0, cxW6, fzW6⟩ := hrel
    clear cxW0_0 fzW0_0 cxW6_0 fzW6_0 ho2
    by_cases hj0 : 0 < j
    · go_wp2_with fail
      refine (l01Next_c B g 10 wr HQwr.out (by omega)).mono ?_
      rintro e w8 ⟨q, rfl, ⟨hq0, hq1⟩, hqw8, hgw8⟩
      have HQw8 := Lib.hid hqw8; have HGw8 := Lib.hid (grown_trans' HGwr.out hgw8); have hzw8 := hgw8.size
      replace cxW0 := fun i => (hgw8.cell_far _ (by (try simp only); omega) (by simp; omega)).trans (cxW0 i)
      replace fzW0 := fun i => (hgw8.frozen_far _ (by (try simp only); omega) (by simp; omega)).trans (fzW0 i)
      replace cxW6 := fun i => (hgw8.cell_far _ (by (try simp only); omega) (by simp; omega)).trans (cxW6 i)
      replace fzW6 := fun i => (hgw8.frozen_far _ (by (try simp only); omega) (by simp; omega)).trans (fzW6 i)
      clear hqw8
      have HO8 := Lib.hid (HO.out.kept hgw8 (.inr (by have := HO.out.lt; intro e; have := this _ e; omega)))
      go_wp2_with fail
      have hw8 := hzw8
      have HKF : Hid (Src w8.drew B g) := Lib.hid HQw8.out
      have e0 : IntKind.i64.wrap (dy + 1) = dy + 1 := IntWalk.i64_in _ (by omega)
      have e1 : IntKind.i64.wrap (dy + 1 + q) = dy + 1 + q := IntWalk.i64_in _ (by omega)
      go_region_law (first
        | (go_simp; go_at_call 55; refine (l01Next_c B g 4000 w8.drew HKF.out (by omega)).mono ?_; rintro e w9 ⟨k, rfl, ⟨hk0, hk1⟩, hq9, hg9⟩; have HQ9 := Lib.hid hq9; have HG9 := Lib.hid hg9; have e2 : IntKind.i64.wrap (2000 + k) = 2000 + k := IntWalk.i64_in _ (by omega); have hz9 : w8.heap.size ≤ w9.heap.size := hg9.size; have cx9 := fun i => (HG9.out.cell_far ⟨w5.heap.size, i, none⟩ (show w5.heap.size < w8.heap.size by omega) (fun h => by have h2 : w5.heap.size = g := Option.some.inj h; omega)).trans (cxW6 i); have ca9 := fun (o : Obj) (i : Nat) => (((Below.refl _ w9).alloc (Nat.le_refl _) o).cell (p := ⟨w5.heap.size, i, none⟩) (show w5.heap.size < w9.heap.size by omega)).trans (cx9 i); clear hq9 hg9)
        | (go_simp; go_at_call 56; refine (l01Pick_c B g w9.heap.size 0 3 [2000 + k, 0, 100000] (w9.alloc _) (HQ9.out.below ((Below.refl _ _).alloc (Nat.le_refl _) _)) (by have := HG9.out.size; simp at this; omega) (pick_box (L := [2000 + k, 0, 100000]) (fun i => by simp [go_sem])) (by simp) (by simp) (by simp)).mono ?_; rintro e w10 ⟨x, rfl, hxm, hq10, hg10⟩; have HQ10 := Lib.hid hq10; have HG10 := Lib.hid (grown_trans' HG9.out (grown_alloc hg10)); have hz10' : w9.heap.size + 1 ≤ w10.heap.size := (by have := hg10.size; simpa using this); have cx10 := fun i => (HG10.out.cell_far ⟨w5.heap.size, i, none⟩ (show w5.heap.size < w8.heap.size by omega) (fun h => by have h2 : w5.heap.size = g := Option.some.inj h; omega)).trans (cxW6 i); have ca10 := fun (o : Obj) (i : Nat) => (((Below.refl _ w10).alloc (Nat.le_refl _) o).cell (p := ⟨w5.heap.size, i, none⟩) (show w5.heap.size < w10.heap.size by omega)).trans (cx10 i); clear hq10 hg10 hxm)
        | (refine step_cat (w10.alloc (.cells #[.int .i64 (dy + 1 + q), .int .i64 x] 63)) (by rfl) (.tmp 30) (.tmp 39) 33 (by rfl) w.heap.size 63 i0 _ 2 16 Try.underlying33 hi hz0 hz1 hz2 rfl (by omega) (.slice A L.length cc) L.length (L.flatMap tierC) (by rfl) ((HO8.out.drew.kept HG10.out (.inr (by have h := HO8.out.lt; intro e; have := h _ e; omega))).alloc _) (some ⟨w10.heap.size, 0, none⟩) 1 1 _ [.int .i64 (dy + 1 + q), .int .i64 x] (by rfl) (Rd.of_block (heap_alloc_new w10 _)) (by simp [Value.oneCell']) (by unfold maxLen; omega) (by omega) (by have := HG10.out.size; simp at this ⊢; omega) (L.length + 1) (by omega) ?_; intro A2 c2 w11 ho11 hg11; have HO11 := Lib.hid (own_snocT ho11); have hg11' := grown_alloc hg11; have HQ11 := Lib.hid (HQ10.out.other hg11' (fun k hk => by have := HO8.out.lt k hk; omega));
           have hne6 := tier_ne HO8.out cxW6 rfl hL0; have hne0 := tier_ne HO8.out cxW0 rfl hL0; have hz11 := hg11'.size;
           have cy0 := fun i => (hg11'.cell_far ⟨w.heap.size, i, none⟩ (show w.heap.size < w10.heap.size by omega) (Ne.symm hne0)).trans ((HG10.out.cell_far ⟨w.heap.size, i, none⟩ (show w.heap.size < w8.heap.size by omega) (fun h => by have h2 : w.heap.size = g := Option.some.inj h; omega)).trans (cxW0 i));
           have cy6 := fun i => (hg11'.cell_far ⟨w5.heap.size, i, none⟩ (show w5.heap.size < w10.heap.size by omega) (Ne.symm hne6)).trans (cx10 i);
           have fy0 := fun i => (hg11'.frozen_far ⟨w.heap.size, i, none⟩ (show w.heap.size < w10.heap.size by omega) (Ne.symm hne0)).trans ((HG10.out.frozen_far ⟨w.heap.size, i, none⟩ (show w.heap.size < w8.heap.size by omega) (fun h => by have h2 : w.heap.size = g := Option.some.inj h; omega)).trans (fzW0 i));
           have fy6 := fun i => (hg11'.frozen_far ⟨w5.heap.size, i, none⟩ (show w5.heap.size < w10.heap.size by omega) (Ne.symm hne6)).trans ((HG10.out.frozen_far ⟨w5.heap.size, i, none⟩ (show w5.heap.size < w8.heap.size by omega) (fun h => by have h2 : w5.heap.size = g := Option.some.inj h; omega)).trans (fzW6 i))))
      all_goals
        have hgr : w.grownBy w11 (some g) := ((grown_trans' HGw8.out (grown_ofdrew HG10.out)).andThen hg11' (fun k hk => .inl ((HO8.out.lt k hk).1)))
        have HGR := Lib.hid hgr
        clear hgr
        go_wp2
        go_roundw
        case rel =>
          refine ⟨A2, c2, L ++ [⟨dy + 1 + q, x⟩], j - 1, dy + 1 + q, by go_num, by go_num, ⟨by omega, by omega, by omega, by simp, by simp; omega⟩, ?_, ?_, ?_, ?_, ?_, ?_, ?_, ?_⟩
          · simp; omega
          · exact own_setOther HO11.out (tier_ne HO11.out cy6 rfl (by simp)) _ _
          · exact HQ11.out.setOther (by omega) (by omega) _ _
          · exact grown_own HGR.out (by omega) _ _
          · exact box_other cy0 (by omega)
          · exact fz_set fy0 _ _
          · intro i; exact (box_set cy6 (by simp) i).trans (by simp)
          · exact fz_set fy6 _ _
        case measure => simp [intOf]; omega
    · obtain rfl : j = 0 := by omega
      go_wp2_with fail
      refine (l01Next_c B g 30 wr HQwr.out (by omega)).mono ?_
      rintro e w8 ⟨r, rfl, ⟨hr0, hr1⟩, hqw8, hgw8⟩
      have HQw8 := Lib.hid hqw8; have HGw8 := Lib.hid (grown_trans' HGwr.out hgw8); have hzw8 := hgw8.size
      replace cxW0 := fun i => (hgw8.cell_far _ (by (try simp only); omega) (by simp; omega)).trans (cxW0 i)
      replace fzW0 := fun i => (hgw8.frozen_far _ (by (try simp only); omega) (by simp; omega)).trans (fzW0 i)
      replace cxW6 := fun i => (hgw8.cell_far _ (by (try simp only); omega) (by simp; omega)).trans (cxW6 i)
      replace fzW6 := fun i => (hgw8.frozen_far _ (by (try simp only); omega) (by simp; omega)).trans (fzW6 i)
      clear hqw8
      have HO8 := Lib.hid (HO.out.kept hgw8 (.inr (by have := HO.out.lt; intro e; have := this _ e; omega)))
      have hne6 := tier_ne HO8.out cxW6 rfl hL0; have hne0 := tier_ne HO8.out cxW0 rfl hL0
      have HN6 := Lib.hid hne6; have HN0 := Lib.hid hne0; clear hne6 hne0
      by_cases hr0 : r = 0
      · subst hr0
        obtain ⟨t0, L1, rfl⟩ : ∃ t0 L1, L = t0 :: L1 := by
          cases L with
          | nil => simp at hL0
          | cons t L => exact ⟨t, L, rfl⟩
        obtain ⟨k, rfl, hk1, hk2⟩ := own_head HO8.out (by omega)
        obtain ⟨u0, hu0⟩ := own_cell HO8.out (j := 0) (by simp)
        have hz0' := HO8.out.frozenAt 0
        have hk6 : k ≠ w5.heap.size := by simpa [Value.ownBlock] using HN6.out
        have hk0 : k ≠ w.heap.size := by simpa [Value.ownBlock] using HN0.out
        have HS := Lib.hid (show (w8.setCell ⟨k, 0, none⟩ (.int .i64 2)).ownsRow w.heap.size 63 2 (.slice (some ⟨k, 0, none⟩) ((⟨2, t0.cents⟩ : TierD) :: L1).length cc) ((⟨2, t0.cents⟩ : TierD) :: L1).length (((⟨2, t0.cents⟩ : TierD) :: L1).flatMap tierC) from (HO8.out.stored 0 (.int .i64 2)).1)
        have hk6' := Ne.symm hk6; have hk0' := Ne.symm hk0
        go_wp2
        exact bodyPost_ret (v := .agg #[.slice (some ⟨k, 0, none⟩) ((⟨2, t0.cents⟩ : TierD) :: L1).length cc, .int .i64 b, .int .i64 c, .int .i64 d]) (by simp [results, Try.results57, go_sem, cxW0]) rfl ⟨_, cc, ((⟨2, t0.cents⟩ : TierD) :: L1), b, c, d, rfl, by (repeat (refine own_setOther ?_ (by simp [Value.ownBlock]; assumption) _ _)); exact HS.out, by simp at hL1 ⊢; omega, by (repeat (refine Src.setOther ?_ (by omega) (by omega) _ _)); exact HQw8.out, by (repeat (refine grown_own ?_ (by omega) _ _)); exact HGw8.out⟩
      · by_cases hr1 : r = 1
        · subst hr1
          go_wp2_with fail
          generalize hW9 : w8.alloc _ = W9
          have hbW9 : Below w8.heap.size w8 W9 := by subst hW9; exact (Below.refl _ _).alloc (Nat.le_refl _) _
          have hsW9 : W9.heap.size = w8.heap.size + 1 := by subst hW9; simp
          have cxW9_0 : ∀ i, W9.cell? ⟨w8.heap.size, i, none⟩ = (#[.int .i64 10000, .int .i64 10001, .int .i64 (-1)] : Array Value)[i]? := by intro i; subst hW9; simp [go_sem]
          have fzW9_0 : ∀ i, W9.frozen? ⟨w8.heap.size, i, none⟩ = false := by intro i; subst hW9; simp [go_sem]
          have HSW9 := Lib.hid hsW9; clear hW9 hsW9
          have HQW9 := Lib.hid (HQw8.out.below hbW9); have HGW9 := Lib.hid (grown_trans' HGw8.out (grown_of_below hbW9 _)); have hzW9 : W9.heap.size = w8.heap.size + 1 := HSW9.out
          replace cxW0 := fun i => (hbW9.cell (by (try simp only); omega)).trans (cxW0 i)
          replace fzW0 := fun i => (hbW9.frozen (by (try simp only); omega)).trans (fzW0 i)
          replace cxW6 := fun i => (hbW9.cell (by (try simp only); omega)).trans (cxW6 i)
          replace fzW6 := fun i => (hbW9.frozen (by (try simp only); omega)).trans (fzW6 i)
          clear HSW9
          have HO9 := Lib.hid (own_below HO8.out hbW9)
          refine (l01Pick_c B g (w8.heap.size) 0 _ [10000, 10001, -1] W9 HQW9.out (by omega) (pick_box (L := [10000, 10001, -1]) (fun i => by exact cxW9_0 i)) (by simp) (by simp) (by simp)).mono ?_
          rintro e w10 ⟨x, rfl, hxm, hqw10, hgw10⟩
          have HQw10 := Lib.hid hqw10; have HGw10 := Lib.hid (grown_trans' HGW9.out hgw10); have hzw10 := hgw10.size; have Hxm := Lib.hid hxm
          replace cxW0 := fun i => (hgw10.cell_far _ (by (try simp only); omega) (by simp; omega)).trans (cxW0 i)
          replace fzW0 := fun i => (hgw10.frozen_far _ (by (try simp only); omega) (by simp; omega)).trans (fzW0 i)
          replace cxW6 := fun i => (hgw10.cell_far _ (by (try simp only); omega) (by simp; omega)).trans (cxW6 i)
          replace fzW6 := fun i => (hgw10.frozen_far _ (by (try simp only); omega) (by simp; omega)).trans (fzW6 i)
          clear hqw10 hxm
          have HO10 := Lib.hid (HO9.out.kept hgw10 (.inr (by have := HO9.out.lt; intro e; have := this _ e; omega)))
          go_wp2
          exact bodyPost_ret (v := .agg #[.slice A L.length cc, .int .i64 x, .int .i64 c, .int .i64 d]) (by simp [results, Try.results57, go_sem, cxW0]) rfl ⟨A, cc, L, x, c, d, rfl, by (repeat (refine own_setOther ?_ (by first | exact HN6.out | exact HN0.out) _ _)); exact HO10.out, by omega, by (repeat (refine Src.setOther ?_ (by omega) (by omega) _ _)); exact HQw10.out, by (repeat (refine grown_own ?_ (by omega) _ _)); exact HGw10.out⟩
        · by_cases hr2 : r = 2
          · subst hr2
            go_wp2_with fail
            generalize hW9 : w8.alloc _ = W9
            have hbW9 : Below w8.heap.size w8 W9 := by subst hW9; exact (Below.refl _ _).alloc (Nat.le_refl _) _
            have hsW9 : W9.heap.size = w8.heap.size + 1 := by subst hW9; simp
            have cxW9_0 : ∀ i, W9.cell? ⟨w8.heap.size, i, none⟩ = (#[.int .i64 100000, .int .i64 100001] : Array Value)[i]? := by intro i; subst hW9; simp [go_sem]
            have fzW9_0 : ∀ i, W9.frozen? ⟨w8.heap.size, i, none⟩ = false := by intro i; subst hW9; simp [go_sem]
            have HSW9 := Lib.hid hsW9; clear hW9 hsW9
            have HQW9 := Lib.hid (HQw8.out.below hbW9); have HGW9 := Lib.hid (grown_trans' HGw8.out (grown_of_below hbW9 _)); have hzW9 : W9.heap.size = w8.heap.size + 1 := HSW9.out
            replace cxW0 := fun i => (hbW9.cell (by (try simp only); omega)).trans (cxW0 i)
            replace fzW0 := fun i => (hbW9.frozen (by (try simp only); omega)).trans (fzW0 i)
            replace cxW6 := fun i => (hbW9.cell (by (try simp only); omega)).trans (cxW6 i)
            replace fzW6 := fun i => (hbW9.frozen (by (try simp only); omega)).trans (fzW6 i)
            clear HSW9
            have HO9 := Lib.hid (own_below HO8.out hbW9)
            refine (l01Pick_c B g (w8.heap.size) 0 _ [100000, 100001] W9 HQW9.out (by omega) (pick_box (L := [100000, 100001]) (fun i => by exact cxW9_0 i)) (by simp) (by simp) (by simp)).mono ?_
            rintro e w10 ⟨x, rfl, hxm, hqw10, hgw10⟩
            have HQw10 := Lib.hid hqw10; have HGw10 := Lib.hid (grown_trans' HGW9.out hgw10); have hzw10 := hgw10.size; have Hxm := Lib.hid hxm
            replace cxW0 := fun i => (hgw10.cell_far _ (by (try simp only); omega) (by simp; omega)).trans (cxW0 i)
            replace fzW0 := fun i => (hgw10.frozen_far _ (by (try simp only); omega) (by simp; omega)).trans (fzW0 i)
            replace cxW6 := fun i => (hgw10.cell_far _ (by (try simp only); omega) (by simp; omega)).trans (cxW6 i)
            replace fzW6 := fun i => (hgw10.frozen_far _ (by (try simp only); omega) (by simp; omega)).trans (fzW6 i)
            clear hqw10 hxm
            have HO10 := Lib.hid (HO9.out.kept hgw10 (.inr (by have := HO9.out.lt; intro e; have := this _ e; omega)))
            go_wp2
            exact bodyPost_ret (v := .agg #[.slice A L.length cc, .int .i64 b, .int .i64 c, .int .i64 x]) (by simp [results, Try.results57, go_sem, cxW0]) rfl ⟨A, cc, L, b, c, x, rfl, by (repeat (refine own_setOther ?_ (by first | exact HN6.out | exact HN0.out) _ _)); exact HO10.out, by omega, by (repeat (refine Src.setOther ?_ (by omega) (by omega) _ _)); exact HQw10.out, by (repeat (refine grown_own ?_ (by omega) _ _)); exact HGw10.out⟩
          · by_cases hr3 : r = 3
            · subst hr3
              have HKF : Hid (Src w8.drew B g) := Lib.hid HQw8.out
              have ca8 : ∀ (o : Obj) (i : Nat), ((w8.alloc o).drew).cell? ⟨w5.heap.size, i, none⟩ = (#[.slice A L.length cc, .int .i64 b, .int .i64 c, .int .i64 d] : Array Value)[i]? := fun (o : Obj) (i : Nat) => (((Below.refl _ w8).alloc (Nat.le_refl _) o).cell (p := ⟨w5.heap.size, i, none⟩) (show w5.heap.size < w8.heap.size by omega)).trans (cxW6 i)
              have hw8 := hzw8
              go_wp2_with fail
              go_region_law (first
                | (go_simp; go_at_call 56; refine (l01Pick_c B g w8.heap.size 0 3 [dy, 1000, 1001] ((w8.alloc _).drew) (src_drewN (HQw8.out.below ((Below.refl _ _).alloc (Nat.le_refl _) _)) 1) (by omega) (pick_box (L := [dy, 1000, 1001]) (fun i => by simp [go_sem])) (by simp) (by simp) (by simp)).mono ?_; rintro e w10 ⟨x, rfl, hxm, hq10, hg10⟩; have HQ10 := Lib.hid hq10; have HG10 : Hid (w8.drew.grownBy w10 (some g)) := Lib.hid (grown_drew' (grown_alloc (grown_ofdrew hg10))); have hz10' : w8.heap.size + 1 ≤ w10.heap.size := (by have := hg10.size; simpa using this); have cx10 := fun i => (HG10.out.cell_far ⟨w5.heap.size, i, none⟩ (show w5.heap.size < w8.heap.size by omega) (fun h => by have h2 : w5.heap.size = g := Option.some.inj h; omega)).trans (cxW6 i); have ca10 := fun (o : Obj) (i : Nat) => (((Below.refl _ w10).alloc (Nat.le_refl _) o).cell (p := ⟨w5.heap.size, i, none⟩) (show w5.heap.size < w10.heap.size by omega)).trans (cx10 i); clear hq10 hg10 hxm)
                | (refine step_cat (w10.alloc (.cells #[.int .i64 x, .int .i64 0] 63)) (by rfl) (.tmp 65) (.tmp 71) 33 (by rfl) w.heap.size 63 i0 _ 2 16 Try.underlying33 hi hz0 hz1 hz2 rfl (by omega) (.slice A L.length cc) L.length (L.flatMap tierC) (by rfl) ((HO8.out.drew.kept HG10.out (.inr (by have h := HO8.out.lt; intro e; have := h _ e; omega))).alloc _) (some ⟨w10.heap.size, 0, none⟩) 1 1 _ [.int .i64 x, .int .i64 0] (by rfl) (Rd.of_block (heap_alloc_new w10 _)) (by simp [Value.oneCell']) (by unfold maxLen; omega) (by omega) (by have := HG10.out.size; simp at this ⊢; omega) (L.length + 1) (by omega) ?_; intro A2 c2 w11 ho11 hg11; have HO11 := Lib.hid (own_snocT ho11); have hg11' := grown_alloc hg11; have HQ11 := Lib.hid (HQ10.out.other hg11' (fun k hk => by have := HO8.out.lt k hk; omega));
                   have hz11 := hg11'.size;
                   have cy0 := fun i => (hg11'.cell_far ⟨w.heap.size, i, none⟩ (show w.heap.size < w10.heap.size by omega) (Ne.symm HN0.out)).trans ((HG10.out.cell_far ⟨w.heap.size, i, none⟩ (show w.heap.size < w8.heap.size by omega) (fun h => by have h2 : w.heap.size = g := Option.some.inj h; omega)).trans (cxW0 i));
                   have cy6 := fun i => (hg11'.cell_far ⟨w5.heap.size, i, none⟩ (show w5.heap.size < w10.heap.size by omega) (Ne.symm HN6.out)).trans (cx10 i);
                   have fy0 := fun i => (hg11'.frozen_far ⟨w.heap.size, i, none⟩ (show w.heap.size < w10.heap.size by omega) (Ne.symm HN0.out)).trans ((HG10.out.frozen_far ⟨w.heap.size, i, none⟩ (show w.heap.size < w8.heap.size by omega) (fun h => by have h2 : w.heap.size = g := Option.some.inj h; omega)).trans (fzW0 i));
                   have fy6 := fun i => (hg11'.frozen_far ⟨w5.heap.size, i, none⟩ (show w5.heap.size < w10.heap.size by omega) (Ne.symm HN6.out)).trans ((HG10.out.frozen_far ⟨w5.heap.size, i, none⟩ (show w5.heap.size < w8.heap.size by omega) (fun h => by have h2 : w5.heap.size = g := Option.some.inj h; omega)).trans (fzW6 i))))
              all_goals
                have hgr : w.grownBy w11 (some g) := ((grown_trans' HGw8.out (grown_ofdrew HG10.out)).andThen hg11' (fun k hk => .inl ((HO8.out.lt k hk).1)))
                have HGR := Lib.hid hgr
                clear hgr
                go_wp2
                exact bodyPost_ret (v := .agg #[.slice A2 (L ++ [(⟨x, 0⟩ : TierD)]).length c2, .int .i64 b, .int .i64 c, .int .i64 d]) (by simp [results, Try.results57, go_sem, cy0]) rfl ⟨A2, c2, L ++ [(⟨x, 0⟩ : TierD)], b, c, d, rfl, by (repeat (refine own_setOther ?_ (by first | exact tier_ne HO11.out cy6 rfl (by simp) | exact tier_ne HO11.out cy0 rfl (by simp)) _ _)); exact HO11.out, by simp; omega, by (repeat (refine Src.setOther ?_ (by omega) (by omega) _ _)); exact HQ11.out, by (repeat (refine grown_own ?_ (by omega) _ _)); exact HGR.out⟩
            · go_wp2
              exact bodyPost_ret (v := .agg #[.slice A L.length cc, .int .i64 b, .int .i64 c, .int .i64 d]) (by simp [results, Try.results57, go_sem, cxW0]) rfl ⟨A, cc, L, b, c, d, rfl, by (repeat (refine own_setOther ?_ (by first | exact HN6.out | exact HN0.out) _ _)); exact HO8.out, by omega, by (repeat (refine Src.setOther ?_ (by omega) (by omega) _ _)); exact HQw8.out, by (repeat (refine grown_own ?_ (by omega) _ _)); exact HGw8.out⟩
end Go.Proofs.Ythkobjadfeidmaa
