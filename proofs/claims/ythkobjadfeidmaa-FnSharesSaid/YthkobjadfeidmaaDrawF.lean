/- Contracts of the draws of fees: l29Service. -/
import Derived.Test.YthkobjadfeidmaaSrc2
import Derived.Test.YthkobjadfeidmaaTier
namespace Go.Proofs.Ythkobjadfeidmaa
open Go.RowKit
set_option linter.unusedVariables false
def ServP (B g : Nat) (w : World) (e : Ending) (w' : World) : Prop := ∃ d ml ms : Int, e = .returned (.agg #[.int .i64 d, .int .i64 ml, .int .i64 ms]) ∧ Src w' B g ∧ w.grownBy w' (some g)
set_option maxRecDepth 100000 in
set_option maxHeartbeats 2000000 in
theorem l29Service_c (B g : Nat) (w : World) (hS : Src w B g) : Calls Try.prog 71 #[.pointer (some ⟨g, 0, none⟩)] w (ServP B g w) := by
  have hgB := hS.ge; have hgl := hS.lt
  have HQw := Lib.hid hS; have HGw := Lib.hid (World.grownBy.refl w (some g)); clear hS
  go_enter Try.func71, Try.ntmps71
  go_wp2_with fail
  generalize hW0 : w.alloc _ = W0
  have hbW0 : Below w.heap.size w W0 := by subst hW0; exact (Below.refl _ _).alloc (Nat.le_refl _) _
  have hsW0 : W0.heap.size = w.heap.size + 1 := by subst hW0; simp
  have cxW0_0 : ∀ i, W0.cell? ⟨w.heap.size, i, none⟩ = (#[.int .i64 0, .int .i64 0, .int .i64 0] : Array Value)[i]? := by intro i; subst hW0; simp [go_sem]
  have fzW0_0 : ∀ i, W0.frozen? ⟨w.heap.size, i, none⟩ = false := by intro i; subst hW0; simp [go_sem]
  have HSW0 := Lib.hid hsW0; clear hW0 hsW0
  have HQW0 := Lib.hid (HQw.out.below hbW0); have HGW0 := Lib.hid (grown_trans' HGw.out (grown_of_below hbW0 _)); have hzW0 : W0.heap.size = w.heap.size + 1 := HSW0.out
  clear HSW0
  refine (l01Next_c B g 40 W0 HQW0.out (by omega)).mono ?_
  rintro e w1 ⟨a, rfl, ⟨ha0, ha1⟩, hqw1, hgw1⟩
  have HQw1 := Lib.hid hqw1; have HGw1 := Lib.hid (grown_trans' HGW0.out hgw1); have hzw1 := hgw1.size
  replace cxW0_0 := fun i => (hgw1.cell_far _ (by (try simp only); omega) (by simp; omega)).trans (cxW0_0 i)
  replace fzW0_0 := fun i => (hgw1.frozen_far _ (by (try simp only); omega) (by simp; omega)).trans (fzW0_0 i)
  clear hqw1
  go_wp2_with fail
  refine (l01Next_c B g 60 w1 HQw1.out (by omega)).mono ?_
  rintro e w2 ⟨b, rfl, ⟨hb0, hb1⟩, hqw2, hgw2⟩
  have HQw2 := Lib.hid hqw2; have HGw2 := Lib.hid (grown_trans' HGw1.out hgw2); have hzw2 := hgw2.size
  replace cxW0_0 := fun i => (hgw2.cell_far _ (by (try simp only); omega) (by simp; omega)).trans (cxW0_0 i)
  replace fzW0_0 := fun i => (hgw2.frozen_far _ (by (try simp only); omega) (by simp; omega)).trans (fzW0_0 i)
  clear hqw2
  go_wp2_with fail
  refine (l01Next_c B g 300 w2 HQw2.out (by omega)).mono ?_
  rintro e w3 ⟨c, rfl, ⟨hc0, hc1⟩, hqw3, hgw3⟩
  have HQw3 := Lib.hid hqw3; have HGw3 := Lib.hid (grown_trans' HGw2.out hgw3); have hzw3 := hgw3.size
  replace cxW0_0 := fun i => (hgw3.cell_far _ (by (try simp only); omega) (by simp; omega)).trans (cxW0_0 i)
  replace fzW0_0 := fun i => (hgw3.frozen_far _ (by (try simp only); omega) (by simp; omega)).trans (fzW0_0 i)
  clear hqw3
  go_wp2_with fail
  generalize hW4 : w3.alloc _ = W4
  have hbW4 : Below w3.heap.size w3 W4 := by subst hW4; exact (Below.refl _ _).alloc (Nat.le_refl _) _
  have hsW4 : W4.heap.size = w3.heap.size + 1 := by subst hW4; simp
  have cxW4_0 : ∀ i, W4.cell? ⟨w3.heap.size, i, none⟩ = (#[.int .i64 a, .int .i64 b, .int .i64 c] : Array Value)[i]? := by intro i; subst hW4; simp [go_sem]
  have fzW4_0 : ∀ i, W4.frozen? ⟨w3.heap.size, i, none⟩ = false := by intro i; subst hW4; simp [go_sem]
  have HSW4 := Lib.hid hsW4; clear hW4 hsW4
  have HQW4 := Lib.hid (HQw3.out.below hbW4); have HGW4 := Lib.hid (grown_trans' HGw3.out (grown_of_below hbW4 _)); have hzW4 : W4.heap.size = w3.heap.size + 1 := HSW4.out
  replace cxW0_0 := fun i => (hbW4.cell (by (try simp only); omega)).trans (cxW0_0 i)
  replace fzW0_0 := fun i => (hbW4.frozen (by (try simp only); omega)).trans (fzW0_0 i)
  clear HSW4
  refine (l01Next_c B g 24 W4 HQW4.out (by omega)).mono ?_
  rintro e w5 ⟨r, rfl, ⟨hr0, hr1⟩, hqw5, hgw5⟩
  have HQw5 := Lib.hid hqw5; have HGw5 := Lib.hid (grown_trans' HGW4.out hgw5); have hzw5 := hgw5.size
  replace cxW0_0 := fun i => (hgw5.cell_far _ (by (try simp only); omega) (by simp; omega)).trans (cxW0_0 i)
  replace fzW0_0 := fun i => (hgw5.frozen_far _ (by (try simp only); omega) (by simp; omega)).trans (fzW0_0 i)
  replace cxW4_0 := fun i => (hgw5.cell_far _ (by (try simp only); omega) (by simp; omega)).trans (cxW4_0 i)
  replace fzW4_0 := fun i => (hgw5.frozen_far _ (by (try simp only); omega) (by simp; omega)).trans (fzW4_0 i)
  clear hqw5
  by_cases hr0 : r = 0
  · subst hr0
    go_wp2_with fail
    generalize hW6 : w5.alloc _ = W6
    have hbW6 : Below w5.heap.size w5 W6 := by subst hW6; exact (Below.refl _ _).alloc (Nat.le_refl _) _
    have hsW6 : W6.heap.size = w5.heap.size + 1 := by subst hW6; simp
    have cxW6_0 : ∀ i, W6.cell? ⟨w5.heap.size, i, none⟩ = (#[.int .i64 1000, .int .i64 1001, .int .i64 (-1)] : Array Value)[i]? := by intro i; subst hW6; simp [go_sem]
    have fzW6_0 : ∀ i, W6.frozen? ⟨w5.heap.size, i, none⟩ = false := by intro i; subst hW6; simp [go_sem]
    have HSW6 := Lib.hid hsW6; clear hW6 hsW6
    have HQW6 := Lib.hid (HQw5.out.below hbW6); have HGW6 := Lib.hid (grown_trans' HGw5.out (grown_of_below hbW6 _)); have hzW6 : W6.heap.size = w5.heap.size + 1 := HSW6.out
    replace cxW0_0 := fun i => (hbW6.cell (by (try simp only); omega)).trans (cxW0_0 i)
    replace fzW0_0 := fun i => (hbW6.frozen (by (try simp only); omega)).trans (fzW0_0 i)
    replace cxW4_0 := fun i => (hbW6.cell (by (try simp only); omega)).trans (cxW4_0 i)
    replace fzW4_0 := fun i => (hbW6.frozen (by (try simp only); omega)).trans (fzW4_0 i)
    clear HSW6
    refine (l01Pick_c B g (w5.heap.size) 0 _ [1000, 1001, -1] W6 HQW6.out (by omega) (pick_box (L := [1000, 1001, -1]) (fun i => by exact cxW6_0 i)) (by simp) (by simp) (by simp)).mono ?_
    rintro e w7 ⟨x, rfl, hxm, hqw7, hgw7⟩
    have HQw7 := Lib.hid hqw7; have HGw7 := Lib.hid (grown_trans' HGW6.out hgw7); have hzw7 := hgw7.size; have Hxm := Lib.hid hxm
    replace cxW0_0 := fun i => (hgw7.cell_far _ (by (try simp only); omega) (by simp; omega)).trans (cxW0_0 i)
    replace fzW0_0 := fun i => (hgw7.frozen_far _ (by (try simp only); omega) (by simp; omega)).trans (fzW0_0 i)
    replace cxW4_0 := fun i => (hgw7.cell_far _ (by (try simp only); omega) (by simp; omega)).trans (cxW4_0 i)
    replace fzW4_0 := fun i => (hgw7.frozen_far _ (by (try simp only); omega) (by simp; omega)).trans (fzW4_0 i)
    clear hqw7 hxm
    go_wp2
    exact bodyPost_ret (v := .agg #[.int .i64 x, .int .i64 b, .int .i64 c]) (by simp [results, Try.results71, go_sem, cxW0_0]) rfl ⟨x, b, c, rfl, by (repeat (refine Src.setOther ?_ (by omega) (by omega) _ _)); exact HQw7.out, by (repeat (refine grown_own ?_ (by omega) _ _)); exact HGw7.out⟩
  · by_cases hr1 : r = 1
    · subst hr1
      go_wp2_with fail
      generalize hW6 : w5.alloc _ = W6
      have hbW6 : Below w5.heap.size w5 W6 := by subst hW6; exact (Below.refl _ _).alloc (Nat.le_refl _) _
      have hsW6 : W6.heap.size = w5.heap.size + 1 := by subst hW6; simp
      have cxW6_0 : ∀ i, W6.cell? ⟨w5.heap.size, i, none⟩ = (#[.int .i64 10000, .int .i64 10001] : Array Value)[i]? := by intro i; subst hW6; simp [go_sem]
      have fzW6_0 : ∀ i, W6.frozen? ⟨w5.heap.size, i, none⟩ = false := by intro i; subst hW6; simp [go_sem]
      have HSW6 := Lib.hid hsW6; clear hW6 hsW6
      have HQW6 := Lib.hid (HQw5.out.below hbW6); have HGW6 := Lib.hid (grown_trans' HGw5.out (grown_of_below hbW6 _)); have hzW6 : W6.heap.size = w5.heap.size + 1 := HSW6.out
      replace cxW0_0 := fun i => (hbW6.cell (by (try simp only); omega)).trans (cxW0_0 i)
      replace fzW0_0 := fun i => (hbW6.frozen (by (try simp only); omega)).trans (fzW0_0 i)
      replace cxW4_0 := fun i => (hbW6.cell (by (try simp only); omega)).trans (cxW4_0 i)
      replace fzW4_0 := fun i => (hbW6.frozen (by (try simp only); omega)).trans (fzW4_0 i)
      clear HSW6
      refine (l01Pick_c B g (w5.heap.size) 0 _ [10000, 10001] W6 HQW6.out (by omega) (pick_box (L := [10000, 10001]) (fun i => by exact cxW6_0 i)) (by simp) (by simp) (by simp)).mono ?_
      rintro e w7 ⟨x, rfl, hxm, hqw7, hgw7⟩
      have HQw7 := Lib.hid hqw7; have HGw7 := Lib.hid (grown_trans' HGW6.out hgw7); have hzw7 := hgw7.size; have Hxm := Lib.hid hxm
      replace cxW0_0 := fun i => (hgw7.cell_far _ (by (try simp only); omega) (by simp; omega)).trans (cxW0_0 i)
      replace fzW0_0 := fun i => (hgw7.frozen_far _ (by (try simp only); omega) (by simp; omega)).trans (fzW0_0 i)
      replace cxW4_0 := fun i => (hgw7.cell_far _ (by (try simp only); omega) (by simp; omega)).trans (cxW4_0 i)
      replace fzW4_0 := fun i => (hgw7.frozen_far _ (by (try simp only); omega) (by simp; omega)).trans (fzW4_0 i)
      clear hqw7 hxm
      go_wp2
      exact bodyPost_ret (v := .agg #[.int .i64 a, .int .i64 b, .int .i64 x]) (by simp [results, Try.results71, go_sem, cxW0_0]) rfl ⟨a, b, x, rfl, by (repeat (refine Src.setOther ?_ (by omega) (by omega) _ _)); exact HQw7.out, by (repeat (refine grown_own ?_ (by omega) _ _)); exact HGw7.out⟩
    · go_wp2
      exact bodyPost_ret (v := .agg #[.int .i64 a, .int .i64 b, .int .i64 c]) (by simp [results, Try.results71, go_sem, cxW0_0]) rfl ⟨a, b, c, rfl, by (repeat (refine Src.setOther ?_ (by omega) (by omega) _ _)); exact HQw5.out, by (repeat (refine grown_own ?_ (by omega) _ _)); exact HGw5.out⟩
end Go.Proofs.Ythkobjadfeidmaa
