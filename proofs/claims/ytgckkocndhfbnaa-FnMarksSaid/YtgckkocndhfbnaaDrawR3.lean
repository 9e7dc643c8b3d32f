/- Contracts of the draws of redaction: DrawJoinMarks, DrawAddMark, DrawMarkWord. -/
import Derived.Test.YtgckkocndhfbnaaDrawR2
import Derived.Deep.RegionLaw
namespace Go.Proofs.Ytgckkocndhfbnaa
open Go.RowKit
set_option linter.unusedVariables false
def JoinP (w : World) (e : Ending) (w' : World) : Prop := ∃ (t : ByteArray) (A : Option Addr) (c : Nat) (D : List MarkD), e = .returned (.tuple #[.string t, .slice A D.length c]) ∧ DrewR w t A c D w'
set_option maxRecDepth 100000 in
set_option maxHeartbeats 4000000 in
theorem DrawJoinMarks_c (A : Option Addr) (c : Nat) (L : List Int) (w : World) (hr : Rd w w.heap.size A L.length (L.map (Value.int .u8))) (hx : ∀ x ∈ L, 0 ≤ x ∧ x ≤ 255) (hL : L.length ≤ 4096) (hc : L.length ≤ c) : Calls Try.prog 37 #[.slice A L.length c] w (JoinP w) := by
  go_enter Try.func37, Try.ntmps37
  go_wp2_with fail
  refine (l01From_c A c L w hr hx hL hc).mono ?_
  rintro e w1 ⟨rfl, hS, hb1⟩
  have HS1 := Lib.hid hS
  have HB1 := Lib.hid hb1
  clear hr hx hS hb1
  go_wp2_with fail
  refine (l32Draw_c _ _ w1 HS1.out).mono ?_
  rintro e w2 ⟨t, A2, c2, D, rfl, ht, hl, ho, hq, hg⟩
  go_wp2
  go_ret2
  exact ⟨t, A2, c2, D, rfl, ht, hl, own_mono ho HB1.out.size, below_src HB1.out hg⟩
def AddP (w : World) (e : Ending) (w' : World) : Prop := ∃ (t : ByteArray) (A : Option Addr) (c : Nat) (D : List MarkD) (y0 y1 y2 : Int), e = .returned (.tuple #[.string t, .slice A D.length c, .agg #[.int .i64 y0, .int .i64 y1, .int .i64 y2]]) ∧ DrewR w t A c D w'
set_option maxRecDepth 100000 in
set_option maxHeartbeats 4000000 in
theorem DrawAddMark_c (A : Option Addr) (c : Nat) (L : List Int) (w : World) (hr : Rd w w.heap.size A L.length (L.map (Value.int .u8))) (hx : ∀ x ∈ L, 0 ≤ x ∧ x ≤ 255) (hL : L.length ≤ 4096) (hc : L.length ≤ c) : Calls Try.prog 36 #[.slice A L.length c] w (AddP w) := by
  go_enter Try.func36, Try.ntmps36
  go_wp2_with fail
  generalize hW0 : w.alloc _ = W0
  have hbW0 : Below w.heap.size w W0 := by subst hW0; exact (Below.refl _ _).alloc (Nat.le_refl _) _
  have hsW0 : W0.heap.size = w.heap.size + 1 := by subst hW0; simp
  have cxW0_0 : ∀ i, W0.cell? ⟨w.heap.size, i, none⟩ = (#[.int .i64 0, .int .i64 0, .int .i64 0] : Array Value)[i]? := by intro i; subst hW0; simp [go_sem]
  have fzW0_0 : ∀ i, W0.frozen? ⟨w.heap.size, i, none⟩ = false := by intro i; subst hW0; simp [go_sem]
  have HSW0 := Lib.hid hsW0; clear hW0 hsW0
  have hz0 : W0.heap.size = w.heap.size + 1 := HSW0.out
  refine (l01From_c A c L W0 (rdW hbW0 hr) hx hL hc).mono ?_
  rintro e w1 ⟨rfl, hS, hb1⟩
  have HS1 := Lib.hid hS
  have hlt1 := hS.lt
  have HB1 := Lib.hid (bt hbW0 hb1)
  have hbs := hb1.size
  replace cxW0_0 := fun i => (hb1.cell (p := ⟨w.heap.size, i, none⟩) (by simp only; omega)).trans (cxW0_0 i)
  replace fzW0_0 := fun i => (hb1.frozen (p := ⟨w.heap.size, i, none⟩) (by simp only; omega)).trans (fzW0_0 i)
  clear hr hx hS hb1
  have HZ0 := Lib.hid hz0
  have hz0a : w.heap.size < W0.heap.size := by omega
  clear hz0 HSW0
  go_wp2_with fail
  refine (l32Draw_c _ _ w1 HS1.out).mono ?_
  rintro e w2 ⟨t, A2, c2, D, rfl, ht, hl, ho, hq, hg⟩
  have HO2 := Lib.hid ho; have HQw2 := Lib.hid hq; have HGw2 := Lib.hid hg; have hzw2 := hg.size
  replace cxW0_0 := fun i => (hg.cell_far ⟨w.heap.size, i, none⟩ (show w.heap.size < w1.heap.size by omega) (fun h => by have h2 : w.heap.size = W0.heap.size := Option.some.inj h; omega)).trans (cxW0_0 i)
  replace fzW0_0 := fun i => (hg.frozen_far ⟨w.heap.size, i, none⟩ (show w.heap.size < w1.heap.size by omega) (fun h => by have h2 : w.heap.size = W0.heap.size := Option.some.inj h; omega)).trans (fzW0_0 i)
  clear ho hq hg
  go_wp2_with fail
  refine (l01Next_c W0.heap.size W0.heap.size ((t.size : Int) + 2) w2 HQw2.out (by omega)).mono ?_
  rintro e w3 ⟨fr, rfl, ⟨hfr0, hfr1⟩, hqw3, hgw3⟩
  have HQw3 := Lib.hid hqw3; have HGw3 := Lib.hid (grown_trans' HGw2.out hgw3); have hzw3 := hgw3.size
  replace cxW0_0 := fun i => (hgw3.cell_far _ (by (try simp only); omega) (by simp; omega)).trans (cxW0_0 i)
  replace fzW0_0 := fun i => (hgw3.frozen_far _ (by (try simp only); omega) (by simp; omega)).trans (fzW0_0 i)
  clear hqw3
  have HO3 := Lib.hid (HO2.out.kept hgw3 (.inr (fun e => by have := HO2.out.lt _ e; omega)))
  go_wp2_with fail
  refine (l01Next_c W0.heap.size W0.heap.size (5) w3 HQw3.out (by omega)).mono ?_
  rintro e w4 ⟨q, rfl, ⟨hq0, hq1⟩, hqw4, hgw4⟩
  have HQw4 := Lib.hid hqw4; have HGw4 := Lib.hid (grown_trans' HGw3.out hgw4); have hzw4 := hgw4.size
  replace cxW0_0 := fun i => (hgw4.cell_far _ (by (try simp only); omega) (by simp; omega)).trans (cxW0_0 i)
  replace fzW0_0 := fun i => (hgw4.frozen_far _ (by (try simp only); omega) (by simp; omega)).trans (fzW0_0 i)
  clear hqw4
  have HO4 := Lib.hid (HO3.out.kept hgw4 (.inr (fun e => by have := HO3.out.lt _ e; omega)))
  go_wp2_with fail
  generalize hW5 : w4.alloc _ = W5
  have hbW5 : Below w4.heap.size w4 W5 := by subst hW5; exact (Below.refl _ _).alloc (Nat.le_refl _) _
  have hsW5 : W5.heap.size = w4.heap.size + 1 := by subst hW5; simp
  have cxW5_0 : ∀ i, W5.cell? ⟨w4.heap.size, i, none⟩ = (#[.int .i64 1, .int .i64 2, .int .i64 9, .int .i64 10, .int .i64 3] : Array Value)[i]? := by intro i; subst hW5; simp [go_sem]
  have fzW5_0 : ∀ i, W5.frozen? ⟨w4.heap.size, i, none⟩ = false := by intro i; subst hW5; simp [go_sem]
  have HSW5 := Lib.hid hsW5; clear hW5 hsW5
  have HQW5 := Lib.hid (HQw4.out.below hbW5); have HGW5 := Lib.hid (grown_trans' HGw4.out (grown_of_below hbW5 _)); have hzW5 : W5.heap.size = w4.heap.size + 1 := HSW5.out
  replace cxW0_0 := fun i => (hbW5.cell (by (try simp only); omega)).trans (cxW0_0 i)
  replace fzW0_0 := fun i => (hbW5.frozen (by (try simp only); omega)).trans (fzW0_0 i)
  clear HSW5
  have HO5 := Lib.hid (own_below HO4.out hbW5)
  refine (l01Pick_c W0.heap.size W0.heap.size (w4.heap.size) 0 _ [1, 2, 9, 10, 3] W5 HQW5.out (by omega) (pick_box (L := [1, 2, 9, 10, 3]) (fun i => by exact cxW5_0 i)) (by simp) (by simp) (by simp)).mono ?_
  rintro e w6 ⟨p, rfl, hpm, hqw6, hgw6⟩
  have HQw6 := Lib.hid hqw6; have HGw6 := Lib.hid (grown_trans' HGW5.out hgw6); have hzw6 := hgw6.size; have Hpm := Lib.hid hpm
  replace cxW0_0 := fun i => (hgw6.cell_far _ (by (try simp only); omega) (by simp; omega)).trans (cxW0_0 i)
  replace fzW0_0 := fun i => (hgw6.frozen_far _ (by (try simp only); omega) (by simp; omega)).trans (fzW0_0 i)
  clear hqw6 hpm
  have HO6 := Lib.hid (HO5.out.kept hgw6 (.inr (fun e => by have := HO5.out.lt _ e; omega)))
  have HB6 := Lib.hid (below_grown HB1.out HGw6.out (Nat.le_refl _) (fun k hk => by injection hk with hk; omega))
  go_wp2
  refine bodyPost_ret (v := .tuple #[.string t, .slice A2 D.length c2, .agg #[.int .i64 fr, .int .i64 (fr + q), .int .i64 p]]) (by simp [results, Try.results36, go_sem, cxW0_0]) rfl ?_
  refine ⟨t, A2, c2, D, fr, fr + q, p, rfl, ht, hl, ?_, ?_⟩
  · have ho := own_mono HO6.out HB1.out.size
    have hk : ∀ (W : World) (i : Nat) (u : Value), W.ownsRow w1.heap.size 42 3 (.slice A2 D.length c2) D.length (D.flatMap markC) → (W.setCell ⟨w.heap.size, i, none⟩ u).ownsRow w1.heap.size 42 3 (.slice A2 D.length c2) D.length (D.flatMap markC) := fun W i u h => h.kept (grown_set (World.grownBy.refl _ _)) (.inr (fun e => by have := h.lt _ e; omega))
    refine own_mono ?_ HB1.out.size
    repeat (first | exact HO6.out | refine hk _ _ _ ?_)
  · exact ((HB6.out.setCell (p := ⟨w.heap.size, 0, none⟩) (Nat.le_refl _) _).setCell (p := ⟨w.heap.size, 1, none⟩) (Nat.le_refl _) _).setCell (p := ⟨w.heap.size, 2, none⟩) (Nat.le_refl _) _
end Go.Proofs.Ytgckkocndhfbnaa
