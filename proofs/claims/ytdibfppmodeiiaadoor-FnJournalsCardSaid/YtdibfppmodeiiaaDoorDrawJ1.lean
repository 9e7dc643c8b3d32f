/- Contract of the draw of entries: l33Entry. -/
import Derived.Test.YtdibfppmodeiiaaDoorDrawJ0
namespace Go.Proofs.YtdibfppmodeiiaaDoor
open Go.RowKit
set_option linter.unusedVariables false
attribute [local go_sem ↓ high] run_index_at
set_option maxRecDepth 100000 in
set_option maxHeartbeats 8000000 in
theorem l33Entry_c (B g : Nat) (w : World) (hS : Src w B g) : Calls Tryd.prog 30 #[.pointer (some ⟨g, 0, none⟩)] w (EntP B g w) := by
  have hgB := hS.ge; have hgl := hS.lt
  have HQw := Lib.hid hS; have HGw := Lib.hid (World.grownBy.refl w (some g)); clear hS
  go_enter Tryd.func30, Tryd.ntmps30
  go_upto_region 1 with fail
  generalize hw1 : w.alloc _ = w1
  have hb1 : Below w.heap.size w w1 := by subst hw1; exact (Below.refl _ _).alloc (Nat.le_refl _) _
  have hz1 : w1.heap.size = w.heap.size + 1 := by subst hw1; simp
  have hX1 : Bx w1 w.heap.size (.int .u8 0) (.string ⟨#[]⟩) := by subst hw1; exact ⟨by simp [go_sem], by simp [go_sem], fun i => by simp [go_sem]⟩
  have HX1 := Lib.hid hX1
  have HZ1 := Lib.hid hz1
  have HQw1 := Lib.hid (HQw.out.below hb1); have HGw1 := Lib.hid (grown_trans' HGw.out (grown_of_below hb1 _))
  have hlt1 : w.heap.size < w1.heap.size := by omega
  have hg1 : g < w1.heap.size := by omega
  clear hw1 hX1 hz1
  go_cut [3] (fun s3 wc => ∃ (b : Nat) (a0 : Int) (a1 : ByteArray), s3 = .pointer (some ⟨b, 0, none⟩) ∧ (0 ≤ a0 ∧ a0 ≤ 255) ∧ a1.size ≤ 41 ∧ (w1.heap.size ≤ b ∧ b < wc.heap.size) ∧ Hid (Bx wc b (.int .u8 a0) (.string a1)) ∧ Hid (Src wc B g) ∧ Hid (w1.grownBy wc (some g)))
  case first =>
    go_wp2_with fail
    have HR1 := fun Q HP HF => r1_all (Q := Q) HP (B := B) (g := g) (ws := w.heap.size) (w1 := w1) hgB hg1 HF ⟨HQw1.out, World.grownBy.refl _ _⟩
    refine wp_region_noPanic ?_
    refine HR1 _ (Lib.hid (fun _ _ _ _ h => h)) (Lib.hid (fun b3 b7 d q p W hb3 hX hps hSS => ?_))
    refine NoPanic.normal ?_
    have HSS := Lib.hid hSS; have HXX := Lib.hid hX
    clear hSS hX
    go_wp2
    go_meet
    case rel => exact ⟨b3, _, p, rfl, byteAt_bd _ _, hps, hb3, HXX.out, HSS.out.1, HSS.out.2⟩
  case rest =>
    obtain ⟨b, a0, a1, rfl, ha0, ha1, hb, HB, HQv2, HGB⟩ := hcut
    obtain ⟨v2, rfl⟩ : ∃ x, x = wc := ⟨_, rfl⟩
    have HGv2 := Lib.hid (grown_trans' HGw1.out HGB.out)
    have HR2 := Lib.hid (HX1.out.far HGB.out hlt1 (by omega))
    have hzv2 := HGB.out.size
    have hbg : b ≠ g := by omega
    have hbw : b ≠ w.heap.size := by omega
    have hwg : w.heap.size ≠ g := by omega
    have hwb : w.heap.size ≠ b := by omega
    have hBg := HQw.out.ge
    have FIN : Hid (∀ (W : World) (x0 : Int) (x1 : ByteArray), Src W B g → w.grownBy W (some g) → (0 ≤ x0 ∧ x0 ≤ 255) → x1.size ≤ 41 → EntP B g w (.returned (.agg #[.int .u8 x0, .string x1])) ((W.setCell ⟨w.heap.size, 0, none⟩ (.int .u8 x0)).setCell ⟨w.heap.size, 1, none⟩ (.string x1))) := fun W x0 x1 h1 h2 h3 h4 =>
      ⟨x0, x1, rfl, h3, h4, (h1.setOther (by omega) hwg _ _).setOther (by omega) hwg _ _, grown_own (grown_own h2 (Nat.le_refl _) _ _) (Nat.le_refl _) _ _⟩
    clear HGB HX1 HQw1 HGw1 HQw HGw
    go_wp2_with fail
    refine (l01Next_c B g (30) v2 HQv2.out (by omega)).mono ?_
    rintro e v3 ⟨r, rfl, ⟨hr0, hr1⟩, hqv3, hgv3⟩
    have HQv3 := Lib.hid hqv3; have HGv3 := Lib.hid (grown_trans' HGv2.out hgv3); have hzv3 := hgv3.size
    clear hqv3
    have HB3 := Lib.hid (HB.out.far hgv3 hb.2 hbg)
    have HR3 := Lib.hid (HR2.out.far hgv3 (by omega) hwg)
    clear HB HR2
    by_cases h0 : r = 0
    · subst h0
      go_wp2_with fail
      refine (l01Next_c B g (4) v3 HQv3.out (by omega)).mono ?_
      rintro e v4 ⟨d, rfl, ⟨hd0, hd1⟩, hqv4, hgv4⟩
      have HQv4 := Lib.hid hqv4; have HGv4 := Lib.hid (grown_trans' HGv3.out hgv4); have hzv4 := hgv4.size
      clear hqv4
      obtain ⟨c0, c1, cz⟩ := HB3.out.far hgv4 (by omega) hbg
      obtain ⟨r0, r1, rz⟩ := HR3.out.far hgv4 (by omega) hwg
      obtain ⟨d, rfl⟩ := Int.eq_ofNat_of_zero_le hd0
      have hdD : d < 4 := by omega
      have hbd := byteAt_bd { data := #[97, 64, 91, 90] } d
      go_wp2
      refine bodyPost_ret (v := .agg #[.int .u8 (byteAt { data := #[97, 64, 91, 90] } d), .string a1]) (by simp [results, Tryd.results30, go_sem, r0, r1]) rfl ?_
      exact FIN.out _ _ _ (HQv4.out.setOther (by omega) hbg _ _) (grown_own HGv4.out (by omega) _ _) hbd ha1
    by_cases h1 : r = 1
    · subst h1
      go_wp2_with fail
      generalize hW4 : v3.alloc _ = W4
      have hbW4 : Below v3.heap.size v3 W4 := by subst hW4; exact (Below.refl _ _).alloc (Nat.le_refl _) _
      have hsW4 : W4.heap.size = v3.heap.size + 1 := by subst hW4; simp
      have cxW4_0 : ∀ i, W4.cell? ⟨v3.heap.size, i, none⟩ = (#[.string { data := #[97, 10] }, .string { data := #[48, 49, 50, 51, 52, 53, 54, 55, 56, 57, 48, 49, 50, 51, 52, 53, 54, 55, 56, 57, 48, 49, 50, 51, 52, 53, 54, 55, 56, 57, 48, 49, 50, 51, 52, 53, 54, 55, 56, 57] }, .string { data := #[48, 49, 50, 51, 52, 53, 54, 55, 56, 57, 48, 49, 50, 51, 52, 53, 54, 55, 56, 57, 48, 49, 50, 51, 52, 53, 54, 55, 56, 57, 48, 49, 50, 51, 52, 53, 54, 55, 56, 57, 48] }] : Array Value)[i]? := by intro i; subst hW4; simp [go_sem]
      have fzW4_0 : ∀ i, W4.frozen? ⟨v3.heap.size, i, none⟩ = false := by intro i; subst hW4; simp [go_sem]
      have HSW4 := Lib.hid hsW4; clear hW4 hsW4
      have HQW4 := Lib.hid (HQv3.out.below hbW4); have HGW4 := Lib.hid (grown_trans' HGv3.out (grown_of_below hbW4 _)); have hzW4 : W4.heap.size = v3.heap.size + 1 := HSW4.out
      clear HSW4
      have HB4 := Lib.hid (HB3.out.below hbW4 (by omega))
      have HR4 := Lib.hid (HR3.out.below hbW4 (by omega))
      refine (l01Next_c B g (3) W4 HQW4.out (by omega)).mono ?_
      rintro e v5 ⟨q, rfl, ⟨hq0, hq1⟩, hqv5, hgv5⟩
      have HQv5 := Lib.hid hqv5; have HGv5 := Lib.hid (grown_trans' HGW4.out hgv5); have hzv5 := hgv5.size
      replace cxW4_0 := fun i => (hgv5.cell_far _ (by (try simp only); omega) (by simp; omega)).trans (cxW4_0 i)
      clear hqv5
      obtain ⟨q, rfl⟩ := Int.eq_ofNat_of_zero_le hq0
      have hqD : q < 3 := by omega
      have hqb : (q : Int) < 3 := by omega
      obtain ⟨p, hp, hps⟩ := ents3_at q hqD
      have hpc := (cxW4_0 q).trans hp
      clear cxW4_0 hp
      obtain ⟨c0, c1, cz⟩ := HB4.out.far hgv5 (by omega) hbg
      obtain ⟨r0, r1, rz⟩ := HR4.out.far hgv5 (by omega) hwg
      go_wp2
      refine bodyPost_ret (v := .agg #[.int .u8 a0, .string p]) (by simp [results, Tryd.results30, go_sem, r0, r1]) rfl ?_
      exact FIN.out _ _ _ (HQv5.out.setOther (by omega) hbg _ _) (grown_own HGv5.out (by omega) _ _) ha0 hps
    obtain ⟨c0, c1, cz⟩ := HB3.out
    obtain ⟨r0, r1, rz⟩ := HR3.out
    have h0b : (r == 0) = false := beq_eq_false_iff_ne.2 h0
    have h1b : (r == 1) = false := beq_eq_false_iff_ne.2 h1
    go_wp2
    refine bodyPost_ret (v := .agg #[.int .u8 a0, .string a1]) (by simp [results, Tryd.results30, go_sem, r0, r1]) rfl ?_
    exact FIN.out _ _ _ HQv3.out HGv3.out ha0 ha1
end Go.Proofs.YtdibfppmodeiiaaDoor
