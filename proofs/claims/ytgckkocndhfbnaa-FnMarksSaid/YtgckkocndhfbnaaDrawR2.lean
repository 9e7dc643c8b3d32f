/- Contracts of the draws of redaction: DrawPublicText, DrawIsPublicText, DrawLevelAt. -/
import Derived.Test.YtgckkocndhfbnaaDrawR
import Derived.Test.YtgckkocndhfbnaaDamage
import Derived.Test.YtgckkocndhfbnaaMarkQ
import Derived.Deep.DeepCutAuto
namespace Go.Proofs.Ytgckkocndhfbnaa
open Go.RowKit
set_option linter.unusedVariables false
theorem below_src {w w1 w2 : World} (h : Below w.heap.size w w1) (hg : w1.grownBy w2 (some w.heap.size)) : Below w.heap.size w w2 := below_grown h hg (Nat.le_refl _) (fun g h => by injection h with h; omega)
def DrewR (w : World) (t : ByteArray) (A : Option Addr) (c : Nat) (D : List MarkD) (w' : World) : Prop := t.size ≤ 401 ∧ D.length ≤ 6 ∧ w'.ownsRow w.heap.size 42 3 (.slice A D.length c) D.length (D.flatMap markC) ∧ Below w.heap.size w w'
def PubP (w : World) (e : Ending) (w' : World) : Prop := ∃ (t : ByteArray) (A : Option Addr) (c : Nat) (D : List MarkD) (lv : Int), e = .returned (.tuple #[.string t, .slice A D.length c, .int .i64 lv]) ∧ lv ≤ 401 ∧ -2 ≤ lv ∧ DrewR w t A c D w'
set_option maxRecDepth 100000 in
set_option maxHeartbeats 4000000 in
theorem DrawPublicText_c (A : Option Addr) (c : Nat) (L : List Int) (w : World) (hr : Rd w w.heap.size A L.length (L.map (Value.int .u8))) (hx : ∀ x ∈ L, 0 ≤ x ∧ x ≤ 255) (hL : L.length ≤ 4096) (hc : L.length ≤ c) : Calls Try.prog 9 #[.slice A L.length c] w (PubP w) := by
  go_enter Try.func9, Try.ntmps9
  go_wp2_with fail
  refine (l01From_c A c L w hr hx hL hc).mono ?_
  rintro e w1 ⟨rfl, hS, hb1⟩
  have HS1 := Lib.hid hS
  have hlt1 := hS.lt
  have HB1 := Lib.hid hb1
  have hbs := hb1.size
  clear hr hx hS hb1
  go_wp2_with fail
  refine (l32Draw_c _ _ w1 HS1.out).mono ?_
  rintro e w2 ⟨t, A2, c2, D, rfl, ht, hl, ho, hq, hg⟩
  have HO2 := Lib.hid ho; have HQw2 := Lib.hid hq; have HGw2 := Lib.hid hg; have hzw2 := hg.size
  clear ho hq hg
  go_wp2_with fail
  generalize hW3 : w2.alloc _ = W3
  have hbW3 : Below w2.heap.size w2 W3 := by subst hW3; exact (Below.refl _ _).alloc (Nat.le_refl _) _
  have hsW3 : W3.heap.size = w2.heap.size + 1 := by subst hW3; simp
  have cxW3_0 : ∀ i, W3.cell? ⟨w2.heap.size, i, none⟩ = (#[.int .i64 0, .int .i64 1, .int .i64 2, .int .i64 3, .int .i64 9, .int .i64 10, .int .i64 (-1), .int .i64 0] : Array Value)[i]? := by intro i; subst hW3; simp [go_sem]
  have fzW3_0 : ∀ i, W3.frozen? ⟨w2.heap.size, i, none⟩ = false := by intro i; subst hW3; simp [go_sem]
  have HSW3 := Lib.hid hsW3; clear hW3 hsW3
  have HQW3 := Lib.hid (HQw2.out.below hbW3); have HGW3 := Lib.hid (grown_trans' HGw2.out (grown_of_below hbW3 _)); have hzW3 : W3.heap.size = w2.heap.size + 1 := HSW3.out
  clear HSW3
  have HO3 := Lib.hid (own_below HO2.out hbW3)
  refine (l01Pick_c w.heap.size w.heap.size (w2.heap.size) 0 _ [0, 1, 2, 3, 9, 10, -1, 0] W3 HQW3.out (by omega) (pick_box (L := [0, 1, 2, 3, 9, 10, -1, 0]) (fun i => by exact cxW3_0 i)) (by simp) (by simp) (by simp)).mono ?_
  rintro e w4 ⟨p, rfl, hpm, hqw4, hgw4⟩
  have HQw4 := Lib.hid hqw4; have HGw4 := Lib.hid (grown_trans' HGW3.out hgw4); have hzw4 := hgw4.size; have Hpm := Lib.hid hpm
  clear hqw4 hpm
  have HO4 := Lib.hid (HO3.out.kept hgw4 (.inr (fun e => by have := HO3.out.lt _ e; omega)))
  have hp : p = 0 ∨ p = 1 ∨ p = 2 ∨ p = 3 ∨ p = 9 ∨ p = 10 ∨ p = -1 ∨ p = 0 := by simpa using Hpm.out
  have hpb : -2 ≤ p ∧ p ≤ 401 := by omega
  clear hp
  go_wp2
  go_ret3
  exact ⟨t, A2, c2, D, p, rfl, hpb.2, hpb.1, ht, hl, own_mono HO4.out HB1.out.size, below_src HB1.out HGw4.out⟩
set_option maxRecDepth 100000 in
set_option maxHeartbeats 4000000 in
theorem DrawLevelAt_c (A : Option Addr) (c : Nat) (L : List Int) (w : World) (hr : Rd w w.heap.size A L.length (L.map (Value.int .u8))) (hx : ∀ x ∈ L, 0 ≤ x ∧ x ≤ 255) (hL : L.length ≤ 4096) (hc : L.length ≤ c) : Calls Try.prog 17 #[.slice A L.length c] w (PubP w) := by
  go_enter Try.func17, Try.ntmps17
  go_wp2_with fail
  refine (l01From_c A c L w hr hx hL hc).mono ?_
  rintro e w1 ⟨rfl, hS, hb1⟩
  have HS1 := Lib.hid hS
  have hlt1 := hS.lt
  have HB1 := Lib.hid hb1
  have hbs := hb1.size
  clear hr hx hS hb1
  go_wp2_with fail
  refine (l32Draw_c _ _ w1 HS1.out).mono ?_
  rintro e w2 ⟨t, A2, c2, D, rfl, ht, hl, ho, hq, hg⟩
  have HO2 := Lib.hid ho; have HQw2 := Lib.hid hq; have HGw2 := Lib.hid hg; have hzw2 := hg.size
  clear ho hq hg
  go_wp2_with fail
  refine (l01Next_c w.heap.size w.heap.size ((t.size : Int) + 1) w2 HQw2.out (by omega)).mono ?_
  rintro e w3 ⟨a, rfl, ⟨ha0, ha1⟩, hqw3, hgw3⟩
  have HQw3 := Lib.hid hqw3; have HGw3 := Lib.hid (grown_trans' HGw2.out hgw3); have hzw3 := hgw3.size
  clear hqw3
  have HO3 := Lib.hid (HO2.out.kept hgw3 (.inr (fun e => by have := HO2.out.lt _ e; omega)))
  go_wp2_with fail
  refine (l01Next_c w.heap.size w.heap.size (24) w3 HQw3.out (by omega)).mono ?_
  rintro e w4 ⟨b, rfl, ⟨hb0, hb1⟩, hqw4, hgw4⟩
  have HQw4 := Lib.hid hqw4; have HGw4 := Lib.hid (grown_trans' HGw3.out hgw4); have hzw4 := hgw4.size
  clear hqw4
  have HO4 := Lib.hid (HO3.out.kept hgw4 (.inr (fun e => by have := HO3.out.lt _ e; omega)))
  have hq23 : b.tdiv 23 = b / 23 := Int.tdiv_eq_ediv_of_nonneg (by omega)
  have hdv : 0 ≤ b / 23 ∧ b / 23 ≤ 1 := by omega
  go_wp2
  go_ret3
  exact ⟨t, A2, c2, D, _, rfl, by omega, by omega, ht, hl, own_mono HO4.out HB1.out.size, below_src HB1.out HGw4.out⟩
def IsPubP (w : World) (e : Ending) (w' : World) : Prop := ∃ (t : ByteArray) (A : Option Addr) (c : Nat) (D : List MarkD) (lv : Int) (q : ByteArray), e = .returned (.tuple #[.string t, .slice A D.length c, .int .i64 lv, .string q]) ∧ lv ≤ 401 ∧ -2 ≤ lv ∧ DrewR w t A c D w'
set_option maxRecDepth 100000 in
set_option maxHeartbeats 4000000 in
theorem DrawIsPublicText_c (A : Option Addr) (c : Nat) (L : List Int) (w : World) (hr : Rd w w.heap.size A L.length (L.map (Value.int .u8))) (hx : ∀ x ∈ L, 0 ≤ x ∧ x ≤ 255) (hL : L.length ≤ 4096) (hc : L.length ≤ c) : Calls Try.prog 14 #[.slice A L.length c] w (IsPubP w) := by
  go_enter Try.func14, Try.ntmps14
  go_wp2_with fail
  refine (l01From_c A c L w hr hx hL hc).mono ?_
  rintro e w1 ⟨rfl, hS, hb1⟩
  have HS1 := Lib.hid hS
  have hlt1 := hS.lt
  have HB1 := Lib.hid hb1
  have hbs := hb1.size
  have HR1 := Lib.hid (rdW hb1 hr)
  clear hr hS hb1
  go_wp2_with fail
  refine (DrawPublicText_c A c L w1 HR1.out hx hL hc).mono ?_
  rintro e w2 ⟨t, A2, c2, D, lv, rfl, hv1, hv2, ht, hl, ho, hb2⟩
  have HO2 := Lib.hid ho; have HB2 := Lib.hid (bt HB1.out hb2); have hz2 := hb2.size
  have HQ2 := Lib.hid (HS1.out.below hb2)
  have hcap := own_cap ho
  clear ho hb2 HR1 HS1 hx
  go_wp2_with fail
  refine (spec_PublicText t A2 c2 D lv w2 (by omega) (Rd.of_own HO2.out) (by omega) hcap.1).mono ?_
  rintro e w3 ⟨rfl, hb3⟩
  obtain ⟨pb, hpb⟩ : ∃ x, (pubR t D lv).1 = x := ⟨_, rfl⟩
  obtain ⟨bad, hbad⟩ : ∃ x, (pubR t D lv).2 = x := ⟨_, rfl⟩
  rw [hpb, hbad]
  clear hpb hbad
  have HO3 := Lib.hid (own_below HO2.out hb3); have HQw3 := Lib.hid (HQ2.out.below hb3); have HGw3 := Lib.hid (World.grownBy.refl w3 (some w.heap.size)); have HB3 := Lib.hid (bt HB2.out hb3); have hz3 := hb3.size
  clear HO2 HQ2 hb3
  go_upto_region 4 with fail
  go_cut [33] (fun s33 wc => ∃ b : Bool, s33 = .bool b ∧ w1.heap.size ≤ wc.heap.size ∧ Hid (wc.ownsRow w1.heap.size 42 3 (.slice A2 D.length c2) D.length (D.flatMap markC)) ∧ Hid (Src wc w.heap.size w.heap.size) ∧ Hid (w3.grownBy wc (some w.heap.size)))
  case first =>
    by_cases hb : bad = 0
    · subst hb
      go_wp2_with fail
      refine (l01Next_c w.heap.size w.heap.size (4) w3 HQw3.out (by omega)).mono ?_
      rintro e w4 ⟨r, rfl, ⟨hr0, hr1⟩, hqw4, hgw4⟩
      have HQw4 := Lib.hid hqw4; have HGw4 := Lib.hid (grown_trans' HGw3.out hgw4); have hzw4 := hgw4.size
      clear hqw4
      have HO4 := Lib.hid (HO3.out.kept hgw4 (.inr (fun e => by have := HO3.out.lt _ e; omega)))
      go_wp2
      go_meet
      case rel => exact ⟨_, rfl, by omega, HO4, HQw4, HGw4⟩
    · have hbb : (bad != 0) = true := bne_iff_ne.2 hb
      go_wp2
      go_meet
      case rel => exact ⟨true, rfl, by omega, HO3, HQw3, HGw3⟩
  case rest =>
    obtain ⟨b, rfl, hzc, HO4, HQw4, HGw4⟩ := hcut
    obtain ⟨w4, rfl⟩ : ∃ x, x = wc := ⟨_, rfl⟩
    clear HO3 HQw3 HGw3
    cases b
    · go_wp2
      refine bodyPost_ret (v := .tuple #[.string t, .slice A2 D.length c2, .int .i64 lv, .string pb]) (by simp [results, Try.results14, go_sem]) rfl ?_
      exact ⟨t, A2, c2, D, lv, pb, rfl, hv1, hv2, ht, hl, own_mono HO4.out HB1.out.size, below_src HB3.out HGw4.out⟩
    · go_wp2_with fail
      refine (l01Damage_c _ _ t w4 HQw4.out (by omega)).mono ?_
      rintro e w5 ⟨q, rfl, hqs, hq5, hg5⟩
      have HO5 := Lib.hid (HO4.out.kept hg5 (.inr (fun e => by have := HO4.out.lt _ e; omega)))
      go_wp2
      refine bodyPost_ret (v := .tuple #[.string t, .slice A2 D.length c2, .int .i64 lv, .string q]) (by simp [results, Try.results14, go_sem]) rfl ?_
      exact ⟨t, A2, c2, D, lv, q, rfl, hv1, hv2, ht, hl, own_mono HO5.out HB1.out.size, below_src HB3.out (grown_trans' HGw4.out hg5)⟩
end Go.Proofs.Ytgckkocndhfbnaa
