/- Contracts of the draws of journals. -/
import Derived.Test.YtdibfppmodeiiaaDoorDrawJ2
import Derived.Test.YtdibfppmodeiiaaDoorJou2
import Derived.Test.YtdibfppmodeiiaaDoorFrom
namespace Go.Proofs.YtdibfppmodeiiaaDoor
open Go.RowKit
set_option linter.unusedVariables false
def tails3 : List ByteArray := [{ data := #[] }, { data := #[52, 58, 78] }, { data := #[120, 10] }]
theorem tails3_sz : ∀ p ∈ tails3, p.size ≤ 3 := by decide
theorem tails3_at (k : Nat) (hk : k < 3) : ∃ p : ByteArray, (#[.string { data := #[] }, .string { data := #[52, 58, 78] }, .string { data := #[120, 10] }] : Array Value)[k]? = some (.string p) ∧ p.size ≤ 3 := by
  obtain ⟨p, h1, h2⟩ := str_in (L := tails3) (k := k) hk
  exact ⟨p, h1, tails3_sz p h2⟩
theorem wjR_sz {L : List EntryD} : (wjR L).1.size ≤ 1720 := by
  unfold wjR
  split
  · rename_i h
    obtain ⟨h1, h2⟩ := entCode_0 h
    have := wjAt_len h1 L.length (Nat.le_refl _)
    show (wjAt L L.length).1.size ≤ 1720
    omega
  · show ByteArray.empty.size ≤ 1720
    simp
def JourP (B g : Nat) (w : World) (e : Ending) (w' : World) : Prop := ∃ t : ByteArray, e = .returned (.string t) ∧ t.size ≤ 2000 ∧ Src w' B g ∧ w.grownBy w' (some g)
set_option maxRecDepth 100000 in
set_option maxHeartbeats 8000000 in
theorem l33Journal_c (B g : Nat) (w : World) (hS : Src w B g) : Calls Tryd.prog 29 #[.pointer (some ⟨g, 0, none⟩)] w (JourP B g w) := by
  have hgB := hS.ge; have hgl := hS.lt
  have HQw := Lib.hid hS; have HGw := Lib.hid (World.grownBy.refl w (some g)); clear hS
  go_enter Tryd.func29, Tryd.ntmps29
  go_wp2_with fail
  refine (l33List_c B g w HQw.out).mono ?_
  rintro e w1 ⟨A, c, L, rfl, ho, hl, hG, hq1, hg1⟩
  have hcap := own_cap ho
  have HR := Lib.hid (Rd.of_own ho); have HQw1 := Lib.hid hq1; have HGw1 := Lib.hid hg1; have hzw1 := hg1.size; have HGE := Lib.hid hG
  clear ho hq1 hg1 hG
  go_wp2_with fail
  refine (spec_WriteJournal A c L w1 HR.out (by omega) hcap.1 HGE.out.W).mono ?_
  rintro e w2 ⟨rfl, hb2⟩
  have hsz := wjR_sz (L := L)
  obtain ⟨t, ht⟩ : ∃ t, (wjR L).1 = t := ⟨_, rfl⟩
  obtain ⟨code, hc⟩ : ∃ x, (wjR L).2 = x := ⟨_, rfl⟩
  rw [ht] at hsz ⊢
  rw [hc]
  have HQw2 := Lib.hid (HQw1.out.below hb2); have HGw2 := Lib.hid (grown_trans' HGw1.out (grown_of_below hb2 _)); have hzw2 := hb2.size
  clear ht hc hb2 HR HGE HQw1 HGw1 HQw HGw
  go_upto_if 12 with fail
  go_cut [3] (fun s3 wc => ∃ t : ByteArray, s3 = .string t ∧ t.size ≤ 1720 ∧ wc = w2)
  case first =>
    by_cases h0 : code = 0
    · subst h0
      go_wp2
      go_meet
      case rel => exact ⟨t, rfl, hsz, rfl⟩
    · have h0b : (code != 0) = true := bne_iff_ne.2 h0
      go_wp2
      go_meet
      case rel => exact ⟨_, rfl, by decide, rfl⟩
  case rest =>
    obtain ⟨u, rfl, hu, rfl⟩ := hcut
    obtain ⟨w2, rfl⟩ : ∃ x, x = wc := ⟨_, rfl⟩
    clear hsz
    go_wp2_with fail
    refine (l01Next_c B g (4) w2 HQw2.out (by omega)).mono ?_
    rintro e w3 ⟨r, rfl, ⟨hr0, hr1⟩, hqw3, hgw3⟩
    have HQw3 := Lib.hid hqw3; have HGw3 := Lib.hid (grown_trans' HGw2.out hgw3); have hzw3 := hgw3.size
    clear hqw3
    by_cases h0 : r = 0
    · subst h0
      have hwl : IntKind.i64.wrap ((u.size : Int) + 1) = (u.size : Int) + 1 := IntWalk.i64_in _ (by omega)
      go_wp2_with fail
      refine (l01Next_c B g ((u.size : Int) + 1) w3 HQw3.out (by omega)).mono ?_
      rintro e w4 ⟨k, rfl, ⟨hk0, hk1⟩, hqw4, hgw4⟩
      have HQw4 := Lib.hid hqw4; have HGw4 := Lib.hid (grown_trans' HGw3.out hgw4); have hzw4 := hgw4.size
      clear hqw4
      obtain ⟨k, rfl⟩ := Int.eq_ofNat_of_zero_le hk0
      have hki : (k : Int) ≤ (u.size : Int) := by omega
      have hkn : (0 : Int) ≤ (k : Int) := by omega
      go_wp2
      go_ret
      exact ⟨_, rfl, by simp only [ByteArray.size_extract]; omega, HQw4.out, HGw4.out⟩
    by_cases h1 : r = 1
    · subst h1
      go_wp2_with fail
      refine (l01Damage_c B g u w3 HQw3.out (by omega)).mono ?_
      rintro e w4 ⟨t2, rfl, ht2, hq4, hg4⟩
      go_wp2
      go_ret
      exact ⟨t2, rfl, by omega, hq4, grown_trans' HGw3.out hg4⟩
    have h0b : (r == 0) = false := beq_eq_false_iff_ne.2 h0
    have h1b : (r == 1) = false := beq_eq_false_iff_ne.2 h1
    by_cases h2 : r = 2
    · subst h2
      go_wp2_with fail
      generalize hW4 : w3.alloc _ = W4
      have hbW4 : Below w3.heap.size w3 W4 := by subst hW4; exact (Below.refl _ _).alloc (Nat.le_refl _) _
      have hsW4 : W4.heap.size = w3.heap.size + 1 := by subst hW4; simp
      have cxW4_0 : ∀ i, W4.cell? ⟨w3.heap.size, i, none⟩ = (#[.string { data := #[] }, .string { data := #[52, 58, 78] }, .string { data := #[120, 10] }] : Array Value)[i]? := by intro i; subst hW4; simp [go_sem]
      have fzW4_0 : ∀ i, W4.frozen? ⟨w3.heap.size, i, none⟩ = false := by intro i; subst hW4; simp [go_sem]
      have HSW4 := Lib.hid hsW4; clear hW4 hsW4
      have HQW4 := Lib.hid (HQw3.out.below hbW4); have HGW4 := Lib.hid (grown_trans' HGw3.out (grown_of_below hbW4 _)); have hzW4 : W4.heap.size = w3.heap.size + 1 := HSW4.out
      clear HSW4
      refine (l01Next_c B g (3) W4 HQW4.out (by omega)).mono ?_
      rintro e w5 ⟨q, rfl, ⟨hq0, hq1⟩, hqw5, hgw5⟩
      have HQw5 := Lib.hid hqw5; have HGw5 := Lib.hid (grown_trans' HGW4.out hgw5); have hzw5 := hgw5.size
      replace cxW4_0 := fun i => (hgw5.cell_far _ (by (try simp only); omega) (by simp; omega)).trans (cxW4_0 i)
      clear hqw5
      obtain ⟨q, rfl⟩ := Int.eq_ofNat_of_zero_le hq0
      have hqD : q < 3 := by omega
      have hqb : (q : Int) < 3 := by omega
      obtain ⟨p, hp, hps⟩ := tails3_at q hqD
      have hpc := (cxW4_0 q).trans hp
      clear cxW4_0 hp
      go_wp2
      go_ret
      exact ⟨_, rfl, by simp only [ByteArray.size_append]; omega, HQw5.out, HGw5.out⟩
    have h2b : (r == 2) = false := beq_eq_false_iff_ne.2 h2
    go_wp2
    go_ret
    exact ⟨u, rfl, by omega, HQw3.out, HGw3.out⟩
theorem below_srcJ {w w1 w2 : World} (h : Below w.heap.size w w1) (hg : w1.grownBy w2 (some w.heap.size)) : Below w.heap.size w w2 := below_grown h hg (Nat.le_refl _) (fun g h => by injection h with h; omega)
def DrewL (w : World) (e : Ending) (w' : World) : Prop := ∃ (A : Option Addr) (c : Nat) (D : List EntryD), e = .returned (.slice A D.length c) ∧ w'.ownsRow w.heap.size 25 2 (.slice A D.length c) D.length (D.flatMap entryC) ∧ D.length ≤ 22 ∧ GoodE D ∧ Below w.heap.size w w'
def DrewS (w : World) (e : Ending) (w' : World) : Prop := ∃ t : ByteArray, e = .returned (.string t) ∧ t.size ≤ 2000 ∧ Below w.heap.size w w'
def DrewE (w : World) (e : Ending) (w' : World) : Prop := ∃ (t : ByteArray) (a0 : Int) (a1 : ByteArray), e = .returned (.tuple #[.string t, .agg #[.int .u8 a0, .string a1]]) ∧ t.size ≤ 2000 ∧ (0 ≤ a0 ∧ a0 ≤ 255) ∧ a1.size ≤ 41 ∧ Below w.heap.size w w'
def DrewK (w : World) (e : Ending) (w' : World) : Prop := ∃ (t : ByteArray) (k : Int), e = .returned (.tuple #[.string t, .int .u8 k]) ∧ t.size ≤ 2000 ∧ (0 ≤ k ∧ k ≤ 255) ∧ Below w.heap.size w w'
def DrewN (w : World) (e : Ending) (w' : World) : Prop := ∃ (t : ByteArray) (k : Int), e = .returned (.tuple #[.string t, .int .i64 k]) ∧ t.size ≤ 2000 ∧ (-2 ≤ k ∧ k ≤ 8) ∧ Below w.heap.size w w'
set_option maxRecDepth 100000 in
set_option maxHeartbeats 4000000 in
theorem DrawWriteJournal_c (A : Option Addr) (c : Nat) (L : List Int) (w : World) (hr : Rd w w.heap.size A L.length (L.map (Value.int .u8))) (hx : ∀ x ∈ L, 0 ≤ x ∧ x ≤ 255) (hL : L.length ≤ 4096) (hc : L.length ≤ c) : Calls Tryd.prog 15 #[.slice A L.length c] w (DrewL w) := by
  go_enter Tryd.func15, Tryd.ntmps15
  go_wp2_with fail
  refine (l01From_c A c L w hr hx hL hc).mono ?_
  rintro e w1 ⟨rfl, hS, hb1⟩
  have HS1 := Lib.hid hS
  have hlt1 := hS.lt
  have HB1 := Lib.hid hb1
  have hbs := hb1.size
  clear hr hx hS hb1
  go_wp2_with fail
  refine (l33List_c _ _ w1 HS1.out).mono ?_
  rintro e w2 ⟨A2, c2, D, rfl, ho, hl, hG, hq, hg⟩
  have HO := Lib.hid ho; have HGE := Lib.hid hG
  clear ho hG
  go_wp2
  go_ret
  exact ⟨A2, c2, D, rfl, own_mono HO.out HB1.out.size, hl, HGE.out, below_srcJ HB1.out hg⟩
set_option maxRecDepth 100000 in
set_option maxHeartbeats 4000000 in
theorem DrawReadJournal_c (A : Option Addr) (c : Nat) (L : List Int) (w : World) (hr : Rd w w.heap.size A L.length (L.map (Value.int .u8))) (hx : ∀ x ∈ L, 0 ≤ x ∧ x ≤ 255) (hL : L.length ≤ 4096) (hc : L.length ≤ c) : Calls Tryd.prog 18 #[.slice A L.length c] w (DrewS w) := by
  go_enter Tryd.func18, Tryd.ntmps18
  go_wp2_with fail
  refine (l01From_c A c L w hr hx hL hc).mono ?_
  rintro e w1 ⟨rfl, hS, hb1⟩
  have HS1 := Lib.hid hS
  have hlt1 := hS.lt
  have HB1 := Lib.hid hb1
  have hbs := hb1.size
  clear hr hx hS hb1
  go_wp2_with fail
  refine (l33Journal_c _ _ w1 HS1.out).mono ?_
  rintro e w2 ⟨t, rfl, ht, hq, hg⟩
  have HS2 := Lib.hid hq
  have hz2 := hg.size
  have HB2 := Lib.hid (below_srcJ HB1.out hg)
  clear HS1 hq hg
  go_wp2
  go_ret
  exact ⟨t, rfl, ht, HB2.out⟩
set_option maxRecDepth 100000 in
set_option maxHeartbeats 4000000 in
theorem DrawAppendEntry_c (A : Option Addr) (c : Nat) (L : List Int) (w : World) (hr : Rd w w.heap.size A L.length (L.map (Value.int .u8))) (hx : ∀ x ∈ L, 0 ≤ x ∧ x ≤ 255) (hL : L.length ≤ 4096) (hc : L.length ≤ c) : Calls Tryd.prog 6 #[.slice A L.length c] w (DrewE w) := by
  go_enter Tryd.func6, Tryd.ntmps6
  go_wp2_with fail
  generalize hW0 : w.alloc _ = W0
  have hbW0 : Below w.heap.size w W0 := by subst hW0; exact (Below.refl _ _).alloc (Nat.le_refl _) _
  have hsW0 : W0.heap.size = w.heap.size + 1 := by subst hW0; simp
  have cxW0_0 : ∀ i, W0.cell? ⟨w.heap.size, i, none⟩ = (#[.int .u8 0, .string ⟨#[]⟩] : Array Value)[i]? := by intro i; subst hW0; simp [go_sem]
  have fzW0_0 : ∀ i, W0.frozen? ⟨w.heap.size, i, none⟩ = false := by intro i; subst hW0; simp [go_sem]
  have HSW0 := Lib.hid hsW0; clear hW0 hsW0
  have hz0 : W0.heap.size = w.heap.size + 1 := HSW0.out
  have HX0 := Lib.hid (show Bx W0 w.heap.size (.int .u8 0) (.string ⟨#[]⟩) from ⟨cxW0_0 0, cxW0_0 1, fzW0_0⟩)
  clear cxW0_0 fzW0_0 HSW0
  refine (l01From_c A c L W0 (rdW hbW0 hr) hx hL hc).mono ?_
  rintro e w1 ⟨rfl, hS, hb1⟩
  have HS1 := Lib.hid hS
  have hlt1 := hS.lt
  have HB1 := Lib.hid (bt hbW0 hb1)
  have hbs := hb1.size
  have HX1 := Lib.hid (HX0.out.below hb1 (by omega))
  clear hr hx hS hb1 HX0
  have hwlt : w.heap.size < W0.heap.size := by omega
  have hwn : w.heap.size ≠ W0.heap.size := by omega
  clear hz0
  go_wp2_with fail
  refine (l33Journal_c _ _ w1 HS1.out).mono ?_
  rintro e w2 ⟨t, rfl, ht, hq, hg⟩
  have HS2 := Lib.hid hq
  have hz2 := hg.size
  have HX2 := Lib.hid (HX1.out.far hg (by omega) hwn)
  have HB2 := Lib.hid (below_grown HB1.out hg (Nat.le_refl _) (fun k hk => by injection hk with hk; omega))
  clear HS1 HX1 hq hg
  go_wp2_with fail
  refine (l33Entry_c _ _ w2 HS2.out).mono ?_
  rintro e w3 ⟨a0, a1, rfl, ha0, ha1, hq, hg⟩
  have hz3 := hg.size
  have HX3 := Lib.hid (HX2.out.far hg (by omega) hwn)
  have HB3 := Lib.hid (below_grown HB2.out hg (Nat.le_refl _) (fun k hk => by injection hk with hk; omega))
  clear HS2 HX2 hq hg
  obtain ⟨r0, r1, rz⟩ := HX3.out
  go_wp2
  refine bodyPost_ret (v := .tuple #[.string t, .agg #[.int .u8 a0, .string a1]]) (by simp [results, Tryd.results6, go_sem, r0, r1]) rfl ?_
  exact ⟨t, a0, a1, rfl, ht, ha0, ha1, (HB3.out.setCell (p := ⟨w.heap.size, 0, none⟩) (Nat.le_refl _) _).setCell (p := ⟨w.heap.size, 1, none⟩) (Nat.le_refl _) _⟩
attribute [local go_sem ↓ high] run_index_at
set_option maxRecDepth 100000 in
set_option maxHeartbeats 4000000 in
theorem DrawLastOfKind_c (A : Option Addr) (c : Nat) (L : List Int) (w : World) (hr : Rd w w.heap.size A L.length (L.map (Value.int .u8))) (hx : ∀ x ∈ L, 0 ≤ x ∧ x ≤ 255) (hL : L.length ≤ 4096) (hc : L.length ≤ c) : Calls Tryd.prog 9 #[.slice A L.length c] w (DrewK w) := by
  go_enter Tryd.func9, Tryd.ntmps9
  go_wp2_with fail
  refine (l01From_c A c L w hr hx hL hc).mono ?_
  rintro e w1 ⟨rfl, hS, hb1⟩
  have HS1 := Lib.hid hS
  have hlt1 := hS.lt
  have HB1 := Lib.hid hb1
  have hbs := hb1.size
  clear hr hx hS hb1
  go_wp2_with fail
  refine (l33Journal_c _ _ w1 HS1.out).mono ?_
  rintro e w2 ⟨t, rfl, ht, hq, hg⟩
  have HS2 := Lib.hid hq
  have hz2 := hg.size
  have HB2 := Lib.hid (below_srcJ HB1.out hg)
  clear HS1 hq hg
  go_wp2_with fail
  have HS0 : Hid (Src w2.drew w.heap.size w.heap.size ∧ w2.grownBy w2.drew (some w.heap.size)) := ⟨HS2.out, ⟨rfl, rfl, rfl, Nat.le_refl _, fun _ _ _ => rfl⟩⟩
  have KNX : Hid (∀ (W1 W3 : World), W1.grownBy W3 (some w.heap.size) → Src W3 w.heap.size w.heap.size → w2.grownBy W1 (some w.heap.size) → (Src W3 w.heap.size w.heap.size ∧ w2.grownBy W3 (some w.heap.size))) := fun W1 W3 hg hq h2 => ⟨hq, grown_trans' h2 hg⟩
  go_region_held3 (fun W1 => Src W1 w.heap.size w.heap.size ∧ w2.grownBy W1 (some w.heap.size))
    (first | exact HS0.out | exact KNX.out _ _ (by assumption) (by assumption) (by assumption) | assumption)
    ((first | (go_at_call 35; go_split_ands; refine Calls.mono (l01Next_c w.heap.size w.heap.size 4 _ ?_ ?_) ?_; (any_goals (first | assumption | omega)); rintro e w6 ⟨d, rfl, ⟨hd0, hd1⟩, hq6, hg6⟩; obtain ⟨d, rfl⟩ := Int.eq_ofNat_of_zero_le hd0; have hdD : d < 4 := (by omega))))
  rename_i hh
  have HSS := Lib.hid hh; clear hh
  have hbd := byteAt_bd { data := #[68, 83, 86, 78] } d
  go_wp2
  go_ret2
  exact ⟨t, _, rfl, ht, hbd, below_srcJ HB2.out HSS.out.2⟩
set_option maxRecDepth 100000 in
set_option maxHeartbeats 4000000 in
theorem DrawCutJournal_c (A : Option Addr) (c : Nat) (L : List Int) (w : World) (hr : Rd w w.heap.size A L.length (L.map (Value.int .u8))) (hx : ∀ x ∈ L, 0 ≤ x ∧ x ≤ 255) (hL : L.length ≤ 4096) (hc : L.length ≤ c) : Calls Tryd.prog 19 #[.slice A L.length c] w (DrewN w) := by
  go_enter Tryd.func19, Tryd.ntmps19
  go_wp2_with fail
  refine (l01From_c A c L w hr hx hL hc).mono ?_
  rintro e w1 ⟨rfl, hS, hb1⟩
  have HS1 := Lib.hid hS
  have hlt1 := hS.lt
  have HB1 := Lib.hid hb1
  have hbs := hb1.size
  clear hr hx hS hb1
  go_wp2_with fail
  refine (l33Journal_c _ _ w1 HS1.out).mono ?_
  rintro e w2 ⟨t, rfl, ht, hq, hg⟩
  have HS2 := Lib.hid hq
  have hz2 := hg.size
  have HB2 := Lib.hid (below_srcJ HB1.out hg)
  clear HS1 hq hg
  have HQw2 := HS2; have HGw2 := Lib.hid (World.grownBy.refl w2 (some w.heap.size))
  go_wp2_with fail
  refine (l01Next_c w.heap.size w.heap.size (8) w2 HQw2.out (by omega)).mono ?_
  rintro e w3 ⟨a, rfl, ⟨ha0, ha1⟩, hqw3, hgw3⟩
  have HQw3 := Lib.hid hqw3; have HGw3 := Lib.hid (grown_trans' HGw2.out hgw3); have hzw3 := hgw3.size
  clear hqw3
  go_wp2_with fail
  refine (l01Next_c w.heap.size w.heap.size (24) w3 HQw3.out (by omega)).mono ?_
  rintro e w4 ⟨b, rfl, ⟨hb0, hb1⟩, hqw4, hgw4⟩
  have HQw4 := Lib.hid hqw4; have HGw4 := Lib.hid (grown_trans' HGw3.out hgw4); have hzw4 := hgw4.size
  clear hqw4
  have hq2 : b.tdiv 23 = b / 23 := Int.tdiv_eq_ediv_of_nonneg hb0
  have hw1 : IntKind.i64.wrap (b / 23) = b / 23 := IntWalk.i64_in _ (by omega)
  have hw2 : IntKind.i64.wrap (a - b / 23) = a - b / 23 := IntWalk.i64_in _ (by omega)
  go_wp2
  go_ret2
  exact ⟨t, _, rfl, ht, by omega, below_srcJ HB2.out HGw4.out⟩
end Go.Proofs.YtdibfppmodeiiaaDoor
