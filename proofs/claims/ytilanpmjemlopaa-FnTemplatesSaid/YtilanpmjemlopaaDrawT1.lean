/- Contracts of the draws of templates: l28Template, l28Draw. -/
import Derived.Test.YtilanpmjemlopaaDamage
import Derived.Deep.CutRange
import Derived.Deep.RegionLaw
namespace Go.Proofs.Ytilanpmjemlopaa
open Go.RowKit
set_option linter.unusedVariables false
def nameWs : List ByteArray := [{ data := #[106, 117, 100, 103, 101] }, { data := #[100, 97, 121] }, { data := #[99, 114, 105, 109, 101] }, { data := #[100, 111, 117, 98, 116] }]
theorem nameWs_sz : ∀ p ∈ nameWs, p.size ≤ 5 := by decide
theorem name_at (k : Nat) (hk : k < 4) : ∃ p : ByteArray, (#[.string { data := #[106, 117, 100, 103, 101] }, .string { data := #[100, 97, 121] }, .string { data := #[99, 114, 105, 109, 101] }, .string { data := #[100, 111, 117, 98, 116] }] : Array Value)[k]? = some (.string p) ∧ p.size ≤ 5 := by
  obtain ⟨p, h1, h2⟩ := str_at1 (L := nameWs) (k := k) hk
  exact ⟨p, h1, nameWs_sz p h2⟩
def badWs : List ByteArray := [{ data := #[91, 97, 124, 91, 98, 124, 99, 93, 93] }, { data := #[123, 65, 125] }, { data := #[123, 97] }, { data := #[91, 97, 125] }, { data := #[124] }, { data := #[93] }]
theorem badWs_sz : ∀ p ∈ badWs, p.size ≤ 9 := by decide
theorem bad_at (k : Nat) (hk : k < 6) : ∃ p : ByteArray, (#[.string { data := #[91, 97, 124, 91, 98, 124, 99, 93, 93] }, .string { data := #[123, 65, 125] }, .string { data := #[123, 97] }, .string { data := #[91, 97, 125] }, .string { data := #[124] }, .string { data := #[93] }] : Array Value)[k]? = some (.string p) ∧ p.size ≤ 9 := by
  obtain ⟨p, h1, h2⟩ := str_at1 (L := badWs) (k := k) hk
  exact ⟨p, h1, badWs_sz p h2⟩
def TplP (m : Nat) (B g : Nat) (w : World) (e : Ending) (w' : World) : Prop := ∃ t : ByteArray, e = .returned (.string t) ∧ t.size ≤ m ∧ Src w' B g ∧ w.grownBy w' (some g)
theorem mk_size (a : Array UInt8) : (ByteArray.mk a).size = a.size := rfl
set_option maxRecDepth 100000 in
set_option maxHeartbeats 8000000 in
theorem l28Template_c (B g : Nat) (w : World) (hS : Src w B g) : Calls Try.prog 63 #[.pointer (some ⟨g, 0, none⟩)] w (TplP 150 B g w) := by
  have hgB := hS.ge; have hgl := hS.lt
  have HQw := Lib.hid hS; have HGw := Lib.hid (World.grownBy.refl w (some g)); clear hS
  go_enter Try.func63, Try.ntmps63
  go_wp2_with fail
  generalize hW0 : w.alloc _ = W0
  have hbW0 : Below w.heap.size w W0 := by subst hW0; exact (Below.refl _ _).alloc (Nat.le_refl _) _
  have hsW0 : W0.heap.size = w.heap.size + 1 := by subst hW0; simp
  have cxW0_0 : ∀ i, W0.cell? ⟨w.heap.size, i, none⟩ = (#[.string { data := #[106, 117, 100, 103, 101] }, .string { data := #[100, 97, 121] }, .string { data := #[99, 114, 105, 109, 101] }, .string { data := #[100, 111, 117, 98, 116] }] : Array Value)[i]? := by intro i; subst hW0; simp [go_sem]
  have fzW0_0 : ∀ i, W0.frozen? ⟨w.heap.size, i, none⟩ = false := by intro i; subst hW0; simp [go_sem]
  have HSW0 := Lib.hid hsW0; clear hW0 hsW0
  have HQW0 := Lib.hid (HQw.out.below hbW0); have HGW0 := Lib.hid (grown_trans' HGw.out (grown_of_below hbW0 _)); have hzW0 : W0.heap.size = w.heap.size + 1 := HSW0.out
  clear HSW0
  refine (l01Next_c B g (6) W0 HQW0.out (by omega)).mono ?_
  rintro e w1 ⟨n, rfl, ⟨hn0, hn1⟩, hqw1, hgw1⟩
  have HQw1 := Lib.hid hqw1; have HGw1 := Lib.hid (grown_trans' HGW0.out hgw1); have hzw1 := hgw1.size
  replace cxW0_0 := fun i => (hgw1.cell_far _ (by (try simp only); omega) (by simp; omega)).trans (cxW0_0 i)
  clear hqw1
  obtain ⟨n, rfl⟩ := Int.eq_ofNat_of_zero_le hn0
  have HC := Lib.hid cxW0_0
  have hzz : w.heap.size < w1.heap.size := by omega
  clear cxW0_0 fzW0_0
  go_wp2
  go_loopw [3, 5] (fun sv nv wr => ∃ (t : ByteArray) (j : Nat), nv = .int .i64 j ∧ sv = .string t ∧ t.size + 30 * j ≤ 150 ∧ w.heap.size < wr.heap.size ∧ Hid (∀ i, wr.cell? ⟨w.heap.size, i, none⟩ = (#[.string { data := #[106, 117, 100, 103, 101] }, .string { data := #[100, 97, 121] }, .string { data := #[99, 114, 105, 109, 101] }, .string { data := #[100, 111, 117, 98, 116] }] : Array Value)[i]?) ∧ Hid (Src wr B g) ∧ Hid (w.grownBy wr (some g)))
    (fun _ nv _ => (intOf nv).toNat)
  case atStart => exact ⟨ByteArray.empty, n, rfl, rfl, by show 0 + 30 * n ≤ 150; omega, hzz, HC.out, HQw1.out, HGw1.out⟩
  case round =>
    obtain ⟨t, j, rfl, rfl, hj, hzr, HCr, HQwr, HGwr⟩ := hrel
    obtain ⟨w4, rfl⟩ : ∃ w4, w4 = wr := ⟨_, rfl⟩
    clear HC HQw1 HGw1 HQW0 HGW0
    by_cases hj0 : 0 < j
    · go_upto_region 6 with fail
      go_cut [6, 7] from 15 to 24 (fun s6 s7 wc => ∃ (p1 p2 : ByteArray), s6 = .string p1 ∧ s7 = .string p2 ∧ p1.size ≤ 5 ∧ p2.size ≤ 5 ∧ w.heap.size < wc.heap.size ∧ Hid (∀ i, wc.cell? ⟨w.heap.size, i, none⟩ = (#[.string { data := #[106, 117, 100, 103, 101] }, .string { data := #[100, 97, 121] }, .string { data := #[99, 114, 105, 109, 101] }, .string { data := #[100, 111, 117, 98, 116] }] : Array Value)[i]?) ∧ Hid (Src wc B g) ∧ Hid (w.grownBy wc (some g)))
      case first =>
        have cx := HCr.out
        have hgn : w.heap.size ≠ g := by omega
        have hgn' : g ≠ w.heap.size := by omega
        have HS0 : Hid (Src w4.drew B g ∧ w4.grownBy w4.drew (some g)) := ⟨HQwr.out, ⟨rfl, rfl, rfl, Nat.le_refl _, fun _ _ _ => rfl⟩⟩
        have KNX : Hid (∀ (W1 W3 : World), W1.grownBy W3 (some g) → Src W3 B g → Src W1 B g → w4.grownBy W1 (some g) → (Src W3 B g ∧ w4.grownBy W3 (some g))) := fun W1 W3 hg hq _ h2 => ⟨hq, grown_trans' h2 hg⟩
        rw [show Op.load 9 (Operand.tmp 18) = id (Op.load 9 (Operand.tmp 18)) from rfl]
        rw [show Op.load 9 (Operand.tmp 23) = id (Op.load 9 (Operand.tmp 23)) from rfl]
        go_region_held3 (fun W1 => Src W1 B g ∧ w4.grownBy W1 (some g))
          (first | exact HS0.out | exact KNX.out _ _ (by assumption) (by assumption) (by assumption) (by assumption) | assumption)
          ((first
            | (go_at_call 64; go_split_ands; refine Calls.mono (l01Next_c B g _ w6 ?_ ?_) ?_; (any_goals (first | assumption | omega)); rintro e w8 ⟨q2, rfl, ⟨hq20, hq21⟩, hq8, hg8⟩; obtain ⟨q2, rfl⟩ := Int.eq_ofNat_of_zero_le hq20; have hqb2 : (q2 : Int) < 4 := (by omega); have hqn2 : (0 : Int) ≤ (q2 : Int) := (by omega); obtain ⟨p2, hp2, hps2⟩ := name_at q2 (by omega); have f8a : w8.cell? ⟨w.heap.size, q1, none⟩ = some (.string p1) := (hg8.cell_far ⟨w.heap.size, q1, none⟩ (by omega) (fun h => hgn (Option.some.inj h))).trans f6a; have f8b : w8.cell? ⟨w.heap.size, q2, none⟩ = some (.string p2) := ((hg8.cell_far ⟨w.heap.size, q2, none⟩ (by omega) (fun h => hgn (Option.some.inj h))).trans (c6 q2)).trans hp2; have hzg8 := hg8.size)
            | (go_at_call 64; go_split_ands; refine Calls.mono (l01Next_c B g _ _ ?_ ?_) ?_; (any_goals (first | assumption | omega)); rintro e w6 ⟨q1, rfl, ⟨hq10, hq11⟩, hq6, hg6⟩; obtain ⟨q1, rfl⟩ := Int.eq_ofNat_of_zero_le hq10; have hqb1 : (q1 : Int) < 4 := (by omega); have hqn1 : (0 : Int) ≤ (q1 : Int) := (by omega); obtain ⟨p1, hp1, hps1⟩ := name_at q1 (by omega); have c6 : ∀ i, w6.cell? ⟨w.heap.size, i, none⟩ = (#[.string { data := #[106, 117, 100, 103, 101] }, .string { data := #[100, 97, 121] }, .string { data := #[99, 114, 105, 109, 101] }, .string { data := #[100, 111, 117, 98, 116] }] : Array Value)[i]? := (fun i => (hg6.cell_far ⟨w.heap.size, i, none⟩ (by first | omega | (simp; omega)) (fun h => hgn (Option.some.inj h))).trans (cx i)); have f6a : w6.cell? ⟨w.heap.size, q1, none⟩ = some (.string p1) := (c6 q1).trans hp1; have hzg6 := hg6.size; have hlt6 : w.heap.size < w6.heap.size := (by have h := hg6.size; (try simp at h); omega))))
        all_goals
          rename_i hh
          have HSS := Lib.hid hh; clear hh
          have hzf : w.heap.size < w8.heap.size := by omega
          have HC8 : Hid (∀ i, w8.cell? ⟨w.heap.size, i, none⟩ = (#[.string { data := #[106, 117, 100, 103, 101] }, .string { data := #[100, 97, 121] }, .string { data := #[99, 114, 105, 109, 101] }, .string { data := #[100, 111, 117, 98, 116] }] : Array Value)[i]?) := fun i => (hg8.cell_far ⟨w.heap.size, i, none⟩ (by omega) (fun h => hgn (Option.some.inj h))).trans (c6 i)
          have HGF := Lib.hid (grown_trans' HGwr.out HSS.out.2)
          have HQF := Lib.hid HSS.out.1
          clear cx c6 f6a f8a f8b hg6 hg8 hq6 hq8 HSS HS0 KNX HCr
          go_wp2
          go_meet
          case rel => exact ⟨p1, p2, rfl, rfl, hps1, hps2, hzf, HC8, HQF, HGF⟩
      case rest =>
        obtain ⟨p1, p2, rfl, rfl, hp1, hp2, hzc, HCw2, HQw2, HGw2⟩ := hcut
        obtain ⟨w2, rfl⟩ : ∃ w2, w2 = wc := ⟨_, rfl⟩
        clear HCr HQwr HGwr
        have cx := HCw2.out
        go_wp2_with fail
        refine (l01Next_c B g (4) w2 HQw2.out (by omega)).mono ?_
        rintro e w3 ⟨r, rfl, ⟨hr0, hr1⟩, hqw3, hgw3⟩
        have HQw3 := Lib.hid hqw3; have HGw3 := Lib.hid (grown_trans' HGw2.out hgw3); have hzw3 := hgw3.size
        replace cx := fun i => (hgw3.cell_far _ (by (try simp only); omega) (by simp; omega)).trans (cx i)
        clear hqw3
        have HC3 := Lib.hid cx
        clear cx HCw2
        rcases (show r = 0 ∨ r = 1 ∨ r = 2 ∨ r = 3 by omega) with rfl | rfl | rfl | rfl
        all_goals
          go_wp2
          go_roundw
          case rel => exact ⟨_, j - 1, by go_num, rfl, by simp only [ByteArray.size_append, mk_size, List.size_toArray, List.length_cons, List.length_nil]; omega, by omega, HC3, HQw3, HGw3⟩
          case measure => simp [intOf]; omega
    · obtain rfl : j = 0 := by omega
      go_wp2
      go_ret
      exact ⟨t, rfl, by omega, HQwr.out, HGwr.out⟩
def strSz : Value → Nat
  | .string s => s.size
  | _ => 0
set_option maxRecDepth 100000 in
set_option maxHeartbeats 8000000 in
theorem l28Draw_c (B g : Nat) (w : World) (hS : Src w B g) : Calls Try.prog 37 #[.pointer (some ⟨g, 0, none⟩)] w (TplP 700 B g w) := by
  have HS := Lib.hid hS
  have hgB := hS.ge; have hgl := hS.lt
  have HQw := Lib.hid hS; have HGw := Lib.hid (World.grownBy.refl w (some g)); clear hS
  go_enter Try.func37, Try.ntmps37
  go_wp2_with fail
  refine (l28Template_c B g w HS.out).mono ?_
  rintro e w1 ⟨t, rfl, ht, hq1, hg1⟩
  have HQw1 := Lib.hid hq1; have HGw1 := Lib.hid hg1; have hzw1 := hg1.size
  clear hq1 hg1 HQw HGw
  go_wp2_with fail
  refine (l01Next_c B g (12) w1 HQw1.out (by omega)).mono ?_
  rintro e w2 ⟨r, rfl, ⟨hr0, hr1⟩, hqw2, hgw2⟩
  have HQw2 := Lib.hid hqw2; have HGw2 := Lib.hid (grown_trans' HGw1.out hgw2); have hzw2 := hgw2.size
  clear hqw2
  by_cases h0 : r = 0
  · subst h0
    go_wp2_with fail
    refine (l01Damage_c B g t w2 HQw2.out (by omega)).mono ?_
    rintro e w3 ⟨t2, rfl, ht2, hq3, hg3⟩
    have HQw3 := Lib.hid hq3; have HGw3 := Lib.hid (grown_trans' HGw2.out hg3)
    clear hq3 hg3
    go_wp2
    go_ret
    exact ⟨t2, rfl, by omega, HQw3.out, HGw3.out⟩
  have hb0 : (r == 0) = false := beq_eq_false_iff_ne.2 h0
  by_cases h1 : r = 1
  · subst h1
    go_wp2_with fail
    generalize hW3 : w2.alloc _ = W3
    have hbW3 : Below w2.heap.size w2 W3 := by subst hW3; exact (Below.refl _ _).alloc (Nat.le_refl _) _
    have hsW3 : W3.heap.size = w2.heap.size + 1 := by subst hW3; simp
    have cxW3_0 : ∀ i, W3.cell? ⟨w2.heap.size, i, none⟩ = (#[.string { data := #[91, 97, 124, 91, 98, 124, 99, 93, 93] }, .string { data := #[123, 65, 125] }, .string { data := #[123, 97] }, .string { data := #[91, 97, 125] }, .string { data := #[124] }, .string { data := #[93] }] : Array Value)[i]? := by intro i; subst hW3; simp [go_sem]
    have fzW3_0 : ∀ i, W3.frozen? ⟨w2.heap.size, i, none⟩ = false := by intro i; subst hW3; simp [go_sem]
    have HSW3 := Lib.hid hsW3; clear hW3 hsW3
    have HQW3 := Lib.hid (HQw2.out.below hbW3); have HGW3 := Lib.hid (grown_trans' HGw2.out (grown_of_below hbW3 _)); have hzW3 : W3.heap.size = w2.heap.size + 1 := HSW3.out
    clear HSW3
    refine (l01Next_c B g (6) W3 HQW3.out (by omega)).mono ?_
    rintro e w4 ⟨k, rfl, ⟨hk0, hk1⟩, hqw4, hgw4⟩
    have HQw4 := Lib.hid hqw4; have HGw4 := Lib.hid (grown_trans' HGW3.out hgw4); have hzw4 := hgw4.size
    replace cxW3_0 := fun i => (hgw4.cell_far _ (by (try simp only); omega) (by simp; omega)).trans (cxW3_0 i)
    clear hqw4
    obtain ⟨k, rfl⟩ := Int.eq_ofNat_of_zero_le hk0
    have hk6 : k < 6 := by omega
    obtain ⟨p, hp, hps⟩ := bad_at k hk6
    have f : w4.cell? ⟨w2.heap.size, k, none⟩ = some (.string p) := (cxW3_0 k).trans hp
    clear cxW3_0 hp
    go_wp2
    go_ret
    exact ⟨_, rfl, by simp only [ByteArray.size_append]; omega, HQw4.out, HGw4.out⟩
  have hb1 : (r == 1) = false := beq_eq_false_iff_ne.2 h1
  by_cases h2 : r = 2
  · subst h2
    go_wp2
    go_loopw [3] (fun sv wr => ∃ t : ByteArray, sv = .string t ∧ t.size ≤ 601 ∧ Hid (Src wr B g) ∧ Hid (w.grownBy wr (some g))) (fun sv _ => 700 - strSz sv)
    case atStart => exact ⟨t, rfl, by omega, HQw2, HGw2⟩
    case round =>
      obtain ⟨t, rfl, ht, HQwr, HGwr⟩ := hrel
      go_wp2_with fail
      refine (l01Next_c B g (2) wr HQwr.out (by omega)).mono ?_
      rintro e w3 ⟨q, rfl, ⟨hq0, hq1⟩, hqw3, hgw3⟩
      have HQw3 := Lib.hid hqw3; have HGw3 := Lib.hid (grown_trans' HGwr.out hgw3); have hzw3 := hgw3.size
      clear hqw3
      by_cases hlt : (t.size : Int) < 600 + q
      · go_wp2
        go_roundw
        case rel => exact ⟨_, rfl, by simp only [ByteArray.size_append, mk_size, List.size_toArray, List.length_cons, List.length_nil]; omega, HQw3, HGw3⟩
        case measure => simp only [strSz, ByteArray.size_append, mk_size, List.size_toArray, List.length_cons, List.length_nil]; omega
      · go_wp2
        go_ret
        exact ⟨t, rfl, by omega, HQw3.out, HGw3.out⟩
  have hb2 : (r == 2) = false := beq_eq_false_iff_ne.2 h2
  go_wp2
  go_ret
  exact ⟨t, rfl, by omega, HQw2.out, HGw2.out⟩
end Go.Proofs.Ytilanpmjemlopaa
