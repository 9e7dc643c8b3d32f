/- Contract of the draw of redaction: DrawMarkWord. -/
import Derived.Test.YtgckkocndhfbnaaDrawR3
namespace Go.Proofs.Ytgckkocndhfbnaa
open Go.RowKit
set_option linter.unusedVariables false
def strs7 : List ByteArray := [{ data := #[97, 100, 97] }, { data := #[98, 114, 117, 110, 111] }, { data := #[115, 97, 119] }, { data := #[97, 100, 97] }, { data := #[101] }, { data := #[65, 100, 97] }, { data := #[] }]
theorem strs7_sz : ∀ p ∈ strs7, p.size ≤ 100 := by decide
theorem strs7_at (k : Nat) (hk : k < 7) : ∃ p : ByteArray, (#[.string { data := #[97, 100, 97] }, .string { data := #[98, 114, 117, 110, 111] }, .string { data := #[115, 97, 119] }, .string { data := #[97, 100, 97] }, .string { data := #[101] }, .string { data := #[65, 100, 97] }, .string { data := #[] }] : Array Value)[k]? = some (.string p) ∧ p.size ≤ 100 := by
  obtain ⟨p, h1, h2⟩ := str_in (L := strs7) (k := k) hk
  exact ⟨p, h1, strs7_sz p h2⟩
theorem l01Pick6 (B g b : Nat) (W : World) (K : Ending → World → Prop) (hS : Src W B g) (hne : b ≠ g) (hcl : ∀ i, W.cell? ⟨b, i, none⟩ = (#[.int .i64 1, .int .i64 2, .int .i64 3, .int .i64 9, .int .i64 0, .int .i64 10] : Array Value)[i]?) (hK : ∀ (e : Ending) (w' : World), PickP B g [1, 2, 3, 9, 0, 10] W e w' → K e w') :
    Calls Try.prog 46 #[.pointer (some ⟨g, 0, none⟩), .slice (some ⟨b, 0, none⟩) 6 6] W K :=
  (l01Pick_c B g b 0 6 [1, 2, 3, 9, 0, 10] _ hS hne (pick_box (L := [1, 2, 3, 9, 0, 10]) (fun i => by rw [hcl i]; rfl)) (by simp) (by simp) (by simp)).mono hK
theorem cell6a (t : TypeId) (W : World) : ∀ i, (W.alloc (.cells #[.int .i64 1, .int .i64 2, .int .i64 3, .int .i64 9, .int .i64 0, .int .i64 10] t)).cell? ⟨W.heap.size, i, none⟩ = (#[.int .i64 1, .int .i64 2, .int .i64 3, .int .i64 9, .int .i64 0, .int .i64 10] : Array Value)[i]? := fun i => by simp [go_sem]
theorem cell6b (t : TypeId) (o : Obj) (W : World) : ∀ i, ((W.alloc o).alloc (.cells #[.int .i64 1, .int .i64 2, .int .i64 3, .int .i64 9, .int .i64 0, .int .i64 10] t)).cell? ⟨W.heap.size + 1, i, none⟩ = (#[.int .i64 1, .int .i64 2, .int .i64 3, .int .i64 9, .int .i64 0, .int .i64 10] : Array Value)[i]? := fun i => by simp [go_sem]
theorem cell6d (t : TypeId) (o : Obj) (W : World) : ∀ i, ((W.alloc (.cells #[.int .i64 1, .int .i64 2, .int .i64 3, .int .i64 9, .int .i64 0, .int .i64 10] t)).alloc o).cell? ⟨W.heap.size, i, none⟩ = (#[.int .i64 1, .int .i64 2, .int .i64 3, .int .i64 9, .int .i64 0, .int .i64 10] : Array Value)[i]? := fun i => by
  have h := (((Below.refl _ (W.alloc (.cells #[.int .i64 1, .int .i64 2, .int .i64 3, .int .i64 9, .int .i64 0, .int .i64 10] t))).alloc (Nat.le_refl _) o).cell (p := ⟨W.heap.size, i, none⟩) (by simp))
  rw [h]; simp [go_sem]
theorem cell6f {g b : Nat} {W0 W : World} (hg : W0.grownBy W (some g)) (hne : b ≠ g) (hlt : b < W0.heap.size) (hcl : ∀ i, W0.cell? ⟨b, i, none⟩ = (#[.int .i64 1, .int .i64 2, .int .i64 3, .int .i64 9, .int .i64 0, .int .i64 10] : Array Value)[i]?) : ∀ i, W.cell? ⟨b, i, none⟩ = (#[.int .i64 1, .int .i64 2, .int .i64 3, .int .i64 9, .int .i64 0, .int .i64 10] : Array Value)[i]? :=
  fun i => (hg.cell_far ⟨b, i, none⟩ hlt (fun e => hne (Option.some.inj e))).trans (hcl i)
theorem cell6g {g b : Nat} {W0 W1 : World} (o : Obj) (hg : W0.grownBy W1 (some g)) (hne : b ≠ g) (hlt : b < W0.heap.size) (hcl : ∀ i, W0.cell? ⟨b, i, none⟩ = (#[.int .i64 1, .int .i64 2, .int .i64 3, .int .i64 9, .int .i64 0, .int .i64 10] : Array Value)[i]?) : ∀ i, (W1.alloc o).cell? ⟨b, i, none⟩ = (#[.int .i64 1, .int .i64 2, .int .i64 3, .int .i64 9, .int .i64 0, .int .i64 10] : Array Value)[i]? :=
  fun i => (((Below.refl _ W1).alloc (Nat.le_refl _) o).cell (p := ⟨b, i, none⟩) (Nat.lt_of_lt_of_le hlt hg.size)).trans (cell6f hg hne hlt hcl i)
def WordsP (w : World) (e : Ending) (w' : World) : Prop := ∃ (t : ByteArray) (A : Option Addr) (c : Nat) (D : List MarkD) (p : ByteArray) (lv : Int), e = .returned (.tuple #[.string t, .slice A D.length c, .string p, .int .i64 lv]) ∧ p.size ≤ 100 ∧ DrewR w t A c D w'
set_option maxRecDepth 100000 in
set_option maxHeartbeats 8000000 in
theorem DrawMarkWord_c (A : Option Addr) (c : Nat) (L : List Int) (w : World) (hr : Rd w w.heap.size A L.length (L.map (Value.int .u8))) (hx : ∀ x ∈ L, 0 ≤ x ∧ x ≤ 255) (hL : L.length ≤ 4096) (hc : L.length ≤ c) : Calls Try.prog 35 #[.slice A L.length c] w (WordsP w) := by
  go_enter Try.func35, Try.ntmps35
  go_wp2_with fail
  refine (l01From_c A c L w hr hx hL hc).mono ?_
  rintro e w1 ⟨rfl, hS, hb1⟩
  have HS1 := Lib.hid hS
  have hlt1 := hS.lt
  have HB1 := Lib.hid hb1
  have hbs := hb1.size
  clear hr hx hS hb1
  go_wp2_with fail
  refine (l32Draw_c _ _ w1 HS1.out).mono ?_
  rintro e w2 ⟨t, A2, c2, D, rfl, ht, hl, ho, hq, hg⟩
  have HO2 := Lib.hid ho; have HQw2 := Lib.hid hq; have HGw2 := Lib.hid hg; have hzw2 := hg.size
  clear ho hq hg
  go_wp2_with fail
  refine (l01Next_c w.heap.size w.heap.size (12) w2 HQw2.out (by omega)).mono ?_
  rintro e w3 ⟨r, rfl, ⟨hr0, hr1⟩, hqw3, hgw3⟩
  have HQw3 := Lib.hid hqw3; have HGw3 := Lib.hid (grown_trans' HGw2.out hgw3); have hzw3 := hgw3.size
  clear hqw3
  have HO3 := Lib.hid (HO2.out.kept hgw3 (.inr (fun e => by have := HO2.out.lt _ e; omega)))
  clear HO2
  go_upto_if 19 with fail
  go_cut [7, 8] (fun s7 s8 wc => ∃ (t : ByteArray) (A2 : Option Addr) (c2 : Nat) (D : List MarkD), s7 = .string t ∧ s8 = .slice A2 D.length c2 ∧ t.size ≤ 401 ∧ D.length ≤ 6 ∧ w1.heap.size ≤ wc.heap.size ∧ Hid (wc.ownsRow w1.heap.size 42 3 (.slice A2 D.length c2) D.length (D.flatMap markC)) ∧ Hid (Src wc w.heap.size w.heap.size) ∧ Hid (w1.grownBy wc (some w.heap.size)))
  case first =>
    by_cases hr0 : r = 0
    · subst hr0
      go_wp2_with fail
      have ho := World.ownsRow_lit (base := w1.heap.size) (e := 42) (size := 3) w3 #[] 0 (by omega) (by unfold maxLen; omega) rfl
      generalize hW4 : w3.alloc (.cells #[] 42) = W4 at ho ⊢
      have hb4 : Below w3.heap.size w3 W4 := by subst hW4; exact (Below.refl _ _).alloc (Nat.le_refl _) _
      have hzW4 := hb4.size
      have HQW4 := Lib.hid (HQw3.out.below hb4); have HGW4 := Lib.hid (grown_trans' HGw3.out (grown_of_below hb4 _))
      clear hW4
      refine (l01Next_c w.heap.size w.heap.size (5) W4 HQW4.out (by omega)).mono ?_
      rintro e w5 ⟨n, rfl, ⟨hn0, hn1⟩, hqw5, hgw5⟩
      have HQw5 := Lib.hid hqw5; have HGw5 := Lib.hid (grown_trans' HGW4.out hgw5); have hzw5 := hgw5.size
      clear hqw5
      have HO5 := Lib.hid (ho.kept hgw5 (.inr (fun e => by have := ho.lt _ e; omega)))
      clear ho
      obtain ⟨n, rfl⟩ := Int.eq_ofNat_of_zero_le hn0
      go_wp2
      go_loopw [7, 9] (fun sv nv wr => ∃ (t : ByteArray) (j : Nat), nv = .int .i64 j ∧ sv = .string t ∧ t.size + 4 * j ≤ 60 ∧ wr = w5) (fun _ nv _ => (intOf nv).toNat)
      case atStart => exact ⟨ByteArray.empty, 10 + n, by go_num, rfl, by show 0 + 4 * (10 + n) ≤ 60; omega, by trivial⟩
      case round =>
        obtain ⟨t2, j, rfl, rfl, hj, rfl⟩ := hrel
        by_cases hj0 : 0 < j
        · go_wp2
          go_roundw
          case rel => exact ⟨_, j - 1, by go_num, rfl, by rw [ByteArray.size_append]; show t2.size + 4 + 4 * (j - 1) ≤ 60; omega, by trivial⟩
          case measure => simp [intOf]; omega
        · obtain rfl : j = 0 := by omega
          go_wp2
          go_meet
          case rel => exact ⟨t2, _, _, [], rfl, rfl, by omega, by simp, by omega, HO5, HQw5, HGw5⟩
    · have hrb : (r == 0) = false := beq_eq_false_iff_ne.2 hr0
      go_wp2
      go_meet
      case rel => exact ⟨t, A2, c2, D, rfl, rfl, ht, hl, by omega, HO3, HQw3, HGw3⟩
  case rest =>
    obtain ⟨t, A2, c2, D, rfl, rfl, ht, hl, hzc, HO4, HQw4, HGw4⟩ := hcut
    obtain ⟨w4, rfl⟩ : ∃ x, x = wc := ⟨_, rfl⟩
    clear HO3 HQw3 HGw3
    go_wp2_with fail
    have hgn : w4.heap.size ≠ w.heap.size := by omega
    have hgn1 : w4.heap.size + 1 ≠ w.heap.size := by omega
    have HS0 : Hid (Src w4.drew w.heap.size w.heap.size ∧ w4.grownBy w4.drew (some w.heap.size)) := ⟨HQw4.out, ⟨rfl, rfl, rfl, Nat.le_refl _, fun _ _ _ => rfl⟩⟩
    have KAL : Hid (∀ (W1 : World) (o : Obj), (Src W1 w.heap.size w.heap.size ∧ w4.grownBy W1 (some w.heap.size)) → (Src (W1.alloc o) w.heap.size w.heap.size ∧ w4.grownBy (W1.alloc o) (some w.heap.size))) := fun W1 o h => ⟨h.1.below ((Below.refl _ _).alloc (Nat.le_refl _) _), grown_trans' h.2 (grown_of_below ((Below.refl _ _).alloc (Nat.le_refl _) _) _)⟩
    have KNX : Hid (∀ (W1 W3 : World), W1.grownBy W3 (some w.heap.size) → Src W3 w.heap.size w.heap.size → Src W1 w.heap.size w.heap.size → w4.grownBy W1 (some w.heap.size) → (Src W3 w.heap.size w.heap.size ∧ w4.grownBy W3 (some w.heap.size))) := fun W1 W3 hg hq _ h2 => ⟨hq, grown_trans' h2 hg⟩
    rw [show Op.load 9 (Operand.tmp 35) = id (Op.load 9 (Operand.tmp 35)) from rfl]
    go_region_held3 (fun W1 => Src W1 w.heap.size w.heap.size ∧ w4.grownBy W1 (some w.heap.size))
      (first | exact HS0.out | exact KAL.out _ _ (by assumption) | exact KNX.out _ _ (by assumption) (by assumption) (by assumption) (by assumption) | assumption)
      ((first
        | (go_at_call 51; go_split_ands; refine Calls.mono (l01Next_c w.heap.size w.heap.size _ _ ?_ ?_) ?_; (any_goals (first | assumption | omega)); rintro e w6 ⟨q, rfl, ⟨hq0, hq1⟩, hq6, hg6⟩; obtain ⟨q, rfl⟩ := Int.eq_ofNat_of_zero_le hq0; have hqb : (q : Int) < 7 := (by omega); have hqn : (0 : Int) ≤ (q : Int) := (by omega); obtain ⟨p, hp, hps⟩ := strs7_at q (by omega); have cN6 := far_cellsD hg6; have hzg6 := hg6.size; have hle6 : w4.heap.size ≤ w6.heap.size := (by have h := hg6.size; (try simp at h); omega); have hgn6 : w6.heap.size ≠ w.heap.size := (by omega); have hgn7 : w6.heap.size + 1 ≠ w.heap.size := (by omega); (try (have hlt6 : w4.heap.size < w6.heap.size := (by have h := hg6.size; (try simp at h); omega))); (try (have hlt7 : w4.heap.size + 1 < w6.heap.size := (by have h := hg6.size; (try simp at h); omega))))
        | (go_at_call 46; go_split_ands; refine l01Pick6 w.heap.size w.heap.size _ _ _ ?_ ?_ ?_ ?_; (any_goals (first | assumption | omega)); (any_goals (first | (exact cell6a _ _) | (exact cell6b _ _ _) | (exact cell6d _ _ _) | (refine cell6f hg6 (by first | assumption | omega) (by first | (simp; done) | (simp; omega)) (by first | (exact cell6a _ _) | (exact cell6b _ _ _) | (exact cell6d _ _ _))) | (refine cell6g _ hg6 (by first | assumption | omega) (by first | (simp; done) | (simp; omega)) (by first | (exact cell6a _ _) | (exact cell6b _ _ _) | (exact cell6d _ _ _))))); rintro e w8 ⟨lv, rfl, hlvm, hq8, hg8⟩; have cN8 := far_cellsD hg8; have hzg8 := hg8.size; have hle8 : w6.heap.size ≤ w8.heap.size := (by have h := hg8.size; (try simp at h); omega); (try (have hlt8 : w6.heap.size < w8.heap.size := (by have h := hg8.size; (try simp at h); omega))))))
    all_goals
      rename_i hh
      have HSS := Lib.hid hh; clear hh
      go_wp2
      refine bodyPost_ret (v := .tuple #[.string t, .slice A2 D.length c2, .string p, .int .i64 lv]) (by simp [results, Try.results35, go_sem]) rfl ?_
      have hgf := grown_trans' HGw4.out HSS.out.2
      exact ⟨t, A2, c2, D, p, lv, rfl, hps, ht, hl, own_mono (HO4.out.kept HSS.out.2 (.inr (fun e => by have := HO4.out.lt _ e; omega))) HB1.out.size, below_src HB1.out hgf⟩
end Go.Proofs.Ytgckkocndhfbnaa
