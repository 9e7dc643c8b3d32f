/- Contract of the draw of values: l28Values. -/
import Derived.Test.YtilanpmjemlopaaDrawT1
import Derived.Test.YtilanpmjemlopaaVal
import Derived.Test.YtilanpmjemlopaaRow
namespace Go.Proofs.Ytilanpmjemlopaa
open Go.RowKit
set_option linter.unusedVariables false
def textWs : List ByteArray := [{ data := #[] }, { data := #[66, 101, 114, 103] }, { data := #[97, 32, 108, 111, 110, 103, 32, 100, 97, 121] }, { data := #[116, 104, 101, 102, 116] }]
theorem textWs_sz : ∀ p ∈ textWs, p.size ≤ 20 := by decide
theorem text_at (k : Nat) (hk : k < 4) : ∃ p : ByteArray, (#[.string { data := #[] }, .string { data := #[66, 101, 114, 103] }, .string { data := #[97, 32, 108, 111, 110, 103, 32, 100, 97, 121] }, .string { data := #[116, 104, 101, 102, 116] }] : Array Value)[k]? = some (.string p) ∧ p.size ≤ 20 := by
  obtain ⟨p, h1, h2⟩ := str_at1 (L := textWs) (k := k) hk
  exact ⟨p, h1, textWs_sz p h2⟩
def oddTs : List ByteArray := [{ data := #[97, 124, 98] }, { data := #[97, 10] }, { data := #[123] }]
theorem oddTs_sz : ∀ p ∈ oddTs, p.size ≤ 20 := by decide
theorem odd_at (k : Nat) (hk : k < 3) : ∃ p : ByteArray, (#[.string { data := #[97, 124, 98] }, .string { data := #[97, 10] }, .string { data := #[123] }] : Array Value)[k]? = some (.string p) ∧ p.size ≤ 20 := by
  obtain ⟨p, h1, h2⟩ := str_at1 (L := oddTs) (k := k) hk
  exact ⟨p, h1, oddTs_sz p h2⟩
/-- The source, what has grown, the names' block. -/
structure SV (B g : Nat) (w W : World) : Prop where
  src : Src W B g
  gr : w.grownBy W (some g)
  nm : W.heap[w.heap.size + 1]? = some (.cells (#[.string { data := #[106, 117, 100, 103, 101] }, .string { data := #[100, 97, 121] }, .string { data := #[99, 114, 105, 109, 101] }, .string { data := #[100, 111, 117, 98, 116] }] : Array Value) 9 (0, 0))
  lt : g < w.heap.size
section
variable {B g : Nat} {w W W' : World}
theorem SV.big (h : SV B g w W) : w.heap.size + 1 < W.heap.size := (Array.getElem?_eq_some_iff.1 h.nm).1
theorem SV.cell (h : SV B g w W) {k : Nat} {p : ByteArray} (hp : (#[.string { data := #[106, 117, 100, 103, 101] }, .string { data := #[100, 97, 121] }, .string { data := #[99, 114, 105, 109, 101] }, .string { data := #[100, 111, 117, 98, 116] }] : Array Value)[k]? = some (.string p)) : W.cell? ⟨w.heap.size + 1, k, none⟩ = some (.string p) :=
  (cell_of_row W _ _ _ _ _ h.nm).trans hp
theorem SV.next (h : SV B g w W) (hg : W.grownBy W' (some g)) (hq : Src W' B g) : SV B g w W' :=
  ⟨hq, grown_trans' h.gr hg, (hg.block _ h.big (fun e => by have := Option.some.inj e; have := h.lt; omega)).trans h.nm, h.lt⟩
theorem SV.below (h : SV B g w W) (hb : Below W.heap.size W W') : SV B g w W' :=
  ⟨h.src.below hb, grown_trans' h.gr (grown_of_below hb _), (hb.block _ h.big).trans h.nm, h.lt⟩
theorem SV.al (h : SV B g w W) (o : Obj) : SV B g w (W.alloc o) := h.below ((Below.refl _ _).alloc (Nat.le_refl _) o)
theorem SV.dr (h : SV B g w W) : SV B g w W.drew := ⟨h.src, ⟨h.gr.os, h.gr.tape, h.gr.output, h.gr.size, h.gr.block⟩, h.nm, h.lt⟩
theorem own_type {b : Nat} {e e2 : TypeId} {s n N : Nat} {v : Value} {xs : List Value} {cs : Array Value} {fr : Nat × Nat} (ho : W.ownsRow b e s v n xs) (hN : W.heap[N]? = some (.cells cs e2 fr)) (hne : e ≠ e2) : v.ownBlock ≠ some N := by
  intro hv
  rcases ho.2 with ⟨h0, _⟩ | ⟨k, cap, cur, h0, _, h2, _⟩
  · subst h0; cases hv
  · subst h0
    have : k = N := Option.some.inj hv
    subst this
    rw [hN] at h2
    injection h2 with h2
    injection h2 with _ h3 _
    exact hne h3.symm
theorem SV.push (h : SV B g w W) {v : Value} {b n : Nat} {xs : List Value} (hg : W.grownBy W' v.ownBlock) (ho : W.ownsRow b 50 2 v n xs) (hb : w.heap.size ≤ b) : SV B g w W' :=
  ⟨h.src.other hg (fun k hk => by have := ho.lt k hk; have := h.lt; have := h.src.ge; omega), h.gr.andThen hg (fun k hk => .inl (by have := ho.lt k hk; omega)), (hg.block _ h.big (fun e => own_type ho h.nm (by decide) e.symm)).trans h.nm, h.lt⟩
end
theorem own_snocV {W : World} {b : Nat} {A : Option Addr} {c : Nat} {D : List ValueD} {y : ValueD} (h : W.ownsRow b 50 2 (.slice A (D.length + 1) c) (D.length + 1) (D.flatMap valueC ++ valueC y)) : W.ownsRow b 50 2 (.slice A (D ++ [y]).length c) (D ++ [y]).length ((D ++ [y]).flatMap valueC) := by
  rw [List.length_append, List.flatMap_append, show [y].flatMap valueC = valueC y from by simp]; exact h
def GoodV (D : List ValueD) : Prop := ∀ x ∈ D, x.name.size ≤ 20 ∧ x.text.size ≤ 20
theorem GoodV.snoc {D : List ValueD} (h : GoodV D) {n t : ByteArray} (h1 : n.size ≤ 20) (h2 : t.size ≤ 20) : GoodV (D ++ [⟨n, t⟩]) := fun x hx => by
  rcases List.mem_append.1 hx with hx | hx
  · exact h x hx
  · rw [List.mem_singleton.1 hx]; exact ⟨h1, h2⟩
def ValsP (B g : Nat) (w : World) (e : Ending) (W : World) : Prop := ∃ (A : Option Addr) (c : Nat) (D : List ValueD), e = .returned (.slice A D.length c) ∧ W.ownsRow w.heap.size 50 2 (.slice A D.length c) D.length (D.flatMap valueC) ∧ D.length ≤ 20 ∧ GoodV D ∧ Src W B g ∧ w.grownBy W (some g)
theorem vals_of {B g : Nat} {w W : World} {A : Option Addr} {c n : Nat} {D : List ValueD} (hn : D.length = n) (ho : W.ownsRow w.heap.size 50 2 (.slice A D.length c) D.length (D.flatMap valueC)) (hl : D.length ≤ 20) (hG : GoodV D) (h : SV B g w W) : ValsP B g w (.returned (.slice A n c)) W := ⟨A, c, D, by rw [hn], ho, hl, hG, h.src, h.gr⟩

set_option maxRecDepth 100000 in
set_option maxHeartbeats 16000000 in
theorem l28Values_c (B g : Nat) (w : World) (hS : Src w B g) : Calls Try.prog 62 #[.pointer (some ⟨g, 0, none⟩)] w (ValsP B g w) := by
  obtain ⟨i0, hi, hz0, hz1, hz2⟩ := info_parts value_info
  have hgl := hS.lt
  have hgB := hS.ge
  have HS := Lib.hid hS
  clear hS
  go_enter Try.func62, Try.ntmps62
  go_upto_region 4 with fail
  obtain ⟨W0, hW0⟩ : ∃ x, x = ((w.alloc (.cells #[] 50)).alloc (.cells (#[.string { data := #[106, 117, 100, 103, 101] }, .string { data := #[100, 97, 121] }, .string { data := #[99, 114, 105, 109, 101] }, .string { data := #[100, 111, 117, 98, 116] }] : Array Value) 9)) := ⟨_, rfl⟩
  have HO0 : Hid (W0.ownsRow w.heap.size 50 2 (.slice (some ⟨w.heap.size, 0, none⟩) 0 0) 0 []) := by unfold Hid; rw [hW0]; exact own_empty (heap_at1 w _ _) (Nat.le_refl _)
  have HB0 : Below w.heap.size w W0 := by rw [hW0]; exact ((Below.refl w.heap.size w).alloc (Nat.le_refl _) _).alloc (by simp) _
  have HSV0 : Hid (SV B g w W0) := ⟨HS.out.below HB0, grown_of_below HB0 _, by rw [hW0]; exact heap_alloc2_new w _ _, hgl⟩
  rw [← hW0]
  clear hW0 HB0 HS
  go_loopw [3, 5] (fun ov iv wr => ∃ (A : Option Addr) (c : Nat) (D : List ValueD) (i : Nat), iv = .int .i64 i ∧ ov = .slice A D.length c ∧ i ≤ 4 ∧ D.length ≤ i ∧ Hid (GoodV D) ∧ Hid (wr.ownsRow w.heap.size 50 2 (.slice A D.length c) D.length (D.flatMap valueC)) ∧ Hid (SV B g w wr)) (fun _ iv _ => 4 - (intOf iv).toNat)
  case atStart => exact ⟨_, _, [], 0, rfl, rfl, by omega, by simp, Lib.hid (fun x hx => by cases hx), HO0, HSV0⟩
  case round =>
    obtain ⟨w4, rfl⟩ : ∃ w4, w4 = wr := ⟨_, rfl⟩
    obtain ⟨A, c, D, i, rfl, rfl, hi4, hDl, HG, HOw4, HSVw4⟩ := hrel
    clear HO0 HSV0
    have hbig := HSVw4.out.big
    by_cases hlt : i < 4
    · have hii : (i : Int) < 4 := by omega
      have hi00 : (0 : Int) ≤ (i : Int) := by omega
      go_wp2_with fail
      refine (l01Next_c B g 3 w4 HSVw4.out.src (by omega)).mono ?_
      rintro e w5 ⟨q, rfl, ⟨hq0, hq1⟩, hqw5, hgw5⟩
      have HSVw5 := Lib.hid (HSVw4.out.next hgw5 hqw5); have HOw5 := Lib.hid (HOw4.out.kept hgw5 (.inr (fun e => by have := HOw4.out.lt _ e; omega))); have hzw5 := hgw5.size
      clear hqw5 HSVw4 HOw4
      by_cases hq : 0 < q
      · obtain ⟨nm, hnm, hns⟩ := name_at i hlt
        go_wp2_with fail
        have hgn : w5.heap.size ≠ g := by omega
        have hcell := HSVw5.out.cell hnm
        have HS0 : Hid (SV B g w w5.drew ∧ w5.drew.cell? ⟨w.heap.size + 1, i, none⟩ = some (.string nm)) := ⟨HSVw5.out.dr, hcell⟩
        have KCE : Hid (∀ W1 : World, SV B g w W1 → W1.cell? ⟨w.heap.size + 1, i, none⟩ = some (.string nm)) := fun W1 h => h.cell hnm
        have KAL : Hid (∀ (W1 : World) (o : Obj), (SV B g w W1 ∧ W1.cell? ⟨w.heap.size + 1, i, none⟩ = some (.string nm)) → (SV B g w (W1.alloc o) ∧ (W1.alloc o).cell? ⟨w.heap.size + 1, i, none⟩ = some (.string nm))) := fun W1 o h => ⟨h.1.al o, KCE.out _ (h.1.al o)⟩
        have KID : Hid (∀ W1 : World, SV B g w W1 → (SV B g w W1 ∧ W1.cell? ⟨w.heap.size + 1, i, none⟩ = some (.string nm))) := fun W1 h => ⟨h, KCE.out _ h⟩
        clear hnm hcell
        rw [show Op.load 9 (Operand.tmp 26) = id (Op.load 9 (Operand.tmp 26)) from rfl]
        go_region_held3 (fun W1 => SV B g w W1 ∧ W1.cell? ⟨w.heap.size + 1, i, none⟩ = some (.string nm))
          (first | exact HS0.out | exact KAL.out _ _ (by assumption) | exact KID.out _ (by assumption) | assumption)
          ((first
            | (go_at_call 64; go_split_ands; refine Calls.mono (l01Next_c B g _ _ (SV.src (by assumption)) (by omega)) ?_; rintro e w6 ⟨z, rfl, ⟨hz00, hz01⟩, hq6, hg6⟩; obtain ⟨z, rfl⟩ := Int.eq_ofNat_of_zero_le hz00; have hzb : (z : Int) < 4 := (by omega); have hzn : (0 : Int) ≤ (z : Int) := (by omega); obtain ⟨tx, htx, hts⟩ := text_at z (by omega); have HSV6 : SV B g w w6 := SV.next (by assumption) hg6 hq6; have HO6 := Lib.hid (HOw5.out.drew.kept (by first | exact hg6 | exact grown_alloc hg6) (.inr (fun e => by have := HOw5.out.lt _ e; omega))); have hgn6 : w6.heap.size ≠ g := (by have := hq6.lt; omega); have cN6 := far_cellsD hg6; have hzg6 := hg6.size; have hbig6 := HSV6.big; (try (have hle6 : w5.heap.size ≤ w6.heap.size := (by have h := hg6.size; simp at h; omega))); (try (have hlt6 : w5.heap.size < w6.heap.size := (by have h := hg6.size; simp at h; omega))))
            | (refine step_cat (w6.alloc (.cells #[.string nm, .string tx] 50)) (by rfl) (.tmp 18) (.tmp 29) 27 (by rfl) w.heap.size 50 i0 _ 2 32 Try.underlying27 hi hz0 hz1 hz2 rfl (by omega) (.slice A D.length c) D.length (D.flatMap valueC) (by rfl) (HO6.out.alloc _) (some ⟨w6.heap.size, 0, none⟩) 1 1 _ [.string nm, .string tx] (by rfl) (Rd.of_block (heap_alloc_new w6 _)) (by simp [Value.oneCell']) (by unfold maxLen; omega) (by omega) (by simp; omega) (D.length + 1) (by omega) ?_; intro A7 c7 w7 ho7 hg7; have HOw7 := Lib.hid (own_snocV (y := ⟨nm, tx⟩) ho7); have HSV7 : SV B g w w7 := SV.push (SV.al HSV6 _) hg7 (HO6.out.alloc _) (Nat.le_refl _))
            | (refine step_cat ((w6.alloc (.cells (#[.string { data := #[] }, .string { data := #[66, 101, 114, 103] }, .string { data := #[97, 32, 108, 111, 110, 103, 32, 100, 97, 121] }, .string { data := #[116, 104, 101, 102, 116] }] : Array Value) 9)).alloc (.cells #[.string nm, .string tx] 50)) (by rfl) (.tmp 18) (.tmp 29) 27 (by rfl) w.heap.size 50 i0 _ 2 32 Try.underlying27 hi hz0 hz1 hz2 rfl (by omega) (.slice A D.length c) D.length (D.flatMap valueC) (by rfl) ((HO6.out.alloc _).alloc _) (some ⟨w6.heap.size + 1, 0, none⟩) 1 1 _ [.string nm, .string tx] (by rfl) (Rd.of_block (heap_alloc2_new w6 _ _)) (by simp [Value.oneCell']) (by unfold maxLen; omega) (by omega) (by simp; omega) (D.length + 1) (by omega) ?_; intro A7 c7 w7 ho7 hg7; have HOw7 := Lib.hid (own_snocV (y := ⟨nm, tx⟩) ho7); have HSV7 : SV B g w w7 := SV.push (SV.al (SV.al HSV6 _) _) hg7 ((HO6.out.alloc _).alloc _) (Nat.le_refl _))))
        all_goals
          have HG7 := Lib.hid (HG.out.snoc (n := nm) (t := tx) (by omega) hts)
          have HSVw7 := Lib.hid HSV7
          clear HSV7 HSV6 cN6 hq6 hg6 htx KAL KID KCE HS0 HO6
          go_wp2
          go_roundw
          case rel => exact ⟨A7, c7, D ++ [⟨nm, tx⟩], i + 1, by go_num, by simp, by omega, by simp; omega, HG7, HOw7, HSVw7⟩
          case measure => simp [intOf]; omega
      · go_wp2
        go_roundw
        case rel => exact ⟨A, c, D, i + 1, by go_num, by rfl, by omega, by omega, HG, HOw5, HSVw5⟩
        case measure => simp [intOf]; omega
    · obtain rfl : i = 4 := by omega
      go_wp2_with fail
      refine (l01Next_c B g 30 w4 HSVw4.out.src (by omega)).mono ?_
      rintro e w5 ⟨r, rfl, ⟨hr0, hr1⟩, hqw5, hgw5⟩
      have HSVw5 := Lib.hid (HSVw4.out.next hgw5 hqw5); have HOw5 := Lib.hid (HOw4.out.kept hgw5 (.inr (fun e => by have := HOw4.out.lt _ e; omega))); have hzw5 := hgw5.size
      clear hqw5 HSVw4 HOw4
      rcases (show r = 0 ∨ r = 1 ∨ r = 2 ∨ 3 ≤ r by omega) with rfl | rfl | rfl | hr3
      · go_wp2_with (first | (at_builtin; refine wpList_push w5 rfl _ _ 27 rfl w.heap.size 50 i0 _ 2 32 Try.underlying27 hi hz0 hz1 hz2 rfl (by decide) (.slice A D.length c) D.length (D.flatMap valueC) (by rfl) HOw5.out [.string { data := #[106, 117, 100, 103, 101] }, .string { data := #[] }] 50 (by rfl) rfl (by simp [Value.oneCell']) (by unfold maxLen; omega) (by omega) (by omega) ?_; intro A7 c7 w7 ho7 hg7; have HOw7 := Lib.hid (own_snocV (y := ⟨{ data := #[106, 117, 100, 103, 101] }, { data := #[] }⟩) ho7); have HSVw7 := Lib.hid (SV.push HSVw5.out hg7 HOw5.out (Nat.le_refl _)); have hz7 := hg7.size; clear ho7 hg7))
        have HG7 := Lib.hid (HG.out.snoc (n := { data := #[106, 117, 100, 103, 101] }) (t := { data := #[] }) (by decide) (by decide))
        go_ret
        exact vals_of (by simp) HOw7.out (by simp; omega) HG7.out HSVw7.out
      · go_wp2_with fail
        obtain ⟨W6, hW6⟩ : ∃ x, x = w5.alloc (.cells (#[.string { data := #[97, 124, 98] }, .string { data := #[97, 10] }, .string { data := #[123] }] : Array Value) 9) := ⟨_, rfl⟩
        have HSVW6 : Hid (SV B g w W6) := by unfold Hid; rw [hW6]; exact HSVw5.out.al _
        have HOW6 : Hid (W6.ownsRow w.heap.size 50 2 (.slice A D.length c) D.length (D.flatMap valueC)) := by unfold Hid; rw [hW6]; exact HOw5.out.alloc _
        have cx6 : ∀ k, W6.cell? ⟨w5.heap.size, k, none⟩ = (#[.string { data := #[97, 124, 98] }, .string { data := #[97, 10] }, .string { data := #[123] }] : Array Value)[k]? := fun k => by rw [hW6]; exact cell_of_row _ _ _ _ _ _ (heap_alloc_new w5 _)
        have hzW6 : w5.heap.size < W6.heap.size := by rw [hW6]; simp
        rw [← hW6]
        clear hW6
        refine (l01Next_c B g 3 W6 HSVW6.out.src (by omega)).mono ?_
        rintro e w7 ⟨y, rfl, ⟨hy0, hy1⟩, hqw7, hgw7⟩
        have HSVw7 := Lib.hid (HSVW6.out.next hgw7 hqw7); have HOw7 := Lib.hid (HOW6.out.kept hgw7 (.inr (fun e => by have := HOW6.out.lt _ e; omega))); have hzw7 := hgw7.size
        clear hqw7 HSVW6 HOW6
        obtain ⟨y, rfl⟩ := Int.eq_ofNat_of_zero_le hy0
        have hy3 : y < 3 := by omega
        have hyi : (y : Int) < 3 := by omega
        obtain ⟨tx, htx, hts⟩ := odd_at y hy3
        have f : w7.cell? ⟨w5.heap.size, y, none⟩ = some (.string tx) := ((hgw7.cell_far ⟨w5.heap.size, y, none⟩ hzW6 (fun e => by have h2 : w5.heap.size = g := Option.some.inj e; omega)).trans (cx6 y)).trans htx
        clear htx cx6
        have HG8 := Lib.hid (HG.out.snoc (n := { data := #[120] }) (t := tx) (by decide) hts)
        go_wp2_with (first | (at_builtin; refine wpList_push w7 rfl _ _ 27 rfl w.heap.size 50 i0 _ 2 32 Try.underlying27 hi hz0 hz1 hz2 rfl (by decide) (.slice A D.length c) D.length (D.flatMap valueC) (by rfl) HOw7.out [.string { data := #[120] }, .string tx] 50 (by rfl) rfl (by simp [Value.oneCell']) (by unfold maxLen; omega) (by omega) (by omega) ?_; intro A7 c7 w8 ho7 hg7; have HOw8 := Lib.hid (own_snocV (y := ⟨{ data := #[120] }, tx⟩) ho7); have HSVw8 := Lib.hid (SV.push HSVw7.out hg7 HOw7.out (Nat.le_refl _)); have hz7 := hg7.size; clear ho7 hg7))
        go_ret
        exact vals_of (by simp) HOw8.out (by simp; omega) HG8.out HSVw8.out
      · go_wp2
        go_loopw [3, 6] (fun ov iv wr => ∃ (A : Option Addr) (c : Nat) (D : List ValueD) (k : Nat), iv = .int .i64 k ∧ ov = .slice A D.length c ∧ k ≤ 14 ∧ D.length ≤ 4 + k ∧ Hid (GoodV D) ∧ Hid (wr.ownsRow w.heap.size 50 2 (.slice A D.length c) D.length (D.flatMap valueC)) ∧ Hid (SV B g w wr)) (fun _ iv _ => 14 - (intOf iv).toNat)
        case atStart => exact ⟨A, c, D, 0, rfl, rfl, by omega, by omega, HG, HOw5, HSVw5⟩
        case round =>
          obtain ⟨w6, rfl⟩ : ∃ w6, w6 = wr := ⟨_, rfl⟩
          clear HOw5 HSVw5 HG hDl hbig
          obtain ⟨A, c, D, k, rfl, rfl, hk14, hDl, HG, HOw6, HSVw6⟩ := hrel
          have hbig := HSVw6.out.big
          go_wp2_with fail
          refine (l01Next_c B g 2 w6 HSVw6.out.src (by omega)).mono ?_
          rintro e w7 ⟨x, rfl, ⟨hx0, hx1⟩, hqw7, hgw7⟩
          have HSVw7 := Lib.hid (HSVw6.out.next hgw7 hqw7); have HOw7 := Lib.hid (HOw6.out.kept hgw7 (.inr (fun e => by have := HOw6.out.lt _ e; omega))); have hzw7 := hgw7.size
          clear hqw7 HSVw6 HOw6
          have hDi : (D.length : Int) ≤ 4 + k := by omega
          have hw12 : IntKind.i64.wrap (12 + x) = 12 + x := IntWalk.i64_in _ (by omega)
          by_cases hc1 : (D.length : Int) < 12 + x
          · by_cases hc2 : (k : Int) < 14
            · have hk0 : (0 : Int) ≤ (k : Int) := by omega
              have HG8 := Lib.hid (HG.out.snoc (n := ({ data := #[120] } : ByteArray) ++ ({ data := #[97, 98, 99, 100, 101, 102, 103, 104, 105, 106, 107, 108, 109, 110] } : ByteArray).extract k (k + 1)) (t := { data := #[] }) (by rw [ByteArray.size_append, ByteArray.size_extract]; show 1 + _ ≤ 20; omega) (by decide))
              go_upto_region 17 with fail
              go_wp2_with (first | (at_builtin; refine wpList_push w7 rfl _ _ 27 rfl w.heap.size 50 i0 _ 2 32 Try.underlying27 hi hz0 hz1 hz2 rfl (by decide) (.slice A D.length c) D.length (D.flatMap valueC) (by rfl) HOw7.out [.string (({ data := #[120] } : ByteArray) ++ ({ data := #[97, 98, 99, 100, 101, 102, 103, 104, 105, 106, 107, 108, 109, 110] } : ByteArray).extract k (k + 1)), .string { data := #[] }] 50 (by rfl) rfl (by simp [Value.oneCell']) (by unfold maxLen; omega) (by omega) (by omega) ?_; intro A7 c7 w8 ho7 hg7; have HOw8 := Lib.hid (own_snocV (y := ⟨(({ data := #[120] } : ByteArray) ++ ({ data := #[97, 98, 99, 100, 101, 102, 103, 104, 105, 106, 107, 108, 109, 110] } : ByteArray).extract k (k + 1)), { data := #[] }⟩) ho7); have HSVw8 := Lib.hid (SV.push HSVw7.out hg7 HOw7.out (Nat.le_refl _)); have hz7 := hg7.size; clear ho7 hg7))
              go_roundw
              case rel => exact ⟨A7, c7, _, k + 1, by go_num, by simp, by omega, by simp; omega, HG8, HOw8, HSVw8⟩
              case measure => simp [intOf]; omega
            · go_wp2
              go_ret
              exact vals_of rfl HOw7.out (by omega) HG.out HSVw7.out
          · go_wp2
            go_ret
            exact vals_of rfl HOw7.out (by omega) HG.out HSVw7.out
      · have hb0 : (r == 0) = false := beq_eq_false_iff_ne.2 (by omega)
        have hb1 : (r == 1) = false := beq_eq_false_iff_ne.2 (by omega)
        have hb2 : (r == 2) = false := beq_eq_false_iff_ne.2 (by omega)
        go_wp2
        go_ret
        exact vals_of rfl HOw5.out (by omega) HG.out HSVw5.out
end Go.Proofs.Ytilanpmjemlopaa
