/- Contracts: the source of drawn numbers: l01Next, l01Pick. -/
import Derived.Test.YtiamignopfhkfaaGreatDoorZ4
namespace Go.Proofs.YtiamignopfhkfaaGreatDoor
open Go.RowKit
set_option linter.unusedVariables false
/-- Block g holds a source of numbers over bytes that lie below B. -/
def Src (W : World) (B g : Nat) : Prop :=
  ∃ (A : Option Addr) (c : Nat) (L : List Int) (p q : Int), B ≤ g ∧ g < W.heap.size ∧ W.cell? ⟨g, 0, none⟩ = some (.slice A L.length c) ∧ W.cell? ⟨g, 1, none⟩ = some (.int .i64 p) ∧ W.cell? ⟨g, 2, none⟩ = some (.int .i64 q) ∧
    (∀ i, W.frozen? ⟨g, i, none⟩ = false) ∧ (0 ≤ p ∧ p ≤ L.length) ∧ (0 ≤ q ∧ q < 2147483647) ∧ L.length ≤ 4096 ∧ L.length ≤ c ∧ Rd W B A L.length (L.map (Value.int .u8)) ∧ (∀ x ∈ L, 0 ≤ x ∧ x ≤ 255)
theorem Rd.u8s {w : World} {B : Nat} {A : Option Addr} {L : List Int} (h : Rd w B A L.length (L.map (Value.int .u8))) {k : Nat} (hk : k < L.length) :
    ∃ b off, A = some ⟨b, off, none⟩ ∧ b < B ∧ w.cell? ⟨b, off + k, none⟩ = some (.int .u8 L[k]) := by
  obtain ⟨b, off, e, hb, hc⟩ := h.2 (by omega)
  exact ⟨b, off, e, hb, hc k _ (by rw [List.getElem?_map, List.getElem?_eq_getElem hk]; rfl)⟩
def NextP (B g : Nat) (n : Int) (w : World) (e : Ending) (w' : World) : Prop := ∃ r : Int, e = .returned (.int .i64 r) ∧ (0 ≤ r ∧ (r < n ∨ r = 0)) ∧ Src w' B g ∧ w.grownBy w' (some g)
theorem src_of {w w' : World} {B g : Nat} {A : Option Addr} {c : Nat} {L : List Int} {p q : Int} (hg : w.grownBy w' (some g)) (hBg : B ≤ g) (hgl : g < w.heap.size) (f0 : w'.cell? ⟨g, 0, none⟩ = some (.slice A L.length c)) (f1 : w'.cell? ⟨g, 1, none⟩ = some (.int .i64 p)) (f2 : w'.cell? ⟨g, 2, none⟩ = some (.int .i64 q))
    (fz : ∀ i, w'.frozen? ⟨g, i, none⟩ = false) (hp : 0 ≤ p ∧ p ≤ L.length) (hq : 0 ≤ q ∧ q < 2147483647) (hL : L.length ≤ 4096) (hc : L.length ≤ c) (hr : Rd w B A L.length (L.map (Value.int .u8))) (hx : ∀ x ∈ L, 0 ≤ x ∧ x ≤ 255) : Src w' B g :=
  ⟨A, c, L, p, q, hBg, Nat.lt_of_lt_of_le hgl hg.size, f0, f1, f2, fz, hp, hq, hL, hc, ⟨hr.1, fun hn => by
    obtain ⟨b, off, e, hb, hcc⟩ := hr.2 hn
    exact ⟨b, off, e, hb, fun j u hu => hg.cell (hcc j u hu) (show some b ≠ some g from fun h => by injection h with h; omega)⟩⟩, hx⟩
theorem src_drewN {w : World} {B g : Nat} (h : Src w B g) (D : Nat) : Src (w.drewN D) B g := h
theorem grown_drewN' {w w' : World} {r : Option Nat} (h : w.grownBy w' r) (D : Nat) : w.grownBy (w'.drewN D) r := ⟨h.os, h.tape, h.output, h.size, h.block⟩
set_option maxRecDepth 100000 in
set_option maxHeartbeats 2000000 in
theorem l01Next_c (B g : Nat) (n : Int) (w : World) (hS : Src w B g) (hn : n ≤ 1000000000000) : Calls Tryz.prog 37 #[.pointer (some ⟨g, 0, none⟩), .int .i64 n] w (NextP B g n w) := by
  by_cases h1 : n ≤ 1
  · go_enter Tryz.func37, Tryz.ntmps37
    go_wp2
    go_ret
    exact ⟨0, rfl, ⟨by omega, .inr rfl⟩, hS, World.grownBy.refl _ _⟩
  · obtain ⟨A, c, L, p, q, hBg, hgl, f0, f1, f2, fz, hp, hq, hL, hc, hr, hx⟩ := hS
    have hfz1 := fz 1
    have hfz2 := fz 2
    have HR := Lib.hid hr
    have HX := Lib.hid hx
    have hq2 : 0 ≤ (q * 48271 + 29) % 2147483647 ∧ (q * 48271 + 29) % 2147483647 < 2147483647 := by omega
    by_cases hpl : p < L.length
    · obtain ⟨k, rfl⟩ := Int.eq_ofNat_of_zero_le hp.1
      obtain ⟨b, off, rfl, hb, f3⟩ := Rd.u8s hr (k := k) (by omega)
      have hxk := hx L[k] (List.getElem_mem (by omega))
      have hbg : b ≠ g := by omega
      generalize L[k] = x at *
      clear hr hx
      go_enter Tryz.func37, Tryz.ntmps37
      go_wp2
      have e0 : (w.setCell ⟨g, 2, none⟩ (.int .i64 ((q * 48271 + 29) % 2147483647))).cell? ⟨g, 0, none⟩ = some (.slice (some ⟨b, off, none⟩) L.length c) := by simp [go_sem, f0]
      have e1 : (w.setCell ⟨g, 2, none⟩ (.int .i64 ((q * 48271 + 29) % 2147483647))).cell? ⟨g, 1, none⟩ = some (.int .i64 k) := by simp [go_sem, f1]
      have e2 : (w.setCell ⟨g, 2, none⟩ (.int .i64 ((q * 48271 + 29) % 2147483647))).cell? ⟨g, 2, none⟩ = some (.int .i64 ((q * 48271 + 29) % 2147483647)) := by simp [go_sem, f2]
      have e3 : (w.setCell ⟨g, 2, none⟩ (.int .i64 ((q * 48271 + 29) % 2147483647))).cell? ⟨b, off + k, none⟩ = some (.int .u8 x) := by rw [World.cell?_of_block (a := ⟨b, off + k, none⟩) (Below.heap_setCell _ _ _ _ hbg)]; exact f3
      have ez : ∀ i, (w.setCell ⟨g, 2, none⟩ (.int .i64 ((q * 48271 + 29) % 2147483647))).frozen? ⟨g, i, none⟩ = false := fun i => by simp [go_sem, fz]
      have hg1 : w.grownBy (w.setCell ⟨g, 2, none⟩ (.int .i64 ((q * 48271 + 29) % 2147483647))) (some g) := grown_set (World.grownBy.refl _ _)
      generalize (q * 48271 + 29) % 2147483647 = q2 at *
      generalize w.setCell ⟨g, 2, none⟩ (.int .i64 q2) = w1 at *
      have ez1 := ez 1
      have hkl : (k : Int) ≤ (c : Int) := by omega
      have hk0 : (0 : Int) ≤ (k : Int) := by omega
      have hwk : IntKind.i64.wrap (q2 / 31 + x) = q2 / 31 + x := IntWalk.i64_in _ (by omega)
      have hwx : IntKind.i64.wrap x = x := IntWalk.i64_in _ (by omega)
      have hwp : IntKind.i64.wrap ((k : Int) + 1 - 1) = (k : Int) := by rw [IntWalk.i64_in _ (by omega)]; omega
      clear f0 f1 f2 f3 fz hfz1 hfz2
      have hmod : 0 ≤ (q2 / 31 + x) % n ∧ (q2 / 31 + x) % n < n := ⟨Int.emod_nonneg _ (by omega), Int.emod_lt_of_pos _ (by omega)⟩
      have hmod2 : 0 ≤ x % n ∧ x % n < n := ⟨Int.emod_nonneg _ (by omega), Int.emod_lt_of_pos _ (by omega)⟩
      have gfin : ∀ D : Nat, Src ((w1.drewN D).setCell ⟨g, 1, none⟩ (.int .i64 ((k : Int) + 1))) B g ∧ w.grownBy ((w1.drewN D).setCell ⟨g, 1, none⟩ (.int .i64 ((k : Int) + 1))) (some g) := by
        intro D
        have hgd : w.grownBy (w1.drewN D) (some g) := ⟨hg1.os, hg1.tape, hg1.output, hg1.size, hg1.block⟩
        have hgg := grown_set (u := Value.int .i64 ((k : Int) + 1)) (j := 1) hgd
        exact ⟨src_of (p := (k : Int) + 1) (q := q2) hgg hBg hgl (by simp [go_sem, e0]) (by simp [go_sem, e1]) (by simp [go_sem, e2]) (fun i => by simp [go_sem, ez]) ⟨by omega, by omega⟩ hq2 hL hc HR.out HX.out, hgg⟩
      by_cases hn256 : n ≤ 256
      · by_cases hev : ((k : Int) + 1) % 2 = 0
        · go_quiet (fail)
          go_wp2
          go_quiet (fail)
          go_wp2
          go_quiet (fail)
          go_wp2
          go_ret
          exact ⟨x % n, rfl, ⟨hmod2.1, .inl hmod2.2⟩, src_drewN (gfin _).1 _, grown_drewN' (gfin _).2 _⟩
        · go_quiet (fail)
          go_wp2
          go_quiet (fail)
          go_wp2
          go_ret
          exact ⟨(q2 / 31 + x) % n, rfl, ⟨hmod.1, .inl hmod.2⟩, (gfin _).1, (gfin _).2⟩
      · go_quiet (fail)
        go_wp2
        go_quiet (fail)
        go_wp2
        go_ret
        exact ⟨(q2 / 31 + x) % n, rfl, ⟨hmod.1, .inl hmod.2⟩, (gfin _).1, (gfin _).2⟩
    · clear hr hx
      go_enter Tryz.func37, Tryz.ntmps37
      go_wp2
      have e0 : (w.setCell ⟨g, 2, none⟩ (.int .i64 ((q * 48271 + 29) % 2147483647))).cell? ⟨g, 0, none⟩ = some (.slice A L.length c) := by simp [go_sem, f0]
      have e1 : (w.setCell ⟨g, 2, none⟩ (.int .i64 ((q * 48271 + 29) % 2147483647))).cell? ⟨g, 1, none⟩ = some (.int .i64 p) := by simp [go_sem, f1]
      have e2 : (w.setCell ⟨g, 2, none⟩ (.int .i64 ((q * 48271 + 29) % 2147483647))).cell? ⟨g, 2, none⟩ = some (.int .i64 ((q * 48271 + 29) % 2147483647)) := by simp [go_sem, f2]
      have ez : ∀ i, (w.setCell ⟨g, 2, none⟩ (.int .i64 ((q * 48271 + 29) % 2147483647))).frozen? ⟨g, i, none⟩ = false := fun i => by simp [go_sem, fz]
      have hg1 : w.grownBy (w.setCell ⟨g, 2, none⟩ (.int .i64 ((q * 48271 + 29) % 2147483647))) (some g) := grown_set (World.grownBy.refl _ _)
      generalize (q * 48271 + 29) % 2147483647 = q2 at *
      generalize w.setCell ⟨g, 2, none⟩ (.int .i64 q2) = w1 at *
      clear f0 f1 f2 fz hfz1 hfz2
      have hmod : 0 ≤ (q2 / 31) % n ∧ (q2 / 31) % n < n := ⟨Int.emod_nonneg _ (by omega), Int.emod_lt_of_pos _ (by omega)⟩
      have gfin : ∀ D : Nat, Src (w1.drewN D) B g ∧ w.grownBy (w1.drewN D) (some g) := by
        intro D
        have hgd : w.grownBy (w1.drewN D) (some g) := ⟨hg1.os, hg1.tape, hg1.output, hg1.size, hg1.block⟩
        exact ⟨src_of (p := p) (q := q2) hgd hBg hgl (by simp [go_sem, e0]) (by simp [go_sem, e1]) (by simp [go_sem, e2]) (fun i => by simp [go_sem, ez]) hp hq2 hL hc HR.out HX.out, hgd⟩
      go_quiet (fail)
      go_wp2
      go_ret
      exact ⟨(q2 / 31) % n, rfl, ⟨hmod.1, .inl hmod.2⟩, (gfin _).1, (gfin _).2⟩
def PickP (B g : Nat) (L : List Int) (w : World) (e : Ending) (w' : World) : Prop := ∃ r : Int, e = .returned (.int .i64 r) ∧ r ∈ L ∧ Src w' B g ∧ w.grownBy w' (some g)
set_option maxRecDepth 100000 in
set_option maxHeartbeats 2000000 in
theorem l01Pick_c (B g b off c : Nat) (L : List Int) (w : World) (hS : Src w B g) (hbg : b ≠ g) (hcell : ∀ (k : Nat) (h : k < L.length), w.cell? ⟨b, off + k, none⟩ = some (.int .i64 L[k])) (h1 : 1 ≤ L.length) (hL : L.length ≤ 1000) (hc : L.length ≤ c) :
    Calls Tryz.prog 73 #[.pointer (some ⟨g, 0, none⟩), .slice (some ⟨b, off, none⟩) L.length c] w (PickP B g L w) := by
  have HC := Lib.hid hcell
  have HS := Lib.hid hS
  clear hcell hS
  go_enter Tryz.func73, Tryz.ntmps73
  have hwl : IntKind.i64.wrap (L.length : Int) = (L.length : Int) := IntWalk.i64_in _ (by omega)
  go_wp2_with fail
  refine (l01Next_c B g (L.length : Int) w HS.out (by omega)).mono ?_
  rintro e w' ⟨r, rfl, ⟨hr0, hr1⟩, hS', hg'⟩
  have HS' := Lib.hid hS'
  have HG' := Lib.hid hg'
  clear hS' hg'
  obtain ⟨k, rfl⟩ := Int.eq_ofNat_of_zero_le hr0
  have hkL : k < L.length := by omega
  have hck : w'.cell? ⟨b, off + k, none⟩ = some (.int .i64 L[k]) := HG'.out.cell (HC.out k hkL) (show some b ≠ some g from fun h => by injection h with h; exact hbg h)
  have hmem : L[k] ∈ L := List.getElem_mem _
  generalize L[k] = x at *
  go_wp2
  go_ret
  exact ⟨x, rfl, hmem, HS'.out, HG'.out⟩
end Go.Proofs.YtiamignopfhkfaaGreatDoor
