/- Contracts of the draws of words: l01Good, l01DrawWord. -/
import Derived.Test.YtdohegpbdlcnjaaSrc2
namespace Go.Proofs.Ytdohegpbdlcnjaa
open Go.RowKit
set_option linter.unusedVariables false
theorem str_at {L : List ByteArray} {k : Nat} (hk : k < L.length) : ∃ p, ((L.map Value.string).toArray : Array Value)[k]? = some (.string p) ∧ p ∈ L :=
  ⟨L[k], by simp [hk], List.getElem_mem hk⟩
def goodWs : List ByteArray := [{ data := #[97, 100, 97] }, { data := #[98, 114, 117, 110, 111] }, { data := #[99, 108, 97, 114, 97] }, { data := #[100, 111, 114, 97] }, { data := #[101, 109, 105, 108] }, { data := #[102, 114, 105, 100, 97] }, { data := #[103, 117, 115, 116, 97, 118] }, { data := #[104, 97, 110, 110, 97] }, { data := #[105, 118, 97, 110] }, { data := #[106, 97, 110, 97] }, { data := #[107, 97, 114, 108] }, { data := #[108, 101, 110, 97] }]
def oddWs : List ByteArray := [{ data := #[] }, { data := #[65, 100, 97] }, { data := #[97, 49] }, { data := #[97, 98, 99, 100, 101, 102, 103, 104, 105, 106, 107, 108, 109, 110, 111, 112] }, { data := #[97, 98, 99, 100, 101, 102, 103, 104, 105, 106, 107, 108, 109, 110, 111, 112, 113] }, { data := #[97, 32, 98] }]
theorem goodWs_sz : ∀ p ∈ goodWs, p.size ≤ 100 := by decide
theorem oddWs_sz : ∀ p ∈ oddWs, p.size ≤ 100 := by decide
def WordP (B g : Nat) (w : World) (e : Ending) (w' : World) : Prop := ∃ p : ByteArray, e = .returned (.string p) ∧ p.size ≤ 100 ∧ Src w' B g ∧ w.grownBy w' (some g)
set_option maxRecDepth 100000 in
set_option maxHeartbeats 2000000 in
theorem l01Good_c (B g : Nat) (w : World) (hS : Src w B g) : Calls Try.prog 98 #[.pointer (some ⟨g, 0, none⟩)] w (WordP B g w) := by
  have hgB := hS.ge; have hgl := hS.lt
  have HQw := Lib.hid hS; have HGw := Lib.hid (World.grownBy.refl w (some g)); clear hS
  go_enter Try.func98, Try.ntmps98
  go_wp2_with fail
  generalize hW0 : w.alloc _ = W0
  have hbW0 : Below w.heap.size w W0 := by subst hW0; exact (Below.refl _ _).alloc (Nat.le_refl _) _
  have hsW0 : W0.heap.size = w.heap.size + 1 := by subst hW0; simp
  have cxW0_0 : ∀ i, W0.cell? ⟨w.heap.size, i, none⟩ = (#[.string { data := #[97, 100, 97] }, .string { data := #[98, 114, 117, 110, 111] }, .string { data := #[99, 108, 97, 114, 97] }, .string { data := #[100, 111, 114, 97] }, .string { data := #[101, 109, 105, 108] }, .string { data := #[102, 114, 105, 100, 97] }, .string { data := #[103, 117, 115, 116, 97, 118] }, .string { data := #[104, 97, 110, 110, 97] }, .string { data := #[105, 118, 97, 110] }, .string { data := #[106, 97, 110, 97] }, .string { data := #[107, 97, 114, 108] }, .string { data := #[108, 101, 110, 97] }] : Array Value)[i]? := by intro i; subst hW0; simp [go_sem]
  have fzW0_0 : ∀ i, W0.frozen? ⟨w.heap.size, i, none⟩ = false := by intro i; subst hW0; simp [go_sem]
  have HSW0 := Lib.hid hsW0; clear hW0 hsW0
  have HQW0 := Lib.hid (HQw.out.below hbW0); have HGW0 := Lib.hid (grown_trans' HGw.out (grown_of_below hbW0 _)); have hzW0 : W0.heap.size = w.heap.size + 1 := HSW0.out
  clear HSW0
  refine (l01Next_c B g 12 W0 HQW0.out (by omega)).mono ?_
  rintro e w1 ⟨k, rfl, ⟨hk0, hk1⟩, hqw1, hgw1⟩
  have HQw1 := Lib.hid hqw1; have HGw1 := Lib.hid (grown_trans' HGW0.out hgw1); have hzw1 := hgw1.size
  replace cxW0_0 := fun i => (hgw1.cell_far _ (by (try simp only); omega) (by simp; omega)).trans (cxW0_0 i)
  clear hqw1
  obtain ⟨k, rfl⟩ := Int.eq_ofNat_of_zero_le hk0
  have hk12 : k < 12 := by omega
  obtain ⟨p, hp, hpm⟩ := str_at (L := goodWs) (k := k) hk12
  have f : w1.cell? ⟨w.heap.size, k, none⟩ = some (.string p) := (cxW0_0 k).trans hp
  have HPM := Lib.hid hpm
  clear cxW0_0 hp hpm
  go_wp2
  go_ret
  exact ⟨p, rfl, goodWs_sz p HPM.out, HQw1.out, HGw1.out⟩
set_option maxRecDepth 100000 in
set_option maxHeartbeats 2000000 in
theorem l01DrawWord_c (B g : Nat) (w : World) (hS : Src w B g) : Calls Try.prog 75 #[.pointer (some ⟨g, 0, none⟩)] w (WordP B g w) := by
  have hgB := hS.ge; have hgl := hS.lt
  have HQw := Lib.hid hS; have HGw := Lib.hid (World.grownBy.refl w (some g)); clear hS
  go_enter Try.func75, Try.ntmps75
  go_wp2_with fail
  refine (l01Next_c B g 24 w HQw.out (by omega)).mono ?_
  rintro e w1 ⟨r, rfl, ⟨hr0, hr1⟩, hqw1, hgw1⟩
  have HQw1 := Lib.hid hqw1; have HGw1 := Lib.hid (grown_trans' HGw.out hgw1); have hzw1 := hgw1.size
  clear hqw1
  by_cases hr : r = 0
  · subst hr
    go_wp2_with fail
    generalize hW2 : w1.alloc _ = W2
    have hbW2 : Below w1.heap.size w1 W2 := by subst hW2; exact (Below.refl _ _).alloc (Nat.le_refl _) _
    have hsW2 : W2.heap.size = w1.heap.size + 1 := by subst hW2; simp
    have cxW2_0 : ∀ i, W2.cell? ⟨w1.heap.size, i, none⟩ = (#[.string { data := #[] }, .string { data := #[65, 100, 97] }, .string { data := #[97, 49] }, .string { data := #[97, 98, 99, 100, 101, 102, 103, 104, 105, 106, 107, 108, 109, 110, 111, 112] }, .string { data := #[97, 98, 99, 100, 101, 102, 103, 104, 105, 106, 107, 108, 109, 110, 111, 112, 113] }, .string { data := #[97, 32, 98] }] : Array Value)[i]? := by intro i; subst hW2; simp [go_sem]
    have fzW2_0 : ∀ i, W2.frozen? ⟨w1.heap.size, i, none⟩ = false := by intro i; subst hW2; simp [go_sem]
    have HSW2 := Lib.hid hsW2; clear hW2 hsW2
    have HQW2 := Lib.hid (HQw1.out.below hbW2); have HGW2 := Lib.hid (grown_trans' HGw1.out (grown_of_below hbW2 _)); have hzW2 : W2.heap.size = w1.heap.size + 1 := HSW2.out
    clear HSW2
    refine (l01Next_c B g 6 W2 HQW2.out (by omega)).mono ?_
    rintro e w3 ⟨k, rfl, ⟨hk0, hk1⟩, hqw3, hgw3⟩
    have HQw3 := Lib.hid hqw3; have HGw3 := Lib.hid (grown_trans' HGW2.out hgw3); have hzw3 := hgw3.size
    replace cxW2_0 := fun i => (hgw3.cell_far _ (by (try simp only); omega) (by simp; omega)).trans (cxW2_0 i)
    clear hqw3
    obtain ⟨k, rfl⟩ := Int.eq_ofNat_of_zero_le hk0
    have hk6 : k < 6 := by omega
    obtain ⟨p, hp, hpm⟩ := str_at (L := oddWs) (k := k) hk6
    have f : w3.cell? ⟨w1.heap.size, k, none⟩ = some (.string p) := (cxW2_0 k).trans hp
    have HPM := Lib.hid hpm
    clear cxW2_0 hp hpm
    go_wp2
    go_ret
    exact ⟨p, rfl, oddWs_sz p HPM.out, HQw3.out, HGw3.out⟩
  · go_wp2_with fail
    refine (l01Good_c B g w1 HQw1.out).mono ?_
    rintro e w2 ⟨p, rfl, hp, hq, hg⟩
    go_wp2
    go_ret
    exact ⟨p, rfl, hp, hq, grown_trans' HGw1.out hg⟩
end Go.Proofs.Ytdohegpbdlcnjaa
