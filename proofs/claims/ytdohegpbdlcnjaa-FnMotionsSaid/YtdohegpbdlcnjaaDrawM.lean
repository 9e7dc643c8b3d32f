/- Contracts of the draws of motions: l30Number. -/
import Derived.Test.YtdohegpbdlcnjaaSrc2
import Derived.Test.YtdohegpbdlcnjaaFrom
import Derived.Test.YtdohegpbdlcnjaaMotion
namespace Go.Proofs.Ytdohegpbdlcnjaa
open Go.RowKit
set_option linter.unusedVariables false
def NumP (B g : Nat) (w : World) (e : Ending) (w' : World) : Prop := ∃ x : Int, e = .returned (.int .i64 x) ∧ (Lit.int .i64 x).wf = true ∧ Src w' B g ∧ w.grownBy w' (some g)
theorem wf_small {x : Int} (h : 0 ≤ x ∧ x ≤ 1000000) : (Lit.int .i64 x).wf = true := by
  simp [Lit.wf, IntKind.min, IntKind.max, IntKind.bits, IntKind.signed]; omega
set_option maxRecDepth 100000 in
set_option maxHeartbeats 2000000 in
theorem l30Number_c (B g : Nat) (A : Option Addr) (c : Nat) (L : List MotionD) (w : World) (hS : Src w B g) (hr : Rd w w.heap.size A (L.length * 6) (L.flatMap motionC)) (hl : L.length ≤ 1000) (hc : L.length ≤ c) (hW : ∀ x ∈ L, MotionW x) (hne : ∀ b off, A = some ⟨b, off, none⟩ → b ≠ g) :
    Calls Try.prog 56 #[.pointer (some ⟨g, 0, none⟩), .slice A L.length c] w (NumP B g w) := by
  have hgB := hS.ge; have hgl := hS.lt
  have HQw := Lib.hid hS; have HGw := Lib.hid (World.grownBy.refl w (some g)); clear hS
  have HWW := Lib.hid hW; clear hW
  by_cases h0 : 0 < L.length
  · have h0i : (0 : Int) < (L.length : Int) := by omega
    go_enter Try.func56, Try.ntmps56
    go_wp2_with fail
    refine (l01Next_c B g 8 w HQw.out (by omega)).mono ?_
    rintro e w1 ⟨a, rfl, ⟨ha0, ha1⟩, hqw1, hgw1⟩
    have HQw1 := Lib.hid hqw1; have HGw1 := Lib.hid (grown_trans' HGw.out hgw1); have hzw1 := hgw1.size
    clear hqw1
    by_cases ha : 0 < a
    · go_wp2_with fail
      refine (l01Next_c B g (L.length : Int) w1 HQw1.out (by omega)).mono ?_
      rintro e w2 ⟨k, rfl, ⟨hk0, hk1⟩, hqw2, hgw2⟩
      have HQw2 := Lib.hid hqw2; have HGw2 := Lib.hid (grown_trans' HGw1.out hgw2); have hzw2 := hgw2.size
      clear hqw2
      obtain ⟨k, rfl⟩ := Int.eq_ofNat_of_zero_le hk0
      have hlt : k < L.length := by omega
      have hg2 := grown_trans' hgw1 hgw2
      obtain ⟨bf, offf, rfl, hbf, hcf⟩ := Rd.elem motionC 6 (fun _ => rfl) (hr) (by omega) hlt
      have f0 : w.cell? ⟨bf, offf + k * 6, none⟩ = some (.int .i64 L[k].number) := hcf k hlt 0 _ rfl
      have f1 : w.cell? ⟨bf, offf + k * 6 + 1, none⟩ = some (.string L[k].party) := hcf k hlt 1 _ rfl
      have f2 : w.cell? ⟨bf, offf + k * 6 + 2, none⟩ = some (.int .i64 L[k].filed) := hcf k hlt 2 _ rfl
      have f3 : w.cell? ⟨bf, offf + k * 6 + 3, none⟩ = some (.int .i64 L[k].changed) := hcf k hlt 3 _ rfl
      have f4 : w.cell? ⟨bf, offf + k * 6 + 4, none⟩ = some (.int .i64 L[k].state) := hcf k hlt 4 _ rfl
      have f5 : w.cell? ⟨bf, offf + k * 6 + 5, none⟩ = some (.int .i64 L[k].after) := hcf k hlt 5 _ rfl
      have hbg := hne bf offf rfl
      have e0 : w2.cell? ⟨bf, offf + k * 6, none⟩ = some (.int .i64 L[k].number) := hg2.cell f0 (show some bf ≠ some g from fun h => hbg (Option.some.inj h))
      have hwf := (HWW.out _ (List.getElem_mem hlt)).1
      clear hcf f0 f1 f2 f3 f4 f5
      generalize L[k].number = x at *
      have hkl : (k : Int) < (L.length : Int) := by omega
      go_wp2
      go_ret
      exact ⟨x, rfl, hwf, HQw2.out, HGw2.out⟩
    · go_wp2_with fail
      refine (l01Next_c B g 20 w1 HQw1.out (by omega)).mono ?_
      rintro e w2 ⟨k, rfl, ⟨hk0, hk1⟩, hqw2, hgw2⟩
      have HQw2 := Lib.hid hqw2; have HGw2 := Lib.hid (grown_trans' HGw1.out hgw2); have hzw2 := hgw2.size
      clear hqw2
      go_wp2
      go_ret
      exact ⟨k, rfl, wf_small (by omega), HQw2.out, HGw2.out⟩
  · have h0i : ¬ (0 : Int) < (L.length : Int) := by omega
    go_enter Try.func56, Try.ntmps56
    go_wp2_with fail
    refine (l01Next_c B g 20 w HQw.out (by omega)).mono ?_
    rintro e w2 ⟨k, rfl, ⟨hk0, hk1⟩, hqw2, hgw2⟩
    have HQw2 := Lib.hid hqw2; have HGw2 := Lib.hid (grown_trans' HGw.out hgw2); have hzw2 := hgw2.size
    clear hqw2
    go_wp2
    go_ret
    exact ⟨k, rfl, wf_small (by omega), HQw2.out, HGw2.out⟩
end Go.Proofs.Ytdohegpbdlcnjaa
