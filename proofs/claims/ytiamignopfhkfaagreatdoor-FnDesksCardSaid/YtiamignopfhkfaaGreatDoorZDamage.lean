/- Contract of the draw of damage: l01Damage. -/
import Derived.Test.YtiamignopfhkfaaGreatDoorZSrc2
import Derived.Deep.RegionLaw
namespace Go.Proofs.YtiamignopfhkfaaGreatDoor
open Go.RowKit
set_option linter.unusedVariables false
theorem str_at1 {L : List ByteArray} {k : Nat} (hk : k < L.length) : ∃ p, ((L.map Value.string).toArray : Array Value)[k]? = some (.string p) ∧ p ∈ L :=
  ⟨L[k], by simp [hk], List.getElem_mem hk⟩
def hurtWs : List ByteArray := [{ data := #[48] }, { data := #[35] }, { data := #[46] }, { data := #[47] }, { data := #[32] }, { data := #[97] }, { data := #[45] }, { data := #[10] }]
theorem hurtWs_sz : ∀ p ∈ hurtWs, p.size ≤ 1 := by decide
theorem hurt_at (k : Nat) (hk : k < 8) : ∃ p : ByteArray, (#[.string { data := #[48] }, .string { data := #[35] }, .string { data := #[46] }, .string { data := #[47] }, .string { data := #[32] }, .string { data := #[97] }, .string { data := #[45] }, .string { data := #[10] }] : Array Value)[k]? = some (.string p) ∧ p.size ≤ 1 := by
  obtain ⟨p, h1, h2⟩ := str_at1 (L := hurtWs) (k := k) hk
  exact ⟨p, h1, hurtWs_sz p h2⟩
theorem far_cellsD {w w' : World} {g : Nat} (h : w.grownBy w' (some g)) : ∀ (b i : Nat), b < w.heap.size → b ≠ g → w'.cell? ⟨b, i, none⟩ = w.cell? ⟨b, i, none⟩ :=
  fun b i h1 h2 => h.cell_far ⟨b, i, none⟩ h1 (fun e => h2 (Option.some.inj e))
def DamP (B g : Nat) (t : ByteArray) (w : World) (e : Ending) (w' : World) : Prop := ∃ t' : ByteArray, e = .returned (.string t') ∧ t'.size ≤ t.size + 1 ∧ Src w' B g ∧ w.grownBy w' (some g)
set_option maxRecDepth 100000 in
set_option maxHeartbeats 4000000 in
theorem l01Damage_c (B g : Nat) (t : ByteArray) (w : World) (hS : Src w B g) (ht : t.size ≤ 1000000) : Calls Tryz.prog 38 #[.pointer (some ⟨g, 0, none⟩), .string t] w (DamP B g t w) := by
  have hgB := hS.ge; have hgl := hS.lt
  have HQw := Lib.hid hS; have HGw := Lib.hid (World.grownBy.refl w (some g)); clear hS
  go_enter Tryz.func38, Tryz.ntmps38
  go_wp2_with fail
  refine (l01Next_c B g ((t.size : Int) + 1) w HQw.out (by omega)).mono ?_
  rintro e w1 ⟨k, rfl, ⟨hk0, hk1⟩, hqw1, hgw1⟩
  have HQw1 := Lib.hid hqw1; have HGw1 := Lib.hid (grown_trans' HGw.out hgw1); have hzw1 := hgw1.size
  clear hqw1
  obtain ⟨k, rfl⟩ := Int.eq_ofNat_of_zero_le hk0
  have hkt : k ≤ t.size := by omega
  have hki : (k : Int) ≤ (t.size : Int) := by omega
  go_wp2_with fail
  refine (l01Next_c B g (8) w1 HQw1.out (by omega)).mono ?_
  rintro e w2 ⟨r, rfl, ⟨hr0, hr1⟩, hqw2, hgw2⟩
  have HQw2 := Lib.hid hqw2; have HGw2 := Lib.hid (grown_trans' HGw1.out hgw2); have hzw2 := hgw2.size
  clear hqw2
  by_cases h0 : r = 0
  · subst h0
    go_wp2
    go_ret
    exact ⟨_, rfl, by simp only [ByteArray.size_extract]; omega, HQw2.out, HGw2.out⟩
  by_cases h1 : r = 1
  · subst h1
    go_wp2_with fail
    have hgn : w2.heap.size ≠ g := by omega
    have HS0 : Hid (Src w2.drew B g ∧ w2.grownBy w2.drew (some g)) := ⟨HQw2.out, ⟨rfl, rfl, rfl, Nat.le_refl _, fun _ _ _ => rfl⟩⟩
    have KAL : Hid (∀ (W1 : World) (o : Obj), (Src W1 B g ∧ w2.grownBy W1 (some g)) → (Src (W1.alloc o) B g ∧ w2.grownBy (W1.alloc o) (some g))) := fun W1 o h => ⟨h.1.below ((Below.refl _ _).alloc (Nat.le_refl _) _), grown_trans' h.2 (grown_of_below ((Below.refl _ _).alloc (Nat.le_refl _) _) _)⟩
    have KNX : Hid (∀ (W1 W3 : World), W1.grownBy W3 (some g) → Src W3 B g → Src W1 B g → w2.grownBy W1 (some g) → (Src W3 B g ∧ w2.grownBy W3 (some g))) := fun W1 W3 hg hq _ h2 => ⟨hq, grown_trans' h2 hg⟩
    rw [show Op.load 9 (Operand.tmp 26) = id (Op.load 9 (Operand.tmp 26)) from rfl]
    rw [show Op.binOp BinOp.add 9 (Operand.tmp 22) (Operand.tmp 27) 9 = id (Op.binOp BinOp.add 9 (Operand.tmp 22) (Operand.tmp 27) 9) from rfl]
    rw [show Op.binOp BinOp.add 9 (Operand.tmp 28) (Operand.tmp 31) 9 = id (Op.binOp BinOp.add 9 (Operand.tmp 28) (Operand.tmp 31) 9) from rfl]
    go_region_held3 (fun W1 => Src W1 B g ∧ w2.grownBy W1 (some g))
      (first | exact HS0.out | exact KAL.out _ _ (by assumption) | exact KNX.out _ _ (by assumption) (by assumption) (by assumption) (by assumption) | assumption)
      ((first
        | (go_at_call 37; go_split_ands; refine Calls.mono (l01Next_c B g _ _ ?_ ?_) ?_; (any_goals (first | assumption | omega)); rintro e w6 ⟨q, rfl, ⟨hq0, hq1⟩, hq6, hg6⟩; obtain ⟨q, rfl⟩ := Int.eq_ofNat_of_zero_le hq0; have hqb : (q : Int) < 8 := (by omega); have hqn : (0 : Int) ≤ (q : Int) := (by omega); obtain ⟨p, hp, hps⟩ := hurt_at q (by omega); have hgn6 : w6.heap.size ≠ g := (by have := hq6.lt; omega); have cN6 := far_cellsD hg6; have hzg6 := hg6.size; (try (have hle6 : w2.heap.size ≤ w6.heap.size := (by have h := hg6.size; simp at h; omega))); (try (have hlt6 : w2.heap.size < w6.heap.size := (by have h := hg6.size; simp at h; omega))))))
    all_goals
      rename_i hh
      have HSS := Lib.hid hh; clear hh
      go_wp2
      go_ret
      exact ⟨_, rfl, by simp only [ByteArray.size_append, ByteArray.size_extract]; omega, HSS.out.1, grown_trans' HGw2.out HSS.out.2⟩
  by_cases h2 : r = 2
  · subst h2
    by_cases hlt : k < t.size
    · have hltI : (k : Int) < (t.size : Int) := by omega
      have hwk : IntKind.i64.wrap ((k : Int) + 1) = ((k + 1 : Nat) : Int) := by rw [IntWalk.i64_in _ (by omega)]; omega
      have hk1 : ((k + 1 : Nat) : Int) ≤ (t.size : Int) := by omega
      have hk10 : (0 : Int) ≤ ((k + 1 : Nat) : Int) := by omega
      generalize hm : k + 1 = m at *
      go_wp2_with fail
      refine wp_region_bel mixed (by kernel_rfl) ?_
      repeat (any_goals (first | go_big_quiet_step ((fail)) | quiet_step ((fail)) | (refine wpQuiet_step (fun K hK => ?_); go_simp; (split <;> first | (refine hK _ ?_; clear hK K) | (apply Exists.intro; refine ⟨fun _ => ?_, hK _ ?_⟩; ((fail)); clear hK K)))))
      all_goals (refine wpQuiet_nil ?_; intro w1 hw1)
      all_goals
        go_wp2
        go_ret
        exact ⟨_, rfl, by simp only [ByteArray.size_append, ByteArray.size_extract]; omega, HQw2.out.below hw1, grown_trans' HGw2.out (grown_of_below hw1 _)⟩
    · have hltI : ¬ (k : Int) < (t.size : Int) := by omega
      go_wp2
      go_ret
      exact ⟨t, rfl, by omega, HQw2.out, HGw2.out⟩
  have h3 : 3 ≤ r := by omega
  go_wp2
  go_ret
  exact ⟨t, rfl, by omega, HQw2.out, HGw2.out⟩
end Go.Proofs.YtiamignopfhkfaaGreatDoor
