/- Contract of the draw of a command: l34Command. -/
import Derived.Test.YtiamignopfhkfaaGreatDoorZSrc2
import Derived.Test.YtiamignopfhkfaaGreatDoorZExecS1
import Derived.Deep.RegionLaw
namespace Go.Proofs.YtiamignopfhkfaaGreatDoor
open Go.RowKit
set_option linter.unusedVariables false
def TxtP (n : Nat) (B g : Nat) (w : World) (e : Ending) (w' : World) : Prop := ∃ t : ByteArray, e = .returned (.string t) ∧ t.size ≤ n ∧ Src w' B g ∧ w.grownBy w' (some g)
theorem decS (n : Int) (w : World) (h : 0 ≤ n ∧ n ≤ 1000000000000000) : Calls Tryz.prog 66 #[.int .i64 n] w fun e w' => ∃ t : ByteArray, e = .returned (.string t) ∧ t.size ≤ 21 ∧ Below w.heap.size w w' :=
  (decN h w).mono fun e w' ⟨h1, h2⟩ => ⟨decI n, h1, decI_len n (by omega) (by omega), h2⟩
theorem far_cellsC {w w' : World} {g : Nat} (h : w.grownBy w' (some g)) : ∀ (b i : Nat), b < w.heap.size → b ≠ g → w'.cell? ⟨b, i, none⟩ = w.cell? ⟨b, i, none⟩ :=
  fun b i h1 h2 => h.cell_far ⟨b, i, none⟩ h1 (fun e => h2 (Option.some.inj e))
theorem bel_cellsC {w w' : World} (h : Below w.heap.size w w') : ∀ (b i : Nat), b < w.heap.size → w'.cell? ⟨b, i, none⟩ = w.cell? ⟨b, i, none⟩ := fun b i h1 => h.cell (p := ⟨b, i, none⟩) h1
theorem two_dues (k : Nat) (hk : k < 2) : ∃ p : ByteArray, (#[.string { data := #[100, 117, 101, 32] }, .string { data := #[112, 108, 117, 115, 32] }] : Array Value)[k]? = some (.string p) ∧ p.size ≤ 5 := by
  match k, hk with
  | 0, _ => exact ⟨_, rfl, by decide⟩
  | 1, _ => exact ⟨_, rfl, by decide⟩
theorem two_cmds (k : Nat) (hk : k < 2) : ∃ p : ByteArray, (#[.string { data := #[100, 114, 97, 119, 32, 55, 55, 32, 57, 32, 52] }, .string { data := #[111, 112, 101, 110] }] : Array Value)[k]? = some (.string p) ∧ p.size ≤ 11 := by
  match k, hk with
  | 0, _ => exact ⟨_, rfl, by decide⟩
  | 1, _ => exact ⟨_, rfl, by decide⟩
set_option maxRecDepth 100000 in
set_option maxHeartbeats 8000000 in
theorem l34Command_c (B g : Nat) (w : World) (hS : Src w B g) : Calls Tryz.prog 36 #[.pointer (some ⟨g, 0, none⟩)] w (TxtP 130 B g w) := by
  have hgB := hS.ge; have hgl := hS.lt
  have HQw := Lib.hid hS; have HGw := Lib.hid (World.grownBy.refl w (some g)); clear hS
  go_enter Tryz.func36, Tryz.ntmps36
  go_wp2_with fail
  refine (l01Next_c B g (30) w HQw.out (by omega)).mono ?_
  rintro e w1 ⟨a, rfl, ⟨ha0, ha1⟩, hqw1, hgw1⟩
  have HQw1 := Lib.hid hqw1; have HGw1 := Lib.hid (grown_trans' HGw.out hgw1); have hzw1 := hgw1.size
  clear hqw1
  go_wp2_with fail
  refine (l01Next_c B g (5) w1 HQw1.out (by omega)).mono ?_
  rintro e w2 ⟨b, rfl, ⟨hb0, hb1⟩, hqw2, hgw2⟩
  have HQw2 := Lib.hid hqw2; have HGw2 := Lib.hid (grown_trans' HGw1.out hgw2); have hzw2 := hgw2.size
  clear hqw2
  go_wp2_with fail
  refine (decS (1 + b) w2 ⟨by omega, by omega⟩).mono ?_
  rintro e w3 ⟨t1, rfl, hzt1, hbw3⟩
  have HQw3 := Lib.hid (HQw2.out.below hbw3); have HGw3 := Lib.hid (grown_trans' HGw2.out (grown_of_below hbw3 _)); have hzw3 := hbw3.size
  clear hbw3
  go_wp2_with fail
  refine (decS (100 + a) w3 ⟨by omega, by omega⟩).mono ?_
  rintro e w4 ⟨t2, rfl, hzt2, hbw4⟩
  have HQw4 := Lib.hid (HQw3.out.below hbw4); have HGw4 := Lib.hid (grown_trans' HGw3.out (grown_of_below hbw4 _)); have hzw4 := hbw4.size
  clear hbw4
  have hpz : (t1 ++ ({ data := #[32] } : ByteArray) ++ t2).size ≤ 43 := by rw [ByteArray.size_append, ByteArray.size_append]; have : ({ data := #[32] } : ByteArray).size = 1 := rfl; omega
  go_wp2_with fail
  refine (l01Next_c B g (13) w4 HQw4.out (by omega)).mono ?_
  rintro e w5 ⟨k, rfl, ⟨hk0, hk1⟩, hqw5, hgw5⟩
  have HQw5 := Lib.hid hqw5; have HGw5 := Lib.hid (grown_trans' HGw4.out hgw5); have hzw5 := hgw5.size
  clear hqw5
  by_cases k0 : k = 0
  · subst k0
    go_wp2_with fail
    refine (decS (100 + a) w5 ⟨by omega, by omega⟩).mono ?_
    rintro e w7 ⟨t3, rfl, hzt3, hbw7⟩
    have HQw7 := Lib.hid (HQw5.out.below hbw7); have HGw7 := Lib.hid (grown_trans' HGw5.out (grown_of_below hbw7 _)); have hzw7 := hbw7.size
    clear hbw7
    go_wp2
    go_ret
    exact ⟨_, rfl, by simp only [ByteArray.size_append]; simp only [ByteArray.size, List.size_toArray, List.length_cons, List.length_nil] at *; omega, HQw7.out, HGw7.out⟩
  by_cases k1 : k = 1
  · subst k1
    go_wp2_with fail
    have hgl5 := HQw5.out.lt
    have hgn : w5.heap.size ≠ g := by omega
    have HS0 : Hid (Src w5.drew B g ∧ w5.grownBy w5.drew (some g)) := ⟨HQw5.out, ⟨rfl, rfl, rfl, Nat.le_refl _, fun _ _ _ => rfl⟩⟩
    have KAL : Hid (∀ (W1 : World) (o : Obj), (Src W1 B g ∧ w5.grownBy W1 (some g)) → (Src (W1.alloc o) B g ∧ w5.grownBy (W1.alloc o) (some g))) := fun W1 o h => ⟨h.1.below ((Below.refl _ _).alloc (Nat.le_refl _) _), grown_trans' h.2 (grown_of_below ((Below.refl _ _).alloc (Nat.le_refl _) _) _)⟩
    have KNX : Hid (∀ (W1 W3 : World), W1.grownBy W3 (some g) → Src W3 B g → Src W1 B g → w5.grownBy W1 (some g) → (Src W3 B g ∧ w5.grownBy W3 (some g))) := fun W1 W3 hg hq _ h2 => ⟨hq, grown_trans' h2 hg⟩
    have KBL : Hid (∀ (W1 W3 : World), Below W1.heap.size W1 W3 → Src W1 B g → w5.grownBy W1 (some g) → (Src W3 B g ∧ w5.grownBy W3 (some g))) := fun W1 W3 hb h1 h2 => ⟨h1.below hb, grown_trans' h2 (grown_of_below hb _)⟩
    rw [show Op.load 9 (Operand.tmp 30) = id (Op.load 9 (Operand.tmp 30)) from rfl]
    rw [show Op.binOp BinOp.add 9 (Operand.tmp 31) (Operand.tmp 33) 9 = id (Op.binOp BinOp.add 9 (Operand.tmp 31) (Operand.tmp 33) 9) from rfl]
    rw [show Op.binOp BinOp.add 9 (Operand.tmp 34) (Operand.const (Value.string { data := #[32] })) 9 = id (Op.binOp BinOp.add 9 (Operand.tmp 34) (Operand.const (Value.string { data := #[32] })) 9) from rfl]
    rw [show Op.binOp BinOp.add 9 (Operand.tmp 35) (Operand.tmp 38) 9 = id (Op.binOp BinOp.add 9 (Operand.tmp 35) (Operand.tmp 38) 9) from rfl]
    go_region_held3 (fun W1 => Src W1 B g ∧ w5.grownBy W1 (some g))
      (first | exact HS0.out | exact KAL.out _ _ (by assumption) | exact KNX.out _ _ (by assumption) (by assumption) (by assumption) (by assumption) | exact KBL.out _ _ (by assumption) (by assumption) (by assumption) | assumption)
      ((first
        | (go_at_call 66; have tag8 := cw8; go_split_ands; refine Calls.mono (decS _ _ ?_) ?_; (any_goals (first | assumption | (constructor <;> omega))); rintro e w9 ⟨t9, rfl, hzw9, hbw9⟩; have cw9 := bel_cellsC hbw9; have sw9 := hbw9.size; (try simp at sw9); have gnw9 : w9.heap.size ≠ g := (by omega); (try (have lw5w9 : w5.heap.size < w9.heap.size := (by omega))); (try (have lw6w9 : w6.heap.size < w9.heap.size := (by omega))); (try (have lw7w9 : w7.heap.size < w9.heap.size := (by omega))); (try (have lw8w9 : w8.heap.size < w9.heap.size := (by omega))); skip)
        | (go_at_call 37; have tag7 := cw7; go_split_ands; refine Calls.mono (l01Next_c B g _ _ ?_ ?_) ?_; (any_goals (first | assumption | omega)); rintro e w8 ⟨qb, rfl, ⟨hqb0, hqb1⟩, hsw8, hgw8⟩; obtain ⟨qb, rfl⟩ := Int.eq_ofNat_of_zero_le hqb0; have hqbb : (qb : Int) < 20 := (by omega); have hqbn : (0 : Int) ≤ (qb : Int) := (by omega); have gnw8 : w8.heap.size ≠ g := (by have := hsw8.lt; omega); have cw8 := far_cellsC hgw8; have sw8 := hgw8.size; (try simp at sw8); (try (have lw5w8 : w5.heap.size < w8.heap.size := (by omega))); (try (have lw6w8 : w6.heap.size < w8.heap.size := (by omega))); (try (have lw7w8 : w7.heap.size < w8.heap.size := (by omega))); skip)
        | (go_at_call 66; go_split_ands; refine Calls.mono (decS _ _ ?_) ?_; (any_goals (first | assumption | (constructor <;> omega))); rintro e w7 ⟨t7, rfl, hzw7, hbw7⟩; have cw7 := bel_cellsC hbw7; have sw7 := hbw7.size; (try simp at sw7); have gnw7 : w7.heap.size ≠ g := (by omega); (try (have lw5w7 : w5.heap.size < w7.heap.size := (by omega))); (try (have lw6w7 : w6.heap.size < w7.heap.size := (by omega))); skip)
        | (go_at_call 37; go_split_ands; refine Calls.mono (l01Next_c B g _ _ ?_ ?_) ?_; (any_goals (first | assumption | omega)); rintro e w6 ⟨qa, rfl, ⟨hqa0, hqa1⟩, hsw6, hgw6⟩; obtain ⟨qa, rfl⟩ := Int.eq_ofNat_of_zero_le hqa0; have hqab : (qa : Int) < 2 := (by omega); have hqan : (0 : Int) ≤ (qa : Int) := (by omega); have gnw6 : w6.heap.size ≠ g := (by have := hsw6.lt; omega); have cw6 := far_cellsC hgw6; have sw6 := hgw6.size; (try simp at sw6); (try (have lw5w6 : w5.heap.size < w6.heap.size := (by omega))); obtain ⟨p, hp, hps⟩ := two_dues qa (by omega))))
    all_goals
      rename_i hh
      have HSS := Lib.hid hh; clear hh
      go_wp2
      go_ret
      exact ⟨_, rfl, by simp only [ByteArray.size_append]; simp only [ByteArray.size, List.size_toArray, List.length_cons, List.length_nil] at *; omega, HSS.out.1, grown_trans' HGw5.out HSS.out.2⟩
  by_cases k2 : k = 2
  · subst k2
    go_wp2
    go_ret
    exact ⟨_, rfl, by simp only [ByteArray.size_append]; simp only [ByteArray.size, List.size_toArray, List.length_cons, List.length_nil] at *; omega, HQw5.out, HGw5.out⟩
  by_cases k3 : k = 3
  · subst k3
    go_wp2
    go_ret
    exact ⟨_, rfl, by simp only [ByteArray.size_append]; simp only [ByteArray.size, List.size_toArray, List.length_cons, List.length_nil] at *; omega, HQw5.out, HGw5.out⟩
  by_cases k4 : k = 4
  · subst k4
    go_wp2_with fail
    refine (decS (1 + b) w5 ⟨by omega, by omega⟩).mono ?_
    rintro e w7 ⟨t3, rfl, hzt3, hbw7⟩
    have HQw7 := Lib.hid (HQw5.out.below hbw7); have HGw7 := Lib.hid (grown_trans' HGw5.out (grown_of_below hbw7 _)); have hzw7 := hbw7.size
    clear hbw7
    go_wp2_with fail
    refine (l01Next_c B g (60) w7 HQw7.out (by omega)).mono ?_
    rintro e w8 ⟨c, rfl, ⟨hc0, hc1⟩, hqw8, hgw8⟩
    have HQw8 := Lib.hid hqw8; have HGw8 := Lib.hid (grown_trans' HGw7.out hgw8); have hzw8 := hgw8.size
    clear hqw8
    go_wp2_with fail
    refine (decS (100 + a + c) w8 ⟨by omega, by omega⟩).mono ?_
    rintro e w9 ⟨t4, rfl, hzt4, hbw9⟩
    have HQw9 := Lib.hid (HQw8.out.below hbw9); have HGw9 := Lib.hid (grown_trans' HGw8.out (grown_of_below hbw9 _)); have hzw9 := hbw9.size
    clear hbw9
    go_wp2
    go_ret
    exact ⟨_, rfl, by simp only [ByteArray.size_append]; simp only [ByteArray.size, List.size_toArray, List.length_cons, List.length_nil] at *; omega, HQw9.out, HGw9.out⟩
  by_cases k5 : k = 5
  · subst k5
    go_wp2_with fail
    refine (decS (1 + b) w5 ⟨by omega, by omega⟩).mono ?_
    rintro e w7 ⟨t3, rfl, hzt3, hbw7⟩
    have HQw7 := Lib.hid (HQw5.out.below hbw7); have HGw7 := Lib.hid (grown_trans' HGw5.out (grown_of_below hbw7 _)); have hzw7 := hbw7.size
    clear hbw7
    go_wp2_with fail
    refine (l01Next_c B g (3) w7 HQw7.out (by omega)).mono ?_
    rintro e w8 ⟨c, rfl, ⟨hc0, hc1⟩, hqw8, hgw8⟩
    have HQw8 := Lib.hid hqw8; have HGw8 := Lib.hid (grown_trans' HGw7.out hgw8); have hzw8 := hgw8.size
    clear hqw8
    go_wp2_with fail
    refine (decS (1 + c) w8 ⟨by omega, by omega⟩).mono ?_
    rintro e w9 ⟨t4, rfl, hzt4, hbw9⟩
    have HQw9 := Lib.hid (HQw8.out.below hbw9); have HGw9 := Lib.hid (grown_trans' HGw8.out (grown_of_below hbw9 _)); have hzw9 := hbw9.size
    clear hbw9
    go_wp2
    go_ret
    exact ⟨_, rfl, by simp only [ByteArray.size_append]; simp only [ByteArray.size, List.size_toArray, List.length_cons, List.length_nil] at *; omega, HQw9.out, HGw9.out⟩
  by_cases k6 : k = 6
  · subst k6
    go_wp2_with fail
    refine (decS (100 + a) w5 ⟨by omega, by omega⟩).mono ?_
    rintro e w7 ⟨t3, rfl, hzt3, hbw7⟩
    have HQw7 := Lib.hid (HQw5.out.below hbw7); have HGw7 := Lib.hid (grown_trans' HGw5.out (grown_of_below hbw7 _)); have hzw7 := hbw7.size
    clear hbw7
    go_wp2
    go_ret
    exact ⟨_, rfl, by simp only [ByteArray.size_append]; simp only [ByteArray.size, List.size_toArray, List.length_cons, List.length_nil] at *; omega, HQw7.out, HGw7.out⟩
  by_cases k7 : k = 7
  · subst k7
    go_wp2_with fail
    refine (decS (100 + a) w5 ⟨by omega, by omega⟩).mono ?_
    rintro e w7 ⟨t3, rfl, hzt3, hbw7⟩
    have HQw7 := Lib.hid (HQw5.out.below hbw7); have HGw7 := Lib.hid (grown_trans' HGw5.out (grown_of_below hbw7 _)); have hzw7 := hbw7.size
    clear hbw7
    go_wp2_with fail
    refine (l01Next_c B g (3) w7 HQw7.out (by omega)).mono ?_
    rintro e w8 ⟨c, rfl, ⟨hc0, hc1⟩, hqw8, hgw8⟩
    have HQw8 := Lib.hid hqw8; have HGw8 := Lib.hid (grown_trans' HGw7.out hgw8); have hzw8 := hgw8.size
    clear hqw8
    go_wp2_with fail
    refine (decS (c) w8 ⟨by omega, by omega⟩).mono ?_
    rintro e w9 ⟨t4, rfl, hzt4, hbw9⟩
    have HQw9 := Lib.hid (HQw8.out.below hbw9); have HGw9 := Lib.hid (grown_trans' HGw8.out (grown_of_below hbw9 _)); have hzw9 := hbw9.size
    clear hbw9
    go_wp2
    go_ret
    exact ⟨_, rfl, by simp only [ByteArray.size_append]; simp only [ByteArray.size, List.size_toArray, List.length_cons, List.length_nil] at *; omega, HQw9.out, HGw9.out⟩
  by_cases k8 : k = 8
  · subst k8
    go_wp2_with fail
    refine (decS (100 + a) w5 ⟨by omega, by omega⟩).mono ?_
    rintro e w7 ⟨t3, rfl, hzt3, hbw7⟩
    have HQw7 := Lib.hid (HQw5.out.below hbw7); have HGw7 := Lib.hid (grown_trans' HGw5.out (grown_of_below hbw7 _)); have hzw7 := hbw7.size
    clear hbw7
    go_wp2_with fail
    refine (l01Next_c B g (3) w7 HQw7.out (by omega)).mono ?_
    rintro e w8 ⟨c, rfl, ⟨hc0, hc1⟩, hqw8, hgw8⟩
    have HQw8 := Lib.hid hqw8; have HGw8 := Lib.hid (grown_trans' HGw7.out hgw8); have hzw8 := hgw8.size
    clear hqw8
    go_wp2_with fail
    refine (decS (c) w8 ⟨by omega, by omega⟩).mono ?_
    rintro e w9 ⟨t4, rfl, hzt4, hbw9⟩
    have HQw9 := Lib.hid (HQw8.out.below hbw9); have HGw9 := Lib.hid (grown_trans' HGw8.out (grown_of_below hbw9 _)); have hzw9 := hbw9.size
    clear hbw9
    go_wp2
    go_ret
    exact ⟨_, rfl, by simp only [ByteArray.size_append]; simp only [ByteArray.size, List.size_toArray, List.length_cons, List.length_nil] at *; omega, HQw9.out, HGw9.out⟩
  by_cases k9 : k = 9
  · subst k9
    go_wp2_with fail
    refine (decS (1 + b) w5 ⟨by omega, by omega⟩).mono ?_
    rintro e w7 ⟨t3, rfl, hzt3, hbw7⟩
    have HQw7 := Lib.hid (HQw5.out.below hbw7); have HGw7 := Lib.hid (grown_trans' HGw5.out (grown_of_below hbw7 _)); have hzw7 := hbw7.size
    clear hbw7
    go_wp2_with fail
    refine (l01Next_c B g (5) w7 HQw7.out (by omega)).mono ?_
    rintro e w8 ⟨c, rfl, ⟨hc0, hc1⟩, hqw8, hgw8⟩
    have HQw8 := Lib.hid hqw8; have HGw8 := Lib.hid (grown_trans' HGw7.out hgw8); have hzw8 := hgw8.size
    clear hqw8
    go_wp2_with fail
    refine (decS (1 + c) w8 ⟨by omega, by omega⟩).mono ?_
    rintro e w9 ⟨t4, rfl, hzt4, hbw9⟩
    have HQw9 := Lib.hid (HQw8.out.below hbw9); have HGw9 := Lib.hid (grown_trans' HGw8.out (grown_of_below hbw9 _)); have hzw9 := hbw9.size
    clear hbw9
    go_wp2_with fail
    refine (l01Next_c B g (30) w9 HQw9.out (by omega)).mono ?_
    rintro e w10 ⟨f, rfl, ⟨hf0, hf1⟩, hqw10, hgw10⟩
    have HQw10 := Lib.hid hqw10; have HGw10 := Lib.hid (grown_trans' HGw9.out hgw10); have hzw10 := hgw10.size
    clear hqw10
    go_wp2_with fail
    refine (decS (100 + a + f) w10 ⟨by omega, by omega⟩).mono ?_
    rintro e w11 ⟨t5, rfl, hzt5, hbw11⟩
    have HQw11 := Lib.hid (HQw10.out.below hbw11); have HGw11 := Lib.hid (grown_trans' HGw10.out (grown_of_below hbw11 _)); have hzw11 := hbw11.size
    clear hbw11
    go_wp2
    go_ret
    exact ⟨_, rfl, by simp only [ByteArray.size_append]; simp only [ByteArray.size, List.size_toArray, List.length_cons, List.length_nil] at *; omega, HQw11.out, HGw11.out⟩
  by_cases k10 : k = 10
  · subst k10
    go_wp2
    go_ret
    exact ⟨_, rfl, by simp only [ByteArray.size_append]; simp only [ByteArray.size, List.size_toArray, List.length_cons, List.length_nil] at *; omega, HQw5.out, HGw5.out⟩
  by_cases k11 : k = 11
  · subst k11
    go_wp2_with fail
    generalize hW6 : w5.alloc _ = W6
    have hbW6 : Below w5.heap.size w5 W6 := by subst hW6; exact (Below.refl _ _).alloc (Nat.le_refl _) _
    have hsW6 : W6.heap.size = w5.heap.size + 1 := by subst hW6; simp
    have cxW6_0 : ∀ i, W6.cell? ⟨w5.heap.size, i, none⟩ = (#[.string { data := #[100, 114, 97, 119, 32, 55, 55, 32, 57, 32, 52] }, .string { data := #[111, 112, 101, 110] }] : Array Value)[i]? := by intro i; subst hW6; simp [go_sem]
    have fzW6_0 : ∀ i, W6.frozen? ⟨w5.heap.size, i, none⟩ = false := by intro i; subst hW6; simp [go_sem]
    have HSW6 := Lib.hid hsW6; clear hW6 hsW6
    have HQW6 := Lib.hid (HQw5.out.below hbW6); have HGW6 := Lib.hid (grown_trans' HGw5.out (grown_of_below hbW6 _)); have hzW6 : W6.heap.size = w5.heap.size + 1 := HSW6.out
    clear HSW6
    refine (l01Next_c B g (2) W6 HQW6.out (by omega)).mono ?_
    rintro e w7 ⟨c, rfl, ⟨hc0, hc1⟩, hqw7, hgw7⟩
    have HQw7 := Lib.hid hqw7; have HGw7 := Lib.hid (grown_trans' HGW6.out hgw7); have hzw7 := hgw7.size
    replace cxW6_0 := fun i => (hgw7.cell_far _ (by (try simp only); omega) (by simp; omega)).trans (cxW6_0 i)
    clear hqw7
    obtain ⟨c, rfl⟩ := Int.eq_ofNat_of_zero_le hc0
    have hc2 : c < 2 := by omega
    obtain ⟨p, hp, hpm⟩ := two_cmds c hc2
    have f : w7.cell? ⟨w5.heap.size, c, none⟩ = some (.string p) := (cxW6_0 c).trans hp
    clear cxW6_0 hp
    go_wp2
    go_ret
    exact ⟨p, rfl, by omega, HQw7.out, HGw7.out⟩
  have k12 : 12 ≤ k := by omega
  go_wp2_with fail
  refine (l01Next_c B g (10) w5 HQw5.out (by omega)).mono ?_
  rintro e w7 ⟨c, rfl, ⟨hc0, hc1⟩, hqw7, hgw7⟩
  have HQw7 := Lib.hid hqw7; have HGw7 := Lib.hid (grown_trans' HGw5.out hgw7); have hzw7 := hgw7.size
  clear hqw7
  go_wp2_with fail
  refine (decS (c) w7 ⟨by omega, by omega⟩).mono ?_
  rintro e w8 ⟨t3, rfl, hzt3, hbw8⟩
  have HQw8 := Lib.hid (HQw7.out.below hbw8); have HGw8 := Lib.hid (grown_trans' HGw7.out (grown_of_below hbw8 _)); have hzw8 := hbw8.size
  clear hbw8
  go_wp2_with fail
  refine (l01Next_c B g (10) w8 HQw8.out (by omega)).mono ?_
  rintro e w9 ⟨f, rfl, ⟨hf0, hf1⟩, hqw9, hgw9⟩
  have HQw9 := Lib.hid hqw9; have HGw9 := Lib.hid (grown_trans' HGw8.out hgw9); have hzw9 := hgw9.size
  clear hqw9
  go_wp2_with fail
  refine (decS (f) w9 ⟨by omega, by omega⟩).mono ?_
  rintro e w10 ⟨t4, rfl, hzt4, hbw10⟩
  have HQw10 := Lib.hid (HQw9.out.below hbw10); have HGw10 := Lib.hid (grown_trans' HGw9.out (grown_of_below hbw10 _)); have hzw10 := hbw10.size
  clear hbw10
  go_wp2_with fail
  refine (l01Next_c B g (5) w10 HQw10.out (by omega)).mono ?_
  rintro e w11 ⟨h, rfl, ⟨hh0, hh1⟩, hqw11, hgw11⟩
  have HQw11 := Lib.hid hqw11; have HGw11 := Lib.hid (grown_trans' HGw10.out hgw11); have hzw11 := hgw11.size
  clear hqw11
  go_wp2_with fail
  refine (decS (h) w11 ⟨by omega, by omega⟩).mono ?_
  rintro e w12 ⟨t5, rfl, hzt5, hbw12⟩
  have HQw12 := Lib.hid (HQw11.out.below hbw12); have HGw12 := Lib.hid (grown_trans' HGw11.out (grown_of_below hbw12 _)); have hzw12 := hbw12.size
  clear hbw12
  go_wp2
  go_ret
  exact ⟨_, rfl, by simp only [ByteArray.size_append]; simp only [ByteArray.size, List.size_toArray, List.length_cons, List.length_nil] at *; omega, HQw12.out, HGw12.out⟩
end Go.Proofs.YtiamignopfhkfaaGreatDoor
