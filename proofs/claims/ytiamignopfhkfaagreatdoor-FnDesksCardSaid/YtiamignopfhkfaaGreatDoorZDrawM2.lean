/- Contract of the draw of good motions: l30Good. -/
import Derived.Test.YtiamignopfhkfaaGreatDoorZ40
import Derived.Test.YtiamignopfhkfaaGreatDoorZ5
import Derived.Test.YtiamignopfhkfaaGreatDoorZ6
import Derived.Test.YtiamignopfhkfaaGreatDoorZ18
import Derived.Deep.RegionLaw
import Derived.Deep.DrawnRows
namespace Go.Proofs.YtiamignopfhkfaaGreatDoor
open Go.RowKit
set_option linter.unusedVariables false
attribute [local go_sem ↓] Go.wp_at_zero Go.wp_at_succ
theorem mots_W {L : List MotionD} (h : motsOk L = true) : ∀ x ∈ L, MotionW x := by
  intro x hx
  obtain ⟨k, hk, rfl⟩ := List.getElem_of_mem hx
  have hb := mots_bds h hk
  have ho := mots_ok h hk
  rw [motAt_eq hk, Bool.and_eq_true, Bool.and_eq_true] at ho
  have hw : isWordB L[k].party = true := by
    have := ho.1.1
    simp only [motOk, Bool.and_eq_true] at this
    exact this.1.1.1.1.2
  have hs : L[k].party.size ≤ 16 := by
    simp only [isWordB, Bool.and_eq_true] at hw
    have := inB_iff.1 hw.2
    omega
  have ha : 0 ≤ L[k].after ∧ L[k].after ≤ 1000 := by
    by_cases h0 : findM L[k].after L 0 < 0
    · have h2 := ho.2
      rw [Bool.or_eq_true] at h2
      rcases h2 with h3 | h3
      · have : L[k].after = 0 := by simpa using h3
        omega
      · have h3 := of_decide_eq_true h3
        have := findM_take (Int.le_refl 0) h3
        omega
    · obtain ⟨j, hj, hjl⟩ := findM_idx h0
      have := find_num hj hjl
      have := (mots_bds h hjl).1
      omega
  exact ⟨wf_small (by omega), by unfold maxLen; omega, wf_small (by omega), wf_small (by omega), wf_small (by omega), wf_small (by omega)⟩
def GoodP (B g : Nat) (w : World) (e : Ending) (w' : World) : Prop := ∃ (A : Option Addr) (c : Nat) (L : List MotionD), e = .returned (.slice A L.length c) ∧ w'.ownsRow w.heap.size 70 6 (.slice A L.length c) L.length (L.flatMap motionC) ∧ motsOk L = true ∧ Src w' B g ∧ w.grownBy w' (some g)
def bergT : ByteArray := { data := #[98, 101, 114, 103] }
def steinT : ByteArray := { data := #[115, 116, 101, 105, 110] }
theorem motsNil : motsOk [] = true := by decide
theorem far_cells {w w' : World} {g : Nat} (h : w.grownBy w' (some g)) : ∀ (b i : Nat), b < w.heap.size → b ≠ g → w'.cell? ⟨b, i, none⟩ = w.cell? ⟨b, i, none⟩ :=
  fun b i h1 h2 => h.cell_far ⟨b, i, none⟩ h1 (fun e => h2 (Option.some.inj e))
theorem two_strs (k : Nat) (hk : k < 2) : ∃ p : ByteArray, (#[.string { data := #[98, 101, 114, 103] }, .string { data := #[115, 116, 101, 105, 110] }] : Array Value)[k]? = some (.string p) ∧ p.size ≤ 16 := by
  match k, hk with
  | 0, _ => exact ⟨bergT, rfl, by decide⟩
  | 1, _ => exact ⟨steinT, rfl, by decide⟩
theorem spec_File_ex (A : Option Addr) (c : Nat) (L : List MotionD) (p : ByteArray) (day after : Int) (w : World) (hr : Rd w w.heap.size A (L.length * 6) (L.flatMap motionC)) (hl : L.length ≤ 140737488355328) (hcap : L.length ≤ c) (hW : ∀ x ∈ L, MotionW x) (hs : p.size ≤ 9223372036854775807) (ha : (Lit.int .i64 after).wf = true) :
    Calls Tryz.prog 88 #[.slice A L.length c, .string p, .int .i64 day, .int .i64 after] w fun e w' => ∃ (L2 : List MotionD) (code : Int) (A2 : Option Addr) (c2 : Nat), e = .returned (.tuple #[.slice A2 L2.length c2, .int .i64 code]) ∧ (code = 0 → motsOk L2 = true) ∧ w'.ownsRow w.heap.size 70 6 (.slice A2 L2.length c2) L2.length (L2.flatMap motionC) ∧ Below w.heap.size w w' :=
  (spec_FileMotion A c L p day after w hr hl hcap hW hs ha).mono fun e w' h => by
    obtain ⟨A2, c2, h1, h2, h3, _, _⟩ := h
    exact ⟨_, _, A2, c2, h1, fileM_good, h2, h3⟩
theorem spec_Chg_ex (A : Option Addr) (c : Nat) (L : List MotionD) (n s day : Int) (w : World) (hr : Rd w w.heap.size A (L.length * 6) (L.flatMap motionC)) (hl : L.length ≤ 140737488355328) (hcap : L.length ≤ c) (hW : ∀ x ∈ L, MotionW x) :
    Calls Tryz.prog 91 #[.slice A L.length c, .int .i64 n, .int .i64 s, .int .i64 day] w fun e w' => ∃ (L2 : List MotionD) (code : Int) (A2 : Option Addr) (c2 : Nat), e = .returned (.tuple #[.slice A2 L2.length c2, .int .i64 code]) ∧ (code = 0 → motsOk L2 = true) ∧ w'.ownsRow w.heap.size 70 6 (.slice A2 L2.length c2) L2.length (L2.flatMap motionC) ∧ Below w.heap.size w w' :=
  (spec_ChangeMotion A c L n s day w hr hl hcap hW).mono fun e w' h => by
    obtain ⟨A2, c2, h1, h2, h3, _, _⟩ := h
    exact ⟨_, _, A2, c2, h1, chgM_good, h2, h3⟩
set_option maxRecDepth 100000 in
set_option maxHeartbeats 4000000 in
theorem l30Good_c (B g : Nat) (w : World) (hS : Src w B g) : Calls Tryz.prog 75 #[.pointer (some ⟨g, 0, none⟩)] w (GoodP B g w) := by
  have hgB := hS.ge; have hgl := hS.lt
  have HQw := Lib.hid hS; have HGw := Lib.hid (World.grownBy.refl w (some g)); clear hS
  go_enter Tryz.func75, Tryz.ntmps75
  go_wp2_with fail
  have ho := World.ownsRow_lit (base := w.heap.size) (e := 70) (size := 6) w #[] 0 (Nat.le_refl _) (by unfold maxLen; omega) rfl
  generalize hW2 : w.alloc (.cells #[] 70) = W2 at ho ⊢
  have hb2 : Below w.heap.size w W2 := by subst hW2; exact (Below.refl _ _).alloc (Nat.le_refl _) _
  have hzW2 := hb2.size
  have HQW2 := Lib.hid (HQw.out.below hb2); have HGW2 := Lib.hid (grown_trans' HGw.out (grown_of_below hb2 _))
  clear hW2
  refine (l01Next_c B g (7) W2 HQW2.out (by omega)).mono ?_
  rintro e w3 ⟨n, rfl, ⟨hn0, hn1⟩, hqw3, hgw3⟩
  have HQw3 := Lib.hid hqw3; have HGw3 := Lib.hid (grown_trans' HGW2.out hgw3); have hzw3 := hgw3.size
  clear hqw3
  have HO := Lib.hid (ho.kept hgw3 (.inr (by simp [Value.ownBlock]; omega)))
  clear ho
  obtain ⟨n, rfl⟩ := Int.eq_ofNat_of_zero_le hn0
  go_wp2
  go_loopw [3, 4] (fun ov nv wr => ∃ (A : Option Addr) (c : Nat) (L : List MotionD) (j : Nat), nv = .int .i64 j ∧ ov = .slice A L.length c ∧ j ≤ 7 ∧ Hid (motsOk L = true) ∧ w.heap.size ≤ wr.heap.size ∧ Hid (wr.ownsRow w.heap.size 70 6 (.slice A L.length c) L.length (L.flatMap motionC)) ∧ Hid (Src wr B g) ∧ Hid (w.grownBy wr (some g)))
    (fun _ nv _ => (intOf nv).toNat)
  case atStart => exact ⟨_, _, [], n, rfl, rfl, by omega, motsNil, by omega, HO.out, HQw3, HGw3⟩
  case round =>
    obtain ⟨A, c, L, j, rfl, rfl, hj, HM, hzr, HO', HQwr, HGwr⟩ := hrel
    clear HO
    have hcap := own_cap HO'.out
    have h12 := mots_len HM.out
    by_cases hj0 : 0 < j
    · by_cases hL : 0 < L.length
      · have hLi : (0 : Int) < (L.length : Int) := by omega
        go_wp2_with fail
        refine (l01Next_c B g (2) wr HQwr.out (by omega)).mono ?_
        rintro e w4 ⟨q, rfl, ⟨hq0, hq1⟩, hqw4, hgw4⟩
        have HQw4 := Lib.hid hqw4; have HGw4 := Lib.hid (grown_trans' HGwr.out hgw4); have hzw4 := hgw4.size
        clear hqw4
        have HO4 := Lib.hid (HO'.out.kept hgw4 (.inr (fun e => by have := HO'.out.lt _ e; omega)))
        by_cases hq : q = 0
        · subst hq
          go_wp2_with fail
          refine (l01Next_c B g ((L.length : Int)) w4 HQw4.out (by omega)).mono ?_
          rintro e w5 ⟨k, rfl, ⟨hk0, hk1⟩, hqw5, hgw5⟩
          have HQw5 := Lib.hid hqw5; have HGw5 := Lib.hid (grown_trans' HGw4.out hgw5); have hzw5 := hgw5.size
          clear hqw5
          have HO5 := Lib.hid (HO4.out.kept hgw5 (.inr (fun e => by have := HO4.out.lt _ e; omega)))
          obtain ⟨k, rfl⟩ := Int.eq_ofNat_of_zero_le hk0
          have hlt : k < L.length := by omega
          have hwf := (mots_W HM.out _ (List.getElem_mem hlt)).1
          obtain ⟨bf, offf, rfl, hbf, hcf⟩ := Rd.elem motionC 6 (fun _ => rfl) (Rd.of_own HO5.out) (by omega) hlt
          have f0 : w5.cell? ⟨bf, offf + k * 6, none⟩ = some (.int .i64 L[k].number) := hcf k hlt 0 _ rfl
          have f1 : w5.cell? ⟨bf, offf + k * 6 + 1, none⟩ = some (.string L[k].party) := hcf k hlt 1 _ rfl
          have f2 : w5.cell? ⟨bf, offf + k * 6 + 2, none⟩ = some (.int .i64 L[k].filed) := hcf k hlt 2 _ rfl
          have f3 : w5.cell? ⟨bf, offf + k * 6 + 3, none⟩ = some (.int .i64 L[k].changed) := hcf k hlt 3 _ rfl
          have f4 : w5.cell? ⟨bf, offf + k * 6 + 4, none⟩ = some (.int .i64 L[k].state) := hcf k hlt 4 _ rfl
          have f5 : w5.cell? ⟨bf, offf + k * 6 + 5, none⟩ = some (.int .i64 L[k].after) := hcf k hlt 5 _ rfl
          clear hcf f1 f2 f3 f4 f5
          generalize L[k].number = x0 at *
          have hkl : (k : Int) < (L.length : Int) := by omega
          go_wp2_with fail
          have hgn : w5.heap.size ≠ g := by omega
          have HS0 : Hid (Src w5.drew B g ∧ w5.grownBy w5.drew (some g) ∧ w5.drew.ownsRow w.heap.size 70 6 (.slice (some ⟨bf, offf, none⟩) L.length c) L.length (L.flatMap motionC)) := ⟨HQw5.out, ⟨rfl, rfl, rfl, Nat.le_refl _, fun _ _ _ => rfl⟩, HO5.out⟩
          have KAL : Hid (∀ (W1 : World) (o : Obj), (Src W1 B g ∧ w5.grownBy W1 (some g) ∧ W1.ownsRow w.heap.size 70 6 (.slice (some ⟨bf, offf, none⟩) L.length c) L.length (L.flatMap motionC)) → (Src (W1.alloc o) B g ∧ w5.grownBy (W1.alloc o) (some g) ∧ (W1.alloc o).ownsRow w.heap.size 70 6 (.slice (some ⟨bf, offf, none⟩) L.length c) L.length (L.flatMap motionC))) := fun W1 o h => ⟨h.1.below ((Below.refl _ _).alloc (Nat.le_refl _) _), grown_trans' h.2.1 (grown_of_below ((Below.refl _ _).alloc (Nat.le_refl _) _) _), h.2.2.alloc _⟩
          have KNX : Hid (∀ (W1 W3 : World), W1.grownBy W3 (some g) → Src W3 B g → Src W1 B g → w5.grownBy W1 (some g) → W1.ownsRow w.heap.size 70 6 (.slice (some ⟨bf, offf, none⟩) L.length c) L.length (L.flatMap motionC) → (Src W3 B g ∧ w5.grownBy W3 (some g) ∧ W3.ownsRow w.heap.size 70 6 (.slice (some ⟨bf, offf, none⟩) L.length c) L.length (L.flatMap motionC))) := fun W1 W3 hg hq _ h2 h3 => ⟨hq, grown_trans' h2 hg, h3.kept hg (.inr (fun e => by have := h3.lt _ e; omega))⟩
          have KBL : Hid (∀ (W1 W3 : World), Below W1.heap.size W1 W3 → Src W1 B g → w5.grownBy W1 (some g) → W1.ownsRow w.heap.size 70 6 (.slice (some ⟨bf, offf, none⟩) L.length c) L.length (L.flatMap motionC) → (Src W3 B g ∧ w5.grownBy W3 (some g) ∧ W3.ownsRow w.heap.size 70 6 (.slice (some ⟨bf, offf, none⟩) L.length c) L.length (L.flatMap motionC))) := fun W1 W3 hb h1 h2 h3 => ⟨h1.below hb, grown_trans' h2 (grown_of_below hb _), own_below h3 hb⟩
          rw [show Op.load 9 (Operand.tmp 40) = id (Op.load 9 (Operand.tmp 40)) from rfl]
          go_region_held3 (fun W1 => Src W1 B g ∧ w5.grownBy W1 (some g) ∧ W1.ownsRow w.heap.size 70 6 (.slice (some ⟨bf, offf, none⟩) L.length c) L.length (L.flatMap motionC))
            (first | exact HS0.out | exact KAL.out _ _ (by assumption) | exact KNX.out _ _ (by assumption) (by assumption) (by assumption) (by assumption) (by assumption) | exact KBL.out _ _ (by assumption) (by assumption) (by assumption) (by assumption) | assumption)
            ((first
              | (go_at_call 37; go_split_ands; refine Calls.mono (l01Next_c B g _ _ ?_ ?_) ?_; (any_goals (first | assumption | omega)); rintro e w6 ⟨k, rfl, ⟨hk0, hk1⟩, hq6, hg6⟩; obtain ⟨k, rfl⟩ := Int.eq_ofNat_of_zero_le hk0; have hkb : (k : Int) < 30 := (by omega); have hgn6 : w6.heap.size ≠ g := (by have := hq6.lt; omega); have cN6 := far_cells hg6; have hzg6 := hg6.size; (try (have hle6 : w5.heap.size ≤ w6.heap.size := (by have h := hg6.size; simp at h; omega))); (try (have hlt6 : w5.heap.size < w6.heap.size := (by have h := hg6.size; simp at h; omega))); have hwm : IntKind.i64.wrap (100 + (k : Int)) = 100 + (k : Int) := IntWalk.i64_in _ (by omega); (first | (have hk2 : (k : Int) < 2 := (by omega); obtain ⟨p, hp, hps⟩ := two_strs k (by omega)) | have hk3 : (0 : Int) ≤ (k : Int) := (by omega)))
              | (go_at_call 88; go_split_ands; refine Calls.mono (spec_File_ex (some ⟨bf, offf, none⟩) c L p _ x0 _ (Rd.of_own (by assumption)) ?_ ?_ (mots_W HM.out) ?_ hwf) ?_; (any_goals omega); rintro e w8 ⟨L8, k8, A8, c8, rfl, hok8, ho8, hb8⟩; have ho9 : w8.ownsRow w.heap.size 70 6 (.slice A8 L8.length c8) L8.length (L8.flatMap motionC) := own_mono ho8 (by (try simp); omega))))
          all_goals
            have hSS : Src w8 B g ∧ w5.grownBy w8 (some g) ∧ w8.ownsRow w.heap.size 70 6 (.slice (some ⟨bf, offf, none⟩) L.length c) L.length (L.flatMap motionC) := by assumption
            have HSS := Lib.hid hSS; clear hSS
            have HOK := Lib.hid hok8; have HO9 := Lib.hid ho9; clear hok8 ho9 ho8
            have hz8 := HSS.out.2.1.size
            by_cases hk8 : k8 = 0
            · go_wp2
              go_roundw
              case rel => exact ⟨A8, c8, L8, j - 1, by go_num, rfl, by omega, HOK.out hk8, by omega, HO9.out, HSS.out.1, grown_trans' HGw5.out HSS.out.2.1⟩
              case measure => simp [intOf]; omega
            · go_wp2
              go_roundw
              case rel => exact ⟨(some ⟨bf, offf, none⟩), c, L, j - 1, by go_num, rfl, by omega, HM.out, by omega, HSS.out.2.2, HSS.out.1, grown_trans' HGw5.out HSS.out.2.1⟩
              case measure => simp [intOf]; omega
        · go_wp2_with fail
          have hgn : w4.heap.size ≠ g := by omega
          have HS0 : Hid (Src w4.drew B g ∧ w4.grownBy w4.drew (some g) ∧ w4.drew.ownsRow w.heap.size 70 6 (.slice A L.length c) L.length (L.flatMap motionC)) := ⟨HQw4.out, ⟨rfl, rfl, rfl, Nat.le_refl _, fun _ _ _ => rfl⟩, HO4.out⟩
          have KAL : Hid (∀ (W1 : World) (o : Obj), (Src W1 B g ∧ w4.grownBy W1 (some g) ∧ W1.ownsRow w.heap.size 70 6 (.slice A L.length c) L.length (L.flatMap motionC)) → (Src (W1.alloc o) B g ∧ w4.grownBy (W1.alloc o) (some g) ∧ (W1.alloc o).ownsRow w.heap.size 70 6 (.slice A L.length c) L.length (L.flatMap motionC))) := fun W1 o h => ⟨h.1.below ((Below.refl _ _).alloc (Nat.le_refl _) _), grown_trans' h.2.1 (grown_of_below ((Below.refl _ _).alloc (Nat.le_refl _) _) _), h.2.2.alloc _⟩
          have KNX : Hid (∀ (W1 W3 : World), W1.grownBy W3 (some g) → Src W3 B g → Src W1 B g → w4.grownBy W1 (some g) → W1.ownsRow w.heap.size 70 6 (.slice A L.length c) L.length (L.flatMap motionC) → (Src W3 B g ∧ w4.grownBy W3 (some g) ∧ W3.ownsRow w.heap.size 70 6 (.slice A L.length c) L.length (L.flatMap motionC))) := fun W1 W3 hg hq _ h2 h3 => ⟨hq, grown_trans' h2 hg, h3.kept hg (.inr (fun e => by have := h3.lt _ e; omega))⟩
          have KBL : Hid (∀ (W1 W3 : World), Below W1.heap.size W1 W3 → Src W1 B g → w4.grownBy W1 (some g) → W1.ownsRow w.heap.size 70 6 (.slice A L.length c) L.length (L.flatMap motionC) → (Src W3 B g ∧ w4.grownBy W3 (some g) ∧ W3.ownsRow w.heap.size 70 6 (.slice A L.length c) L.length (L.flatMap motionC))) := fun W1 W3 hb h1 h2 h3 => ⟨h1.below hb, grown_trans' h2 (grown_of_below hb _), own_below h3 hb⟩
          rw [show Op.load 9 (Operand.tmp 40) = id (Op.load 9 (Operand.tmp 40)) from rfl]
          go_region_held3 (fun W1 => Src W1 B g ∧ w4.grownBy W1 (some g) ∧ W1.ownsRow w.heap.size 70 6 (.slice A L.length c) L.length (L.flatMap motionC))
            (first | exact HS0.out | exact KAL.out _ _ (by assumption) | exact KNX.out _ _ (by assumption) (by assumption) (by assumption) (by assumption) (by assumption) | exact KBL.out _ _ (by assumption) (by assumption) (by assumption) (by assumption) | assumption)
            ((first
              | (go_at_call 37; go_split_ands; refine Calls.mono (l01Next_c B g _ _ ?_ ?_) ?_; (any_goals (first | assumption | omega)); rintro e w6 ⟨k, rfl, ⟨hk0, hk1⟩, hq6, hg6⟩; obtain ⟨k, rfl⟩ := Int.eq_ofNat_of_zero_le hk0; have hkb : (k : Int) < 30 := (by omega); have hgn6 : w6.heap.size ≠ g := (by have := hq6.lt; omega); have cN6 := far_cells hg6; have hzg6 := hg6.size; (try (have hle6 : w4.heap.size ≤ w6.heap.size := (by have h := hg6.size; simp at h; omega))); (try (have hlt6 : w4.heap.size < w6.heap.size := (by have h := hg6.size; simp at h; omega))); have hwm : IntKind.i64.wrap (100 + (k : Int)) = 100 + (k : Int) := IntWalk.i64_in _ (by omega); (first | (have hk2 : (k : Int) < 2 := (by omega); obtain ⟨p, hp, hps⟩ := two_strs k (by omega)) | have hk3 : (0 : Int) ≤ (k : Int) := (by omega)))
              | (go_at_call 88; go_split_ands; refine Calls.mono (spec_File_ex A c L p _ 0 _ (Rd.of_own (by assumption)) ?_ ?_ (mots_W HM.out) ?_ (wf_small (by omega))) ?_; (any_goals omega); rintro e w8 ⟨L8, k8, A8, c8, rfl, hok8, ho8, hb8⟩; have ho9 : w8.ownsRow w.heap.size 70 6 (.slice A8 L8.length c8) L8.length (L8.flatMap motionC) := own_mono ho8 (by (try simp); omega))))
          all_goals
            have hSS : Src w8 B g ∧ w4.grownBy w8 (some g) ∧ w8.ownsRow w.heap.size 70 6 (.slice A L.length c) L.length (L.flatMap motionC) := by assumption
            have HSS := Lib.hid hSS; clear hSS
            have HOK := Lib.hid hok8; have HO9 := Lib.hid ho9; clear hok8 ho9 ho8
            have hz8 := HSS.out.2.1.size
            by_cases hk8 : k8 = 0
            · go_wp2
              go_roundw
              case rel => exact ⟨A8, c8, L8, j - 1, by go_num, rfl, by omega, HOK.out hk8, by omega, HO9.out, HSS.out.1, grown_trans' HGw4.out HSS.out.2.1⟩
              case measure => simp [intOf]; omega
            · go_wp2
              go_roundw
              case rel => exact ⟨A, c, L, j - 1, by go_num, rfl, by omega, HM.out, by omega, HSS.out.2.2, HSS.out.1, grown_trans' HGw4.out HSS.out.2.1⟩
              case measure => simp [intOf]; omega
      · have hLi : ¬ (0 : Int) < (L.length : Int) := by omega
        go_wp2_with fail
        have hgn : wr.heap.size ≠ g := by omega
        have HS0 : Hid (Src wr.drew B g ∧ wr.grownBy wr.drew (some g) ∧ wr.drew.ownsRow w.heap.size 70 6 (.slice A L.length c) L.length (L.flatMap motionC)) := ⟨HQwr.out, ⟨rfl, rfl, rfl, Nat.le_refl _, fun _ _ _ => rfl⟩, HO'.out⟩
        have KAL : Hid (∀ (W1 : World) (o : Obj), (Src W1 B g ∧ wr.grownBy W1 (some g) ∧ W1.ownsRow w.heap.size 70 6 (.slice A L.length c) L.length (L.flatMap motionC)) → (Src (W1.alloc o) B g ∧ wr.grownBy (W1.alloc o) (some g) ∧ (W1.alloc o).ownsRow w.heap.size 70 6 (.slice A L.length c) L.length (L.flatMap motionC))) := fun W1 o h => ⟨h.1.below ((Below.refl _ _).alloc (Nat.le_refl _) _), grown_trans' h.2.1 (grown_of_below ((Below.refl _ _).alloc (Nat.le_refl _) _) _), h.2.2.alloc _⟩
        have KNX : Hid (∀ (W1 W3 : World), W1.grownBy W3 (some g) → Src W3 B g → Src W1 B g → wr.grownBy W1 (some g) → W1.ownsRow w.heap.size 70 6 (.slice A L.length c) L.length (L.flatMap motionC) → (Src W3 B g ∧ wr.grownBy W3 (some g) ∧ W3.ownsRow w.heap.size 70 6 (.slice A L.length c) L.length (L.flatMap motionC))) := fun W1 W3 hg hq _ h2 h3 => ⟨hq, grown_trans' h2 hg, h3.kept hg (.inr (fun e => by have := h3.lt _ e; omega))⟩
        have KBL : Hid (∀ (W1 W3 : World), Below W1.heap.size W1 W3 → Src W1 B g → wr.grownBy W1 (some g) → W1.ownsRow w.heap.size 70 6 (.slice A L.length c) L.length (L.flatMap motionC) → (Src W3 B g ∧ wr.grownBy W3 (some g) ∧ W3.ownsRow w.heap.size 70 6 (.slice A L.length c) L.length (L.flatMap motionC))) := fun W1 W3 hb h1 h2 h3 => ⟨h1.below hb, grown_trans' h2 (grown_of_below hb _), own_below h3 hb⟩
        rw [show Op.load 9 (Operand.tmp 40) = id (Op.load 9 (Operand.tmp 40)) from rfl]
        go_region_held3 (fun W1 => Src W1 B g ∧ wr.grownBy W1 (some g) ∧ W1.ownsRow w.heap.size 70 6 (.slice A L.length c) L.length (L.flatMap motionC))
          (first | exact HS0.out | exact KAL.out _ _ (by assumption) | exact KNX.out _ _ (by assumption) (by assumption) (by assumption) (by assumption) (by assumption) | exact KBL.out _ _ (by assumption) (by assumption) (by assumption) (by assumption) | assumption)
          ((first
            | (go_at_call 37; go_split_ands; refine Calls.mono (l01Next_c B g _ _ ?_ ?_) ?_; (any_goals (first | assumption | omega)); rintro e w6 ⟨k, rfl, ⟨hk0, hk1⟩, hq6, hg6⟩; obtain ⟨k, rfl⟩ := Int.eq_ofNat_of_zero_le hk0; have hkb : (k : Int) < 30 := (by omega); have hgn6 : w6.heap.size ≠ g := (by have := hq6.lt; omega); have cN6 := far_cells hg6; have hzg6 := hg6.size; (try (have hle6 : wr.heap.size ≤ w6.heap.size := (by have h := hg6.size; simp at h; omega))); (try (have hlt6 : wr.heap.size < w6.heap.size := (by have h := hg6.size; simp at h; omega))); have hwm : IntKind.i64.wrap (100 + (k : Int)) = 100 + (k : Int) := IntWalk.i64_in _ (by omega); (first | (have hk2 : (k : Int) < 2 := (by omega); obtain ⟨p, hp, hps⟩ := two_strs k (by omega)) | have hk3 : (0 : Int) ≤ (k : Int) := (by omega)))
            | (go_at_call 88; go_split_ands; refine Calls.mono (spec_File_ex A c L p _ 0 _ (Rd.of_own (by assumption)) ?_ ?_ (mots_W HM.out) ?_ (wf_small (by omega))) ?_; (any_goals omega); rintro e w8 ⟨L8, k8, A8, c8, rfl, hok8, ho8, hb8⟩; have ho9 : w8.ownsRow w.heap.size 70 6 (.slice A8 L8.length c8) L8.length (L8.flatMap motionC) := own_mono ho8 (by (try simp); omega))))
        all_goals
          have hSS : Src w8 B g ∧ wr.grownBy w8 (some g) ∧ w8.ownsRow w.heap.size 70 6 (.slice A L.length c) L.length (L.flatMap motionC) := by assumption
          have HSS := Lib.hid hSS; clear hSS
          have HOK := Lib.hid hok8; have HO9 := Lib.hid ho9; clear hok8 ho9 ho8
          have hz8 := HSS.out.2.1.size
          by_cases hk8 : k8 = 0
          · go_wp2
            go_roundw
            case rel => exact ⟨A8, c8, L8, j - 1, by go_num, rfl, by omega, HOK.out hk8, by omega, HO9.out, HSS.out.1, grown_trans' HGwr.out HSS.out.2.1⟩
            case measure => simp [intOf]; omega
          · go_wp2
            go_roundw
            case rel => exact ⟨A, c, L, j - 1, by go_num, rfl, by omega, HM.out, by omega, HSS.out.2.2, HSS.out.1, grown_trans' HGwr.out HSS.out.2.1⟩
            case measure => simp [intOf]; omega
    · obtain rfl : j = 0 := by omega
      go_wp2_with fail
      refine (l01Next_c B g (10) wr HQwr.out (by omega)).mono ?_
      rintro e w4 ⟨m, rfl, ⟨hm0, hm1⟩, hqw4, hgw4⟩
      have HQw4 := Lib.hid hqw4; have HGw4 := Lib.hid (grown_trans' HGwr.out hgw4); have hzw4 := hgw4.size
      clear hqw4
      have HO4 := Lib.hid (HO'.out.kept hgw4 (.inr (fun e => by have := HO'.out.lt _ e; omega)))
      obtain ⟨m, rfl⟩ := Int.eq_ofNat_of_zero_le hm0
      go_wp2
      go_loopw [3, 8] (fun ov nv wr => ∃ (A : Option Addr) (c : Nat) (L : List MotionD) (j : Nat), nv = .int .i64 j ∧ ov = .slice A L.length c ∧ j ≤ 10 ∧ Hid (motsOk L = true) ∧ w.heap.size ≤ wr.heap.size ∧ Hid (wr.ownsRow w.heap.size 70 6 (.slice A L.length c) L.length (L.flatMap motionC)) ∧ Hid (Src wr B g) ∧ Hid (w.grownBy wr (some g)))
        (fun _ nv _ => (intOf nv).toNat)
      case atStart => exact ⟨A, c, L, m, rfl, rfl, by omega, HM.out, by omega, HO4.out, HQw4.out, HGw4.out⟩
      case round =>
        obtain ⟨v0, rfl⟩ : ∃ v0, v0 = wr := ⟨_, rfl⟩
        clear HO4 HO' HM HQw4 HGw4 HQwr HGwr hcap h12
        obtain ⟨A, c, L, j, rfl, rfl, hj, HM, hzr2, HO', HQv0, HGv0⟩ := hrel
        have hcap := own_cap HO'.out
        have h12 := mots_len HM.out
        by_cases hj0 : 0 < j
        · by_cases hL : 0 < L.length
          · have hLi : (0 : Int) < (L.length : Int) := by omega
            go_wp2_with fail
            refine (l01Next_c B g ((L.length : Int)) v0 HQv0.out (by omega)).mono ?_
            rintro e w5 ⟨k, rfl, ⟨hk0, hk1⟩, hqw5, hgw5⟩
            have HQw5 := Lib.hid hqw5; have HGw5 := Lib.hid (grown_trans' HGv0.out hgw5); have hzw5 := hgw5.size
            clear hqw5
            have HO5 := Lib.hid (HO'.out.kept hgw5 (.inr (fun e => by have := HO'.out.lt _ e; omega)))
            obtain ⟨k, rfl⟩ := Int.eq_ofNat_of_zero_le hk0
            have hlt : k < L.length := by omega
            obtain ⟨bf, offf, rfl, hbf, hcf⟩ := Rd.elem motionC 6 (fun _ => rfl) (Rd.of_own HO5.out) (by omega) hlt
            have f0 : w5.cell? ⟨bf, offf + k * 6, none⟩ = some (.int .i64 L[k].number) := hcf k hlt 0 _ rfl
            have f1 : w5.cell? ⟨bf, offf + k * 6 + 1, none⟩ = some (.string L[k].party) := hcf k hlt 1 _ rfl
            have f2 : w5.cell? ⟨bf, offf + k * 6 + 2, none⟩ = some (.int .i64 L[k].filed) := hcf k hlt 2 _ rfl
            have f3 : w5.cell? ⟨bf, offf + k * 6 + 3, none⟩ = some (.int .i64 L[k].changed) := hcf k hlt 3 _ rfl
            have f4 : w5.cell? ⟨bf, offf + k * 6 + 4, none⟩ = some (.int .i64 L[k].state) := hcf k hlt 4 _ rfl
            have f5 : w5.cell? ⟨bf, offf + k * 6 + 5, none⟩ = some (.int .i64 L[k].after) := hcf k hlt 5 _ rfl
            have CEL : Hid (∀ W1 : World, W1.ownsRow w.heap.size 70 6 (.slice (some ⟨bf, offf, none⟩) L.length c) L.length (L.flatMap motionC) → W1.cell? ⟨bf, offf + k * 6, none⟩ = some (.int .i64 L[k].number) ∧ W1.cell? ⟨bf, offf + k * 6 + 3, none⟩ = some (.int .i64 L[k].changed)) := fun W1 h => by
              obtain ⟨hbq, hcq⟩ := Rd.elemS motionC 6 (fun _ => rfl) (Rd.of_own h) (by omega) hlt
              have q0 : W1.cell? ⟨bf, offf + k * 6, none⟩ = some (.int .i64 L[k].number) := hcq k hlt 0 _ rfl
              have q1 : W1.cell? ⟨bf, offf + k * 6 + 1, none⟩ = some (.string L[k].party) := hcq k hlt 1 _ rfl
              have q2 : W1.cell? ⟨bf, offf + k * 6 + 2, none⟩ = some (.int .i64 L[k].filed) := hcq k hlt 2 _ rfl
              have q3 : W1.cell? ⟨bf, offf + k * 6 + 3, none⟩ = some (.int .i64 L[k].changed) := hcq k hlt 3 _ rfl
              have q4 : W1.cell? ⟨bf, offf + k * 6 + 4, none⟩ = some (.int .i64 L[k].state) := hcq k hlt 4 _ rfl
              have q5 : W1.cell? ⟨bf, offf + k * 6 + 5, none⟩ = some (.int .i64 L[k].after) := hcq k hlt 5 _ rfl
              exact ⟨q0, q3⟩
            clear hcf f0 f1 f2 f3 f4 f5
            generalize L[k].number = x0 at *
            generalize L[k].changed = x3 at *
            have hkl : (k : Int) < (L.length : Int) := by omega
            go_wp2_with fail
            have hgn : w5.heap.size ≠ g := by omega
            have HS0 : Hid (Src w5.drew B g ∧ w5.grownBy w5.drew (some g) ∧ w5.drew.ownsRow w.heap.size 70 6 (.slice (some ⟨bf, offf, none⟩) L.length c) L.length (L.flatMap motionC) ∧ w5.drew.cell? ⟨bf, offf + k * 6, none⟩ = some (.int .i64 x0) ∧ w5.drew.cell? ⟨bf, offf + k * 6 + 3, none⟩ = some (.int .i64 x3)) := ⟨HQw5.out, ⟨rfl, rfl, rfl, Nat.le_refl _, fun _ _ _ => rfl⟩, HO5.out, CEL.out _ HO5.out⟩
            have KAL : Hid (∀ (W1 : World) (o : Obj), (Src W1 B g ∧ w5.grownBy W1 (some g) ∧ W1.ownsRow w.heap.size 70 6 (.slice (some ⟨bf, offf, none⟩) L.length c) L.length (L.flatMap motionC) ∧ W1.cell? ⟨bf, offf + k * 6, none⟩ = some (.int .i64 x0) ∧ W1.cell? ⟨bf, offf + k * 6 + 3, none⟩ = some (.int .i64 x3)) → (Src (W1.alloc o) B g ∧ w5.grownBy (W1.alloc o) (some g) ∧ (W1.alloc o).ownsRow w.heap.size 70 6 (.slice (some ⟨bf, offf, none⟩) L.length c) L.length (L.flatMap motionC) ∧ (W1.alloc o).cell? ⟨bf, offf + k * 6, none⟩ = some (.int .i64 x0) ∧ (W1.alloc o).cell? ⟨bf, offf + k * 6 + 3, none⟩ = some (.int .i64 x3))) := fun W1 o h => ⟨h.1.below ((Below.refl _ _).alloc (Nat.le_refl _) _), grown_trans' h.2.1 (grown_of_below ((Below.refl _ _).alloc (Nat.le_refl _) _) _), h.2.2.1.alloc _, CEL.out _ (h.2.2.1.alloc _)⟩
            have KNX : Hid (∀ (W1 W3 : World), W1.grownBy W3 (some g) → Src W3 B g → Src W1 B g → w5.grownBy W1 (some g) → W1.ownsRow w.heap.size 70 6 (.slice (some ⟨bf, offf, none⟩) L.length c) L.length (L.flatMap motionC) → (Src W3 B g ∧ w5.grownBy W3 (some g) ∧ W3.ownsRow w.heap.size 70 6 (.slice (some ⟨bf, offf, none⟩) L.length c) L.length (L.flatMap motionC) ∧ W3.cell? ⟨bf, offf + k * 6, none⟩ = some (.int .i64 x0) ∧ W3.cell? ⟨bf, offf + k * 6 + 3, none⟩ = some (.int .i64 x3))) := fun W1 W3 hg hq _ h2 h3 => ⟨hq, grown_trans' h2 hg, h3.kept hg (.inr (fun e => by have := h3.lt _ e; omega)), CEL.out _ (h3.kept hg (.inr (fun e => by have := h3.lt _ e; omega)))⟩
            have KBL : Hid (∀ (W1 W3 : World), Below W1.heap.size W1 W3 → Src W1 B g → w5.grownBy W1 (some g) → W1.ownsRow w.heap.size 70 6 (.slice (some ⟨bf, offf, none⟩) L.length c) L.length (L.flatMap motionC) → (Src W3 B g ∧ w5.grownBy W3 (some g) ∧ W3.ownsRow w.heap.size 70 6 (.slice (some ⟨bf, offf, none⟩) L.length c) L.length (L.flatMap motionC) ∧ W3.cell? ⟨bf, offf + k * 6, none⟩ = some (.int .i64 x0) ∧ W3.cell? ⟨bf, offf + k * 6 + 3, none⟩ = some (.int .i64 x3))) := fun W1 W3 hb h1 h2 h3 => ⟨h1.below hb, grown_trans' h2 (grown_of_below hb _), own_below h3 hb, CEL.out _ (own_below h3 hb)⟩
            go_region_held3 (fun W1 => Src W1 B g ∧ w5.grownBy W1 (some g) ∧ W1.ownsRow w.heap.size 70 6 (.slice (some ⟨bf, offf, none⟩) L.length c) L.length (L.flatMap motionC) ∧ W1.cell? ⟨bf, offf + k * 6, none⟩ = some (.int .i64 x0) ∧ W1.cell? ⟨bf, offf + k * 6 + 3, none⟩ = some (.int .i64 x3))
              (first | exact HS0.out | exact KAL.out _ _ (by assumption) | exact KNX.out _ _ (by assumption) (by assumption) (by assumption) (by assumption) (by assumption) | exact KBL.out _ _ (by assumption) (by assumption) (by assumption) (by assumption) | assumption)
              ((first
                | (go_at_call 37; go_split_ands; refine Calls.mono (l01Next_c B g _ _ ?_ ?_) ?_; (any_goals (first | assumption | omega)); rintro e w6 ⟨k6, rfl, ⟨hk60, hk61⟩, hq6, hg6⟩; have hzg6 := hg6.size; (try (have hle6 : w5.heap.size ≤ w6.heap.size := (by have h := hg6.size; simp at h; omega))))
                | (go_at_call 91; go_split_ands; refine Calls.mono (spec_Chg_ex (some ⟨bf, offf, none⟩) c L _ _ _ _ (Rd.of_own (by assumption)) ?_ ?_ (mots_W HM.out)) ?_; (any_goals omega); rintro e w8 ⟨L8, k8, A8, c8, rfl, hok8, ho8, hb8⟩; have ho9 : w8.ownsRow w.heap.size 70 6 (.slice A8 L8.length c8) L8.length (L8.flatMap motionC) := own_mono ho8 (by (try simp); omega))))
            all_goals
              have hSS : Src w8 B g ∧ w5.grownBy w8 (some g) ∧ w8.ownsRow w.heap.size 70 6 (.slice (some ⟨bf, offf, none⟩) L.length c) L.length (L.flatMap motionC) ∧ w8.cell? ⟨bf, offf + k * 6, none⟩ = some (.int .i64 x0) ∧ w8.cell? ⟨bf, offf + k * 6 + 3, none⟩ = some (.int .i64 x3) := by assumption
              have HSS := Lib.hid hSS; clear hSS
              have HOK := Lib.hid hok8; have HO9 := Lib.hid ho9; clear hok8 ho9 ho8
              have hz8 := HSS.out.2.1.size
              by_cases hk8 : k8 = 0
              · go_wp2
                go_roundw
                case rel => exact ⟨A8, c8, L8, j - 1, by go_num, rfl, by omega, HOK.out hk8, by omega, HO9.out, HSS.out.1, grown_trans' HGw5.out HSS.out.2.1⟩
                case measure => simp [intOf]; omega
              · go_wp2
                go_roundw
                case rel => exact ⟨(some ⟨bf, offf, none⟩), c, L, j - 1, by go_num, rfl, by omega, HM.out, by omega, HSS.out.2.2.1, HSS.out.1, grown_trans' HGw5.out HSS.out.2.1⟩
                case measure => simp [intOf]; omega
          · go_wp2
            go_ret
            exact ⟨A, c, L, rfl, HO'.out, HM.out, HQv0.out, HGv0.out⟩
        · obtain rfl : j = 0 := by omega
          go_wp2
          go_ret
          exact ⟨A, c, L, rfl, HO'.out, HM.out, HQv0.out, HGv0.out⟩
end Go.Proofs.YtiamignopfhkfaaGreatDoor
