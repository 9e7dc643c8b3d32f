/- Contract of the draw of holidays: l02Holidays. Contracts of the draws of motions: l30Number. Contracts: WaitingFor of both texts. -/
import Derived.Test.YtiamignopfhkfaaGreatDoorZSrc2
import Derived.Test.YtiamignopfhkfaaGreatDoorZFrom
import Derived.Test.YtiamignopfhkfaaGreatDoorZ2
import Derived.Test.YtiamignopfhkfaaGreatDoorZ4
section
namespace Go.Proofs.YtiamignopfhkfaaGreatDoor
open Go.RowKit
set_option linter.unusedVariables false
theorem own_snocD {W : World} {base c : Nat} {e : TypeId} {A : Option Addr} {D : List Int} {x : Int} (h : W.ownsRow base e 1 (.slice A (D.length + 1) c) (D.length + 1) (D.map (Value.int .i64) ++ [.int .i64 x])) : W.ownsRow base e 1 (.slice A (D ++ [x]).length c) (D ++ [x]).length ((D ++ [x]).map (Value.int .i64)) := by
  simpa using h
def lenD : Value → Nat
  | .slice _ n _ => n
  | _ => 0
def HolP (B g : Nat) (w : World) (e : Ending) (w' : World) : Prop := ∃ (A : Option Addr) (c : Nat) (H : List Int), e = .returned (.slice A H.length c) ∧ w'.ownsRow w.heap.size 2 1 (.slice A H.length c) H.length (H.map (Value.int .i64)) ∧ H.length ≤ 41 ∧ Src w' B g ∧ w.grownBy w' (some g)
set_option maxRecDepth 100000 in
set_option maxHeartbeats 4000000 in
theorem l02Holidays_c (B g : Nat) (w : World) (hS : Src w B g) : Calls Tryz.prog 50 #[.pointer (some ⟨g, 0, none⟩)] w (HolP B g w) := by
  obtain ⟨i0, hi, hz0, hz1, hz2⟩ := info_parts int_info
  have hgB := hS.ge; have hgl := hS.lt
  have HQw := Lib.hid hS; have HGw := Lib.hid (World.grownBy.refl w (some g)); clear hS
  go_enter Tryz.func50, Tryz.ntmps50
  go_wp2_with fail
  have ho := World.ownsRow_lit (base := w.heap.size) (e := 2) (size := 1) w #[] 0 (Nat.le_refl _) (by unfold maxLen; omega) rfl
  generalize hW2 : w.alloc (.cells #[] 2) = W2 at ho ⊢
  have hb2 : Below w.heap.size w W2 := by subst hW2; exact (Below.refl _ _).alloc (Nat.le_refl _) _
  have hzW2 := hb2.size
  have HQW2 := Lib.hid (HQw.out.below hb2); have HGW2 := Lib.hid (grown_trans' HGw.out (grown_of_below hb2 _))
  clear hW2
  refine (l01Next_c B g (60) W2 HQW2.out (by omega)).mono ?_
  rintro e w3 ⟨d, rfl, ⟨hd0, hd1⟩, hqw3, hgw3⟩
  have HQw3 := Lib.hid hqw3; have HGw3 := Lib.hid (grown_trans' HGW2.out hgw3); have hzw3 := hgw3.size
  clear hqw3
  have HO := Lib.hid (ho.kept hgw3 (.inr (by simp [Value.ownBlock]; omega)))
  clear ho
  go_wp2_with fail
  refine (l01Next_c B g (8) w3 HQw3.out (by omega)).mono ?_
  rintro e w4 ⟨n, rfl, ⟨hn0, hn1⟩, hqw4, hgw4⟩
  have HQw4 := Lib.hid hqw4; have HGw4 := Lib.hid (grown_trans' HGw3.out hgw4); have hzw4 := hgw4.size
  clear hqw4
  have HO4 := Lib.hid (HO.out.kept hgw4 (.inr (fun e => by have := HO.out.lt _ e; omega)))
  clear HO
  obtain ⟨n, rfl⟩ := Int.eq_ofNat_of_zero_le hn0
  go_wp2
  go_loopw [3, 4, 5] (fun ov dv nv wr => ∃ (A : Option Addr) (c : Nat) (D : List Int) (day : Int) (j : Nat), nv = .int .i64 j ∧ dv = .int .i64 day ∧ ov = .slice A D.length c ∧ D.length + j ≤ 8 ∧ (0 ≤ day ∧ day + 50 * j ≤ 700) ∧ w.heap.size ≤ wr.heap.size ∧ Hid (wr.ownsRow w.heap.size 2 1 (.slice A D.length c) D.length (D.map (Value.int .i64))) ∧ Hid (Src wr B g) ∧ Hid (w.grownBy wr (some g)))
    (fun _ _ nv _ => (intOf nv).toNat)
  case atStart => exact ⟨_, _, [], 100 + d, n, rfl, rfl, rfl, by simp; omega, by omega, by omega, HO4.out, HQw4.out, HGw4.out⟩
  case round =>
    obtain ⟨A, c, D, day, j, rfl, rfl, rfl, hj, hday, hzr, HOr, HQwr, HGwr⟩ := hrel
    clear HO4
    by_cases hj0 : 0 < j
    · go_wp2_with (first | (at_builtin; refine wpList_push wr rfl _ _ 30 rfl w.heap.size 2 i0 _ 1 8 Tryz.underlying30 hi hz0 hz1 hz2 rfl (by decide) (.slice A D.length c) (D.length) (D.map (Value.int .i64)) (by rfl) HOr.out [.int .i64 day] 2 (by rfl) rfl (by simp [Value.oneCell']) (by unfold maxLen; omega) (by omega) (by omega) ?_; intro A5 c5 w5 ho5 hg5; have HO5 := Lib.hid (own_snocD ho5); have HQw5 := Lib.hid (HQwr.out.other hg5 (fun k hk => by have := HOr.out.lt k hk; omega)); have HGw5 := Lib.hid (HGwr.out.andThen hg5 (fun k hk => .inl (by have := HOr.out.lt k hk; omega))); have hz5 := hg5.size; clear ho5 hg5))
      refine (l01Next_c B g (5) w5 HQw5.out (by omega)).mono ?_
      rintro e w6 ⟨a, rfl, ⟨ha0, ha1⟩, hqw6, hgw6⟩
      have HQw6 := Lib.hid hqw6; have HGw6 := Lib.hid (grown_trans' HGw5.out hgw6); have hzw6 := hgw6.size
      clear hqw6
      have HO6 := Lib.hid (HO5.out.kept hgw6 (.inr (fun e => by have := HO5.out.lt _ e; omega)))
      go_wp2_with fail
      refine (l01Next_c B g (40) w6 HQw6.out (by omega)).mono ?_
      rintro e w7 ⟨b, rfl, ⟨hb0, hb1⟩, hqw7, hgw7⟩
      have HQw7 := Lib.hid hqw7; have HGw7 := Lib.hid (grown_trans' HGw6.out hgw7); have hzw7 := hgw7.size
      clear hqw7
      have HO7 := Lib.hid (HO6.out.kept hgw7 (.inr (fun e => by have := HO6.out.lt _ e; omega)))
      go_wp2_with fail
      generalize hW8 : w7.alloc _ = W8
      have hbW8 : Below w7.heap.size w7 W8 := by subst hW8; exact (Below.refl _ _).alloc (Nat.le_refl _) _
      have hsW8 : W8.heap.size = w7.heap.size + 1 := by subst hW8; simp
      have cxW8_0 : ∀ i, W8.cell? ⟨w7.heap.size, i, none⟩ = (#[.int .i64 0, .int .i64 a, .int .i64 b] : Array Value)[i]? := by intro i; subst hW8; simp [go_sem]
      have fzW8_0 : ∀ i, W8.frozen? ⟨w7.heap.size, i, none⟩ = false := by intro i; subst hW8; simp [go_sem]
      have HSW8 := Lib.hid hsW8; clear hW8 hsW8
      have HQW8 := Lib.hid (HQw7.out.below hbW8); have HGW8 := Lib.hid (grown_trans' HGw7.out (grown_of_below hbW8 _)); have hzW8 : W8.heap.size = w7.heap.size + 1 := HSW8.out
      clear HSW8
      have HO8 := Lib.hid (own_below HO7.out hbW8)
      refine (l01Pick_c B g (w7.heap.size) 0 _ [0, a, b] W8 HQW8.out (by omega) (pick_box (L := [0, a, b]) (fun i => by exact cxW8_0 i)) (by simp) (by simp) (by simp)).mono ?_
      rintro e w9 ⟨p, rfl, hpm, hqw9, hgw9⟩
      have HQw9 := Lib.hid hqw9; have HGw9 := Lib.hid (grown_trans' HGW8.out hgw9); have hzw9 := hgw9.size; have Hpm := Lib.hid hpm
      clear hqw9 hpm
      have HO9 := Lib.hid (HO8.out.kept hgw9 (.inr (fun e => by have := HO8.out.lt _ e; omega)))
      have hp : p = 0 ∨ p = a ∨ p = b := by simpa using Hpm.out
      have hpb : 0 ≤ p ∧ p ≤ 40 := by omega
      clear hp
      go_wp2
      go_roundw
      case rel => exact ⟨A5, c5, D ++ [day], day + 1 + p, j - 1, by go_num, rfl, by simp, by simp; omega, by omega, by omega, HO9, HQw9, HGw9⟩
      case measure => simp [intOf]; omega
    · obtain rfl : j = 0 := by omega
      go_wp2_with fail
      refine (l01Next_c B g (24) wr HQwr.out (by omega)).mono ?_
      rintro e w4 ⟨r, rfl, ⟨hr0, hr1⟩, hqw4, hgw4⟩
      have HQw4 := Lib.hid hqw4; have HGw4 := Lib.hid (grown_trans' HGwr.out hgw4); have hzw4 := hgw4.size
      clear hqw4
      have HO5 := Lib.hid (HOr.out.kept hgw4 (.inr (fun e => by have := HOr.out.lt _ e; omega)))
      by_cases hr0 : r = 0
      · subst hr0
        go_wp2_with fail
        generalize hW5 : w4.alloc _ = W5
        have hbW5 : Below w4.heap.size w4 W5 := by subst hW5; exact (Below.refl _ _).alloc (Nat.le_refl _) _
        have hsW5 : W5.heap.size = w4.heap.size + 1 := by subst hW5; simp
        have cxW5_0 : ∀ i, W5.cell? ⟨w4.heap.size, i, none⟩ = (#[.int .i64 (day - 60), .int .i64 20000, .int .i64 20001, .int .i64 (-1)] : Array Value)[i]? := by intro i; subst hW5; simp [go_sem]
        have fzW5_0 : ∀ i, W5.frozen? ⟨w4.heap.size, i, none⟩ = false := by intro i; subst hW5; simp [go_sem]
        have HSW5 := Lib.hid hsW5; clear hW5 hsW5
        have HQW5 := Lib.hid (HQw4.out.below hbW5); have HGW5 := Lib.hid (grown_trans' HGw4.out (grown_of_below hbW5 _)); have hzW5 : W5.heap.size = w4.heap.size + 1 := HSW5.out
        clear HSW5
        have HO6 := Lib.hid (own_below HO5.out hbW5)
        refine (l01Pick_c B g (w4.heap.size) 0 _ [day - 60, 20000, 20001, -1] W5 HQW5.out (by omega) (pick_box (L := [day - 60, 20000, 20001, -1]) (fun i => by exact cxW5_0 i)) (by simp) (by simp) (by simp)).mono ?_
        rintro e w6 ⟨x, rfl, hxm, hqw6, hgw6⟩
        have HQw6 := Lib.hid hqw6; have HGw6 := Lib.hid (grown_trans' HGW5.out hgw6); have hzw6 := hgw6.size; have Hxm := Lib.hid hxm
        clear hqw6 hxm
        have HO7 := Lib.hid (HO6.out.kept hgw6 (.inr (fun e => by have := HO6.out.lt _ e; omega)))
        go_wp2_with (first | (at_builtin; refine wpList_push w6 rfl _ _ 30 rfl w.heap.size 2 i0 _ 1 8 Tryz.underlying30 hi hz0 hz1 hz2 rfl (by decide) (.slice A D.length c) (D.length) (D.map (Value.int .i64)) (by rfl) HO7.out [.int .i64 x] 2 (by rfl) rfl (by simp [Value.oneCell']) (by unfold maxLen; omega) (by omega) (by omega) ?_; intro A8 c8 w8 ho8 hg8; have HO8 := Lib.hid (own_snocD ho8); have HQw8 := Lib.hid (HQw6.out.other hg8 (fun k hk => by have := HO7.out.lt k hk; omega)); have HGw8 := Lib.hid (HGw6.out.andThen hg8 (fun k hk => .inl (by have := HO7.out.lt k hk; omega))); have hz8 := hg8.size; clear ho8 hg8))
        go_ret
        refine ⟨A8, c8, D ++ [x], by simp, HO8.out, by simp; omega, HQw8.out, HGw8.out⟩
      by_cases hr1 : r = 1
      · subst hr1
        have HSZ : Hid (w.heap.size ≤ w4.heap.size) := by unfold Hid; omega
        clear HOr HO5
        go_wp2_with fail
        have ho2 := World.ownsRow_lit (base := w.heap.size) (e := 2) (size := 1) w4 #[] 0 HSZ.out (by unfold maxLen; omega) rfl
        generalize hW5 : w4.alloc (.cells #[] 2) = W5 at ho2 ⊢
        have hb5 : Below w4.heap.size w4 W5 := by subst hW5; exact (Below.refl _ _).alloc (Nat.le_refl _) _
        have hzW5 := hb5.size
        have HO5 := Lib.hid ho2
        have HQW5 := Lib.hid (HQw4.out.below hb5); have HGW5 := Lib.hid (grown_trans' HGw4.out (grown_of_below hb5 _))
        clear hW5 ho2
        go_loopw [3] (fun ov wr => ∃ (A : Option Addr) (c : Nat) (D : List Int), ov = .slice A D.length c ∧ D.length ≤ 41 ∧ w.heap.size ≤ wr.heap.size ∧ Hid (wr.ownsRow w.heap.size 2 1 (.slice A D.length c) D.length (D.map (Value.int .i64))) ∧ Hid (Src wr B g) ∧ Hid (w.grownBy wr (some g)))
          (fun ov _ => 50 - lenD ov)
        case atStart => exact ⟨_, _, [], rfl, by simp, by omega, HO5.out, HQW5.out, HGW5.out⟩
        case round =>
          obtain ⟨v0, rfl⟩ : ∃ v0, v0 = wr := ⟨_, rfl⟩
          obtain ⟨A2, c2, E, rfl, hE, hzr2, HOv, HQv0, HGv0⟩ := hrel
          clear HO5
          go_wp2_with fail
          refine (l01Next_c B g (2) v0 HQv0.out (by omega)).mono ?_
          rintro e v1 ⟨a, rfl, ⟨ha0, ha1⟩, hqv1, hgv1⟩
          have HQv1 := Lib.hid hqv1; have HGv1 := Lib.hid (grown_trans' HGv0.out hgv1); have hzv1 := hgv1.size
          clear hqv1
          have HO1 := Lib.hid (HOv.out.kept hgv1 (.inr (fun e => by have := HOv.out.lt _ e; omega)))
          by_cases hgo : (E.length : Int) < 40 + a
          · go_wp2_with (first | (at_builtin; refine wpList_push v1 rfl _ _ 30 rfl w.heap.size 2 i0 _ 1 8 Tryz.underlying30 hi hz0 hz1 hz2 rfl (by decide) (.slice A2 E.length c2) (E.length) (E.map (Value.int .i64)) (by rfl) HO1.out [.int .i64 (150 + (E.length : Int))] 2 (by rfl) rfl (by simp [Value.oneCell']) (by unfold maxLen; omega) (by omega) (by omega) ?_; intro A5 c5 v5 ho5 hg5; have HO5 := Lib.hid (own_snocD ho5); have HQv5 := Lib.hid (HQv1.out.other hg5 (fun k hk => by have := HO1.out.lt k hk; omega)); have HGv5 := Lib.hid (HGv1.out.andThen hg5 (fun k hk => .inl (by have := HO1.out.lt k hk; omega))); have hz5 := hg5.size; clear ho5 hg5))
            go_roundw
            case rel => exact ⟨A5, c5, E ++ [150 + (E.length : Int)], by simp, by simp; omega, by omega, HO5, HQv5, HGv5⟩
            case measure => simp [lenD]; omega
          · go_wp2
            go_ret
            exact ⟨A2, c2, E, rfl, HO1.out, by omega, HQv1.out, HGv1.out⟩
      have hr2 : 2 ≤ r := by omega
      go_wp2
      go_ret
      exact ⟨A, c, D, rfl, HO5.out, by omega, HQw4.out, HGw4.out⟩
end Go.Proofs.YtiamignopfhkfaaGreatDoor
end
section
namespace Go.Proofs.YtiamignopfhkfaaGreatDoor
open Go.RowKit
set_option linter.unusedVariables false
def NumP (B g : Nat) (w : World) (e : Ending) (w' : World) : Prop := ∃ x : Int, e = .returned (.int .i64 x) ∧ (Lit.int .i64 x).wf = true ∧ Src w' B g ∧ w.grownBy w' (some g)
theorem wf_small {x : Int} (h : 0 ≤ x ∧ x ≤ 1000000) : (Lit.int .i64 x).wf = true := by
  simp [Lit.wf, IntKind.min, IntKind.max, IntKind.bits, IntKind.signed]; omega
end Go.Proofs.YtiamignopfhkfaaGreatDoor
end
section
namespace Go.Proofs.YtiamignopfhkfaaGreatDoor
open Go.RowKit
set_option linter.unusedVariables false
def waitL (L : List MotionD) : Nat → Int → List Int
  | 0, _ => []
  | f + 1, q => if findM q L 0 < 0 then [] else if closedB (getM L (findM q L 0)) then [] else q :: waitL L f (getM L (findM q L 0)).after
theorem waitL_len (L : List MotionD) : ∀ (f : Nat) (q : Int), (waitL L f q).length ≤ f
  | 0, q => by simp [waitL]
  | f + 1, q => by
    unfold waitL
    split
    · simp
    · split
      · simp
      · have := waitL_len L f (getM L (findM q L 0)).after
        simp only [List.length_cons]; omega
theorem waitL_neg {L : List MotionD} {q : Int} (h : findM q L 0 < 0) : ∀ f, waitL L f q = []
  | 0 => rfl
  | f + 1 => by rw [waitL, if_pos h]
theorem waitL_shut {L : List MotionD} {q : Int} {j f : Nat} (h : findM q L 0 = (j : Int)) (hj : j < L.length) (hc : decide (3 ≤ L[j].state) = true) : waitL L (f + 1) q = [] := by
  rw [waitL, if_neg (by omega), getM_at h hj, closedB, if_pos hc]
theorem waitL_go {L : List MotionD} {q : Int} {j f : Nat} (h : findM q L 0 = (j : Int)) (hj : j < L.length) (hc : decide (3 ≤ L[j].state) = false) : waitL L (f + 1) q = q :: waitL L f L[j].after := by
  rw [waitL, if_neg (by omega), getM_at h hj, closedB, if_neg (by rw [hc]; simp)]
theorem findM_num {q : Int} : ∀ {L : List MotionD} {i : Int} {j : Nat}, 0 ≤ i → findM q L i = i + j → (hj : j < L.length) → L[j].number = q
  | [], i, j, _, h, hj => by simp at hj
  | m :: L, i, j, hi, h, hj => by
    unfold findM at h
    split at h
    · rename_i e
      have : j = 0 := by omega
      subst this; exact e
    · rename_i e
      cases j with
      | zero => rcases findM_rng q L (i + 1) with h1 | h1 <;> omega
      | succ j =>
        have hj' : j < L.length := by simpa using hj
        exact findM_num (L := L) (i := i + 1) (j := j) (by omega) (by rw [h]; omega) hj'
theorem find_num {q : Int} {L : List MotionD} {j : Nat} (h : findM q L 0 = (j : Int)) (hj : j < L.length) : L[j].number = q := findM_num (Int.le_refl 0) (by rw [h]; omega) hj
theorem find_zero {L : List MotionD} (h : motsOk L = true) : findM 0 L 0 < 0 := by
  rcases Int.lt_or_le (findM 0 L 0) 0 with h1 | h1
  · exact h1
  · obtain ⟨j, hj, hjl⟩ := findM_idx (Int.not_lt.2 h1)
    have := find_num hj hjl
    have := (mots_bds h hjl).1
    omega
theorem find_after {L : List MotionD} (h : motsOk L = true) {k : Nat} (hk : k < L.length) : findM L[k].after L 0 < k := by
  have := mots_ok h hk
  rw [motAt_eq hk, Bool.and_eq_true, Bool.or_eq_true, decide_eq_true_eq] at this
  rcases this.2 with e | e
  · have e : L[k].after = 0 := by simpa using e
    rw [e]; have := find_zero h; omega
  · rw [findM_take (Int.le_refl 0) e]
    have := List.length_take_le k L
    rcases findM_rng L[k].after (L.take k) 0 with h1 | h1 <;> omega
def waitFor (L : List MotionD) (n : Int) : List Int := if codeM L n 0 = 0 then waitL L L.length n else []
theorem waitFor_len (L : List MotionD) (n : Int) : (waitFor L n).length ≤ L.length := by
  unfold waitFor; split
  · exact waitL_len _ _ _
  · simp


end Go.Proofs.YtiamignopfhkfaaGreatDoor
end
