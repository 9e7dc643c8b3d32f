/- Contract of the draw of motions: l30List. Contract: likeMotions. -/
import Derived.Test.YtiamignopfhkfaaGreatDoorZDrawM2
import Derived.Test.YtiamignopfhkfaaGreatDoorZ2
section
namespace Go.Proofs.YtiamignopfhkfaaGreatDoor
open Go.RowKit
set_option linter.unusedVariables false
attribute [local go_sem ↓] Go.wp_at_zero Go.wp_at_succ
def ListP (B g : Nat) (w : World) (e : Ending) (w' : World) : Prop := ∃ (A : Option Addr) (c : Nat) (L : List MotionD), e = .returned (.slice A L.length c) ∧ w'.ownsRow w.heap.size 70 6 (.slice A L.length c) L.length (L.flatMap motionC) ∧ L.length ≤ 13 ∧ (∀ x ∈ L, MotionW x) ∧ Src w' B g ∧ w.grownBy w' (some g)
theorem put_motion {B g : Nat} {w W : World} (hS : Src w B g) {h c k i : Nat} {L : List MotionD} {u : Value} {y : MotionD} (HO : W.ownsRow w.heap.size 70 6 (.slice (some ⟨h, 0, none⟩) L.length c) L.length (L.flatMap motionC)) (HQ : Src W B g) (HG : w.grownBy W (some g)) (hl : L.length ≤ 13) (hW : ∀ x ∈ L, MotionW x)
    (hk : k < L.length) (hi : i < 6) (e : (motionC L[k]).set i u = motionC y) (hy : MotionW y) : ListP B g w (.returned (.slice (some ⟨h, 0, none⟩) L.length c)) (W.setCell ⟨h, k * 6 + i, none⟩ u) := by
  have h1 := (HO.stored (k * 6 + i) u).1
  have hb := (own_lt HO).1
  have hge := hS.ge
  have hlt := hS.lt
  rw [flat_set_at (f := motionC) (m := 6) (fun _ => rfl) hk hi e] at h1
  refine ⟨some ⟨h, 0, none⟩, c, L.set k y, by rw [List.length_set], by rw [List.length_set]; exact h1, by rw [List.length_set]; exact hl, fun x hx => ?_, HQ.setOther (by omega) (by omega) _ _, grown_own HG hb _ _⟩
  rcases List.mem_or_eq_of_mem_set hx with h | h
  · exact hW x h
  · rw [h]; exact hy
def talT : ByteArray := { data := #[116, 97, 108] }
theorem own_snocM {W : World} {b : Nat} {A : Option Addr} {c : Nat} {D : List MotionD} {y : MotionD} (h : W.ownsRow b 70 6 (.slice A (D.length + 1) c) (D.length + 1) (D.flatMap motionC ++ motionC y)) : W.ownsRow b 70 6 (.slice A (D ++ [y]).length c) (D ++ [y]).length ((D ++ [y]).flatMap motionC) := by
  rw [List.length_append, List.flatMap_append, show [y].flatMap motionC = motionC y from by simp]; exact h
def NumB (D : List MotionD) : Prop := ∀ x ∈ D, MotionW x ∧ 0 ≤ x.number ∧ x.number ≤ 1000 + D.length
theorem numB_snoc {D : List MotionD} (h : NumB D) (hl : D.length ≤ 20) {q : Int} (h0 : 0 ≤ q) (h1 : q ≤ 1000 + D.length) : NumB (D ++ [⟨q + 1, talT, 0, 0, 0, 0⟩]) := by
  intro x hx
  rw [List.length_append]
  rcases List.mem_append.1 hx with h2 | h2
  · have := h x h2; exact ⟨this.1, this.2.1, by have := this.2.2; simp; omega⟩
  · rw [List.mem_singleton.1 h2]
    refine ⟨⟨wf_small (by show 0 ≤ q + 1 ∧ q + 1 ≤ 1000000; omega), by show talT.size ≤ maxLen; rw [show talT.size = 3 from rfl]; unfold maxLen; omega, wf_small (x := 0) (by decide), wf_small (x := 0) (by decide), wf_small (x := 0) (by decide), wf_small (x := 0) (by decide)⟩, by show 0 ≤ q + 1; omega, by show q + 1 ≤ _; simp; omega⟩
def lenV : Value → Nat
  | .slice _ n _ => n
  | _ => 0
theorem wf_mid {x : Int} (h : -1000000 ≤ x ∧ x ≤ 1000000) : (Lit.int .i64 x).wf = true := by
  simp [Lit.wf, IntKind.min, IntKind.max, IntKind.bits, IntKind.signed]; omega
set_option maxRecDepth 100000 in
set_option maxHeartbeats 4000000 in
theorem l30List_c (B g : Nat) (w : World) (hS : Src w B g) : Calls Tryz.prog 52 #[.pointer (some ⟨g, 0, none⟩)] w (ListP B g w) := by
  have HS := Lib.hid hS
  have hgB := hS.ge; have hgl := hS.lt
  have HQw := Lib.hid hS; have HGw := Lib.hid (World.grownBy.refl w (some g)); clear hS
  go_enter Tryz.func52, Tryz.ntmps52
  go_wp2_with fail
  refine (l30Good_c B g w HS.out).mono ?_
  rintro e w1 ⟨A, c, L, rfl, ho, hM, hq, hg⟩
  have HO := Lib.hid ho; have HM := Lib.hid hM; have HQw1 := Lib.hid hq; have HGw1 := Lib.hid hg
  have HW := Lib.hid (mots_W hM)
  have hzw1 := hg.size
  have h12 := mots_len hM
  have hcap := own_cap ho
  clear ho hM hq hg
  by_cases hL : 0 < L.length
  · have hLi : (0 : Int) < (L.length : Int) := by omega
    obtain ⟨h, rfl, hh1, hh2⟩ := own_head HO.out hL
    go_wp2_with fail
    refine (l01Next_c B g ((L.length : Int)) w1 HQw1.out (by omega)).mono ?_
    rintro e w2 ⟨k, rfl, ⟨hk0, hk1⟩, hqw2, hgw2⟩
    have HQw2 := Lib.hid hqw2; have HGw2 := Lib.hid (grown_trans' HGw1.out hgw2); have hzw2 := hgw2.size
    clear hqw2
    have HO2 := Lib.hid (HO.out.kept hgw2 (.inr (fun e => by have := HO.out.lt _ e; omega)))
    obtain ⟨k, rfl⟩ := Int.eq_ofNat_of_zero_le hk0
    have hlt : k < L.length := by omega
    have hkc : (k : Int) < (L.length : Int) := by omega
    go_wp2_with fail
    refine (l01Next_c B g (40) w2 HQw2.out (by omega)).mono ?_
    rintro e w3 ⟨q, rfl, ⟨hq0, hq1⟩, hqw3, hgw3⟩
    have HQw3 := Lib.hid hqw3; have HGw3 := Lib.hid (grown_trans' HGw2.out hgw3); have hzw3 := hgw3.size
    clear hqw3
    have HO3 := Lib.hid (HO2.out.kept hgw3 (.inr (fun e => by have := HO2.out.lt _ e; omega)))
    have HC := Lib.hid (fun (W1 : World) (h : W1.ownsRow w.heap.size 70 6 (.slice (some ⟨h, 0, none⟩) L.length c) L.length (L.flatMap motionC)) (j : Nat) (hj : j < L.length * 6) => own_cell h (j := j) hj)
    have HBD := Lib.hid (mots_bds HM.out hlt)
    have HMW := Lib.hid (mots_W HM.out _ (List.getElem_mem hlt))
    clear HO HO2 HQw1 HQw2 HGw1 HGw2
    by_cases c0 : q = 0
    · subst c0
      go_wp2_with fail
      refine (l01Next_c B g (8) w3 HQw3.out (by omega)).mono ?_
      rintro e w4 ⟨s, rfl, ⟨hs0, hs1⟩, hqw4, hgw4⟩
      have HQw4 := Lib.hid hqw4; have HGw4 := Lib.hid (grown_trans' HGw3.out hgw4); have hzw4 := hgw4.size
      clear hqw4
      have HO4 := Lib.hid (HO3.out.kept hgw4 (.inr (fun e => by have := HO3.out.lt _ e; omega)))
      obtain ⟨u4, f4⟩ := HC.out w4 HO4.out (k * 6 + 4) (by omega)
      have z4 := HO4.out.frozenAt (k * 6 + 4)
      go_wp2
      go_ret
      obtain ⟨m0, m1, m2, m3, m4, m5⟩ := HMW.out
      exact put_motion HS.out (i := 4) (y := ⟨L[k].number, L[k].party, L[k].filed, L[k].changed, s - 1, L[k].after⟩) HO4.out HQw4.out HGw4.out (by omega) HW.out hlt (by omega) rfl ⟨m0, m1, m2, m3, wf_mid (x := s - 1) (by omega), m5⟩
    by_cases c1 : q = 1
    · subst c1
      obtain ⟨u5, f5⟩ := HC.out w3 HO3.out (k * 6 + 5) (by omega)
      have z5 := HO3.out.frozenAt (k * 6 + 5)
      obtain ⟨hbq, hcq⟩ := Rd.elemS motionC 6 (fun _ => rfl) (Rd.of_own HO3.out) (by omega) hlt
      have q0 : w3.cell? ⟨h, 0 + k * 6, none⟩ = some (.int .i64 L[k].number) := hcq k hlt 0 _ rfl
      have q1 : w3.cell? ⟨h, 0 + k * 6 + 1, none⟩ = some (.string L[k].party) := hcq k hlt 1 _ rfl
      have q2 : w3.cell? ⟨h, 0 + k * 6 + 2, none⟩ = some (.int .i64 L[k].filed) := hcq k hlt 2 _ rfl
      have q3 : w3.cell? ⟨h, 0 + k * 6 + 3, none⟩ = some (.int .i64 L[k].changed) := hcq k hlt 3 _ rfl
      have q4 : w3.cell? ⟨h, 0 + k * 6 + 4, none⟩ = some (.int .i64 L[k].state) := hcq k hlt 4 _ rfl
      have q5 : w3.cell? ⟨h, 0 + k * 6 + 5, none⟩ = some (.int .i64 L[k].after) := hcq k hlt 5 _ rfl
      simp only [Nat.zero_add] at q0
      clear hcq q1 q2 q3 q4 q5
      generalize hx : L[k] = x at *
      obtain ⟨x0, x1, x2, x3, x4, x5⟩ := x
      have HX := Lib.hid hx
      clear hx
      go_wp2
      go_ret
      obtain ⟨m0, m1, m2, m3, m4, m5⟩ := HMW.out
      exact put_motion HS.out (i := 5) (y := ⟨x0, x1, x2, x3, x4, x0⟩) HO3.out HQw3.out HGw3.out (by omega) HW.out hlt (by omega) (by rw [HX.out]; rfl) ⟨m0, m1, m2, m3, m4, m0⟩
    by_cases c2 : q = 2
    · subst c2
      obtain ⟨hbq, hcq⟩ := Rd.elemS motionC 6 (fun _ => rfl) (Rd.of_own HO3.out) (by omega) hlt
      have q0 : w3.cell? ⟨h, 0 + k * 6, none⟩ = some (.int .i64 L[k].number) := hcq k hlt 0 _ rfl
      have q1 : w3.cell? ⟨h, 0 + k * 6 + 1, none⟩ = some (.string L[k].party) := hcq k hlt 1 _ rfl
      have q2 : w3.cell? ⟨h, 0 + k * 6 + 2, none⟩ = some (.int .i64 L[k].filed) := hcq k hlt 2 _ rfl
      have q3 : w3.cell? ⟨h, 0 + k * 6 + 3, none⟩ = some (.int .i64 L[k].changed) := hcq k hlt 3 _ rfl
      have q4 : w3.cell? ⟨h, 0 + k * 6 + 4, none⟩ = some (.int .i64 L[k].state) := hcq k hlt 4 _ rfl
      have q5 : w3.cell? ⟨h, 0 + k * 6 + 5, none⟩ = some (.int .i64 L[k].after) := hcq k hlt 5 _ rfl
      simp only [Nat.zero_add] at q2
      clear hcq q0 q1 q3 q4 q5
      generalize hx : L[k] = x at *
      obtain ⟨x0, x1, x2, x3, x4, x5⟩ := x
      have HX := Lib.hid hx
      clear hx
      have hbd := HBD.out
      simp only at hbd
      obtain ⟨hb1, hb2, hb3, hb4⟩ := hbd
      go_wp2_with fail
      generalize hW4 : w3.alloc _ = W4
      have hbW4 : Below w3.heap.size w3 W4 := by subst hW4; exact (Below.refl _ _).alloc (Nat.le_refl _) _
      have hsW4 : W4.heap.size = w3.heap.size + 1 := by subst hW4; simp
      have cxW4_0 : ∀ i, W4.cell? ⟨w3.heap.size, i, none⟩ = (#[.int .i64 (x2 - 1), .int .i64 20000, .int .i64 20001] : Array Value)[i]? := by intro i; subst hW4; simp [go_sem]
      have fzW4_0 : ∀ i, W4.frozen? ⟨w3.heap.size, i, none⟩ = false := by intro i; subst hW4; simp [go_sem]
      have HSW4 := Lib.hid hsW4; clear hW4 hsW4
      have HQW4 := Lib.hid (HQw3.out.below hbW4); have HGW4 := Lib.hid (grown_trans' HGw3.out (grown_of_below hbW4 _)); have hzW4 : W4.heap.size = w3.heap.size + 1 := HSW4.out
      clear HSW4
      have HO4 := Lib.hid (own_below HO3.out hbW4)
      refine (l01Pick_c B g (w3.heap.size) 0 _ [x2 - 1, 20000, 20001] W4 HQW4.out (by omega) (pick_box (L := [x2 - 1, 20000, 20001]) (fun i => by exact cxW4_0 i)) (by simp) (by simp) (by simp)).mono ?_
      rintro e w5 ⟨p, rfl, hpm, hqw5, hgw5⟩
      have HQw5 := Lib.hid hqw5; have HGw5 := Lib.hid (grown_trans' HGW4.out hgw5); have hzw5 := hgw5.size; have Hpm := Lib.hid hpm
      clear hqw5 hpm
      have HO5 := Lib.hid (HO4.out.kept hgw5 (.inr (fun e => by have := HO4.out.lt _ e; omega)))
      obtain ⟨u3, f3⟩ := HC.out w5 HO5.out (k * 6 + 3) (by omega)
      have z3 := HO5.out.frozenAt (k * 6 + 3)
      go_wp2
      go_ret
      obtain ⟨m0, m1, m2, m3, m4, m5⟩ := HMW.out
      have hp : p = x2 - 1 ∨ p = 20000 ∨ p = 20001 := by simpa using Hpm.out
      exact put_motion HS.out (i := 3) (y := ⟨x0, x1, x2, p, x4, x5⟩) HO5.out HQw5.out HGw5.out (by omega) HW.out hlt (by omega) (by rw [HX.out]; rfl) ⟨m0, m1, m2, wf_mid (x := p) (by omega), m4, m5⟩
    by_cases c3 : q = 3
    · subst c3
      have HNB : Hid (NumB L) := fun x hx => ⟨HW.out x hx, by
        obtain ⟨j, hj, rfl⟩ := List.getElem_of_mem hx
        have := (mots_bds HM.out hj).1; omega, by
        obtain ⟨j, hj, rfl⟩ := List.getElem_of_mem hx
        have := (mots_bds HM.out hj).1; omega⟩
      obtain ⟨i0, hi, hz0, hz1, hz2⟩ := info_parts motion_info
      have HSZ : Hid (w.heap.size ≤ w3.heap.size) := by unfold Hid; omega
      clear HC HBD HMW
      go_wp2
      go_loopw [3] (fun ov wr => ∃ (A : Option Addr) (c : Nat) (D : List MotionD), ov = .slice A D.length c ∧ 0 < D.length ∧ D.length ≤ 13 ∧ Hid (NumB D) ∧ w.heap.size ≤ wr.heap.size ∧ Hid (wr.ownsRow w.heap.size 70 6 (.slice A D.length c) D.length (D.flatMap motionC)) ∧ Hid (Src wr B g) ∧ Hid (w.grownBy wr (some g)))
        (fun ov _ => 20 - lenV ov)
      case atStart => exact ⟨_, _, L, rfl, by omega, by omega, HNB.out, HSZ.out, HO3.out, HQw3.out, HGw3.out⟩
      case round =>
        obtain ⟨v0, rfl⟩ : ∃ v0, v0 = wr := ⟨_, rfl⟩
        obtain ⟨A, c, D, rfl, hD0, hD13, HN, hzr, HOr, HQv0, HGv0⟩ := hrel
        clear HO3 HNB HSZ HQw3 HGw3 HM HW hL hLi
        have hDi : (0 : Int) < (D.length : Int) := by omega
        have hcap := own_cap HOr.out
        go_wp2_with fail
        refine (l01Next_c B g (2) v0 HQv0.out (by omega)).mono ?_
        rintro e v1 ⟨a, rfl, ⟨ha0, ha1⟩, hqv1, hgv1⟩
        have HQv1 := Lib.hid hqv1; have HGv1 := Lib.hid (grown_trans' HGv0.out hgv1); have hzv1 := hgv1.size
        clear hqv1
        have HO1 := Lib.hid (HOr.out.kept hgv1 (.inr (fun e => by have := HOr.out.lt _ e; omega)))
        by_cases hgo : (D.length : Int) < 12 + a
        · have hlt2 : D.length - 1 < D.length := by omega
          obtain ⟨h2, rfl, hh3, hh4⟩ := own_head HO1.out hD0
          obtain ⟨hbf, hcf⟩ := Rd.elemS motionC 6 (fun _ => rfl) (Rd.of_own HO1.out) (by omega) hlt2
          have f0 : v1.cell? ⟨h2, 0 + (D.length - 1) * 6, none⟩ = some (.int .i64 D[(D.length - 1)].number) := hcf (D.length - 1) hlt2 0 _ rfl
          have f1 : v1.cell? ⟨h2, 0 + (D.length - 1) * 6 + 1, none⟩ = some (.string D[(D.length - 1)].party) := hcf (D.length - 1) hlt2 1 _ rfl
          have f2 : v1.cell? ⟨h2, 0 + (D.length - 1) * 6 + 2, none⟩ = some (.int .i64 D[(D.length - 1)].filed) := hcf (D.length - 1) hlt2 2 _ rfl
          have f3 : v1.cell? ⟨h2, 0 + (D.length - 1) * 6 + 3, none⟩ = some (.int .i64 D[(D.length - 1)].changed) := hcf (D.length - 1) hlt2 3 _ rfl
          have f4 : v1.cell? ⟨h2, 0 + (D.length - 1) * 6 + 4, none⟩ = some (.int .i64 D[(D.length - 1)].state) := hcf (D.length - 1) hlt2 4 _ rfl
          have f5 : v1.cell? ⟨h2, 0 + (D.length - 1) * 6 + 5, none⟩ = some (.int .i64 D[(D.length - 1)].after) := hcf (D.length - 1) hlt2 5 _ rfl
          simp only [Nat.zero_add] at f0
          have hnb := HN.out D[D.length - 1] (List.getElem_mem hlt2)
          clear hcf f1 f2 f3 f4 f5
          generalize D[D.length - 1].number = x0 at *
          have hL1 : (1 : Int) ≤ D.length := by omega
          have hwf := hnb.1
          obtain ⟨_, hn1, hn2⟩ := hnb
          clear hwf
          go_wp2_with (first | (at_builtin; refine wpList_push v1 rfl _ _ 32 rfl w.heap.size 70 i0 _ 6 56 Tryz.underlying32 hi hz0 hz1 hz2 rfl (by decide) (.slice (some ⟨h2, 0, none⟩) D.length c) (D.length) (D.flatMap motionC) (by rfl) HO1.out [.int .i64 (x0 + 1), .string { data := #[116, 97, 108] }, .int .i64 0, .int .i64 0, .int .i64 0, .int .i64 0] 70 (by rfl) rfl (by simp [Value.oneCell']) (by unfold maxLen; omega) (by omega) (by omega) ?_; intro A5 c5 v5 ho5 hg5; have HO5 := Lib.hid (own_snocM (y := ⟨x0 + 1, talT, 0, 0, 0, 0⟩) ho5); have HQv5 := Lib.hid (HQv1.out.other hg5 (fun k hk => by have := HO1.out.lt k hk; omega)); have HGv5 := Lib.hid (HGv1.out.andThen hg5 (fun k hk => .inl (by have := HO1.out.lt k hk; omega))); have hz5 := hg5.size; clear ho5 hg5))
          go_roundw
          case rel => exact ⟨A5, c5, D ++ [⟨x0 + 1, talT, 0, 0, 0, 0⟩], by simp, by simp, by simp; omega, Lib.hid (numB_snoc HN.out (by omega) hn1 hn2), by omega, HO5, HQv5, HGv5⟩
          case measure => simp [lenV]; omega
        · go_wp2
          go_ret
          exact ⟨A, c, D, rfl, HO1.out, by omega, fun x hx => (HN.out x hx).1, HQv1.out, HGv1.out⟩
    by_cases c4 : q = 4
    · subst c4
      have hlt2 : L.length - 1 < L.length := by omega
      have hL1 : (1 : Int) ≤ L.length := by omega
      go_wp2_with fail
      generalize hW4 : w3.alloc _ = W4
      have hbW4 : Below w3.heap.size w3 W4 := by subst hW4; exact (Below.refl _ _).alloc (Nat.le_refl _) _
      have hsW4 : W4.heap.size = w3.heap.size + 1 := by subst hW4; simp
      have cxW4_0 : ∀ i, W4.cell? ⟨w3.heap.size, i, none⟩ = (#[.int .i64 1000, .int .i64 1001] : Array Value)[i]? := by intro i; subst hW4; simp [go_sem]
      have fzW4_0 : ∀ i, W4.frozen? ⟨w3.heap.size, i, none⟩ = false := by intro i; subst hW4; simp [go_sem]
      have HSW4 := Lib.hid hsW4; clear hW4 hsW4
      have HQW4 := Lib.hid (HQw3.out.below hbW4); have HGW4 := Lib.hid (grown_trans' HGw3.out (grown_of_below hbW4 _)); have hzW4 : W4.heap.size = w3.heap.size + 1 := HSW4.out
      clear HSW4
      have HO4 := Lib.hid (own_below HO3.out hbW4)
      refine (l01Pick_c B g (w3.heap.size) 0 _ [1000, 1001] W4 HQW4.out (by omega) (pick_box (L := [1000, 1001]) (fun i => by exact cxW4_0 i)) (by simp) (by simp) (by simp)).mono ?_
      rintro e w5 ⟨p, rfl, hpm, hqw5, hgw5⟩
      have HQw5 := Lib.hid hqw5; have HGw5 := Lib.hid (grown_trans' HGW4.out hgw5); have hzw5 := hgw5.size; have Hpm := Lib.hid hpm
      clear hqw5 hpm
      have HO5 := Lib.hid (HO4.out.kept hgw5 (.inr (fun e => by have := HO4.out.lt _ e; omega)))
      obtain ⟨u0, f0⟩ := HC.out w5 HO5.out ((L.length - 1) * 6) (by omega)
      have z0 := HO5.out.frozenAt ((L.length - 1) * 6)
      go_wp2
      go_ret
      obtain ⟨m0, m1, m2, m3, m4, m5⟩ := mots_W HM.out _ (List.getElem_mem hlt2)
      have hp : p = 1000 ∨ p = 1001 := by simpa using Hpm.out
      exact put_motion HS.out (k := L.length - 1) (i := 0) (y := ⟨p, L[L.length - 1].party, L[L.length - 1].filed, L[L.length - 1].changed, L[L.length - 1].state, L[L.length - 1].after⟩) HO5.out HQw5.out HGw5.out (by omega) HW.out hlt2 (by omega) rfl ⟨wf_mid (x := p) (by omega), m1, m2, m3, m4, m5⟩
    have hq5 : 5 ≤ q := by omega
    go_wp2
    go_ret
    exact ⟨some ⟨h, 0, none⟩, c, L, rfl, HO3.out, by omega, HW.out, HQw3.out, HGw3.out⟩
  · have hLi : ¬ (0 : Int) < (L.length : Int) := by omega
    go_wp2
    go_ret
    exact ⟨A, c, L, rfl, HO.out, by omega, HW.out, HQw1.out, HGw1.out⟩
end Go.Proofs.YtiamignopfhkfaaGreatDoor
end
section
namespace Go.Proofs.YtiamignopfhkfaaGreatDoor
open Go.RowKit
set_option linter.unusedVariables false
set_option maxHeartbeats 4000000 in
theorem likeMotions_c (A A' : Option Addr) (n c c' : Nat) (L : List MotionD) (w : World) (hn : L.length = n) (hr : Rd w w.heap.size A (n * 6) (L.flatMap motionC)) (hr' : Rd w w.heap.size A' (n * 6) (L.flatMap motionC)) (hl : n ≤ 140737488355328) :
    Calls Tryz.prog 24 #[.slice A n c, .slice A' n c'] w fun e w' => e = .returned (.bool true) ∧ Below w.heap.size w w' := by
  subst hn
  go_enter Tryz.func24, Tryz.ntmps24
  go_wp2
  go_loopw [5] (fun i wr => ∃ k : Nat, k ≤ L.length ∧ i = .int .i64 k ∧ Below w.heap.size w wr) (fun i _ => L.length - (intOf i).toNat)
  case atStart => exact ⟨0, by omega, rfl, Below.refl _ _⟩
  case round =>
    obtain ⟨k, hk, rfl, hB⟩ := hrel
    by_cases hlt : k < L.length
    · obtain ⟨b, off, rfl, hb, hc⟩ := Rd.elem motionC 6 (fun _ => rfl) hr (by omega) hlt
      obtain ⟨b', off', rfl, hb', hc'⟩ := Rd.elem motionC 6 (fun _ => rfl) hr' (by omega) hlt
      have hf0 : wr.cell? ⟨b, off + k * 6, none⟩ = some (.int .i64 L[k].number) := by rw [hB.cell (by exact hb)]; exact hc k hlt 0 _ rfl
      have hg0 : wr.cell? ⟨b', off' + k * 6, none⟩ = some (.int .i64 L[k].number) := by rw [hB.cell (by exact hb')]; exact hc' k hlt 0 _ rfl
      have hf1 : wr.cell? ⟨b, off + k * 6 + 1, none⟩ = some (.string L[k].party) := by rw [hB.cell (by exact hb)]; exact hc k hlt 1 _ rfl
      have hg1 : wr.cell? ⟨b', off' + k * 6 + 1, none⟩ = some (.string L[k].party) := by rw [hB.cell (by exact hb')]; exact hc' k hlt 1 _ rfl
      have hf2 : wr.cell? ⟨b, off + k * 6 + 2, none⟩ = some (.int .i64 L[k].filed) := by rw [hB.cell (by exact hb)]; exact hc k hlt 2 _ rfl
      have hg2 : wr.cell? ⟨b', off' + k * 6 + 2, none⟩ = some (.int .i64 L[k].filed) := by rw [hB.cell (by exact hb')]; exact hc' k hlt 2 _ rfl
      have hf3 : wr.cell? ⟨b, off + k * 6 + 3, none⟩ = some (.int .i64 L[k].changed) := by rw [hB.cell (by exact hb)]; exact hc k hlt 3 _ rfl
      have hg3 : wr.cell? ⟨b', off' + k * 6 + 3, none⟩ = some (.int .i64 L[k].changed) := by rw [hB.cell (by exact hb')]; exact hc' k hlt 3 _ rfl
      have hf4 : wr.cell? ⟨b, off + k * 6 + 4, none⟩ = some (.int .i64 L[k].state) := by rw [hB.cell (by exact hb)]; exact hc k hlt 4 _ rfl
      have hg4 : wr.cell? ⟨b', off' + k * 6 + 4, none⟩ = some (.int .i64 L[k].state) := by rw [hB.cell (by exact hb')]; exact hc' k hlt 4 _ rfl
      have hf5 : wr.cell? ⟨b, off + k * 6 + 5, none⟩ = some (.int .i64 L[k].after) := by rw [hB.cell (by exact hb)]; exact hc k hlt 5 _ rfl
      have hg5 : wr.cell? ⟨b', off' + k * 6 + 5, none⟩ = some (.int .i64 L[k].after) := by rw [hB.cell (by exact hb')]; exact hc' k hlt 5 _ rfl
      clear hc hc'
      generalize L[k].number = a0 at *
      generalize L[k].party = a1 at *
      generalize L[k].filed = a2 at *
      generalize L[k].changed = a3 at *
      generalize L[k].state = a4 at *
      generalize L[k].after = a5 at *
      have hk0 : (0 : Int) ≤ (k : Int) := by omega
      have hk1 : (k : Int) < (L.length : Int) := by omega
      have kf0 := cell_regrown hf0; have kg0 := cell_regrown hg0
      have kf1 := cell_regrown hf1; have kg1 := cell_regrown hg1
      have kf2 := cell_regrown hf2; have kg2 := cell_regrown hg2
      have kf3 := cell_regrown hf3; have kg3 := cell_regrown hg3
      have kf4 := cell_regrown hf4; have kg4 := cell_regrown hg4
      have kf5 := cell_regrown hf5; have kg5 := cell_regrown hg5
      go_wp2_with fail
      refine wp_region_bel mixed (by kernel_rfl) ?_
      repeat (go_big_quiet_step (fail))
      refine wpQuiet_nil ?_
      intro w1 hw1
      clear hf0 hg0 hf1 hg1 hf2 hg2 hf3 hg3 hf4 hg4 hf5 hg5 kf0 kg0 kf1 kg1 kf2 kg2 kf3 kg3 kf4 kg4 kf5 kg5
      go_wp2
      go_roundw
      case rel => exact ⟨k + 1, by omega, by go_num, bt hB hw1⟩
      case measure => simp [intOf]; omega
    · obtain rfl : k = L.length := by omega
      go_wp2
      go_ret
      exact ⟨rfl, hB⟩
end Go.Proofs.YtiamignopfhkfaaGreatDoor
end
