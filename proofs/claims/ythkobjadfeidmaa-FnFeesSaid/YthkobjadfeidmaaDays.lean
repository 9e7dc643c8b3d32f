/- Contracts: DaysFor of both texts. -/
import Derived.Test.YthkobjadfeidmaaPays
namespace Go.Proofs.Ythkobjadfeidmaa
open Go.RowKit

theorem feesN_zero (L : List TierD) : feesN L 0 = 0 := rfl
theorem feesN_succ (L : List TierD) (k : Nat) : feesN L (k + 1) = feesN L k + feeTo L ((k : Int) + 1) := rfl
attribute [local irreducible] feesN
/-- n is the greatest number of days, up to 1000, that costs no more than x. -/
def DaysAre (L : List TierD) (x : Int) (n : Nat) : Prop := n ≤ 1000 ∧ (∀ j, j < n → feesN L (j + 1) ≤ x) ∧ (n < 1000 → x < feesN L (n + 1))
theorem DaysAre.one {L : List TierD} {x : Int} {n m : Nat} (h : DaysAre L x n) (k : DaysAre L x m) : n = m := by
  rcases Nat.lt_trichotomy n m with hlt | e | hlt
  · have := k.2.1 n hlt; have := h.2.2 (by have := k.1; omega); omega
  · exact e
  · have := h.2.1 m hlt; have := k.2.2 (by have := h.1; omega); omega
noncomputable def daysN (L : List TierD) (x : Int) : Nat := Classical.epsilon (DaysAre L x)
theorem daysN_eq {L : List TierD} {x : Int} {n : Nat} (h : DaysAre L x n) : daysN L x = n := (Classical.epsilon_spec ⟨n, h⟩ : DaysAre L x (daysN L x)).one h
noncomputable def daysFor (L : List TierD) (me mi mo x : Int) : Int × Int := if tarOk L me mi mo then (if inB x 0 1000000000000 then (daysN L x, 0) else (0, 2)) else (0, 1)

set_option maxRecDepth 100000 in
set_option maxHeartbeats 4000000 in
theorem spec_DaysFor (A : Option Addr) (c : Nat) (L : List TierD) (me mi mo : Int) (x : Int) (w : World) (hr : Rd w w.heap.size A (L.length * 2) (L.flatMap tierC)) (hl : L.length ≤ 140737488355328) :
    Calls Try.prog 36 #[.agg #[.slice A L.length c, .int .i64 me, .int .i64 mi, .int .i64 mo], .int .i64 x] w fun e w' => e = .returned (.tuple #[.int .i64 (daysFor L me mi mo x).1, .int .i64 (daysFor L me mi mo x).2]) ∧ Below w.heap.size w w' := by
  cases hT : tarOk L me mi mo
  · go_enter Try.func36, Try.ntmps36
    go_wp2_with fail
    generalize hW0 : w.alloc _ = W0
    have hbW0 : Below w.heap.size w W0 := by subst hW0; exact (Below.refl _ _).alloc (Nat.le_refl _) _
    have hsW0 : W0.heap.size = w.heap.size + 1 := by subst hW0; simp
    have cxW0_0 : ∀ i, W0.cell? ⟨w.heap.size, i, none⟩ = (#[.slice A L.length c, .int .i64 me, .int .i64 mi, .int .i64 mo] : Array Value)[i]? := by intro i; subst hW0; simp [go_sem]
    have HSW0 := Lib.hid hsW0; clear hW0 hsW0
    refine (spec_IsTariff A c L me mi mo _ W0 (rdW hbW0 hr) hl hT).mono ?_
    rintro e w1 ⟨rfl, hb1⟩
    go_wp2
    go_ret2
    exact ⟨by simp [daysFor, hT], bt hbW0 hb1⟩
  · cases hS : inB x 0 1000000000000
    · go_enter Try.func36, Try.ntmps36
      go_wp2_with fail
      generalize hW0 : w.alloc _ = W0
      have hbW0 : Below w.heap.size w W0 := by subst hW0; exact (Below.refl _ _).alloc (Nat.le_refl _) _
      have hsW0 : W0.heap.size = w.heap.size + 1 := by subst hW0; simp
      have cxW0_0 : ∀ i, W0.cell? ⟨w.heap.size, i, none⟩ = (#[.slice A L.length c, .int .i64 me, .int .i64 mi, .int .i64 mo] : Array Value)[i]? := by intro i; subst hW0; simp [go_sem]
      have HSW0 := Lib.hid hsW0; clear hW0 hsW0
      refine (spec_IsTariff A c L me mi mo _ W0 (rdW hbW0 hr) hl hT).mono ?_
      rintro e w1 ⟨rfl, hb1⟩
      go_wp2_with fail
      refine (l01In_b _ _ _ _ w1 hS).mono ?_
      rintro e w2 ⟨rfl, rfl⟩
      go_wp2
      go_ret2
      exact ⟨by simp [daysFor, hT, hS], bt hbW0 hb1⟩
    · have hn := inB_iff.1 hS
      have hc := Lib.hid (tar_cents hT)
      go_enter Try.func36, Try.ntmps36
      go_wp2_with fail
      generalize hW0 : w.alloc _ = W0
      have hbW0 : Below w.heap.size w W0 := by subst hW0; exact (Below.refl _ _).alloc (Nat.le_refl _) _
      have hsW0 : W0.heap.size = w.heap.size + 1 := by subst hW0; simp
      have cxW0_0 : ∀ i, W0.cell? ⟨w.heap.size, i, none⟩ = (#[.slice A L.length c, .int .i64 me, .int .i64 mi, .int .i64 mo] : Array Value)[i]? := by intro i; subst hW0; simp [go_sem]
      have HSW0 := Lib.hid hsW0; clear hW0 hsW0
      refine (spec_IsTariff A c L me mi mo _ W0 (rdW hbW0 hr) hl hT).mono ?_
      rintro e w1 ⟨rfl, hb1⟩
      replace cxW0_0 := fun i => (hb1.cell (by (try simp only); have := HSW0.out; omega)).trans (cxW0_0 i)
      have hs1 := hb1.size
      go_wp2_with fail
      refine (l01In_b _ _ _ _ w1 hS).mono ?_
      rintro e w2 ⟨rfl, rfl⟩
      go_wp2
      go_loopw [6, 7] (fun i v wr => ∃ k : Nat, k ≤ 1000 ∧ i = .int .i64 k ∧ v = .int .i64 (x - feesN L k) ∧ Below w1.heap.size w1 wr ∧ Hid (∀ j, j < k → feesN L (j + 1) ≤ x) ∧ Hid (0 < k → feesN L k ≤ x)) (fun i _ _ => 1001 - (intOf i).toNat)
      case atStart => exact ⟨0, by omega, rfl, by rw [feesN_zero]; simp, Below.refl _ _, fun j hj => absurd hj (by omega), fun h => absurd h (by omega)⟩
      case round =>
        obtain ⟨k, hk, rfl, rfl, hB, HJ, HK⟩ := hrel
        have hs0 := HSW0.out
        replace cxW0_0 := fun i => (hB.cell (by (try simp only); have := HSW0.out; omega)).trans (cxW0_0 i)
        have hbb := bt (bt hbW0 hb1) hB
        have b1 := feesN_bd hc.out k
        have b2 := feeTo_bd hc.out ((k : Int) + 1)
        have e0 : feesN L (k + 1) = feesN L k + feeTo L ((k : Int) + 1) := feesN_succ L k
        have hx : feesN L k ≤ x := by
          by_cases h0 : 0 < k
          · exact HK.out h0
          · obtain rfl : k = 0 := by omega
            rw [feesN_zero]; omega
        have HT := Lib.hid hT; have HSx := Lib.hid hS; clear hs0 hT hS
        by_cases hlt : k < 1000
        · by_cases hle : feeTo L ((k : Int) + 1) ≤ x - feesN L k
          · have H1 := Lib.hid (show feesN L (k + 1) ≤ x by omega)
            have HE := Lib.hid e0
            clear e0
            go_wp2_with fail
            refine (spec_fee A c L me mi mo _ wr (rdW hbb hr) hl).mono ?_
            rintro e w3 ⟨rfl, hb3⟩
            have hs3 := hb3.size
            have hsr := hB.size
            replace cxW0_0 := fun i => (hb3.cell (by (try simp only); have := HSW0.out; omega)).trans (cxW0_0 i)
            go_wp2_with fail
            refine (spec_fee A c L me mi mo _ w3 (rdW (bt hbb hb3) hr) hl).mono ?_
            rintro e w4 ⟨rfl, hb4⟩
            go_wp2
            go_roundw
            case rel => exact ⟨k + 1, by omega, by go_num, by rw [HE.out]; go_num, bt (bt hB hb3) hb4, fun j hj => by
              by_cases e : j = k
              · subst e; exact H1.out
              · exact HJ.out j (by omega), fun _ => H1.out⟩
            case measure => simp [intOf]; omega
          · have HD := Lib.hid (daysN_eq (L := L) (x := x) (n := k) ⟨by omega, HJ.out, fun _ => by omega⟩)
            clear e0
            go_wp2_with fail
            refine (spec_fee A c L me mi mo _ wr (rdW hbb hr) hl).mono ?_
            rintro e w3 ⟨rfl, hb3⟩
            go_wp2
            go_ret2
            exact ⟨by simp [daysFor, HT.out, HSx.out, HD.out], bt hbb hb3⟩
        · obtain rfl : k = 1000 := by omega
          have HD := Lib.hid (daysN_eq (L := L) (x := x) (n := 1000) ⟨by omega, HJ.out, fun h => absurd h (by omega)⟩)
          clear e0
          go_wp2
          go_ret2
          exact ⟨by simp [daysFor, HT.out, HSx.out, HD.out], hbb⟩

set_option maxRecDepth 100000 in
set_option maxHeartbeats 4000000 in
theorem impl_DaysFor (A : Option Addr) (c : Nat) (L : List TierD) (me mi mo : Int) (x : Int) (w : World) (hr : Rd w w.heap.size A (L.length * 2) (L.flatMap tierC)) (hl : L.length ≤ 140737488355328) :
    Calls Try.prog 35 #[.agg #[.slice A L.length c, .int .i64 me, .int .i64 mi, .int .i64 mo], .int .i64 x] w fun e w' => e = .returned (.tuple #[.int .i64 (daysFor L me mi mo x).1, .int .i64 (daysFor L me mi mo x).2]) ∧ Below w.heap.size w w' := by
  cases hT : tarOk L me mi mo
  · go_enter Try.func35, Try.ntmps35
    go_wp2_with fail
    generalize hW0 : w.alloc _ = W0
    have hbW0 : Below w.heap.size w W0 := by subst hW0; exact (Below.refl _ _).alloc (Nat.le_refl _) _
    have hsW0 : W0.heap.size = w.heap.size + 1 := by subst hW0; simp
    have cxW0_0 : ∀ i, W0.cell? ⟨w.heap.size, i, none⟩ = (#[.slice A L.length c, .int .i64 me, .int .i64 mi, .int .i64 mo] : Array Value)[i]? := by intro i; subst hW0; simp [go_sem]
    have HSW0 := Lib.hid hsW0; clear hW0 hsW0
    refine (impl_IsTariff A c L me mi mo _ W0 (rdW hbW0 hr) hl hT).mono ?_
    rintro e w1 ⟨rfl, hb1⟩
    go_wp2
    go_ret2
    exact ⟨by simp [daysFor, hT], bt hbW0 hb1⟩
  · cases hS : inB x 0 1000000000000
    · go_enter Try.func35, Try.ntmps35
      go_wp2_with fail
      generalize hW0 : w.alloc _ = W0
      have hbW0 : Below w.heap.size w W0 := by subst hW0; exact (Below.refl _ _).alloc (Nat.le_refl _) _
      have hsW0 : W0.heap.size = w.heap.size + 1 := by subst hW0; simp
      have cxW0_0 : ∀ i, W0.cell? ⟨w.heap.size, i, none⟩ = (#[.slice A L.length c, .int .i64 me, .int .i64 mi, .int .i64 mo] : Array Value)[i]? := by intro i; subst hW0; simp [go_sem]
      have HSW0 := Lib.hid hsW0; clear hW0 hsW0
      refine (impl_IsTariff A c L me mi mo _ W0 (rdW hbW0 hr) hl hT).mono ?_
      rintro e w1 ⟨rfl, hb1⟩
      go_wp2_with fail
      refine (within_b _ _ _ _ w1 hS).mono ?_
      rintro e w2 ⟨rfl, rfl⟩
      go_wp2
      go_ret2
      exact ⟨by simp [daysFor, hT, hS], bt hbW0 hb1⟩
    · have hn := inB_iff.1 hS
      have hc := Lib.hid (tar_cents hT)
      go_enter Try.func35, Try.ntmps35
      go_wp2_with fail
      generalize hW0 : w.alloc _ = W0
      have hbW0 : Below w.heap.size w W0 := by subst hW0; exact (Below.refl _ _).alloc (Nat.le_refl _) _
      have hsW0 : W0.heap.size = w.heap.size + 1 := by subst hW0; simp
      have cxW0_0 : ∀ i, W0.cell? ⟨w.heap.size, i, none⟩ = (#[.slice A L.length c, .int .i64 me, .int .i64 mi, .int .i64 mo] : Array Value)[i]? := by intro i; subst hW0; simp [go_sem]
      have HSW0 := Lib.hid hsW0; clear hW0 hsW0
      refine (impl_IsTariff A c L me mi mo _ W0 (rdW hbW0 hr) hl hT).mono ?_
      rintro e w1 ⟨rfl, hb1⟩
      replace cxW0_0 := fun i => (hb1.cell (by (try simp only); have := HSW0.out; omega)).trans (cxW0_0 i)
      have hs1 := hb1.size
      go_wp2_with fail
      refine (within_b _ _ _ _ w1 hS).mono ?_
      rintro e w2 ⟨rfl, rfl⟩
      go_wp2
      go_loopw [6, 7] (fun i v wr => ∃ k : Nat, k ≤ 1000 ∧ i = .int .i64 k ∧ v = .int .i64 (feesN L k) ∧ Below w1.heap.size w1 wr ∧ Hid (∀ j, j < k → feesN L (j + 1) ≤ x)) (fun i _ _ => 1001 - (intOf i).toNat)
      case atStart => exact ⟨0, by omega, rfl, by rw [feesN_zero], Below.refl _ _, fun j hj => absurd hj (by omega)⟩
      case round =>
        obtain ⟨k, hk, rfl, rfl, hB, HJ⟩ := hrel
        have hs0 := HSW0.out
        replace cxW0_0 := fun i => (hB.cell (by (try simp only); have := HSW0.out; omega)).trans (cxW0_0 i)
        have hbb := bt (bt hbW0 hb1) hB
        have b1 := feesN_bd hc.out k
        have b2 := feeTo_bd hc.out ((k : Int) + 1)
        have e0 : feesN L (k + 1) = feesN L k + feeTo L ((k : Int) + 1) := feesN_succ L k
        have HT := Lib.hid hT; have HSx := Lib.hid hS; clear hs0 hT hS
        by_cases hlt : k < 1000
        · by_cases hle : feesN L k + feeTo L ((k : Int) + 1) ≤ x
          · have H1 := Lib.hid (show feesN L (k + 1) ≤ x by omega)
            have HE := Lib.hid e0
            clear e0
            go_wp2_with fail
            refine (impl_fee A c L me mi mo _ wr (rdW hbb hr) hl).mono ?_
            rintro e w3 ⟨rfl, hb3⟩
            go_wp2
            go_roundw
            case rel => exact ⟨k + 1, by omega, by go_num, by rw [HE.out], bt hB hb3, fun j hj => by
              by_cases e : j = k
              · subst e; exact H1.out
              · exact HJ.out j (by omega)⟩
            case measure => simp [intOf]; omega
          · have HD := Lib.hid (daysN_eq (L := L) (x := x) (n := k) ⟨by omega, HJ.out, fun _ => by omega⟩)
            clear e0
            go_wp2_with fail
            refine (impl_fee A c L me mi mo _ wr (rdW hbb hr) hl).mono ?_
            rintro e w3 ⟨rfl, hb3⟩
            go_wp2
            go_ret2
            exact ⟨by simp [daysFor, HT.out, HSx.out, HD.out], bt hbb hb3⟩
        · obtain rfl : k = 1000 := by omega
          have HD := Lib.hid (daysN_eq (L := L) (x := x) (n := 1000) ⟨by omega, HJ.out, fun h => absurd h (by omega)⟩)
          clear e0
          go_wp2
          go_ret2
          exact ⟨by simp [daysFor, HT.out, HSx.out, HD.out], hbb⟩
end Go.Proofs.Ythkobjadfeidmaa
