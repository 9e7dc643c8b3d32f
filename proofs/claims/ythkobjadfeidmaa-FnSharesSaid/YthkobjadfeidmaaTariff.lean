/- Contracts: tariffs: the helpers of the laws, and both tests IsTariff. -/
import Derived.Test.YthkobjadfeidmaaTier
namespace Go.Proofs.Ythkobjadfeidmaa
open Go.RowKit

def tierOk (L : List TierD) (k : Nat) : Bool :=
  match L[k]? with
  | none => true
  | some t => inB t.days 1 1000 && inB t.cents 0 100000 && (if k = 0 then t.days == 1 else decide ((L.getD (k - 1) default).days < t.days))
def tiersOk (L : List TierD) : Bool := (List.range L.length).all (tierOk L) && inB L.length 1 5
def tarOk (L : List TierD) (me mi mo : Int) : Bool := tiersOk L && inB me 0 10000 && inB mi 0 10000 && inB mo 0 100000
theorem tierOk_eq {L : List TierD} {k : Nat} (hk : k < L.length) :
    tierOk L k = (inB L[k].days 1 1000 && inB L[k].cents 0 100000 && (if k = 0 then L[k].days == 1 else decide ((L.getD (k - 1) default).days < L[k].days))) := by
  simp [tierOk, List.getElem?_eq_getElem hk]
theorem tar_false {L : List TierD} {k : Nat} (me mi mo : Int) (hk : k < L.length) (h : tierOk L k = false) : tarOk L me mi mo = false := by
  have : (List.range L.length).all (tierOk L) = false := by
    rw [← Bool.not_eq_true, List.all_eq_true]
    intro hh
    have := hh k (by simp [hk])
    rw [h] at this; cases this
  simp [tarOk, tiersOk, this]
theorem tar_all {L : List TierD} (me mi mo : Int) (h : ∀ j, j < L.length → tierOk L j = true) : tarOk L me mi mo = (inB L.length 1 5 && inB me 0 10000 && inB mi 0 10000 && inB mo 0 100000) := by
  have : (List.range L.length).all (tierOk L) = true := by
    rw [List.all_eq_true]; intro x hx; exact h x (by simpa using hx)
  simp [tarOk, tiersOk, this]
theorem tierOk_step {L : List TierD} {k : Nat} (H : Hid (∀ j, j < k → tierOk L j = true)) (h : tierOk L k = true) : Hid (∀ j, j < k + 1 → tierOk L j = true) := by
  intro j hj
  by_cases e : j = k
  · subst e; exact h
  · exact H.out j (by omega)

def tierS (L : List TierD) (k : Nat) : Bool :=
  match L[k]? with
  | none => true
  | some t => inB t.days 1 1000 && inB t.cents 0 100000 && (decide (k = 0) || decide ((L.getD (k - 1) default).days < t.days))
theorem tierS_eq {L : List TierD} {k : Nat} (hk : k < L.length) :
    tierS L k = (inB L[k].days 1 1000 && inB L[k].cents 0 100000 && (decide (k = 0) || decide ((L.getD (k - 1) default).days < L[k].days))) := by
  simp [tierS, List.getElem?_eq_getElem hk]
theorem tierOk_of {L : List TierD} {k : Nat} (hk : k < L.length) : tierOk L k = (tierS L k && (decide (0 < k) || L[k].days == 1)) := by
  rw [tierOk_eq hk, tierS_eq hk]
  by_cases h : k = 0
  · subst h; simp
  · have h' : 0 < k := by omega
    simp [h, h']
theorem tierS_false {L : List TierD} {k : Nat} (h : tierS L k = false) : tierOk L k = false := by
  by_cases hk : k < L.length
  · rw [tierOk_of hk, h]; rfl
  · simp [tierS, List.getElem?_eq_none (show L.length ≤ k by omega)] at h
theorem tierS_step {L : List TierD} {k : Nat} (H : Hid (∀ j, j < k → tierS L j = true)) (h : tierS L k = true) : Hid (∀ j, j < k + 1 → tierS L j = true) := by
  intro j hj
  by_cases e : j = k
  · subst e; exact h
  · exact H.out j (by omega)
theorem tarS_all {L : List TierD} (me mi mo : Int) (h : ∀ j, j < L.length → tierS L j = true) : tarOk L me mi mo = (inB L.length 1 5 && ((L.getD 0 default).days == 1) && inB me 0 10000 && inB mi 0 10000 && inB mo 0 100000) := by
  by_cases hn : L.length = 0
  · have : inB (L.length : Int) 1 5 = false := inB_false (by omega)
    simp [tarOk, tiersOk, this]
  · have h0 : (L.getD 0 default) = L[0]'(by omega) := by simp [List.getD_eq_getElem?_getD, List.getElem?_eq_getElem (show 0 < L.length by omega)]
    rw [h0]
    cases hd : ((L[0]'(by omega)).days == 1)
    · rw [tar_false me mi mo (show 0 < L.length by omega) (by rw [tierOk_of (by omega), hd]; simp)]
      simp
    · rw [tar_all me mi mo (fun j hj => by
        rw [tierOk_of hj, h j hj]
        by_cases e : j = 0
        · subst e; rw [hd]; simp
        · have : 0 < j := by omega
          simp [this])]
      simp

set_option maxHeartbeats 4000000 in
theorem impl_IsTariff (A : Option Addr) (c : Nat) (L : List TierD) (me mi mo : Int) (b : Bool) (w : World) (hr : Rd w w.heap.size A (L.length * 2) (L.flatMap tierC)) (hl : L.length ≤ 140737488355328) (h : tarOk L me mi mo = b) :
    Calls Try.prog 25 #[.agg #[.slice A L.length c, .int .i64 me, .int .i64 mi, .int .i64 mo]] w fun e w' => e = .returned (.bool b) ∧ Below w.heap.size w w' := by
  have HB := Lib.hid h; clear h
  go_enter Try.func25, Try.ntmps25
  go_wp2
  generalize hW0 : w.alloc _ = W0
  have hbW0 : Below w.heap.size w W0 := by subst hW0; exact (Below.refl _ _).alloc (Nat.le_refl _) _
  have hsW0 : W0.heap.size = w.heap.size + 1 := by subst hW0; simp
  have cxW0_0 : ∀ i, W0.cell? ⟨w.heap.size, i, none⟩ = (#[.slice A L.length c, .int .i64 me, .int .i64 mi, .int .i64 mo] : Array Value)[i]? := by intro i; subst hW0; simp [go_sem]
  have HSW0 := Lib.hid hsW0; clear hW0 hsW0
  go_loopw [8] (fun i wr => ∃ k : Nat, k ≤ L.length ∧ i = .int .i64 k ∧ Below W0.heap.size W0 wr ∧ Hid (∀ j, j < k → tierOk L j = true))
    (fun i _ => L.length - (intOf i).toNat)
  case atStart => exact ⟨0, by omega, rfl, Below.refl _ _, fun j hj => absurd hj (by omega)⟩
  case round =>
    obtain ⟨k, hk, rfl, hB, HT⟩ := hrel
    have hs0 := HSW0.out
    have hs1 := hB.size
    replace cxW0_0 := fun i => (hB.cell (by (try simp only); have := HSW0.out; omega)).trans (cxW0_0 i)
    by_cases hlt : k < L.length
    · obtain ⟨b', off, rfl, hb, hc⟩ := Rd.elem tierC 2 (fun _ => rfl) (hr.below (bt hbW0 hB)) (by omega) hlt
      have hf0 : wr.cell? ⟨b', off + k * 2, none⟩ = some (.int .i64 L[k].days) := hc k hlt 0 _ rfl
      have hf1 : wr.cell? ⟨b', off + k * 2 + 1, none⟩ = some (.int .i64 L[k].cents) := hc k hlt 1 _ rfl
      have hp0 : 0 < k → wr.cell? ⟨b', off + (k - 1) * 2, none⟩ = some (.int .i64 (L.getD (k - 1) default).days) := by
        intro h0
        rw [List.getD_eq_getElem?_getD, List.getElem?_eq_getElem (show k - 1 < L.length by omega)]
        exact hc (k - 1) (by omega) 0 _ rfl
      have T := tierOk_eq hlt
      have hk' : (k : Int) < L.length := by omega
      generalize hd : L[k].days = d at *
      generalize he : L[k].cents = e at *
      generalize hpp : (L.getD (k - 1) default).days = p at *
      have HH := Lib.hid T
      have hs2 : w.heap.size < wr.heap.size := by omega
      have hs3 : b' < wr.heap.size := by omega
      clear hd he hs0 hpp T hc
      go_wp2_with fail
      generalize hW1 : wr.alloc _ = W1
      have hbW1 : Below wr.heap.size wr W1 := by subst hW1; exact (Below.refl _ _).alloc (Nat.le_refl _) _
      have hsW1 : W1.heap.size = wr.heap.size + 1 := by subst hW1; simp
      have cxW1_0 : ∀ i, W1.cell? ⟨wr.heap.size, i, none⟩ = (#[.int .i64 d, .int .i64 e] : Array Value)[i]? := by intro i; subst hW1; simp [go_sem]
      have HSW1 := Lib.hid hsW1; clear hW1 hsW1
      replace cxW0_0 := fun i => (hbW1.cell (p := ⟨w.heap.size, i, none⟩) hs2).trans (cxW0_0 i)
      have g3 : 0 < k → W1.cell? ⟨b', off + (k - 1) * 2, none⟩ = some (.int .i64 p) := fun h => (hbW1.cell (by exact hs3)).trans (hp0 h)
      have hbb : Below w.heap.size w W1 := bt (bt hbW0 hB) hbW1
      have hbr : Below W0.heap.size W0 W1 := bt hB hbW1
      have hs4 := HSW1.out
      clear hp0 hf0 hf1
      have k0 := block_regrown cxW1_0 (by omega)
      have k2 := block_regrown cxW0_0 (by omega)
      clear hs4 hbW1 cxW1_0 cxW0_0
      have k3 := fun h => cell_regrown (g3 h)
      clear g3
      refine wp_region_bel mixed (by kernel_rfl) ?_
      repeat (any_goals (first | go_big_quiet_step ((first | exact rg_same (within_b _ _ _ _ _ rfl))) | quiet_step ((first | exact rg_same (within_b _ _ _ _ _ rfl))) | (refine wpQuiet_step (fun K hK => ?_); go_simp; (split <;> first | (refine hK _ ?_; clear hK K) | (apply Exists.intro; refine ⟨fun _ => ?_, hK _ ?_⟩; ((first | exact rg_same (within_b _ _ _ _ _ rfl))); clear hK K)))))
      all_goals (refine wpQuiet_nil ?_; intro w1 hw1)
      all_goals go_wp2
      all_goals first
        | (go_ret
           exact ⟨ret_bool (by rw [← HB.out]; exact (tar_false _ _ _ hlt (by rw [HH.out]; simp_all <;> omega)).symm), bt hbb hw1⟩)
        | (go_roundw
           case rel => exact ⟨k + 1, by omega, by go_num, bt hbr hw1, tierOk_step HT (by rw [HH.out]; simp_all <;> omega)⟩
           case measure => simp [intOf]; omega)
    · have hkl : k = L.length := by omega
      subst hkl
      have hbb : Below w.heap.size w wr := bt hbW0 hB
      have HF := Lib.hid (tar_all me mi mo HT.out)
      clear hs0 hlt HT
      go_wp2_with (first | (go_at_call 44; refine (within_b _ _ _ _ _ rfl).mono ?_; rintro e w' ⟨rfl, rfl⟩))
      all_goals (go_ret; exact ⟨ret_bool (by rw [← HB.out, HF.out]; simp_all <;> omega), hbb⟩)

set_option maxHeartbeats 4000000 in
theorem spec_IsTariff (A : Option Addr) (c : Nat) (L : List TierD) (me mi mo : Int) (b : Bool) (w : World) (hr : Rd w w.heap.size A (L.length * 2) (L.flatMap tierC)) (hl : L.length ≤ 140737488355328) (h : tarOk L me mi mo = b) :
    Calls Try.prog 40 #[.agg #[.slice A L.length c, .int .i64 me, .int .i64 mi, .int .i64 mo]] w fun e w' => e = .returned (.bool b) ∧ Below w.heap.size w w' := by
  have HB := Lib.hid h; clear h
  go_enter Try.func40, Try.ntmps40
  go_wp2
  generalize hW0 : w.alloc _ = W0
  have hbW0 : Below w.heap.size w W0 := by subst hW0; exact (Below.refl _ _).alloc (Nat.le_refl _) _
  have hsW0 : W0.heap.size = w.heap.size + 1 := by subst hW0; simp
  have cxW0_0 : ∀ i, W0.cell? ⟨w.heap.size, i, none⟩ = (#[.slice A L.length c, .int .i64 me, .int .i64 mi, .int .i64 mo] : Array Value)[i]? := by intro i; subst hW0; simp [go_sem]
  have HSW0 := Lib.hid hsW0; clear hW0 hsW0
  go_loopw [3] (fun i wr => ∃ k : Nat, k ≤ L.length ∧ i = .int .i64 k ∧ Below W0.heap.size W0 wr ∧ Hid (∀ j, j < k → tierS L j = true))
    (fun i _ => L.length - (intOf i).toNat)
  case atStart => exact ⟨0, by omega, rfl, Below.refl _ _, fun j hj => absurd hj (by omega)⟩
  case round =>
    obtain ⟨k, hk, rfl, hB, HT⟩ := hrel
    have hs0 := HSW0.out
    have hs1 := hB.size
    replace cxW0_0 := fun i => (hB.cell (by (try simp only); have := HSW0.out; omega)).trans (cxW0_0 i)
    by_cases hlt : k < L.length
    · obtain ⟨b', off, rfl, hb, hc⟩ := Rd.elem tierC 2 (fun _ => rfl) (hr.below (bt hbW0 hB)) (by omega) hlt
      have hf0 : wr.cell? ⟨b', off + k * 2, none⟩ = some (.int .i64 L[k].days) := hc k hlt 0 _ rfl
      have hf1 : wr.cell? ⟨b', off + k * 2 + 1, none⟩ = some (.int .i64 L[k].cents) := hc k hlt 1 _ rfl
      have hp0 : 0 < k → wr.cell? ⟨b', off + (k - 1) * 2, none⟩ = some (.int .i64 (L.getD (k - 1) default).days) := by
        intro h0
        rw [List.getD_eq_getElem?_getD, List.getElem?_eq_getElem (show k - 1 < L.length by omega)]
        exact hc (k - 1) (by omega) 0 _ rfl
      have T := tierS_eq hlt
      have hk' : (k : Int) < L.length := by omega
      generalize hd : L[k].days = d at *
      generalize he : L[k].cents = e at *
      generalize hpp : (L.getD (k - 1) default).days = p at *
      have HH := Lib.hid T
      have hs2 : w.heap.size < wr.heap.size := by omega
      have hs3 : b' < wr.heap.size := by omega
      clear hd he hs0 hpp T hc
      go_wp2_with fail
      generalize hW1 : wr.alloc _ = W1
      have hbW1 : Below wr.heap.size wr W1 := by subst hW1; exact (Below.refl _ _).alloc (Nat.le_refl _) _
      have hsW1 : W1.heap.size = wr.heap.size + 1 := by subst hW1; simp
      have cxW1_0 : ∀ i, W1.cell? ⟨wr.heap.size, i, none⟩ = (#[.int .i64 d, .int .i64 e] : Array Value)[i]? := by intro i; subst hW1; simp [go_sem]
      have HSW1 := Lib.hid hsW1; clear hW1 hsW1
      replace cxW0_0 := fun i => (hbW1.cell (p := ⟨w.heap.size, i, none⟩) hs2).trans (cxW0_0 i)
      have g3 : 0 < k → W1.cell? ⟨b', off + (k - 1) * 2, none⟩ = some (.int .i64 p) := fun h => (hbW1.cell (by exact hs3)).trans (hp0 h)
      have hbb : Below w.heap.size w W1 := bt (bt hbW0 hB) hbW1
      have hbr : Below W0.heap.size W0 W1 := bt hB hbW1
      have hs4 := HSW1.out
      clear hp0 hf0 hf1
      have k0 := block_regrown cxW1_0 (by omega)
      have k2 := block_regrown cxW0_0 (by omega)
      clear hs4 hbW1 cxW1_0 cxW0_0
      have k3 := fun h => cell_regrown (g3 h)
      clear g3
      refine wp_region_bel mixed (by kernel_rfl) ?_
      repeat (any_goals (first | go_big_quiet_step ((first | exact rg_same (l01In_b _ _ _ _ _ rfl))) | quiet_step ((first | exact rg_same (l01In_b _ _ _ _ _ rfl))) | (refine wpQuiet_step (fun K hK => ?_); go_simp; (split <;> first | (refine hK _ ?_; clear hK K) | (apply Exists.intro; refine ⟨fun _ => ?_, hK _ ?_⟩; ((first | exact rg_same (l01In_b _ _ _ _ _ rfl))); clear hK K)))))
      all_goals (refine wpQuiet_nil ?_; intro w1 hw1)
      all_goals go_wp2
      all_goals first
        | (go_ret
           exact ⟨ret_bool (by rw [← HB.out]; exact (tar_false _ _ _ hlt (tierS_false (by rw [HH.out]; simp_all <;> omega))).symm), bt hbb hw1⟩)
        | (go_roundw
           case rel => exact ⟨k + 1, by omega, by go_num, bt hbr hw1, tierS_step HT (by rw [HH.out]; simp_all <;> omega)⟩
           case measure => simp [intOf]; omega)
    · have hkl : k = L.length := by omega
      subst hkl
      have hbb : Below w.heap.size w wr := bt hbW0 hB
      have HF := Lib.hid (tarS_all me mi mo HT.out)
      by_cases hn : L.length = 0
      · have hz := Lib.hid hn
        have hn' : inB (L.length : Int) 1 5 = false := inB_false (by omega)
        clear hs0 hlt HT hn
        go_wp2_with (first | (go_at_call 43; refine (l01In_b _ _ _ _ _ (by assumption)).mono ?_; rintro e w' ⟨rfl, rfl⟩))
        all_goals (go_ret; exact ⟨ret_bool (by rw [← HB.out, HF.out]; simp_all <;> omega), hbb⟩)
      · obtain ⟨b', off, rfl, hb, hc⟩ := Rd.elem tierC 2 (fun _ => rfl) (hr.below (bt hbW0 hB)) (by omega) (k := 0) (by omega)
        have hf0 : wr.cell? ⟨b', off, none⟩ = some (.int .i64 (L.getD 0 default).days) := by
          rw [List.getD_eq_getElem?_getD, List.getElem?_eq_getElem (show 0 < L.length by omega)]
          have := hc 0 (by omega) 0 _ rfl; simpa using this
        have hn1 : (0 : Int) < (L.length : Int) := by omega
        have hn2 : 0 < L.length := by omega
        generalize hd : (L.getD 0 default).days = d at *
        have HD := Lib.hid hd
        clear hs0 hlt HT hn hc hd
        go_wp2_with (first | (go_at_call 43; refine (l01In_b _ _ _ _ _ rfl).mono ?_; rintro e w' ⟨rfl, rfl⟩))
        all_goals (go_ret; exact ⟨ret_bool (by rw [← HB.out, HF.out]; simp_all <;> omega), hbb⟩)
end Go.Proofs.Ythkobjadfeidmaa
