/- Contracts: SampleOf of both texts. Contract: holiday. -/
import Derived.Test.YtiamignopfhkfaaGreatDoorZ11
import Derived.Deep.DeepCutAuto
import Derived.Test.YtiamignopfhkfaaGreatDoorZ6
import Derived.Test.YtiamignopfhkfaaGreatDoorZInsC
import Derived.Test.YtiamignopfhkfaaGreatDoorZL07
import Derived.Test.YtiamignopfhkfaaGreatDoorZShelf2
section
namespace Go.Proofs.YtiamignopfhkfaaGreatDoor
open Go.RowKit
set_option linter.unusedVariables false
set_option linter.unusedSimpArgs false
def stN (s : Int) : Int := s * 48271 % 2147483647
theorem stN_bd (s : Int) : 0 ≤ stN s ∧ stN s ≤ 2147483646 := by
  unfold stN
  have h1 := Int.emod_nonneg (s * 48271) (show (2147483647 : Int) ≠ 0 by decide)
  have h2 := Int.emod_lt_of_pos (s * 48271) (show (0 : Int) < 2147483647 by decide)
  omega
def swpI (L : List Int) (i k : Nat) : List Int := (L.set i (L.getD k 0)).set k (L.getD i 0)
def jmp (s : Int) (n i : Nat) : Nat := (stN s * ((n : Int) - i) / 2147483647).toNat
def rngI (n : Nat) : List Int := (List.range n).map fun (i : Nat) => (i : Int)
theorem rngI_succ (n : Nat) : rngI (n + 1) = rngI n ++ [(n : Int)] := by simp [rngI, List.range_succ]
theorem rngI_len (n : Nat) : (rngI n).length = n := by simp [rngI]
/-- The numbers behind so many rounds of the shuffle, and the state. -/
def shI (n : Nat) (s : Int) : Nat → List Int × Int
  | 0 => (rngI n, s)
  | i + 1 => (swpI (shI n s i).1 i (i + jmp (shI n s i).2 n i), stN (shI n s i).2)
theorem shI_len (n : Nat) (s : Int) : ∀ i, (shI n s i).1.length = n
  | 0 => rngI_len n
  | i + 1 => by rw [shI]; simp only [swpI, List.length_set]; exact shI_len n s i
theorem shI_bd {n : Nat} {s : Int} (h : 0 ≤ s ∧ s ≤ 2147483646) : ∀ i, 0 ≤ (shI n s i).2 ∧ (shI n s i).2 ≤ 2147483646
  | 0 => h
  | i + 1 => stN_bd _
theorem jmp_bd {s : Int} {n i : Nat} (h : i < n) (hn : n ≤ 200) : i + jmp s n i < n ∧ stN s * ((n : Int) - i) / 2147483647 = (jmp s n i : Int) ∧ 0 ≤ stN s * ((n : Int) - i) ∧ stN s * ((n : Int) - i) ≤ 429496729200 := by
  have hb := stN_bd s
  unfold jmp
  generalize stN s = q at *
  obtain ⟨m, hm⟩ : ∃ m : Nat, (n : Int) - i = m := ⟨n - i, by omega⟩
  rw [hm]
  have hm1 : 1 ≤ m ∧ m ≤ 200 := by omega
  have h0 : 0 ≤ q * (m : Int) := Int.mul_nonneg hb.1 (by omega)
  have h1 : q * (m : Int) ≤ 2147483646 * (m : Int) := Int.mul_le_mul_of_nonneg_right hb.2 (by omega)
  have h2 : 0 ≤ q * (m : Int) / 2147483647 := Int.ediv_nonneg h0 (by decide)
  have h3 : q * (m : Int) / 2147483647 < m := Int.ediv_lt_of_lt_mul (by decide) (by omega)
  generalize q * (m : Int) = z at *
  omega
def sampC (s n k : Int) : Int := if (inB s 1 2147483646 && inB n 0 200 && inB k 0 n) = true then 0 else 2
def sampL (s n k : Int) : List Int := if sampC s n k = 0 then (shI n.toNat s (n.toNat - 1)).1.take k.toNat else []
theorem swp_map {L : List Int} {i j : Nat} (hi : i < L.length) (hj : j < L.length) : ((L.map (Value.int .i64)).set i (.int .i64 L[j])).set j (.int .i64 L[i]) = (swpI L i j).map (Value.int .i64) := by
  unfold swpI
  rw [List.getD_eq_getElem?_getD, List.getD_eq_getElem?_getD, List.getElem?_eq_getElem hi, List.getElem?_eq_getElem hj]
  simp only [Option.getD_some, List.map_set]
theorem next_c (s : Int) (w : World) (h : 0 ≤ s ∧ s ≤ 2147483646) : Calls Tryz.prog 234 #[.int .i64 s] w fun e w' => e = .returned (.int .i64 (stN s)) ∧ w = w' := by
  have hm : 48271 * s = s * 48271 := Int.mul_comm _ _
  have HE : Hid (stN s = s * 48271 % 2147483647) := rfl
  have hb := stN_bd s
  have h1 : IntKind.i64.wrap (48271 * s) = 48271 * s := IntWalk.i64_in _ (by omega)
  have h2 : (48271 * s).tmod 2147483647 = (48271 * s) % 2147483647 := IntWalk.rem_in _ _ (by omega)
  go_enter Tryz.func234, Tryz.ntmps234
  go_wp2
  go_ret
  exact ⟨ret_int (by first | (rw [HE.out]; done) | (rw [HE.out, ← hm]; done) | (rw [HE.out]; simp [hm])), rfl⟩
theorem l03Next_c (s : Int) (w : World) (h : 0 ≤ s ∧ s ≤ 2147483646) : Calls Tryz.prog 200 #[.int .i64 s] w fun e w' => e = .returned (.int .i64 (stN s)) ∧ w = w' := by
  have HE : Hid (stN s = s * 48271 % 2147483647) := rfl
  have h1 : IntKind.i64.wrap (s * 48271) = s * 48271 := IntWalk.i64_in _ (by omega)
  have h2 : (s * 48271).tmod 2147483647 = (s * 48271) % 2147483647 := IntWalk.rem_in _ _ (by omega)
  go_enter Tryz.func200, Tryz.ntmps200
  go_wp2
  go_ret
  exact ⟨ret_int (by first | (rw [HE.out]; done) | (rw [HE.out]; rfl)), rfl⟩
theorem below_c (s : Int) (n i : Nat) (w : World) (h : 0 ≤ s ∧ s ≤ 2147483646) (hi : i < n) (hn : n ≤ 200) : Calls Tryz.prog 213 #[.int .i64 s, .int .i64 ((n : Int) - i)] w fun e w' => e = .returned (.tuple #[.int .i64 (jmp s n i : Nat), .int .i64 (stN s)]) ∧ w = w' := by
  obtain ⟨h1, h2, h3, h4⟩ := jmp_bd (s := s) hi hn
  have HN := Lib.hid (next_c s w h)
  have hb := stN_bd s
  have hd : (stN s * ((n : Int) - i)).tdiv 2147483647 = stN s * ((n : Int) - i) / 2147483647 := Int.tdiv_eq_ediv_of_nonneg h3
  have HJ := Lib.hid h2
  clear h1
  generalize stN s = q at *
  have hw1 : IntKind.i64.wrap (q * ((n : Int) - i)) = q * ((n : Int) - i) := IntWalk.i64_in _ (by omega)
  clear h2
  go_enter Tryz.func213, Tryz.ntmps213
  go_wp2_with (first | (go_at_call 234; refine HN.out.mono ?_; rintro e w' ⟨rfl, rfl⟩))
  go_ret2
  exact ⟨by rw [← HJ.out]; rfl, rfl⟩
set_option maxHeartbeats 1000000 in
theorem clone_ints (A : Option Addr) (c : Nat) (L : List Int) (w : World) (hr : Rd w w.heap.size A L.length (L.map (Value.int .i64))) (hl : L.length * 8 ≤ 140737488355328) :
    Calls Tryz.prog 181 #[.slice A L.length c] w (RowPost1 2 1 L.length (L.map (Value.int .i64)) w) := by
  obtain ⟨i0, hi, hz0, hz1, hz2⟩ := info_parts int_info
  have HO := Lib.hid (one_ints _ _ : ∀ u ∈ L.map (Value.int .i64), u.oneCell' = true)
  go_enter Tryz.func181, Tryz.ntmps181
  go_wp2_with (first | (at_make; refine wpList_make_own _ rfl _ _ 30 rfl w.heap.size 2 i0 _ 1 Tryz.underlying30 hi hz0 hz1 _ _ _ L.length rfl rfl rfl (by rw [hz2]; omega) (by unfold maxLen; omega) (Nat.le_refl _) ?_; intro w1 hown1 hgrow1; have hb1 : Below w.heap.size w w1 := (Below.refl _ _).grown hgrow1 (Nat.le_refl _) (fun k hk => by cases hk); have HR := Lib.hid ((by rw [Nat.mul_one]; exact hr.below hb1) : Rd w1 w.heap.size A (L.length * 1) (L.map (Value.int .i64))); clear hgrow1) | (at_builtin; refine wpList_cat w1 rfl _ _ 30 rfl w.heap.size 2 i0 _ 1 8 Tryz.underlying30 hi hz0 hz1 hz2 rfl (by decide) _ 0 [] rfl hown1 A L.length c w.heap.size (L.map (Value.int .i64)) rfl HR.out HO.out (by unfold maxLen; omega) (by omega) hb1.size ?_; intro A2 c2 w2 hown2 hgrow2))
  have hb2 : Below w.heap.size w w2 := below_grown hb1 hgrow2 (Nat.le_refl _) (fun g hg => by cases hg; exact Nat.le_refl _)
  simp only [Nat.zero_add, List.nil_append] at hown2
  clear hgrow2 hown1
  go_wp2
  go_ret
  exact rowPost1_mk hown2 hb2

theorem own_snocR {W : World} {b : Nat} {A : Option Addr} {c k : Nat} (h : W.ownsRow b 2 1 (.slice A ((rngI k).length + 1) c) ((rngI k).length + 1) ((rngI k).map (Value.int .i64) ++ [.int .i64 (k : Int)])) : W.ownsRow b 2 1 (.slice A (rngI (k + 1)).length c) (rngI (k + 1)).length ((rngI (k + 1)).map (Value.int .i64)) := by
  rw [rngI_succ, List.length_append, List.map_append]; exact h

set_option maxRecDepth 100000 in
set_option maxHeartbeats 4000000 in
theorem shuffled_c (s : Int) (n : Nat) (w : World) (hs : 0 ≤ s ∧ s ≤ 2147483646) (hn : n ≤ 200) : Calls Tryz.prog 180 #[.int .i64 s, .int .i64 n] w fun e w' => ∃ A2 c2, e = .returned (.tuple #[.slice A2 n c2, .int .i64 (shI n s (n - 1)).2]) ∧ w'.ownsRow w.heap.size 2 1 (.slice A2 n c2) n ((shI n s (n - 1)).1.map (Value.int .i64)) ∧ Below w.heap.size w w' := by
  obtain ⟨i0, hi, hz0, hz1, hz2⟩ := info_parts int_info
  have hown0 := Lib.hid (World.ownsRow_lit (base := w.heap.size) (e := 2) (size := 1) w #[] 0 (Nat.le_refl _) (by unfold maxLen; omega) rfl)
  go_enter Tryz.func180, Tryz.ntmps180
  go_wp2
  go_loopw [6, 13] (fun v i wr => ∃ (k : Nat) (A2 : Option Addr) (c2 : Nat), k ≤ n ∧ i = .int .i64 k ∧ v = .slice A2 (rngI k).length c2 ∧ Below w.heap.size w wr ∧ Hid (wr.ownsRow w.heap.size 2 1 (.slice A2 (rngI k).length c2) (rngI k).length ((rngI k).map (Value.int .i64)))) (fun _ i _ => n - (intOf i).toNat)
  case atStart => exact ⟨0, _, _, by omega, rfl, rfl, (Below.refl _ _).alloc (Nat.le_refl _) _, hown0⟩
  case round =>
    obtain ⟨k, A2, c2, hk, rfl, rfl, hB, HO⟩ := hrel
    clear hown0
    have hszr := hB.size
    have HLN := Lib.hid (rngI_len k)
    have hlb : (rngI k).length ≤ 200 := by rw [rngI_len]; omega
    by_cases hlt : k < n
    · have hk' : (k : Int) < (n : Int) := by omega
      have hk0 : (0 : Int) ≤ (k : Int) := by omega
      go_wp2_with (first | (at_builtin; refine wpList_push wr rfl _ _ 30 rfl w.heap.size 2 i0 _ 1 8 Tryz.underlying30 hi hz0 hz1 hz2 rfl (by decide) (.slice A2 (rngI k).length c2) ((rngI k).length) ((rngI k).map (Value.int .i64)) (by rfl) HO.out [.int .i64 (k : Int)] 2 (by rfl) rfl (by simp [Value.oneCell']) (by unfold maxLen; omega) (by omega) (by omega) ?_; intro A7 c7 w7 ho7 hg7; have HO7 := Lib.hid (own_snocR ho7); have hb7 := below_grown hB hg7 (Nat.le_refl _) (fun k hk => HO.out.lt k hk |>.1); clear ho7 hg7))
      go_roundw
      case rel => exact ⟨k + 1, A7, c7, by omega, by go_num, by rw [rngI_len, rngI_len], hb7, HO7⟩
      case measure => simp [intOf]; omega
    · obtain rfl : k = n := by omega
      have HST : Hid (wr.ownsRow w.heap.size 2 1 (.slice A2 k c2) k ((shI k s 0).1.map (Value.int .i64))) := by
        have h9 := HO.out
        rw [rngI_len] at h9
        exact h9
      have hrl : (rngI k).length = k := rngI_len k
      clear HO hlb HLN
      go_wp2
      rw [hrl]
      clear hrl
      go_loopw [0, 8] (fun u i wr2 => ∃ j : Nat, (j = 0 ∨ j + 1 ≤ k) ∧ i = .int .i64 j ∧ u = .int .i64 (shI k s j).2 ∧ Below w.heap.size w wr2 ∧ Hid (wr2.ownsRow w.heap.size 2 1 (.slice A2 k c2) k ((shI k s j).1.map (Value.int .i64)))) (fun _ i _ => k - (intOf i).toNat)
      case atStart => exact ⟨0, .inl rfl, rfl, rfl, hB, HST⟩
      case round =>
        obtain ⟨wr2, rfl⟩ : ∃ x, x = wr := ⟨_, rfl⟩
        obtain ⟨j, hj, rfl, rfl, hB2, HO2⟩ := hrel
        clear HST
        by_cases hlt : j + 1 < k
        · have HSH : Hid (shI k s (j + 1) = (swpI (shI k s j).1 j (j + jmp (shI k s j).2 k j), stN (shI k s j).2)) := rfl
          have hL := shI_len k s j
          have hq := shI_bd (n := k) hs j
          obtain ⟨hJ, -, -, -⟩ := jmp_bd (s := (shI k s j).2) (show j < k by omega) hn
          have HBL := Lib.hid (below_c (shI k s j).2 k j wr2 hq (by omega) hn)
          generalize (shI k s j).2 = q at *
          generalize (shI k s j).1 = L at *
          generalize jmp q k j = J at *
          obtain ⟨g, rfl, hg1, hg2⟩ := own_head HO2.out (by omega)
          have hcap := own_cap HO2.out
          have f1 : wr2.cell? ⟨g, j, none⟩ = some (.int .i64 L[j]) := (HO2.out.cellAt j (by omega)).trans (by simp [List.getElem?_eq_getElem (show j < L.length by omega)])
          have f2 : wr2.cell? ⟨g, j + J, none⟩ = some (.int .i64 L[j + J]) := (HO2.out.cellAt (j + J) (by omega)).trans (by simp [List.getElem?_eq_getElem (show j + J < L.length by omega)])
          have z1 := HO2.out.frozenAt j
          have z2 := HO2.out.frozenAt (j + J)
          have HSW := Lib.hid (swp_map (L := L) (i := j) (j := j + J) (by omega) (by omega))
          have HO3 := Lib.hid (((HO2.out.stored j (.int .i64 L[j + J])).1.stored (j + J) (.int .i64 L[j])).1)
          have hB3 := (hB2.setCell (p := ⟨g, j, none⟩) hg1 (.int .i64 L[j + J])).setCell (p := ⟨g, j + J, none⟩) hg1 (.int .i64 L[j])
          have hwj : IntKind.i64.wrap ((j : Int) + (J : Int)) = ((j + J : Nat) : Int) := by rw [IntWalk.i64_in _ (by omega)]; rfl
          have hti : ((j + J : Nat) : Int) < (k : Int) := by omega
          have htc : ((j + J : Nat) : Int) ≤ (c2 : Int) := by omega
          have hjc : (j : Int) ≤ (c2 : Int) := by omega
          have hji : (j : Int) < (k : Int) := by omega
          have ht0 : (0 : Int) ≤ ((j + J : Nat) : Int) := by omega
          have hj0 : (0 : Int) ≤ (j : Int) := by omega
          rw [HSW.out] at HO3
          clear HSW
          generalize L[j] = y1 at *
          generalize L[j + J] = y2 at *
          clear hL
          have hJn : (J : Int) ≤ 200 := by omega
          generalize j + J = t at *
          have hlti : (j : Int) + 1 < (k : Int) := by omega
          go_wp2_with (first | (go_at_call 213; refine HBL.out.mono ?_; rintro e w' ⟨rfl, rfl⟩))
          by_cases hjt : j = t
          · have hjt2 := hjt.symm
            clear hjt
            subst hjt2
            have hyy : y1 = y2 := by
              have h9 := f1.symm.trans f2
              simpa using h9
            subst hyy
            go_region_with (fail)
            all_goals
              go_wp2
              go_roundw
              case rel => exact ⟨t + 1, .inr (by omega), by go_num, by rw [HSH.out], hB3.drew, by rw [HSH.out]; exact HO3.out.drew⟩
              case measure => simp [intOf]; omega
          · have hjt2 : ¬ t = j := fun e => hjt e.symm
            go_region_with (fail)
            all_goals
              go_wp2
              go_roundw
              case rel => exact ⟨j + 1, .inr (by omega), by go_num, by rw [HSH.out], hB3.drew, by rw [HSH.out]; exact HO3.out.drew⟩
              case measure => simp [intOf]; omega
        · have HJE : Hid (j = k - 1) := by unfold Hid; omega
          have hcap := own_cap HO2.out
          go_wp2
          go_ret2
          exact ⟨A2, c2, by rw [← HJE.out]; rfl, by rw [← HJE.out]; exact HO2.out, hB2⟩
end Go.Proofs.YtiamignopfhkfaaGreatDoor
end
section
namespace Go.Proofs.YtiamignopfhkfaaGreatDoor
open Go.RowKit
set_option linter.unusedVariables false
set_option linter.unusedSimpArgs false
set_option maxHeartbeats 1000000 in
theorem clone_intsx (A : Option Addr) (c : Nat) (L : List Int) (w : World) (hr : Rd w w.heap.size A L.length (L.map (Value.int .i64))) (hl : L.length * 8 ≤ 140737488355328) :
    Calls Tryz.prog 181 #[.slice A L.length c] w fun e w' => ∃ g, e = .returned (.slice (some ⟨g, 0, none⟩) L.length L.length) ∧ w'.ownsRow w.heap.size 2 1 (.slice (some ⟨g, 0, none⟩) L.length L.length) L.length (L.map (Value.int .i64)) ∧ Below w.heap.size w w' := by
  obtain ⟨i0, hi, hz0, hz1, hz2⟩ := info_parts int_info
  have HO := Lib.hid (one_ints _ _ : ∀ u ∈ L.map (Value.int .i64), u.oneCell' = true)
  go_enter Tryz.func181, Tryz.ntmps181
  go_wp2_with (first | (at_make; refine wpList_make_own _ rfl _ _ 30 rfl w.heap.size 2 i0 _ 1 Tryz.underlying30 hi hz0 hz1 _ _ _ L.length rfl rfl rfl (by rw [hz2]; omega) (by unfold maxLen; omega) (Nat.le_refl _) ?_; intro w1 hown1 hgrow1; have hb1 : Below w.heap.size w w1 := (Below.refl _ _).grown hgrow1 (Nat.le_refl _) (fun k hk => by cases hk); have HR := Lib.hid ((by rw [Nat.mul_one]; exact hr.below hb1) : Rd w1 w.heap.size A (L.length * 1) (L.map (Value.int .i64))); clear hgrow1) | (at_builtin; refine wpList_fitsR w1 rfl _ _ 30 rfl w.heap.size 2 i0 1 Tryz.underlying30 hi hz1 (by decide) w.heap.size 0 L.length [] (by rfl) hown1 A L.length c w.heap.size (L.map (Value.int .i64)) (by rfl) HR.out HO.out (by omega) ?_; intro w2 hown2 hgrow2))
  have hb2 : Below w.heap.size w w2 := below_grown hb1 hgrow2 (Nat.le_refl _) (fun g hg => by cases hg; exact Nat.le_refl _)
  simp only [Nat.zero_add, List.nil_append] at hown2
  clear hgrow2 hown1
  go_wp2
  go_ret
  exact ⟨_, rfl, hown2, hb2⟩

theorem hol_sorted {H : List Int} (h : holOk H = true) : H.Pairwise (· < ·) := by
  rw [List.pairwise_iff_getElem]
  have hall : ∀ k, k < H.length → holAt H k = true := fun k hk => by
    simp only [holOk, incOk, Bool.and_eq_true, List.all_eq_true] at h
    exact h.2 k (by simpa using hk)
  have step : ∀ i (hi : i + 1 < H.length), H[i] < H[i + 1] := fun i hi => by
    have := hall (i + 1) hi
    rw [holAt_eq hi, Bool.and_eq_true, Bool.or_eq_true] at this
    rcases this.2 with h1 | h1
    · simp at h1
    · have h2 := of_decide_eq_true h1
      rw [List.getD_eq_getElem?_getD, show i + 1 - 1 = i by omega, List.getElem?_eq_getElem (show i < H.length by omega)] at h2
      simpa using h2
  have far : ∀ (m i : Nat) (hi : i + m + 1 < H.length), H[i] < H[i + m + 1] := by
    intro m
    induction m with
    | zero => intro i hi; exact step i hi
    | succ m ih =>
      intro i hi
      have h1 := ih i (by omega)
      have h2 := step (i + m + 1) (by omega)
      have e : i + (m + 1) + 1 = i + m + 1 + 1 := by omega
      simp only [e]; omega
  intro i j hi hj hij
  obtain ⟨m, rfl⟩ : ∃ m, j = i + m + 1 := ⟨j - i - 1, by omega⟩
  exact far m i hj
theorem count_at {x : Int} : ∀ {H : List Int}, H.Pairwise (· < ·) → H.countP (fun y => decide (y < x)) = atN H x ∧ H.contains x = decide (H[atN H x]? = some x)
  | [], _ => by simp [atN]
  | a :: H, hp => by
    obtain ⟨h1, h2⟩ := List.pairwise_cons.1 hp
    obtain ⟨i1, i2⟩ := count_at (x := x) h2
    by_cases ha : a < x
    · have e : atN (a :: H) x = atN H x + 1 := by unfold atN; rw [List.takeWhile_cons, if_pos (by simpa using ha)]; rfl
      have hx : ¬ x = a := by omega
      rw [e]
      refine ⟨by rw [List.countP_cons_of_pos (by simpa using ha), i1], ?_⟩
      rw [List.contains_cons, i2, List.getElem?_cons_succ]
      simp [hx]
    · have e : atN (a :: H) x = 0 := by unfold atN; rw [List.takeWhile_cons, if_neg (by simpa using ha)]; rfl
      rw [e]
      have hr : H.countP (fun y => decide (y < x)) = 0 := List.countP_eq_zero.2 (fun y hy => by have := h1 y hy; simp; omega)
      refine ⟨by rw [List.countP_cons_of_neg (by simpa using ha), hr], ?_⟩
      rw [List.getElem?_cons_zero, List.contains_cons]
      by_cases hx : x = a
      · simp [hx]
      · have : ¬ x ∈ H := fun hm => by have := h1 x hm; omega
        have h3 : H.contains x = false := by simpa using this
        rw [h3]
        have : ¬ a = x := fun e => hx e.symm
        simp [hx, this]
theorem atN_le (H : List Int) (x : Int) : atN H x ≤ H.length := (List.takeWhile_sublist _).length_le
def holP (H : List Int) (x : Int) : List Int × Int := if holOk (insN H x) then (insN H x, 0) else (H, 1)
theorem insN_in {H : List Int} {x : Int} (h : decide (H[atN H x]? = some x) = true) : insN H x = H := by unfold insN; rw [if_pos (of_decide_eq_true h)]
theorem insN_out {H : List Int} {x : Int} (h : decide (H[atN H x]? = some x) = false) : insN H x = H.take (atN H x) ++ x :: H.drop (atN H x) := by unfold insN; rw [if_neg (of_decide_eq_false h)]
theorem insN_len (H : List Int) (x : Int) : (insN H x).length ≤ H.length + 1 := by
  have := atN_le H x
  unfold insN; split
  · omega
  · simp; omega
theorem insN_flat {H : List Int} {x : Int} (h : decide (H[atN H x]? = some x) = false) : (insN H x).map (Value.int .i64) = (H.map (Value.int .i64)).take (atN H x) ++ ([.int .i64 x] ++ (H.map (Value.int .i64)).drop (atN H x)) := by
  rw [insN_out h]; simp
theorem insN_new_len {H : List Int} {x : Int} (h : decide (H[atN H x]? = some x) = false) : (insN H x).length = H.length + 1 := by
  have := atN_le H x
  rw [insN_out h]; simp; omega
set_option maxRecDepth 100000 in
set_option maxHeartbeats 1000000 in
theorem bs_empty (A : Option Addr) (c : Nat) (x : Int) (w : World) : Calls Tryz.prog 185 #[.slice A 0 c, .int .i64 x] w fun e w' => e = .returned (.tuple #[.int .i64 (0 : Nat), .bool false]) ∧ Below w.heap.size w w' := by
  go_enter Tryz.func185, Tryz.ntmps185
  go_wp2
  go_loopw [7, 8] (fun i j wr => i = .int .i64 0 ∧ j = .int .i64 0 ∧ wr = w) (fun _ _ _ => 0)
  case atStart => exact ⟨rfl, rfl, rfl⟩
  case round =>
    obtain ⟨rfl, rfl, rfl⟩ := hrel
    go_wp2
    go_ret2
    exact ⟨rfl, Below.refl _ _⟩
theorem bs_c (A : Option Addr) (c : Nat) (H : List Int) (x : Int) (w : World) (hr : Rd w w.heap.size A H.length (H.map (Value.int .i64))) (hl : H.length ≤ 1000) (hs : H.Pairwise (· < ·)) :
    Calls Tryz.prog 185 #[.slice A H.length c, .int .i64 x] w fun e w' => e = .returned (.tuple #[.int .i64 (atN H x : Nat), .bool (decide (H[atN H x]? = some x))]) ∧ Below w.heap.size w w' := by
  by_cases h0 : H.length = 0
  · obtain rfl := List.eq_nil_of_length_eq_zero h0
    exact bs_empty A c x w
  · obtain ⟨b, off, rfl, hb, hc⟩ := Rd.ints hr (show 0 < H.length by omega)
    obtain ⟨e1, e2⟩ := count_at (x := x) hs
    refine (Tryz.slices_BinarySearch_int b off H.length c H x w (Nat.le_refl _) (by omega) (fun j hj => ?_) (by rw [List.take_length]; exact hs.imp (fun h => by omega))).mono ?_
    · rw [List.getD_eq_getElem?_getD, List.getElem?_eq_getElem hj]; exact hc j hj
    · rintro e w' ⟨rfl, q, rfl⟩
      rw [List.take_length, e2]
      exact ⟨by rw [← e1], below_drewN (Below.refl _ _) q⟩
def HolPost (B g : Nat) (F : Nat → Prop) (d : DeskD) (x : Int) (w : World) (e : Ending) (w' : World) : Prop :=
  e = .returned (.int .i64 (holP d.H x).2) ∧ DeskIn B g F ⟨(holP d.H x).1, d.K, d.M⟩ w' ∧ w.grownBy w' (some g)
set_option maxRecDepth 100000 in
set_option maxHeartbeats 4000000 in
theorem holiday_c (B g : Nat) (F : Nat → Prop) (d : DeskD) (x : Int) (w : World) (hD : DeskIn B g F d w) : Calls Tryz.prog 149 #[.pointer (some ⟨g, 0, none⟩), .int .i64 x] w (HolPost B g F d x w) := by
  have HD := Lib.hid hD
  have hgl := hD.bds.2
  obtain ⟨hgd, -, fz, A1, A2, A3, c1, c2, c3, ⟨k1, k2, k3⟩, hrw, -⟩ := hD
  have hcap := hrw.caps.1
  have hhl := hgd.lens.1
  have HBS := Lib.hid (bs_c A1 c1 d.H x w hrw.rd1 (by omega) (hol_sorted hgd.1))
  have HR := Lib.hid hrw.rd1
  have hfz := fz 0
  have hat := atN_le d.H x
  cases e1 : decide (d.H[atN d.H x]? = some x)
  · have HFL := Lib.hid (insN_flat e1)
    have HLEN := Lib.hid (insN_new_len e1)
    have HON := Lib.hid (one_ints .i64 d.H)
    rw [e1] at HBS
    cases e2 : holOk (insN d.H x)
    · have HP : Hid (holP d.H x = (d.H, 1)) := by unfold Hid holP; rw [e2]; rfl
      have HE2 := Lib.hid e2
      clear e1 e2 k2 k3 hrw hgd fz
      generalize atN d.H x = I at *
      go_enter Tryz.func149, Tryz.ntmps149
      go_wp2_with fail
      refine HBS.out.mono ?_
      rintro e w1 ⟨rfl, hb1⟩
      have f1 : w1.cell? ⟨g, 0, none⟩ = some (.slice A1 d.H.length c1) := (hb1.cell (p := ⟨g, 0, none⟩) hgl).trans k1
      have hs1 := hb1.size
      go_wp2_with fail
      refine (clone_intsx A1 c1 d.H w1 (rdW hb1 HR.out) (by omega)).mono ?_
      rintro e w3 ⟨h, rfl, ho3, hb3⟩
      have HB3 := Lib.hid (bt hb1 hb3)
      have HZ3 := Lib.hid hb3.size
      clear f1
      go_wp2_with fail
      refine (insertints_c h d.H.length I w3.heap.size w1.heap.size (d.H.map (Value.int .i64)) [.int .i64 x] _ (ho3.alloc _) hat (by omega) rfl (by simp [Value.oneCell']) HON.out (heap_alloc_new w3 _) (by have := HZ3.out; simp; omega)).mono ?_
      rintro e w4 ⟨A4, c4, rfl, ho4, hg4⟩
      have hB4 : Below w.heap.size w w4 := below_grown (HB3.out.alloc HB3.out.size _) hg4 (Nat.le_refl _) (fun k hk => by cases hk; have := (own_lt ho3).1; omega)
      have HO4 : Hid (w4.ownsRow w.heap.size 2 1 (.slice A4 (insN d.H x).length c4) (insN d.H x).length ((insN d.H x).map (Value.int .i64))) := by unfold Hid; rw [HLEN.out, HFL.out]; exact own_mono ho4 hs1
      have HAH := Lib.hid (impl_AreHolidays A4 c4 (insN d.H x) _ w4 (Rd.of_own1 HO4.out) (by rw [HLEN.out]; omega) (own_cap HO4.out).1 HE2.out)
      rw [HLEN.out] at HAH
      clear ho4 ho3 hg4
      go_wp2_with fail
      refine (HAH.out.mono ?_)
      rintro e w' ⟨rfl, rfl⟩
      go_wp2
      go_ret
      exact ⟨by rw [HP.out]; rfl, by rw [HP.out]; exact HD.out.below hB4, grown_of_below hB4 _⟩
    · have HP : Hid (holP d.H x = (insN d.H x, 0)) := by unfold Hid holP; rw [e2]; rfl
      have HE2 := Lib.hid e2
      clear e1 e2 k2 k3 hrw hgd fz
      generalize atN d.H x = I at *
      go_enter Tryz.func149, Tryz.ntmps149
      go_wp2_with fail
      refine HBS.out.mono ?_
      rintro e w1 ⟨rfl, hb1⟩
      have f1 : w1.cell? ⟨g, 0, none⟩ = some (.slice A1 d.H.length c1) := (hb1.cell (p := ⟨g, 0, none⟩) hgl).trans k1
      have hs1 := hb1.size
      go_wp2_with fail
      refine (clone_intsx A1 c1 d.H w1 (rdW hb1 HR.out) (by omega)).mono ?_
      rintro e w3 ⟨h, rfl, ho3, hb3⟩
      have HB3 := Lib.hid (bt hb1 hb3)
      have HZ3 := Lib.hid hb3.size
      clear f1
      go_wp2_with fail
      refine (insertints_c h d.H.length I w3.heap.size w1.heap.size (d.H.map (Value.int .i64)) [.int .i64 x] _ (ho3.alloc _) hat (by omega) rfl (by simp [Value.oneCell']) HON.out (heap_alloc_new w3 _) (by have := HZ3.out; simp; omega)).mono ?_
      rintro e w4 ⟨A4, c4, rfl, ho4, hg4⟩
      have hB4 : Below w.heap.size w w4 := below_grown (HB3.out.alloc HB3.out.size _) hg4 (Nat.le_refl _) (fun k hk => by cases hk; have := (own_lt ho3).1; omega)
      have HO4 : Hid (w4.ownsRow w.heap.size 2 1 (.slice A4 (insN d.H x).length c4) (insN d.H x).length ((insN d.H x).map (Value.int .i64))) := by unfold Hid; rw [HLEN.out, HFL.out]; exact own_mono ho4 hs1
      have HAH := Lib.hid (impl_AreHolidays A4 c4 (insN d.H x) _ w4 (Rd.of_own1 HO4.out) (by rw [HLEN.out]; omega) (own_cap HO4.out).1 HE2.out)
      rw [HLEN.out] at HAH
      clear ho4 ho3 hg4
      go_wp2_with fail
      have f0 : w4.cell? ⟨g, 0, none⟩ = some (.slice A1 d.H.length c1) := (hB4.cell (p := ⟨g, 0, none⟩) hgl).trans k1
      have z0 : w4.frozen? ⟨g, 0, none⟩ = false := (hB4.frozen (p := ⟨g, 0, none⟩) hgl).trans hfz
      refine (HAH.out.mono ?_)
      rintro e w' ⟨rfl, rfl⟩
      go_wp2
      go_ret
      have hres := HD.out.setH hB4 HO4.out HE2.out
      rw [HLEN.out] at hres
      exact ⟨by rw [HP.out]; rfl, by rw [HP.out]; exact hres, grown_set (grown_of_below hB4 _)⟩
  · have HP : Hid (holP d.H x = (d.H, 0)) := by unfold Hid holP; rw [insN_in e1, hgd.1]; rfl
    rw [e1] at HBS
    clear e1 k2 k3 hrw hgd fz
    generalize atN d.H x = I at *
    go_enter Tryz.func149, Tryz.ntmps149
    go_wp2_with fail
    refine HBS.out.mono ?_
    rintro e w1 ⟨rfl, hb1⟩
    go_wp2
    go_ret
    exact ⟨by rw [HP.out]; rfl, by rw [HP.out]; exact HD.out.below hb1, grown_of_below hb1 _⟩
end Go.Proofs.YtiamignopfhkfaaGreatDoor
end
