/- Contracts: l03Shuffle; SampleOf of both texts. Plain: the text of numbers. Contracts: numbersText, l01Text. -/
import Derived.Test.YtiamignopfhkfaaGreatDoorZ12
import Derived.Test.YtiamignopfhkfaaGreatDoorZ11
import Derived.Lib.Join
section
namespace Go.Proofs.YtiamignopfhkfaaGreatDoor
open Go.RowKit
set_option linter.unusedVariables false
set_option linter.unusedSimpArgs false
set_option maxRecDepth 100000 in
set_option maxHeartbeats 4000000 in
theorem l03Shuffle_c (s : Int) (n : Nat) (w : World) (hs : 0 ≤ s ∧ s ≤ 2147483646) (hn : n ≤ 200) : Calls Tryz.prog 168 #[.int .i64 s, .int .i64 n] w fun e w' => ∃ A2 c2, e = .returned (.slice A2 n c2) ∧ w'.ownsRow w.heap.size 2 1 (.slice A2 n c2) n ((shI n s (n - 1)).1.map (Value.int .i64)) ∧ Below w.heap.size w w' := by
  obtain ⟨i0, hi, hz0, hz1, hz2⟩ := info_parts int_info
  have hown0 := Lib.hid (World.ownsRow_lit (base := w.heap.size) (e := 2) (size := 1) w #[] 0 (Nat.le_refl _) (by unfold maxLen; omega) rfl)
  go_enter Tryz.func168, Tryz.ntmps168
  go_wp2
  go_loopw [5, 6] (fun v i wr => ∃ (k : Nat) (A2 : Option Addr) (c2 : Nat), k ≤ n ∧ i = .int .i64 k ∧ v = .slice A2 (rngI k).length c2 ∧ Below w.heap.size w wr ∧ Hid (wr.ownsRow w.heap.size 2 1 (.slice A2 (rngI k).length c2) (rngI k).length ((rngI k).map (Value.int .i64)))) (fun _ i _ => n - (intOf i).toNat)
  case atStart => exact ⟨0, _, _, by omega, rfl, rfl, (Below.refl _ _).alloc (Nat.le_refl _) _, hown0⟩
  case round =>
    obtain ⟨k, A2, c2, hk, rfl, rfl, hB, HO⟩ := hrel
    clear hown0
    have hszr := hB.size
    have HLN := Lib.hid (rngI_len k)
    have hlb : (rngI k).length ≤ 200 := by rw [rngI_len]; omega
    by_cases hlt : k < n
    · have hk' : (k : Int) < (n : Int) := by omega
      have hk0 : (0 : Int) ≤ (k : Int) := by omega
      go_wp2_with (first | (at_builtin; refine wpList_push wr rfl _ _ 30 rfl w.heap.size 2 i0 _ 1 8 Tryz.underlying30 hi hz0 hz1 hz2 rfl (by decide) (.slice A2 (rngI k).length c2) ((rngI k).length) ((rngI k).map (Value.int .i64)) (by rfl) HO.out [.int .i64 (k : Int)] 2 (by rfl) rfl (by simp [Value.oneCell']) (by unfold maxLen; omega) (by omega) (by omega) ?_; intro A7 c7 w7 ho7 hg7; have HO7 := Lib.hid (own_snocR ho7); have hb7 := below_grown hB hg7 (Nat.le_refl _) (fun k hk => HO.out.lt k hk |>.1); clear ho7 hg7))
      go_roundw
      case rel => exact ⟨k + 1, A7, c7, by omega, by go_num, by rw [rngI_len, rngI_len], hb7, HO7⟩
      case measure => simp [intOf]; omega
    · obtain rfl : k = n := by omega
      have HST : Hid (wr.ownsRow w.heap.size 2 1 (.slice A2 k c2) k ((shI k s 0).1.map (Value.int .i64))) := by
        have h9 := HO.out
        rw [rngI_len] at h9
        exact h9
      have hrl : (rngI k).length = k := rngI_len k
      clear HO hlb HLN
      go_wp2
      rw [hrl]
      clear hrl
      go_loopw [0, 7] (fun u i wr2 => ∃ j : Nat, (j = 0 ∨ j + 1 ≤ k) ∧ i = .int .i64 j ∧ u = .int .i64 (shI k s j).2 ∧ Below w.heap.size w wr2 ∧ Hid (wr2.ownsRow w.heap.size 2 1 (.slice A2 k c2) k ((shI k s j).1.map (Value.int .i64)))) (fun _ i _ => k - (intOf i).toNat)
      case atStart => exact ⟨0, .inl rfl, rfl, rfl, hB, HST⟩
      case round =>
        obtain ⟨wr2, rfl⟩ : ∃ x, x = wr := ⟨_, rfl⟩
        obtain ⟨j, hj, rfl, rfl, hB2, HO2⟩ := hrel
        clear HST
        by_cases hlt : j + 1 < k
        · have HSH : Hid (shI k s (j + 1) = (swpI (shI k s j).1 j (j + jmp (shI k s j).2 k j), stN (shI k s j).2)) := rfl
          have hL := shI_len k s j
          have hq := shI_bd (n := k) hs j
          obtain ⟨hJ, hJ2, hJ3, hJ4⟩ := jmp_bd (s := (shI k s j).2) (show j < k by omega) hn
          have hsb := stN_bd (shI k s j).2
          have HBL := Lib.hid (l03Next_c (shI k s j).2 wr2 hq)
          generalize stN (shI k s j).2 = sq at *
          generalize hqj : jmp (shI k s j).2 k j = J at *
          clear hqj
          generalize (shI k s j).2 = q at *
          generalize (shI k s j).1 = L at *
          have htd : (sq * ((k : Int) - (j : Int))).tdiv 2147483647 = (J : Int) := by rw [Int.tdiv_eq_ediv_of_nonneg hJ3]; exact hJ2
          have hmw : IntKind.i64.wrap (sq * ((k : Int) - (j : Int))) = sq * ((k : Int) - (j : Int)) := IntWalk.i64_in _ (by omega)
          clear hJ2
          obtain ⟨g, rfl, hg1, hg2⟩ := own_head HO2.out (by omega)
          have hcap := own_cap HO2.out
          have f1 : wr2.cell? ⟨g, j, none⟩ = some (.int .i64 L[j]) := (HO2.out.cellAt j (by omega)).trans (by simp [List.getElem?_eq_getElem (show j < L.length by omega)])
          have f2 : wr2.cell? ⟨g, j + J, none⟩ = some (.int .i64 L[j + J]) := (HO2.out.cellAt (j + J) (by omega)).trans (by simp [List.getElem?_eq_getElem (show j + J < L.length by omega)])
          have z1 := HO2.out.frozenAt j
          have z2 := HO2.out.frozenAt (j + J)
          have HSW := Lib.hid (swp_map (L := L) (i := j) (j := j + J) (by omega) (by omega))
          have HO3 := Lib.hid (((HO2.out.stored j (.int .i64 L[j + J])).1.stored (j + J) (.int .i64 L[j])).1)
          have hB3 := (hB2.setCell (p := ⟨g, j, none⟩) hg1 (.int .i64 L[j + J])).setCell (p := ⟨g, j + J, none⟩) hg1 (.int .i64 L[j])
          have hwj : IntKind.i64.wrap ((j : Int) + (J : Int)) = ((j + J : Nat) : Int) := by rw [IntWalk.i64_in _ (by omega)]; rfl
          have hwj2 : (j : Int) + (J : Int) = ((j + J : Nat) : Int) := rfl
          have hti : ((j + J : Nat) : Int) < (k : Int) := by omega
          have htc : ((j + J : Nat) : Int) ≤ (c2 : Int) := by omega
          have hjc : (j : Int) ≤ (c2 : Int) := by omega
          have hji : (j : Int) < (k : Int) := by omega
          have ht0 : (0 : Int) ≤ ((j + J : Nat) : Int) := by omega
          have hj0 : (0 : Int) ≤ (j : Int) := by omega
          rw [HSW.out] at HO3
          clear HSW
          generalize L[j] = y1 at *
          generalize L[j + J] = y2 at *
          clear hL
          have hJn : (J : Int) ≤ 200 := by omega
          generalize j + J = t at *
          by_cases hjt : j = t
          · have hjt2 := hjt.symm
            clear hjt
            subst hjt2
            have hyy : y1 = y2 := by
              have h9 := f1.symm.trans f2
              simpa using h9
            subst hyy
            go_wp2_with (first | (go_at_call 200; refine HBL.out.mono ?_; rintro e w' ⟨rfl, rfl⟩))
            go_roundw
            case rel => exact ⟨t + 1, .inr (by omega), by go_num, by rw [HSH.out], hB3, by rw [HSH.out]; exact HO3⟩
            case measure => simp [intOf]; omega
          · have hjt2 : ¬ t = j := fun e => hjt e.symm
            go_wp2_with (first | (go_at_call 200; refine HBL.out.mono ?_; rintro e w' ⟨rfl, rfl⟩))
            go_roundw
            case rel => exact ⟨j + 1, .inr (by omega), by go_num, by rw [HSH.out], hB3, by rw [HSH.out]; exact HO3⟩
            case measure => simp [intOf]; omega
        · have HJE : Hid (j = k - 1) := by unfold Hid; omega
          have hcap := own_cap HO2.out
          go_wp2
          go_ret
          exact ⟨A2, c2, rfl, by rw [← HJE.out]; exact HO2.out, hB2⟩
theorem isState_b (x : Int) (b : Bool) (w : World) (h : inB x 1 2147483646 = b) : Calls Tryz.prog 143 #[.int .i64 x] w fun e w' => e = .returned (.bool b) ∧ w = w' := by
  go_enter Tryz.func143, Tryz.ntmps143
  go_wp2_with (first | (go_at_call 92; refine (within_b _ _ _ _ _ h).mono ?_; rintro e w' ⟨rfl, rfl⟩))
  go_ret
  exact ⟨rfl, rfl⟩
theorem isDrawn_b (x : Int) (b : Bool) (w : World) (h : inB x 0 200 = b) : Calls Tryz.prog 144 #[.int .i64 x] w fun e w' => e = .returned (.bool b) ∧ w = w' := by
  go_enter Tryz.func144, Tryz.ntmps144
  go_wp2_with (first | (go_at_call 92; refine (within_b _ _ _ _ _ h).mono ?_; rintro e w' ⟨rfl, rfl⟩))
  go_ret
  exact ⟨rfl, rfl⟩
theorem l03Is_b (x : Int) (b : Bool) (w : World) (h : inB x 1 2147483646 = b) : Calls Tryz.prog 199 #[.int .i64 x] w fun e w' => e = .returned (.bool b) ∧ w = w' := by
  go_enter Tryz.func199, Tryz.ntmps199
  go_wp2_with (first | (go_at_call 81; refine (l01In_b _ _ _ _ _ h).mono ?_; rintro e w' ⟨rfl, rfl⟩))
  go_ret
  exact ⟨rfl, rfl⟩
def l03C (s n : Int) : Int := if (inB s 1 2147483646 && inB n 0 200) = true then 0 else 2
theorem l03Code_c (s n : Int) (w : World) : Calls Tryz.prog 167 #[.int .i64 s, .int .i64 n] w fun e w' => e = .returned (.int .i64 (l03C s n)) ∧ w = w' := by
  generalize hc : l03C s n = c
  have HC := Lib.hid hc; clear hc
  go_enter Tryz.func167, Tryz.ntmps167
  go_wp2_with (first | (go_at_call 81; refine (l01In_b _ _ _ _ _ rfl).mono ?_; rintro e w' ⟨rfl, rfl⟩) | (go_at_call 199; refine (l03Is_b _ _ _ rfl).mono ?_; rintro e w' ⟨rfl, rfl⟩))
  all_goals (go_ret; exact ⟨ret_int (by rw [← HC.out]; simp_all [l03C]), rfl⟩)
theorem takeR {w : World} {B : Nat} {A : Option Addr} {L : List Int} (h : Rd w B A L.length (L.map (Value.int .i64))) {k : Nat} (hk : k ≤ L.length) : Rd w B A (L.take k).length ((L.take k).map (Value.int .i64)) := by
  refine ⟨by simp, fun hn => ?_⟩
  have hl : (L.take k).length = k := by rw [List.length_take, Nat.min_eq_left hk]
  obtain ⟨b, off, e, hb, hc⟩ := h.2 (by omega)
  refine ⟨b, off, e, hb, fun j u hu => hc j u ?_⟩
  rw [List.getElem?_map, List.getElem?_take] at hu
  rw [List.getElem?_map]
  split at hu
  · exact hu
  · simp at hu
theorem sampC_0 {s n k : Int} (h : sampC s n k = 0) : (1 ≤ s ∧ s ≤ 2147483646) ∧ (0 ≤ n ∧ n ≤ 200) ∧ (0 ≤ k ∧ k ≤ n) := by
  unfold sampC at h
  split at h
  · rename_i h1
    simp only [Bool.and_eq_true] at h1
    exact ⟨inB_iff.1 h1.1.1, inB_iff.1 h1.1.2, inB_iff.1 h1.2⟩
  · omega
theorem sampL_0 {s : Int} {n k : Nat} (h : sampC s n k = 0) : sampL s n k = (shI n s (n - 1)).1.take k := by unfold sampL; rw [if_pos h]; simp
theorem sampL_no {s n k : Int} (h : ¬ sampC s n k = 0) : sampL s n k = [] := by unfold sampL; rw [if_neg h]
theorem sampC_no {s n k : Int} (h : ¬ sampC s n k = 0) : sampC s n k = 2 := by unfold sampC at h ⊢; split at h <;> simp_all
theorem swp_sub {L : List Int} {i k : Nat} (h : ∀ x ∈ L, 0 ≤ x ∧ x ≤ 200) : ∀ x ∈ swpI L i k, 0 ≤ x ∧ x ≤ 200 := by
  have hg : ∀ j : Nat, 0 ≤ L.getD j 0 ∧ L.getD j 0 ≤ 200 := fun j => by
    rw [List.getD_eq_getElem?_getD]
    by_cases hj : j < L.length
    · rw [List.getElem?_eq_getElem hj]; exact h _ (List.getElem_mem hj)
    · rw [List.getElem?_eq_none (by omega)]; simp
  intro x hx
  unfold swpI at hx
  rcases List.mem_or_eq_of_mem_set hx with h1 | rfl
  · rcases List.mem_or_eq_of_mem_set h1 with h2 | rfl
    · exact h x h2
    · exact hg k
  · exact hg i
theorem shI_mem {n : Nat} {s : Int} (hn : n ≤ 200) : ∀ i, ∀ x ∈ (shI n s i).1, 0 ≤ x ∧ x ≤ 200
  | 0 => fun x hx => by
    simp only [shI, rngI, List.mem_map, List.mem_range] at hx
    obtain ⟨a, ha, rfl⟩ := hx
    omega
  | i + 1 => by rw [shI]; exact swp_sub (shI_mem hn i)
theorem sampL_mem (s n k : Int) : (sampL s n k).length ≤ 200 ∧ ∀ x ∈ sampL s n k, 0 ≤ x ∧ x ≤ 200 := by
  by_cases h : sampC s n k = 0
  · obtain ⟨h1, h2, h3⟩ := sampC_0 h
    unfold sampL
    rw [if_pos h]
    exact ⟨by rw [List.length_take, shI_len]; omega, fun x hx => shI_mem (by omega) _ x (List.mem_of_mem_take hx)⟩
  · rw [sampL_no h]; simp
set_option maxRecDepth 100000 in
set_option maxHeartbeats 2000000 in
theorem sample_c (s : Int) (n k : Nat) (w : World) (hs : 0 ≤ s ∧ s ≤ 2147483646) (hn : n ≤ 200) (hk : k ≤ n) : Calls Tryz.prog 145 #[.int .i64 s, .int .i64 n, .int .i64 k] w (RowPost1 2 1 ((shI n s (n - 1)).1.take k).length (((shI n s (n - 1)).1.take k).map (Value.int .i64)) w) := by
  have HS := Lib.hid (shuffled_c s n w hs hn)
  have hL := shI_len n s (n - 1)
  have hkl : ((shI n s (n - 1)).1.take k).length = k := by rw [List.length_take, hL]; omega
  have HKL := Lib.hid hkl
  have HTL := Lib.hid hL
  generalize (shI n s (n - 1)).1 = L at *
  generalize (shI n s (n - 1)).2 = q at *
  clear hkl hL
  have hki : (k : Int) ≤ (n : Int) := by omega
  have hk0 : (0 : Int) ≤ (k : Int) := by omega
  go_enter Tryz.func145, Tryz.ntmps145
  go_wp2_with fail
  refine HS.out.mono ?_
  rintro e w1 ⟨A2, c2, rfl, ho, hb1⟩
  have hcap := own_cap ho
  have hkc : (k : Int) ≤ (c2 : Int) := by omega
  have HR := Lib.hid (show Rd w1 w1.heap.size A2 (L.take k).length ((L.take k).map (Value.int .i64)) from takeR (by rw [HTL.out]; exact Rd.of_own1 ho) (by rw [HTL.out]; omega))
  clear ho
  go_wp2_with fail
  have HC := Lib.hid (clone_ints A2 c2 (L.take k) w1 HR.out (by rw [HKL.out]; omega))
  rw [HKL.out] at HC
  refine HC.out.mono ?_
  rintro e w2 ⟨A3, c3, rfl, ho3, hb3, hc3, hm3⟩
  go_wp2
  go_ret
  rw [HKL.out]
  exact rowPost1_mk (own_mono ho3 hb1.size) (bt hb1 hb3)
set_option maxRecDepth 100000 in
set_option maxHeartbeats 2000000 in
theorem impl_SampleOf (s n k : Int) (w : World) : Calls Tryz.prog 107 #[.int .i64 s, .int .i64 n, .int .i64 k] w (RowPost2 2 1 (sampL s n k).length ((sampL s n k).map (Value.int .i64)) (sampC s n k) w) := by
  by_cases h0 : sampC s n k = 0
  · obtain ⟨h1, h2, h3⟩ := sampC_0 h0
    obtain ⟨N, rfl⟩ := Int.eq_ofNat_of_zero_le h2.1
    obtain ⟨k, rfl⟩ := Int.eq_ofNat_of_zero_le h3.1
    rw [sampL_0 h0, h0]
    have HS := Lib.hid (fun W => sample_c s N k W ⟨by omega, h1.2⟩ (by omega) (by omega))
    generalize (shI N s (N - 1)).1.take k = L at *
    have e1 := inB_true h1.1 h1.2
    have e2 := inB_true h2.1 h2.2
    have e3 := inB_true h3.1 h3.2
    clear h0
    go_enter Tryz.func107, Tryz.ntmps107
    go_wp2_with (first | (go_at_call 143; refine (isState_b _ _ _ e1).mono ?_; rintro e w' ⟨rfl, rfl⟩) | (go_at_call 144; refine (isDrawn_b _ _ _ e2).mono ?_; rintro e w' ⟨rfl, rfl⟩) | (go_at_call 92; refine (within_b _ _ _ _ _ e3).mono ?_; rintro e w' ⟨rfl, rfl⟩))
    refine (HS.out w).mono ?_
    rintro e w2 ⟨A3, c3, rfl, ho3, hb3, hc3, hm3⟩
    go_wp2
    go_ret2
    exact rowPost2_mk ho3 hb3
  · rw [sampL_no h0, sampC_no h0]
    cases e1 : inB s 1 2147483646
    · go_enter Tryz.func107, Tryz.ntmps107
      go_wp2_with (first | (go_at_call 143; refine (isState_b _ _ _ e1).mono ?_; rintro e w' ⟨rfl, rfl⟩))
      go_ret2
      exact rowPost2_nil (Below.refl _ _)
    · cases e2 : inB n 0 200
      · go_enter Tryz.func107, Tryz.ntmps107
        go_wp2_with (first | (go_at_call 143; refine (isState_b _ _ _ e1).mono ?_; rintro e w' ⟨rfl, rfl⟩) | (go_at_call 144; refine (isDrawn_b _ _ _ e2).mono ?_; rintro e w' ⟨rfl, rfl⟩))
        go_ret2
        exact rowPost2_nil (Below.refl _ _)
      · have e3 : inB k 0 n = false := by
          rw [← Bool.not_eq_true]; intro h
          exact h0 (by unfold sampC; rw [e1, e2, h]; rfl)
        go_enter Tryz.func107, Tryz.ntmps107
        go_wp2_with (first | (go_at_call 143; refine (isState_b _ _ _ e1).mono ?_; rintro e w' ⟨rfl, rfl⟩) | (go_at_call 144; refine (isDrawn_b _ _ _ e2).mono ?_; rintro e w' ⟨rfl, rfl⟩) | (go_at_call 92; refine (within_b _ _ _ _ _ e3).mono ?_; rintro e w' ⟨rfl, rfl⟩))
        go_ret2
        exact rowPost2_nil (Below.refl _ _)
/-- What the reference's SampleOf hands back: a slice that reads as the list. -/
def SampX (L : List Int) (code : Int) (w : World) (e : Ending) (w' : World) : Prop :=
  ∃ A c, e = .returned (.tuple #[.slice A L.length c, .int .i64 code]) ∧ L.length ≤ c ∧ Rd w' w'.heap.size A L.length (L.map (Value.int .i64)) ∧ Below w.heap.size w w'
theorem sampX_nil {w w' : World} {code : Int} (hb : Below w.heap.size w w') : SampX [] code w (.returned (.tuple #[.slice none 0 0, .int .i64 code])) w' := ⟨none, 0, rfl, Nat.le_refl _, Rd.nil_, hb⟩
set_option maxRecDepth 100000 in
set_option maxHeartbeats 2000000 in
theorem spec_SampleOf (s n k : Int) (w : World) : Calls Tryz.prog 121 #[.int .i64 s, .int .i64 n, .int .i64 k] w (SampX (sampL s n k) (sampC s n k) w) := by
  have HK := Lib.hid (l03Code_c s n w)
  by_cases h0 : sampC s n k = 0
  · obtain ⟨h1, h2, h3⟩ := sampC_0 h0
    obtain ⟨N, rfl⟩ := Int.eq_ofNat_of_zero_le h2.1
    obtain ⟨k, rfl⟩ := Int.eq_ofNat_of_zero_le h3.1
    rw [sampL_0 h0, h0]
    have HS := Lib.hid (fun W => l03Shuffle_c s N W ⟨by omega, h1.2⟩ (by omega))
    have hL := shI_len N s (N - 1)
    have hkl : ((shI N s (N - 1)).1.take k).length = k := by rw [List.length_take, hL]; omega
    have HKL := Lib.hid hkl
    have HTL := Lib.hid hL
    generalize (shI N s (N - 1)).1 = L at *
    clear hkl hL
    have e3 := inB_true h3.1 h3.2
    have hlc : l03C s N = 0 := by unfold l03C; rw [inB_true h1.1 h1.2, inB_true h2.1 h2.2]; rfl
    rw [hlc] at HK
    clear h0 hlc
    go_enter Tryz.func121, Tryz.ntmps121
    go_wp2_with fail
    refine HK.out.mono ?_
    rintro e w' ⟨rfl, rfl⟩
    go_wp2_with (first | (go_at_call 81; refine (l01In_b _ _ _ _ _ e3).mono ?_; rintro e w' ⟨rfl, rfl⟩))
    refine (HS.out w).mono ?_
    rintro e w1 ⟨A2, c2, rfl, ho, hb1⟩
    have hcap := own_cap ho
    have hkc : (k : Int) ≤ (c2 : Int) := by omega
    have HR := Lib.hid (show Rd w1 w1.heap.size A2 (L.take k).length ((L.take k).map (Value.int .i64)) from takeR (by rw [HTL.out]; exact Rd.of_own1 ho) (by rw [HTL.out]; omega))
    clear ho
    go_wp2
    go_ret2
    exact ⟨A2, c2, by rw [HKL.out]; rfl, by rw [HKL.out]; omega, HR.out, hb1⟩
  · rw [sampL_no h0, sampC_no h0]
    by_cases hl : l03C s n = 0
    · have e3 : inB k 0 n = false := by
        rw [← Bool.not_eq_true]; intro h
        apply h0
        unfold l03C at hl
        split at hl
        · rename_i h9; unfold sampC; rw [h9, h]; rfl
        · omega
      rw [hl] at HK
      clear h0 hl
      go_enter Tryz.func121, Tryz.ntmps121
      go_wp2_with fail
      refine HK.out.mono ?_
      rintro e w' ⟨rfl, rfl⟩
      go_wp2_with (first | (go_at_call 81; refine (l01In_b _ _ _ _ _ e3).mono ?_; rintro e w' ⟨rfl, rfl⟩))
      go_ret2
      exact sampX_nil (Below.refl _ _)
    · have hl2 : l03C s n = 2 := by unfold l03C at hl ⊢; split at hl <;> simp_all
      rw [hl2] at HK
      clear h0 hl hl2
      go_enter Tryz.func121, Tryz.ntmps121
      go_wp2_with fail
      refine HK.out.mono ?_
      rintro e w' ⟨rfl, rfl⟩
      go_wp2
      go_ret2
      exact sampX_nil (Below.refl _ _)
end Go.Proofs.YtiamignopfhkfaaGreatDoor
end
section
namespace Go.Proofs.YtiamignopfhkfaaGreatDoor
open Go.RowKit
set_option linter.unusedVariables false
def numsL (N : List Int) : List (List UInt8) := N.map Lib.itoa
/-- Numbers, separated by commas, or a minus sign for none. -/
def numsT (N : List Int) : ByteArray := if N = [] then ⟨#[45]⟩ else ⟨(Lib.join (numsL N) [44]).toArray⟩
theorem joinTail_snoc (sep x : List UInt8) (r : List (List UInt8)) : Lib.joinTail sep (r ++ [x]) = Lib.joinTail sep r ++ (sep ++ x) := by simp [Lib.joinTail]
theorem join_snoc {xs : List (List UInt8)} (h : xs ≠ []) (x sep : List UInt8) : Lib.join (xs ++ [x]) sep = Lib.join xs sep ++ (sep ++ x) := by
  cases xs with
  | nil => exact absurd rfl h
  | cons y r => rw [List.cons_append, Lib.join_cons, Lib.join_cons, joinTail_snoc]; simp
theorem nums_snoc {N : List Int} {k : Nat} (hk : k < N.length) (h0 : 0 < k) : Lib.join (numsL (N.take (k + 1))) [44] = Lib.join (numsL (N.take k)) [44] ++ ([44] ++ Lib.itoa N[k]) := by
  rw [List.take_succ_eq_append_getElem hk, numsL, List.map_append]
  refine join_snoc ?_ _ _
  have : (List.map Lib.itoa (N.take k)).length = k := by simp; omega
  intro e
  rw [e] at this
  simp at this; omega
theorem nums_first {N : List Int} (hk : 0 < N.length) : Lib.join (numsL (N.take (0 + 1))) [44] = Lib.itoa N[0] := by
  rw [List.take_succ_eq_append_getElem hk]; simp [numsL, Lib.join_one]
theorem nums_len : ∀ (N : List Int), (∀ x ∈ N, 0 ≤ x ∧ x ≤ 1000000000000000) → (Lib.join (numsL N) [44]).length ≤ N.length * 22 := by
  intro N h
  cases N with
  | nil => simp [numsL, Lib.join_nil]
  | cons a r =>
    rw [numsL, List.map_cons, Lib.join_length]
    have hl : ∀ (M : List Int), (∀ x ∈ M, 0 ≤ x ∧ x ≤ 1000000000000000) → Lib.lens (M.map Lib.itoa) ≤ M.length * 21 := by
      intro M
      induction M with
      | nil => intro _; simp [Lib.lens]
      | cons b M ih =>
        intro hM
        have h1 := ih (fun x hx => hM x (by simp [hx]))
        have h2 := hM b (by simp)
        have h3 := Lib.itoa_length_le b (by omega) (by omega)
        simp only [Lib.lens, List.map_cons, List.sum_cons, List.length_cons] at h1 ⊢; omega
    have := hl (a :: r) h
    rw [List.map_cons] at this
    simp only [List.length_map, List.length_cons, List.length_nil] at this ⊢
    omega
end Go.Proofs.YtiamignopfhkfaaGreatDoor
end
section
namespace Go.Proofs.YtiamignopfhkfaaGreatDoor
open Go.RowKit
set_option linter.unusedVariables false
theorem numsT_nil : numsT [] = ⟨#[45]⟩ := rfl
theorem numsT_cons {N : List Int} (h : 0 < N.length) : numsT N = ⟨(Lib.join (numsL N) [44]).toArray⟩ := by
  unfold numsT; rw [if_neg (by rintro rfl; simp at h)]
theorem decI_data (n : Int) : (decI n).data.toList = Lib.itoa n := by simp [decI]
theorem map_dec (N : List Int) : (N.map decI).map (·.data.toList) = numsL N := by
  unfold numsL; rw [List.map_map]; congr 1
set_option maxRecDepth 100000 in
set_option maxHeartbeats 2000000 in
theorem numbersText_c (A : Option Addr) (c : Nat) (N : List Int) (w : World) (hr : Rd w w.heap.size A N.length (N.map (Value.int .i64))) (hl : N.length ≤ 1000) (hcap : N.length ≤ c) (hb : ∀ x ∈ N, 0 ≤ x ∧ x ≤ 1000000000000000) (ht : TabW w) :
    Calls Tryz.prog 137 #[.slice A N.length c] w fun e w' => e = .returned (.string (numsT N)) ∧ Below w.heap.size w w' := by
  by_cases h0 : N.length = 0
  · have hN : N = [] := List.eq_nil_of_length_eq_zero h0
    subst hN
    go_enter Tryz.func137, Tryz.ntmps137
    go_wp2
    go_ret
    exact ⟨rfl, Below.refl _ _⟩
  · have HT := Lib.hid ht
    have HF := Lib.hid (numsT_cons (N := N) (by omega))
    have HLEN := Lib.hid (nums_len N hb)
    have HBD := Lib.hid hb
    have hn0 : (1 : Int) ≤ (N.length : Int) := by omega
    have H0 := Lib.hid h0
    clear ht hb h0
    obtain ⟨i0, hi, hz0, hz1, hz2⟩ := info_parts str_info
    go_enter Tryz.func137, Tryz.ntmps137
    go_wp2_with fail
    have hown0 := Lib.hid (World.ownsRow_lit (base := w.heap.size) (e := 9) (size := 1) w #[] 0 (Nat.le_refl _) (by unfold maxLen; omega) rfl)
    go_wp2
    go_loopw [3, 12] (fun v iv wr => ∃ (k : Nat) (D : List ByteArray) (A2 : Option Addr) (c2 : Nat), k ≤ N.length ∧ iv = .int .i64 k ∧ v = .slice A2 D.length c2 ∧ D.length = k ∧ Below w.heap.size w wr ∧ Hid (wr.ownsRow w.heap.size 9 1 (.slice A2 D.length c2) D.length (D.map Value.string)) ∧ Hid (D = (N.take k).map decI)) (fun _ iv _ => N.length - (intOf iv).toNat)
    case atStart => exact ⟨0, [], _, _, by omega, rfl, rfl, rfl, (Below.refl _ _).alloc (Nat.le_refl _) _, hown0, by simp [Hid]⟩
    case round =>
      obtain ⟨k, D, A2, c2, hk, rfl, rfl, hDk, hB, HO, HD⟩ := hrel
      clear hown0
      have hszr := hB.size
      by_cases hlt : k < N.length
      · obtain ⟨bf, offf, rfl, hbf, hcf⟩ := Rd.ints (rdW hB hr) hlt
        have f0 := hcf k hlt
        clear hcf
        have hx := HBD.out _ (List.getElem_mem hlt)
        have HS : Hid (D ++ [decI N[k]] = (N.take (k + 1)).map decI) := by
          unfold Hid; rw [HD.out, List.take_succ_eq_append_getElem hlt, List.map_append]; rfl
        have hk1 : (k : Int) < (N.length : Int) := by omega
        have hk0 : (0 : Int) ≤ (k : Int) := by omega
        generalize N[k] = x at *
        have HDK := Lib.hid hDk
        clear hDk
        have hDl : D.length ≤ 1000 := by have := HDK.out; omega
        go_wp2_with fail
        refine (decimalI_c x (by omega) (by omega) wr (HT.out.below hB)).mono ?_
        rintro e w2 ⟨rfl, hb2⟩
        have HB2 := Lib.hid (bt hB hb2)
        have HO2 := Lib.hid (own_below HO.out hb2)
        have hz2b := hb2.size
        clear hb2
        go_wp2_with (first | (at_builtin; refine wpList_push w2 rfl _ _ 25 rfl w.heap.size 9 i0 _ 1 16 Tryz.underlying25 hi hz0 hz1 hz2 rfl (by decide) (.slice A2 D.length c2) (D.length) (D.map Value.string) (by rfl) HO2.out [.string (decI x)] 9 (by rfl) rfl (by simp [Value.oneCell']) (by unfold maxLen; omega) (by omega) (by omega) ?_; intro A7 c7 w7 ho7 hg7; have HO7 := Lib.hid (own_snocS (y := decI x) ho7); have hb7 := below_grown HB2.out hg7 (Nat.le_refl _) (fun k hk => HO2.out.lt k hk |>.1); clear ho7 hg7))
        go_roundw
        case rel => exact ⟨k + 1, D ++ [decI x], A7, c7, by omega, by go_num, by simp, by have := HDK.out; simp; omega, hb7, HO7, HS⟩
        case measure => simp [intOf]; omega
      · obtain rfl : k = N.length := by omega
        have HDN : Hid (D = N.map decI) := by unfold Hid; rw [HD.out, List.take_length]
        have HJ : Hid (Lib.join (D.map (·.data.toList)) (⟨#[44]⟩ : ByteArray).data.toList = Lib.join (numsL N) [44]) := by unfold Hid; rw [HDN.out, map_dec]
        have hcap2 := own_cap HO.out
        have hDp : 0 < D.length := by omega
        have hDq : D.length ≤ 140737488355328 := by omega
        clear hDk
        obtain ⟨b, off, rfl, hbB, hcl⟩ := Rd.strs (Rd.of_own1 HO.out) hDp
        have hJL : (Lib.join (D.map (·.data.toList)) (⟨#[44]⟩ : ByteArray).data.toList).length ≤ 140737488355328 := by
          rw [HJ.out]
          have := HLEN.out
          omega
        have HK := Lib.hid (Tryz.strings_Join b off c2 D ⟨#[44]⟩ wr (fun j x hx => by
          have hj := (List.getElem?_eq_some_iff.1 hx)
          obtain ⟨hj1, rfl⟩ := hj
          exact hcl j hj1) hbB hDq hcap2.1 hJL)
        clear hcl
        go_wp2_with fail
        refine HK.out.mono ?_
        rintro e w2 ⟨rfl, hb2⟩
        go_wp2
        go_ret
        exact ⟨by rw [HJ.out, HF.out]; rfl, bt hB hb2⟩
theorem l01Number_c (n : Int) (h0 : 0 ≤ n) (h1 : n ≤ 1000000000000000) (w : World) : Calls Tryz.prog 201 #[.int .i64 n] w fun e w' => e = .returned (.string (decI n)) ∧ Below w.heap.size w w' := by
  obtain ⟨m, rfl⟩ := Int.eq_ofNat_of_zero_le h0
  have HE := Lib.hid (decI_nat m)
  go_enter Tryz.func201, Tryz.ntmps201
  go_wp2_with fail
  refine (l01Dec_c m (by omega) _).mono ?_
  rintro e w1 ⟨rfl, hb1⟩
  go_wp2
  go_ret
  exact ⟨by rw [HE.out]; rfl, hb1⟩
set_option maxRecDepth 100000 in
set_option maxHeartbeats 2000000 in
theorem l01Join_c (A : Option Addr) (c : Nat) (N : List Int) (w : World) (hr : Rd w w.heap.size A N.length (N.map (Value.int .i64))) (hl : N.length ≤ 1000) (hcap : N.length ≤ c) (hb : ∀ x ∈ N, 0 ≤ x ∧ x ≤ 1000000000000000) :
    Calls Tryz.prog 169 #[.slice A N.length c, .string ⟨#[44]⟩] w fun e w' => e = .returned (.string ⟨(Lib.join (numsL N) [44]).toArray⟩) ∧ Below w.heap.size w w' := by
  have HBD := Lib.hid hb
  clear hb
  go_enter Tryz.func169, Tryz.ntmps169
  go_wp2
  go_loopw [5, 6] (fun v iv wr => ∃ (k : Nat) (s : ByteArray), k ≤ N.length ∧ iv = .int .i64 k ∧ v = .string s ∧ s.size ≤ k * 30 ∧ Below w.heap.size w wr ∧ Hid (s.data.toList = Lib.join (numsL (N.take k)) [44])) (fun _ iv _ => N.length - (intOf iv).toNat)
  case atStart => exact ⟨0, _, by omega, rfl, rfl, by simp [ByteArray.size], Below.refl _ _, rfl⟩
  case round =>
    obtain ⟨k, s, hk, rfl, rfl, hs, hB, HS⟩ := hrel
    have hszr := hB.size
    by_cases hlt : k < N.length
    · obtain ⟨bf, offf, rfl, hbf, hcf⟩ := Rd.ints (rdW hB hr) hlt
      have f0 := hcf k hlt
      clear hcf
      have hx := HBD.out _ (List.getElem_mem hlt)
      have hds := decI_len N[k] (by omega) (by omega)
      have HJ : Hid (0 < k → Lib.join (numsL (N.take (k + 1))) [44] = Lib.join (numsL (N.take k)) [44] ++ ([44] ++ Lib.itoa N[k])) := fun h => nums_snoc hlt h
      have HJ0 : Hid (k = 0 → Lib.join (numsL (N.take (k + 1))) [44] = Lib.itoa N[k]) := fun h => by subst h; exact nums_first hlt
      have HX := Lib.hid (decI_data N[k])
      have hk1 : (k : Int) < (N.length : Int) := by omega
      have hk0 : (0 : Int) ≤ (k : Int) := by omega
      generalize N[k] = x at *
      by_cases h0 : k = 0
      · subst h0
        have hs0 : s.size = 0 := by omega
        have HS0 : Hid (s = ⟨#[]⟩) := by unfold Hid; apply ba_ext; exact List.eq_nil_of_length_eq_zero (by rw [s_len]; exact hs0)
        have f00 : wr.cell? ⟨bf, offf, none⟩ = some (.int .i64 x) := f0
        go_wp2_with fail
        refine (l01Number_c x hx.1 hx.2 wr).mono ?_
        rintro e w2 ⟨rfl, hb2⟩
        go_wp2
        go_roundw
        case rel => exact ⟨1, _, by omega, by go_num, rfl, by rw [ByteArray.size_append]; omega, bt hB hb2, by unfold Hid; rw [ba_append, HX.out, HS0.out, HJ0.out (by first | rfl | trivial)]; first | rfl | (simp; done)⟩
        case measure => simp [intOf]; omega
      · have hkp : (0 : Int) < (k : Int) := by omega
        have hsz1 : (s ++ (⟨#[44]⟩ : ByteArray)).size = s.size + 1 := by rw [ByteArray.size_append]; rfl
        go_wp2_with fail
        have HSC := Lib.hid (show (s ++ (⟨#[44]⟩ : ByteArray)).data.toList = s.data.toList ++ [44] by rw [ba_append])
        refine (l01Number_c x hx.1 hx.2 wr).mono ?_
        rintro e w2 ⟨rfl, hb2⟩
        go_wp2
        go_roundw
        case rel => exact ⟨k + 1, _, by omega, by go_num, rfl, by rw [ByteArray.size_append, hsz1]; omega, bt hB hb2, by unfold Hid; rw [ba_append, HX.out, HSC.out, HS.out, HJ.out (by omega)]; simp⟩
        case measure => simp [intOf]; omega
    · obtain rfl : k = N.length := by omega
      have HF : Hid (s = ⟨(Lib.join (numsL N) [44]).toArray⟩) := by unfold Hid; apply ba_ext; rw [HS.out, List.take_length]
      go_wp2
      go_ret
      exact ⟨by rw [HF.out]; rfl, hB⟩
theorem l01Text_c (A : Option Addr) (c : Nat) (N : List Int) (w : World) (hr : Rd w w.heap.size A N.length (N.map (Value.int .i64))) (hl : N.length ≤ 1000) (hcap : N.length ≤ c) (hb : ∀ x ∈ N, 0 ≤ x ∧ x ≤ 1000000000000000) :
    Calls Tryz.prog 122 #[.slice A N.length c] w fun e w' => e = .returned (.string (numsT N)) ∧ Below w.heap.size w w' := by
  by_cases h0 : N.length = 0
  · have hN : N = [] := List.eq_nil_of_length_eq_zero h0
    subst hN
    go_enter Tryz.func122, Tryz.ntmps122
    go_wp2
    go_ret
    exact ⟨rfl, Below.refl _ _⟩
  · have HF := Lib.hid (numsT_cons (N := N) (by omega))
    have HK := Lib.hid (l01Join_c A c N w hr hl hcap hb)
    have hn0 : (1 : Int) ≤ (N.length : Int) := by omega
    generalize (⟨(Lib.join (numsL N) [44]).toArray⟩ : ByteArray) = z at *
    clear hb
    go_enter Tryz.func122, Tryz.ntmps122
    go_wp2_with fail
    refine HK.out.mono ?_
    rintro e w1 ⟨rfl, hb1⟩
    go_wp2
    go_ret
    exact ⟨by rw [HF.out]; rfl, hb1⟩
end Go.Proofs.YtiamignopfhkfaaGreatDoor
end
