/- Contracts: dayCode, DeadlineOf, AddCourtDays of both texts. Contracts: AddCourtDays of both texts. Plain: the numbers of ways to choose. Contracts: ChanceOfAtMost of both texts. -/
import Derived.Test.YtiamignopfhkfaaGreatDoorZ4
import Derived.Test.YtiamignopfhkfaaGreatDoorZ2
section
namespace Go.Proofs.YtiamignopfhkfaaGreatDoor
open Go.RowKit
set_option linter.unusedVariables false
/-- The code of holidays and a day. -/
def dayC (H : List Int) (d : Int) : Int := if holOk H then (if inB d 0 20000 then 0 else 2) else 1
/-- A day, or that it lies too far. -/
def limP (H : List Int) (d : Int) : Int × Int := if nx H d ≤ 20000 then (nx H d, 0) else (0, 3)
theorem limP_far {H : List Int} {d : Int} (h : 20000 < d) : limP H d = (0, 3) := by
  have := nx_ge H d
  unfold limP; rw [if_neg (by omega)]
def deadP (H : List Int) (d n : Int) : Int × Int := if dayC H d = 0 then (if inB n 0 1000 then limP H (d + n) else (0, 2)) else (0, dayC H d)
def addO (H : List Int) : Nat → Int → Option Int
  | 0, d => some d
  | k + 1, d => if nx H (d + 1) ≤ 20000 then addO H k (nx H (d + 1)) else none
def addP (H : List Int) (d n : Int) : Int × Int := if dayC H d = 0 then (if inB n 0 400 then (match addO H n.toNat d with | some v => (v, 0) | none => (0, 3)) else (0, 2)) else (0, dayC H d)
theorem nextD_le (H : List Int) : ∀ (f : Nat) (d : Int), nextD H f d ≤ d + f
  | 0, d => by simp [nextD]
  | f + 1, d => by
    unfold nextD; split
    · omega
    · have := nextD_le H f (d + 1); omega
theorem nx_le (H : List Int) (d : Int) (h : d ≤ 20034) : nx H d ≤ 20034 := by
  have := nextD_le H (20034 - d).toNat d
  unfold nx; omega
theorem dayC_0 {H : List Int} {d : Int} (h : dayC H d = 0) : holOk H = true ∧ 0 ≤ d ∧ d ≤ 20000 := by
  unfold dayC at h
  split at h
  · rename_i h1
    split at h
    · rename_i h2; exact ⟨h1, inB_iff.1 h2⟩
    · omega
  · omega
theorem dayC_cases (H : List Int) (d : Int) : dayC H d = 0 ∨ dayC H d = 1 ∨ dayC H d = 2 := by
  unfold dayC; split
  · split <;> simp
  · simp
theorem addO_le {H : List Int} : ∀ {k : Nat} {d v : Int}, d ≤ 20000 → addO H k d = some v → v ≤ 20000
  | 0, d, v, hd, h => by rw [addO] at h; injection h with h; omega
  | k + 1, d, v, hd, h => by
    rw [addO] at h
    split at h
    · rename_i h1; exact addO_le h1 h
    · cases h
theorem addO_ge {H : List Int} : ∀ {k : Nat} {d v : Int}, addO H k d = some v → d ≤ v
  | 0, d, v, h => by rw [addO] at h; injection h with h; omega
  | k + 1, d, v, h => by
    rw [addO] at h
    split at h
    · have h1 := addO_ge h; have := nx_ge H (d + 1); omega
    · cases h

theorem dayCode_c (A : Option Addr) (c : Nat) (H : List Int) (d : Int) (A2 : Option Addr) (c2 : Nat) (w : World) (hr : Rd w w.heap.size A H.length (H.map (Value.int .i64))) (hl : H.length ≤ 140737488355328) (hcap : H.length ≤ c) (hd : Rd w w.heap.size A2 1 [.int .i64 d]) :
    Calls Tryz.prog 130 #[.slice A H.length c, .slice A2 1 c2] w fun e w' => e = .returned (.int .i64 (dayC H d)) ∧ w = w' := by
  obtain ⟨b, off, rfl, hb, hc⟩ := hd.at_ (by omega)
  have f0 : w.cell? ⟨b, off, none⟩ = some (.int .i64 d) := hc 0 _ rfl
  have f1 : w.cell? ⟨b, off + 0, none⟩ = some (.int .i64 d) := hc 0 _ rfl
  clear hc hd
  cases e1 : holOk H
  · have E : dayC H d = 1 := by simp [dayC, e1]
    rw [E]
    go_enter Tryz.func130, Tryz.ntmps130
    go_wp2_with (first | (go_at_call 53; refine (impl_AreHolidays _ c H _ _ hr hl hcap e1).mono ?_; rintro e w' ⟨rfl, rfl⟩))
    go_ret
    exact ⟨rfl, rfl⟩
  · cases e2 : inB d 0 20000
    · have E : dayC H d = 2 := by simp [dayC, e1, e2]
      rw [E]
      go_enter Tryz.func130, Tryz.ntmps130
      go_wp2_with (first | (go_at_call 53; refine (impl_AreHolidays _ c H _ _ hr hl hcap e1).mono ?_; rintro e w' ⟨rfl, rfl⟩))
      go_loop [12] (fun i => i = .int .i64 0) (fun i => 1 - (intOf i).toNat)
      case atStart => rfl
      case round =>
        subst hrel
        go_wp2_with (first | (go_at_call 94; refine (isDay_b _ _ _ e2).mono ?_; rintro e w' ⟨rfl, rfl⟩))
        all_goals (go_ret; exact ⟨rfl, rfl⟩)
    · have E : dayC H d = 0 := by simp [dayC, e1, e2]
      rw [E]
      go_enter Tryz.func130, Tryz.ntmps130
      go_wp2_with (first | (go_at_call 53; refine (impl_AreHolidays _ c H _ _ hr hl hcap e1).mono ?_; rintro e w' ⟨rfl, rfl⟩))
      go_loop [12] (fun i => ∃ k : Nat, k ≤ 1 ∧ i = .int .i64 k) (fun i => 1 - (intOf i).toNat)
      case atStart => exact ⟨0, by omega, rfl⟩
      case round =>
        obtain ⟨k, hk, rfl⟩ := hrel
        by_cases hlt : k = 0
        · subst hlt
          go_wp2_with (first | (go_at_call 94; refine (isDay_b _ _ _ e2).mono ?_; rintro e w' ⟨rfl, rfl⟩))
          go_round
          case rel => exact ⟨1, by omega, by go_num⟩
          case measure => simp [intOf]
        · obtain rfl : k = 1 := by omega
          go_wp2
          go_ret
          exact ⟨rfl, rfl⟩
theorem l02Code_c (A : Option Addr) (c : Nat) (H : List Int) (d : Int) (w : World) (hr : Rd w w.heap.size A H.length (H.map (Value.int .i64))) (hl : H.length ≤ 140737488355328) (hcap : H.length ≤ c) :
    Calls Tryz.prog 159 #[.slice A H.length c, .int .i64 d, .int .i64 d] w fun e w' => e = .returned (.int .i64 (dayC H d)) ∧ Below w.heap.size w w' := by
  cases e1 : holOk H
  · have E : dayC H d = 1 := by simp [dayC, e1]
    rw [E]
    go_enter Tryz.func159, Tryz.ntmps159
    go_wp2_with fail
    refine (spec_AreHolidays _ c H _ _ hr hl hcap e1).mono ?_
    rintro e w1 ⟨rfl, hb1⟩
    go_wp2
    go_ret
    exact ⟨rfl, hb1⟩
  · cases e2 : inB d 0 20000
    all_goals
      have E : dayC H d = if inB d 0 20000 then 0 else 2 := by simp [dayC, e1]
      rw [E, e2]
      go_enter Tryz.func159, Tryz.ntmps159
      go_wp2_with fail
      refine (spec_AreHolidays _ c H _ _ hr hl hcap e1).mono ?_
      rintro e w1 ⟨rfl, hb1⟩
      go_wp2_with (first | (go_at_call 80; refine (l02Is_b _ _ _ e2).mono ?_; rintro e w' ⟨rfl, rfl⟩))
      go_ret
      exact ⟨rfl, hb1⟩

/-! ### The first court day, at any day up to 21000 -/
theorem nextAny_c (A : Option Addr) (c : Nat) (H : List Int) (d : Int) (w : World) (hr : Rd w w.heap.size A H.length (H.map (Value.int .i64))) (hl : H.length ≤ 140737488355328) (hcap : H.length ≤ c) (h0 : 0 ≤ d ∧ d ≤ 30000) :
    Calls Tryz.prog 131 #[.slice A H.length c, .int .i64 d] w fun e w' => e = .returned (.tuple #[.int .i64 (limP H d).1, .int .i64 (limP H d).2]) ∧ w = w' := by
  by_cases h1 : d ≤ 20000
  · refine (nextCourtDay_c A c H d w hr hl hcap (by omega)).mono ?_
    rintro e w' ⟨rfl, rfl⟩
    unfold limP
    split <;> exact ⟨rfl, rfl⟩
  · rw [limP_far (by omega)]
    go_enter Tryz.func131, Tryz.ntmps131
    go_wp2
    go_loop [1] (fun i => i = .int .i64 d) (fun _ => 0)
    case atStart => rfl
    case round =>
      subst hrel
      go_wp2
      go_ret2
      exact ⟨rfl, rfl⟩
theorem nextFar_c (A : Option Addr) (c : Nat) (H : List Int) (d : Int) (w : World) (hr : Rd w w.heap.size A H.length (H.map (Value.int .i64))) (hl : H.length ≤ 140737488355328) (hcap : H.length ≤ c) (h0 : 20000 < d ∧ d ≤ 30000) (hok : holOk H = true) :
    Calls Tryz.prog 161 #[.slice A H.length c, .int .i64 d] w fun e w' => ∃ r, e = .returned (.int .i64 r) ∧ d ≤ r ∧ r ≤ d + 2 ∧ w = w' := by
  have HC : Hid (∀ q : Int, 20000 < q → H.contains q = false) := fun q hq => by
    have : ¬ q ∈ H := fun hh => by have := hol_mem hok hh; omega
    simpa using this
  have H7 := Lib.hid hok
  clear hok
  go_enter Tryz.func161, Tryz.ntmps161
  go_wp2
  go_loop [1] (fun i => ∃ q : Int, i = .int .i64 q ∧ d ≤ q ∧ q ≤ d + 2 ∧ (d < q → q % 7 = 6 ∨ q % 7 = 0) ∧ (d + 1 < q → q % 7 = 0)) (fun i => (d + 2 - intOf i).toNat)
  case atStart => exact ⟨d, rfl, by omega, by omega, by omega, by omega⟩
  case round =>
    obtain ⟨q, rfl, hq0, hq1, hq2, hq3⟩ := hrel
    have hc := HC.out q (by omega)
    by_cases h5 : q % 7 < 5
    · have HX := Lib.hid (show courtB H q = true by simp only [courtB, hc, decide_eq_true h5]; rfl)
      clear hc
      go_wp2_with (first | (go_at_call 155; refine (l02Court_b A c H q _ _ hr hl hcap (by omega) HX.out).mono ?_; rintro e w' ⟨rfl, rfl⟩))
      go_ret
      exact ⟨q, rfl, by omega, by omega, rfl⟩
    · have HX := Lib.hid (show courtB H q = false by have h6 : ¬ q % 7 < 5 := h5; simp only [courtB, decide_eq_false h6, Bool.false_and])
      clear hc
      go_wp2_with (first | (go_at_call 155; refine (l02Court_b A c H q _ _ hr hl hcap (by omega) HX.out).mono ?_; rintro e w' ⟨rfl, rfl⟩))
      go_round
      case rel => exact ⟨q + 1, by go_num, by omega, by omega, by omega, by omega⟩
      case measure => simp [intOf]; omega
theorem l02Limit_c (d code : Int) (w : World) : Calls Tryz.prog 160 #[.int .i64 d, .int .i64 code] w fun e w' => e = .returned (.tuple #[.int .i64 (if code = 0 then (if d ≤ 20000 then d else 0) else 0), .int .i64 (if code = 0 then (if d ≤ 20000 then 0 else 3) else code)]) ∧ w = w' := by
  by_cases h0 : code = 0
  · subst h0
    by_cases h1 : d ≤ 20000
    · rw [if_pos rfl, if_pos rfl, if_pos h1, if_pos h1]
      go_enter Tryz.func160, Tryz.ntmps160
      go_wp2
      go_ret2
      exact ⟨rfl, rfl⟩
    · rw [if_pos rfl, if_pos rfl, if_neg h1, if_neg h1]
      go_enter Tryz.func160, Tryz.ntmps160
      go_wp2
      go_ret2
      exact ⟨rfl, rfl⟩
  · rw [if_neg h0, if_neg h0]
    go_enter Tryz.func160, Tryz.ntmps160
    go_wp2
    go_ret2
    exact ⟨rfl, rfl⟩

/-! ### DeadlineOf -/
theorem dead_bad {H : List Int} {d n : Int} (h : ¬ dayC H d = 0) : deadP H d n = (0, dayC H d) := by unfold deadP; rw [if_neg h]
theorem dead_rng {H : List Int} {d n : Int} (h : dayC H d = 0) (hn : inB n 0 1000 = false) : deadP H d n = (0, 2) := by unfold deadP; rw [if_pos h, hn]; rfl
theorem dead_ok {H : List Int} {d n : Int} (h : dayC H d = 0) (hn : inB n 0 1000 = true) : deadP H d n = limP H (d + n) := by unfold deadP; rw [if_pos h, hn]; rfl
set_option maxHeartbeats 1000000 in
theorem impl_DeadlineOf (A : Option Addr) (c : Nat) (H : List Int) (d n : Int) (w : World) (hr : Rd w w.heap.size A H.length (H.map (Value.int .i64))) (hl : H.length ≤ 140737488355328) (hcap : H.length ≤ c) :
    Calls Tryz.prog 100 #[.slice A H.length c, .int .i64 d, .int .i64 n] w fun e w' => e = .returned (.tuple #[.int .i64 (deadP H d n).1, .int .i64 (deadP H d n).2]) ∧ Below w.heap.size w w' := by
  have HD := Lib.hid (fun (W : World) hb => dayCode_c A c H d (some ⟨w.heap.size, 0, none⟩) 1 W (rdW hb hr) hl hcap)
  by_cases h0 : dayC H d = 0
  · obtain ⟨hok, hd0, hd1⟩ := dayC_0 h0
    rw [h0] at HD
    cases hn : inB n 0 1000
    · rw [dead_rng h0 hn]
      clear h0
      go_enter Tryz.func100, Tryz.ntmps100
      go_wp2_with fail
      generalize hW0 : w.alloc _ = W0
      have hbW0 : Below w.heap.size w W0 := by subst hW0; exact (Below.refl _ _).alloc (Nat.le_refl _) _
      have hsW0 : W0.heap.size = w.heap.size + 1 := by subst hW0; simp
      have cxW0_0 : ∀ i, W0.cell? ⟨w.heap.size, i, none⟩ = (#[.int .i64 d] : Array Value)[i]? := by intro i; subst hW0; simp [go_sem]
      have HSW0 := Lib.hid hsW0; clear hW0 hsW0
      refine (HD.out W0 hbW0 ⟨rfl, fun _ => ⟨_, _, rfl, by have := HSW0.out; omega, fun j u hu => by rw [Nat.zero_add]; exact (cxW0_0 j).trans (by simpa using hu)⟩⟩).mono ?_
      rintro e w' ⟨rfl, rfl⟩
      go_wp2_with (first | (go_at_call 92; refine (within_b _ _ _ _ _ hn).mono ?_; rintro e w' ⟨rfl, rfl⟩))
      go_ret2
      exact ⟨rfl, hbW0⟩
    · rw [dead_ok h0 hn]
      have hnb := inB_iff.1 hn
      have HN := Lib.hid (fun (W : World) hb => nextAny_c A c H (d + n) W (rdW hb hr) hl hcap (by omega))
      generalize limP H (d + n) = z at *
      obtain ⟨z1, z2⟩ := z
      clear h0
      go_enter Tryz.func100, Tryz.ntmps100
      go_wp2_with fail
      generalize hW0 : w.alloc _ = W0
      have hbW0 : Below w.heap.size w W0 := by subst hW0; exact (Below.refl _ _).alloc (Nat.le_refl _) _
      have hsW0 : W0.heap.size = w.heap.size + 1 := by subst hW0; simp
      have cxW0_0 : ∀ i, W0.cell? ⟨w.heap.size, i, none⟩ = (#[.int .i64 d] : Array Value)[i]? := by intro i; subst hW0; simp [go_sem]
      have HSW0 := Lib.hid hsW0; clear hW0 hsW0
      refine (HD.out W0 hbW0 ⟨rfl, fun _ => ⟨_, _, rfl, by have := HSW0.out; omega, fun j u hu => by rw [Nat.zero_add]; exact (cxW0_0 j).trans (by simpa using hu)⟩⟩).mono ?_
      rintro e w' ⟨rfl, rfl⟩
      go_wp2_with (first | (go_at_call 92; refine (within_b _ _ _ _ _ hn).mono ?_; rintro e w' ⟨rfl, rfl⟩))
      refine (HN.out W0 hbW0).mono ?_
      rintro e w' ⟨rfl, rfl⟩
      go_wp2
      go_ret2
      exact ⟨rfl, hbW0⟩
  · rw [dead_bad h0]
    generalize dayC H d = q at *
    have hq : (q != 0) = true := by rw [bne_iff_ne]; exact h0
    have hq2 : (q == 0) = false := beq_eq_false_iff_ne.2 h0
    go_enter Tryz.func100, Tryz.ntmps100
    go_wp2_with fail
    generalize hW0 : w.alloc _ = W0
    have hbW0 : Below w.heap.size w W0 := by subst hW0; exact (Below.refl _ _).alloc (Nat.le_refl _) _
    have hsW0 : W0.heap.size = w.heap.size + 1 := by subst hW0; simp
    have cxW0_0 : ∀ i, W0.cell? ⟨w.heap.size, i, none⟩ = (#[.int .i64 d] : Array Value)[i]? := by intro i; subst hW0; simp [go_sem]
    have HSW0 := Lib.hid hsW0; clear hW0 hsW0
    refine (HD.out W0 hbW0 ⟨rfl, fun _ => ⟨_, _, rfl, by have := HSW0.out; omega, fun j u hu => by rw [Nat.zero_add]; exact (cxW0_0 j).trans (by simpa using hu)⟩⟩).mono ?_
    rintro e w' ⟨rfl, rfl⟩
    go_wp2
    go_ret2
    exact ⟨rfl, hbW0⟩
set_option maxHeartbeats 1000000 in
theorem spec_DeadlineOf (A : Option Addr) (c : Nat) (H : List Int) (d n : Int) (w : World) (hr : Rd w w.heap.size A H.length (H.map (Value.int .i64))) (hl : H.length ≤ 140737488355328) (hcap : H.length ≤ c) :
    Calls Tryz.prog 114 #[.slice A H.length c, .int .i64 d, .int .i64 n] w fun e w' => e = .returned (.tuple #[.int .i64 (deadP H d n).1, .int .i64 (deadP H d n).2]) ∧ Below w.heap.size w w' := by
  have HD := Lib.hid (l02Code_c A c H d w hr hl hcap)
  by_cases h0 : dayC H d = 0
  · obtain ⟨hok, hd0, hd1⟩ := dayC_0 h0
    rw [h0] at HD
    cases hn : inB n 0 1000
    · rw [dead_rng h0 hn]
      clear h0
      go_enter Tryz.func114, Tryz.ntmps114
      go_wp2_with fail
      refine HD.out.mono ?_
      rintro e w1 ⟨rfl, hb1⟩
      go_wp2_with (first | (go_at_call 81; refine (l01In_b _ _ _ _ _ hn).mono ?_; rintro e w' ⟨rfl, rfl⟩))
      go_ret2
      exact ⟨rfl, hb1⟩
    · rw [dead_ok h0 hn]
      have hnb := inB_iff.1 hn
      clear h0
      by_cases hf : d + n ≤ 20000
      · have HN := Lib.hid (fun (W : World) hb => l02Next_c A c H (d + n) W (rdW hb hr) hl hcap (by omega) hok)
        unfold limP
        generalize nx H (d + n) = z at *
        go_enter Tryz.func114, Tryz.ntmps114
        go_wp2_with fail
        refine HD.out.mono ?_
        rintro e w1 ⟨rfl, hb1⟩
        go_wp2_with (first | (go_at_call 81; refine (l01In_b _ _ _ _ _ hn).mono ?_; rintro e w' ⟨rfl, rfl⟩))
        refine (HN.out w1 hb1).mono ?_
        rintro e w' ⟨rfl, rfl⟩
        go_wp2_with fail
        refine (l02Limit_c z 0 w1).mono ?_
        rintro e w' ⟨rfl, rfl⟩
        go_wp2
        all_goals (go_ret2; refine ⟨?_, hb1⟩; first | (simp; done) | simp_all)
      · rw [limP_far (by omega)]
        go_enter Tryz.func114, Tryz.ntmps114
        go_wp2_with fail
        refine HD.out.mono ?_
        rintro e w1 ⟨rfl, hb1⟩
        go_wp2_with (first | (go_at_call 81; refine (l01In_b _ _ _ _ _ hn).mono ?_; rintro e w' ⟨rfl, rfl⟩))
        refine (nextFar_c A c H (d + n) w1 (rdW hb1 hr) hl hcap (by omega) hok).mono ?_
        rintro e w' ⟨z, rfl, hz0, hz1, rfl⟩
        go_wp2_with fail
        refine (l02Limit_c z 0 w1).mono ?_
        rintro e w' ⟨rfl, rfl⟩
        have hz : ¬ z ≤ 20000 := by omega
        rw [if_pos rfl, if_pos rfl, if_neg hz, if_neg hz]
        go_wp2
        go_ret2
        exact ⟨rfl, hb1⟩
  · rw [dead_bad h0]
    generalize dayC H d = q at *
    have hq : (q != 0) = true := by rw [bne_iff_ne]; exact h0
    have hq2 : (q == 0) = false := beq_eq_false_iff_ne.2 h0
    go_enter Tryz.func114, Tryz.ntmps114
    go_wp2_with fail
    refine HD.out.mono ?_
    rintro e w1 ⟨rfl, hb1⟩
    go_wp2
    go_ret2
    exact ⟨rfl, hb1⟩
end Go.Proofs.YtiamignopfhkfaaGreatDoor
end
section
namespace Go.Proofs.YtiamignopfhkfaaGreatDoor
open Go.RowKit
set_option linter.unusedVariables false
def optP : Option Int → Int × Int
  | some v => (v, 0)
  | none => (0, 3)
theorem addO_go {H : List Int} {k : Nat} {d : Int} (h : nx H (d + 1) ≤ 20000) : addO H (k + 1) d = addO H k (nx H (d + 1)) := by rw [addO, if_pos h]
theorem addO_no {H : List Int} {k : Nat} {d : Int} (h : ¬ nx H (d + 1) ≤ 20000) : addO H (k + 1) d = none := by rw [addO, if_neg h]
set_option maxHeartbeats 1000000 in
theorem addCourtDays_c (A : Option Addr) (c : Nat) (H : List Int) (d : Int) (n : Nat) (w : World) (hr : Rd w w.heap.size A H.length (H.map (Value.int .i64))) (hl : H.length ≤ 140737488355328) (hcap : H.length ≤ c) (h0 : 0 ≤ d ∧ d ≤ 20000) (hn : n ≤ 400) :
    Calls Tryz.prog 132 #[.slice A H.length c, .int .i64 d, .int .i64 n] w fun e w' => e = .returned (.tuple #[.int .i64 (optP (addO H n d)).1, .int .i64 (optP (addO H n d)).2]) ∧ w = w' := by
  generalize hR : addO H n d = R
  have HR := Lib.hid hR
  clear hR
  go_enter Tryz.func132, Tryz.ntmps132
  go_wp2
  go_loop [1, 11] (fun v i => ∃ (k : Nat) (q : Int), k ≤ n ∧ i = .int .i64 k ∧ v = .int .i64 q ∧ 0 ≤ q ∧ q ≤ 20000 ∧ Hid (R = addO H (n - k) q)) (fun _ i => n - (intOf i).toNat)
  case atStart => exact ⟨0, d, by omega, rfl, rfl, h0.1, h0.2, HR.out.symm⟩
  case round =>
    obtain ⟨k, q, hk, rfl, rfl, hq0, hq1, HT⟩ := hrel
    clear HR
    by_cases hlt : k < n
    · have hk1 : (k : Int) < (n : Int) := by omega
      have HK : Hid (n - k = (n - (k + 1)) + 1) := by unfold Hid; omega
      have hge := nx_ge H (q + 1)
      by_cases hz : nx H (q + 1) ≤ 20000
      · have HN := Lib.hid (nextAny_c A c H (q + 1) w hr hl hcap (by omega))
        have HS := Lib.hid (addO_go (k := n - (k + 1)) hz)
        have e5 : limP H (q + 1) = (nx H (q + 1), 0) := by unfold limP; rw [if_pos hz]
        rw [e5] at HN
        generalize nx H (q + 1) = z at *
        go_wp2_with fail
        refine HN.out.mono ?_
        rintro e w' ⟨rfl, rfl⟩
        go_wp2
        go_round
        case rel => exact ⟨k + 1, z, by omega, by go_num, rfl, by omega, hz, by rw [HT.out, HK.out, HS.out]; rfl⟩
        case measure => simp [intOf]; omega
      · have HN := Lib.hid (nextAny_c A c H (q + 1) w hr hl hcap (by omega))
        have HS := Lib.hid (addO_no (k := n - (k + 1)) hz)
        have e5 : limP H (q + 1) = (0, 3) := by unfold limP; rw [if_neg hz]
        rw [e5] at HN
        have HF : Hid (R = none) := by unfold Hid; rw [HT.out, HK.out, HS.out]
        clear hz hge
        go_wp2_with fail
        refine HN.out.mono ?_
        rintro e w' ⟨rfl, rfl⟩
        go_wp2
        go_ret2
        exact ⟨by rw [HF.out]; rfl, rfl⟩
    · obtain rfl : k = n := by omega
      have HF : Hid (R = some q) := by unfold Hid; rw [HT.out, Nat.sub_self]; rfl
      go_wp2
      go_ret2
      exact ⟨by rw [HF.out]; rfl, rfl⟩
/-- What the reference's loop hands back: the day, or some day that lies too far. -/
def AddX (R : Option Int) (r : Int) : Prop := (∀ v, R = some v → r = v ∧ v ≤ 20000) ∧ (R = none → 20000 < r)
set_option maxHeartbeats 1000000 in
theorem l02Add_c (A : Option Addr) (c : Nat) (H : List Int) (d : Int) (n : Nat) (w : World) (hr : Rd w w.heap.size A H.length (H.map (Value.int .i64))) (hl : H.length ≤ 140737488355328) (hcap : H.length ≤ c) (h0 : 0 ≤ d ∧ d ≤ 20000) (hn : n ≤ 400) (hok : holOk H = true) :
    Calls Tryz.prog 162 #[.slice A H.length c, .int .i64 d, .int .i64 n] w fun e w' => ∃ r, e = .returned (.int .i64 r) ∧ AddX (addO H n d) r ∧ w = w' := by
  generalize hR : addO H n d = R
  have HR := Lib.hid hR
  have HOK := Lib.hid hok
  clear hR hok
  go_enter Tryz.func162, Tryz.ntmps162
  go_wp2
  go_loop [1, 2] (fun v i => ∃ (k : Nat) (q : Int), k ≤ n ∧ i = .int .i64 k ∧ v = .int .i64 q ∧ 0 ≤ q ∧ q ≤ 20034 + 3 * ((n : Int) - k) ∧ Hid (q ≤ 20000 → R = addO H k q) ∧ Hid (20000 < q → R = none)) (fun _ i => (intOf i).toNat)
  case atStart => exact ⟨n, d, by omega, rfl, rfl, h0.1, by omega, fun _ => HR.out.symm, fun h => by omega⟩
  case round =>
    obtain ⟨k, q, hk, rfl, rfl, hq0, hq1, HT, HU⟩ := hrel
    clear HR
    by_cases hlt : 0 < k
    · have hk1 : (0 : Int) < (k : Int) := by omega
      have HK : Hid (k = (k - 1) + 1) := by unfold Hid; omega
      by_cases hf : q ≤ 20000
      · have hge := nx_ge H (q + 1)
        have HN := Lib.hid (l02Next_c A c H (q + 1) w hr hl hcap (by omega) HOK.out)
        have HA := Lib.hid (fun h => addO_go (H := H) (k := k - 1) (d := q) h)
        have HB := Lib.hid (fun h => addO_no (H := H) (k := k - 1) (d := q) h)
        have hle : nx H (q + 1) ≤ 20034 := nx_le H (q + 1) (by omega)
        generalize nx H (q + 1) = z at *
        go_wp2_with fail
        refine HN.out.mono ?_
        rintro e w' ⟨rfl, rfl⟩
        go_wp2
        go_round
        case rel => exact ⟨k - 1, z, by omega, by go_num, rfl, by omega, by omega, fun h => by rw [HT.out hf, HK.out, HA.out h]; rfl, fun h => by rw [HT.out hf, HK.out, HB.out (by omega)]⟩
        case measure => simp [intOf]; omega
      · have HF := HU
        go_wp2_with fail
        refine (nextFar_c A c H (q + 1) w hr hl hcap (by omega) HOK.out).mono ?_
        rintro e w' ⟨z, rfl, hz0, hz1, rfl⟩
        go_wp2
        go_round
        case rel => exact ⟨k - 1, z, by omega, by go_num, rfl, by omega, by omega, fun h => by omega, fun h => HU.out (by omega)⟩
        case measure => simp [intOf]; omega
    · obtain rfl : k = 0 := by omega
      go_wp2
      go_ret
      refine ⟨q, rfl, ⟨fun v hv => ?_, fun hv => ?_⟩, rfl⟩
      · by_cases hf : q ≤ 20000
        · have h1 := HT.out hf
          rw [hv, addO] at h1
          injection h1 with h1
          exact ⟨h1.symm, by omega⟩
        · have h1 := HU.out (by omega)
          rw [hv] at h1; cases h1
      · by_cases hf : q ≤ 20000
        · have h1 := HT.out hf
          rw [hv, addO] at h1; cases h1
        · omega
theorem add_bad {H : List Int} {d n : Int} (h : ¬ dayC H d = 0) : addP H d n = (0, dayC H d) := by unfold addP; rw [if_neg h]
theorem add_rng {H : List Int} {d n : Int} (h : dayC H d = 0) (hn : inB n 0 400 = false) : addP H d n = (0, 2) := by unfold addP; rw [if_pos h, hn]; rfl
theorem add_ok {H : List Int} {d : Int} {n : Nat} (h : dayC H d = 0) (hn : inB (n : Int) 0 400 = true) : addP H d n = optP (addO H n d) := by
  unfold addP; rw [if_pos h, hn, if_pos rfl, Int.toNat_natCast]
  cases addO H n d <;> rfl
set_option maxHeartbeats 1000000 in
theorem impl_AddCourtDays (A : Option Addr) (c : Nat) (H : List Int) (d n : Int) (w : World) (hr : Rd w w.heap.size A H.length (H.map (Value.int .i64))) (hl : H.length ≤ 140737488355328) (hcap : H.length ≤ c) :
    Calls Tryz.prog 101 #[.slice A H.length c, .int .i64 d, .int .i64 n] w fun e w' => e = .returned (.tuple #[.int .i64 (addP H d n).1, .int .i64 (addP H d n).2]) ∧ Below w.heap.size w w' := by
  have HD := Lib.hid (fun (W : World) hb => dayCode_c A c H d (some ⟨w.heap.size, 0, none⟩) 1 W (rdW hb hr) hl hcap)
  by_cases h0 : dayC H d = 0
  · obtain ⟨hok, hd0, hd1⟩ := dayC_0 h0
    rw [h0] at HD
    cases hn : inB n 0 400
    · rw [add_rng h0 hn]
      clear h0
      go_enter Tryz.func101, Tryz.ntmps101
      go_wp2_with fail
      generalize hW0 : w.alloc _ = W0
      have hbW0 : Below w.heap.size w W0 := by subst hW0; exact (Below.refl _ _).alloc (Nat.le_refl _) _
      have hsW0 : W0.heap.size = w.heap.size + 1 := by subst hW0; simp
      have cxW0_0 : ∀ i, W0.cell? ⟨w.heap.size, i, none⟩ = (#[.int .i64 d] : Array Value)[i]? := by intro i; subst hW0; simp [go_sem]
      have HSW0 := Lib.hid hsW0; clear hW0 hsW0
      refine (HD.out W0 hbW0 ⟨rfl, fun _ => ⟨_, _, rfl, by have := HSW0.out; omega, fun j u hu => by rw [Nat.zero_add]; exact (cxW0_0 j).trans (by simpa using hu)⟩⟩).mono ?_
      rintro e w' ⟨rfl, rfl⟩
      go_wp2_with (first | (go_at_call 92; refine (within_b _ _ _ _ _ hn).mono ?_; rintro e w' ⟨rfl, rfl⟩))
      go_ret2
      exact ⟨rfl, hbW0⟩
    · have hnb := inB_iff.1 hn
      obtain ⟨m, rfl⟩ := Int.eq_ofNat_of_zero_le hnb.1
      rw [add_ok h0 hn]
      clear h0
      have HN := Lib.hid (fun (W : World) hb => addCourtDays_c A c H d m W (rdW hb hr) hl hcap ⟨hd0, hd1⟩ (by omega))
      generalize optP (addO H m d) = z at *
      obtain ⟨z1, z2⟩ := z
      go_enter Tryz.func101, Tryz.ntmps101
      go_wp2_with fail
      generalize hW0 : w.alloc _ = W0
      have hbW0 : Below w.heap.size w W0 := by subst hW0; exact (Below.refl _ _).alloc (Nat.le_refl _) _
      have hsW0 : W0.heap.size = w.heap.size + 1 := by subst hW0; simp
      have cxW0_0 : ∀ i, W0.cell? ⟨w.heap.size, i, none⟩ = (#[.int .i64 d] : Array Value)[i]? := by intro i; subst hW0; simp [go_sem]
      have HSW0 := Lib.hid hsW0; clear hW0 hsW0
      refine (HD.out W0 hbW0 ⟨rfl, fun _ => ⟨_, _, rfl, by have := HSW0.out; omega, fun j u hu => by rw [Nat.zero_add]; exact (cxW0_0 j).trans (by simpa using hu)⟩⟩).mono ?_
      rintro e w' ⟨rfl, rfl⟩
      go_wp2_with (first | (go_at_call 92; refine (within_b _ _ _ _ _ hn).mono ?_; rintro e w' ⟨rfl, rfl⟩))
      refine (HN.out W0 hbW0).mono ?_
      rintro e w' ⟨rfl, rfl⟩
      go_wp2
      go_ret2
      exact ⟨rfl, hbW0⟩
  · rw [add_bad h0]
    generalize dayC H d = q at *
    have hq : (q != 0) = true := by rw [bne_iff_ne]; exact h0
    have hq2 : (q == 0) = false := beq_eq_false_iff_ne.2 h0
    go_enter Tryz.func101, Tryz.ntmps101
    go_wp2_with fail
    generalize hW0 : w.alloc _ = W0
    have hbW0 : Below w.heap.size w W0 := by subst hW0; exact (Below.refl _ _).alloc (Nat.le_refl _) _
    have hsW0 : W0.heap.size = w.heap.size + 1 := by subst hW0; simp
    have cxW0_0 : ∀ i, W0.cell? ⟨w.heap.size, i, none⟩ = (#[.int .i64 d] : Array Value)[i]? := by intro i; subst hW0; simp [go_sem]
    have HSW0 := Lib.hid hsW0; clear hW0 hsW0
    refine (HD.out W0 hbW0 ⟨rfl, fun _ => ⟨_, _, rfl, by have := HSW0.out; omega, fun j u hu => by rw [Nat.zero_add]; exact (cxW0_0 j).trans (by simpa using hu)⟩⟩).mono ?_
    rintro e w' ⟨rfl, rfl⟩
    go_wp2
    go_ret2
    exact ⟨rfl, hbW0⟩
set_option maxHeartbeats 1000000 in
theorem spec_AddCourtDays (A : Option Addr) (c : Nat) (H : List Int) (d n : Int) (w : World) (hr : Rd w w.heap.size A H.length (H.map (Value.int .i64))) (hl : H.length ≤ 140737488355328) (hcap : H.length ≤ c) :
    Calls Tryz.prog 115 #[.slice A H.length c, .int .i64 d, .int .i64 n] w fun e w' => e = .returned (.tuple #[.int .i64 (addP H d n).1, .int .i64 (addP H d n).2]) ∧ Below w.heap.size w w' := by
  have HD := Lib.hid (l02Code_c A c H d w hr hl hcap)
  by_cases h0 : dayC H d = 0
  · obtain ⟨hok, hd0, hd1⟩ := dayC_0 h0
    rw [h0] at HD
    cases hn : inB n 0 400
    · rw [add_rng h0 hn]
      clear h0
      go_enter Tryz.func115, Tryz.ntmps115
      go_wp2_with fail
      refine HD.out.mono ?_
      rintro e w1 ⟨rfl, hb1⟩
      go_wp2_with (first | (go_at_call 81; refine (l01In_b _ _ _ _ _ hn).mono ?_; rintro e w' ⟨rfl, rfl⟩))
      go_ret2
      exact ⟨rfl, hb1⟩
    · have hnb := inB_iff.1 hn
      obtain ⟨m, rfl⟩ := Int.eq_ofNat_of_zero_le hnb.1
      rw [add_ok h0 hn]
      clear h0
      have HN := Lib.hid (fun (W : World) hb => l02Add_c A c H d m W (rdW hb hr) hl hcap ⟨hd0, hd1⟩ (by omega) hok)
      generalize addO H m d = R at *
      go_enter Tryz.func115, Tryz.ntmps115
      go_wp2_with fail
      refine HD.out.mono ?_
      rintro e w1 ⟨rfl, hb1⟩
      go_wp2_with (first | (go_at_call 81; refine (l01In_b _ _ _ _ _ hn).mono ?_; rintro e w' ⟨rfl, rfl⟩))
      refine (HN.out w1 hb1).mono ?_
      rintro e w' ⟨r, rfl, hX, rfl⟩
      go_wp2_with fail
      refine (l02Limit_c r 0 w1).mono ?_
      rintro e w' ⟨rfl, rfl⟩
      rw [if_pos rfl, if_pos rfl]
      cases R with
      | some v =>
        obtain ⟨rfl, hv⟩ := hX.1 v rfl
        rw [if_pos hv, if_pos hv]
        go_wp2
        go_ret2
        exact ⟨rfl, hb1⟩
      | none =>
        have hv := hX.2 rfl
        rw [if_neg (by omega), if_neg (by omega)]
        go_wp2
        go_ret2
        exact ⟨rfl, hb1⟩
  · rw [add_bad h0]
    generalize dayC H d = q at *
    have hq : (q != 0) = true := by rw [bne_iff_ne]; exact h0
    have hq2 : (q == 0) = false := beq_eq_false_iff_ne.2 h0
    go_enter Tryz.func115, Tryz.ntmps115
    go_wp2_with fail
    refine HD.out.mono ?_
    rintro e w1 ⟨rfl, hb1⟩
    go_wp2
    go_ret2
    exact ⟨rfl, hb1⟩
end Go.Proofs.YtiamignopfhkfaaGreatDoor
end
section
namespace Go.Proofs.YtiamignopfhkfaaGreatDoor
open Go.RowKit
set_option linter.unusedVariables false
def cI (a : Nat) : Nat → Nat
  | 0 => 1
  | i + 1 => cI a i * (a - i) / (i + 1)
def cS (m : Nat) : Nat → Nat
  | 0 => 1
  | i + 1 => cS m i * (m + (i + 1)) / (i + 1)
set_option maxRecDepth 100000 in
theorem c_all : ∀ a, a < 41 → ∀ b, b < 41 → b ≤ a → cI a b = cS (a - b) b ∧ cI a b ≤ 2 ^ a ∧ 1 ≤ cI a b := by decide +kernel
set_option maxRecDepth 100000 in
theorem s_all : ∀ m, m < 41 → ∀ i, i < 41 → m + i ≤ 40 → cS m i ≤ 2 ^ 40 := by decide +kernel
/-- The number of ways to choose b of a things. -/
def chF (a b : Int) : Int := if inB b 0 a then (cI a.toNat b.toNat : Int) else 0
theorem two_le {a b : Nat} (h : a ≤ b) : (2 : Nat) ^ a ≤ 2 ^ b := Nat.pow_le_pow_right (by omega) h
theorem chF_bd {a b : Int} (h0 : 0 ≤ a) (h1 : a ≤ 40) : 0 ≤ chF a b ∧ chF a b ≤ ((2 ^ a.toNat : Nat) : Int) := by
  unfold chF
  split
  · rename_i h
    have hb := inB_iff.1 h
    have := (c_all a.toNat (by omega) b.toNat (by omega) (by omega)).2.1
    omega
  · constructor
    · omega
    · exact Int.natCast_nonneg _
theorem chF_pos {a b : Int} (h1 : a ≤ 40) (h2 : 0 ≤ b) (h3 : b ≤ a) : 1 ≤ chF a b := by
  unfold chF
  rw [inB_true h2 h3, if_pos rfl]
  have := (c_all a.toNat (by omega) b.toNat (by omega) (by omega)).2.2
  omega
def termW (n g k x : Int) : Int := chF g x * chF (n - g) (k - x)
theorem termW_bd {n g k x : Int} (hn : n ≤ 40) (hg : 0 ≤ g) (hgn : g ≤ n) : 0 ≤ termW n g k x ∧ termW n g k x ≤ 1099511627776 := by
  obtain ⟨a1, a2⟩ := chF_bd (a := g) (b := x) hg (by omega)
  obtain ⟨b1, b2⟩ := chF_bd (a := n - g) (b := k - x) (by omega) (by omega)
  refine ⟨Int.mul_nonneg a1 b1, Int.le_trans (Int.mul_le_mul a2 b2 b1 (Int.natCast_nonneg _)) ?_⟩
  rw [← Int.natCast_mul, ← Nat.pow_add]
  have := two_le (show g.toNat + (n - g).toNat ≤ 40 by omega)
  have e : (2 : Nat) ^ 40 = 1099511627776 := by decide
  omega
def waysF (n g k : Int) : Nat → Int
  | 0 => 0
  | j + 1 => waysF n g k j + termW n g k (j : Int)
theorem waysF_bd {n g k : Int} (hn : n ≤ 40) (hg : 0 ≤ g) (hgn : g ≤ n) : ∀ j : Nat, 0 ≤ waysF n g k j ∧ waysF n g k j ≤ (j : Int) * 1099511627776
  | 0 => by simp [waysF]
  | j + 1 => by
    have h1 := waysF_bd (k := k) hn hg hgn j
    have h2 := termW_bd (k := k) (x := (j : Int)) hn hg hgn
    rw [waysF]
    constructor
    · omega
    · have : ((j + 1 : Nat) : Int) * 1099511627776 = (j : Int) * 1099511627776 + 1099511627776 := by
        rw [Int.natCast_add, Int.add_mul]; simp
      omega
def gcdF (a b : Int) : Int := (Nat.gcd a.toNat b.toNat : Int)
theorem gcdF_step {a b : Int} (ha : 0 ≤ a) (hb : 0 < b) : gcdF a b = gcdF b (a % b) := by
  have e : (a % b).toNat = a.toNat % b.toNat := by
    obtain ⟨x, rfl⟩ := Int.eq_ofNat_of_zero_le ha
    obtain ⟨y, rfl⟩ := Int.eq_ofNat_of_zero_le (Int.le_of_lt hb)
    simp only [Int.toNat_natCast]
    rw [← Int.natCast_emod, Int.toNat_natCast]
  unfold gcdF
  rw [e, Nat.gcd_comm a.toNat b.toNat, Nat.gcd_rec b.toNat a.toNat, Nat.gcd_comm]
theorem gcdF_zero {a : Int} (ha : 0 ≤ a) : gcdF a 0 = a := by
  unfold gcdF; simp; omega
theorem gcdF_pos {a b : Int} (hb : 0 < b) : 1 ≤ gcdF a b := by
  unfold gcdF
  have := Nat.gcd_pos_of_pos_right a.toNat (show 0 < b.toNat by omega)
  omega
theorem gcdF_le {a b : Int} (hb : 0 < b) : gcdF a b ≤ b := by
  unfold gcdF
  have := Nat.gcd_le_right a.toNat (show 0 < b.toNat by omega)
  omega
def codeW (n g k x : Int) : Int := if (inB n 1 40 && inB g 0 n && inB k 0 n && inB x 0 40) = true then 0 else 2
def topW (n g k x : Int) : Int := if codeW n g k x = 0 then waysF n g k (x.toNat + 1) / gcdF (waysF n g k (x.toNat + 1)) (chF n k) else 0
def botW (n g k x : Int) : Int := if codeW n g k x = 0 then chF n k / gcdF (waysF n g k (x.toNat + 1)) (chF n k) else 0
end Go.Proofs.YtiamignopfhkfaaGreatDoor
end
section
namespace Go.Proofs.YtiamignopfhkfaaGreatDoor
open Go.RowKit
set_option linter.unusedVariables false
theorem cI_step {a i : Nat} (h : i < a) (h41 : a < 41) : cI a (i + 1) = cI a i * (a - i) / (i + 1) ∧ cI a i ≤ 2 ^ 40 := by
  refine ⟨rfl, ?_⟩
  have := (c_all a h41 i (by omega) (by omega)).2.1
  exact Nat.le_trans this (two_le (by omega))
theorem w64_in {n : Int} (h : -9223372036854775808 ≤ n ∧ n ≤ 9223372036854775807) : wrap64 n = n := by unfold wrap64; omega
theorem div_num {q A k : Nat} (h : k < A) (hq : q ≤ 2 ^ 40) (hA : A < 41) : wrap64 ((wrap64 ((q : Int) * ((A : Int) - (k : Int)))).tdiv ((k : Int) + 1)) = ((q * (A - k) / (k + 1) : Nat) : Int) := by
  have e : (q : Int) * ((A : Int) - (k : Int)) = ((q * (A - k) : Nat) : Int) := by rw [Int.natCast_mul]; congr 1; omega
  have hm : q * (A - k) ≤ 2 ^ 40 * 40 := Nat.mul_le_mul hq (by omega)
  have hd : q * (A - k) / (k + 1) ≤ 2 ^ 40 * 40 := Nat.le_trans (Nat.div_le_self _ _) hm
  have e40 : (2 : Nat) ^ 40 = 1099511627776 := by decide
  rw [e40] at hm hd
  rw [e, w64_in (n := ((q * (A - k) : Nat) : Int)) (by omega), show (k : Int) + 1 = ((k + 1 : Nat) : Int) by omega, ← Int.ofNat_tdiv]
  generalize q * (A - k) / (k + 1) = z at *
  exact w64_in (by omega)
theorem cS_step {m i b : Nat} (h : i < b) (h41 : m + b ≤ 40) : cS m i ≤ 2 ^ 40 := s_all m (by omega) i (by omega) (by omega)
theorem div_numS {q m k : Nat} (hq : q ≤ 2 ^ 40) (hA : m + (k + 1) ≤ 40) : wrap64 ((wrap64 ((q : Int) * ((m : Int) + ((k : Int) + 1)))).tdiv ((k : Int) + 1)) = ((q * (m + (k + 1)) / (k + 1) : Nat) : Int) := by
  have e : (q : Int) * ((m : Int) + ((k : Int) + 1)) = ((q * (m + (k + 1)) : Nat) : Int) := by rw [Int.natCast_mul]; congr 1
  have hm : q * (m + (k + 1)) ≤ 2 ^ 40 * 40 := Nat.mul_le_mul hq hA
  have hd : q * (m + (k + 1)) / (k + 1) ≤ 2 ^ 40 * 40 := Nat.le_trans (Nat.div_le_self _ _) hm
  have e40 : (2 : Nat) ^ 40 = 1099511627776 := by decide
  rw [e40] at hm hd
  rw [e, w64_in (n := ((q * (m + (k + 1)) : Nat) : Int)) (by omega), show (k : Int) + 1 = ((k + 1 : Nat) : Int) by omega, ← Int.ofNat_tdiv]
  generalize q * (m + (k + 1)) / (k + 1) = z at *
  exact w64_in (by omega)
set_option maxHeartbeats 1000000 in
theorem choose_c (a b : Int) (w : World) (h0 : 0 ≤ a) (h1 : a ≤ 40) : Calls Tryz.prog 184 #[.int .i64 a, .int .i64 b] w fun e w' => e = .returned (.int .i64 (chF a b)) ∧ w = w' := by
  cases hb : inB b 0 a
  · have E : chF a b = 0 := by simp [chF, hb]
    rw [E]
    go_enter Tryz.func184, Tryz.ntmps184
    go_wp2_with (first | (go_at_call 92; refine (within_b _ _ _ _ _ hb).mono ?_; rintro e w' ⟨rfl, rfl⟩))
    go_ret
    exact ⟨rfl, rfl⟩
  · have E : chF a b = (cI a.toNat b.toNat : Int) := by simp [chF, hb]
    have hbb := inB_iff.1 hb
    rw [E]
    obtain ⟨A, rfl⟩ := Int.eq_ofNat_of_zero_le h0
    obtain ⟨B, rfl⟩ := Int.eq_ofNat_of_zero_le hbb.1
    simp only [Int.toNat_natCast]
    have hBA : B ≤ A := by omega
    go_enter Tryz.func184, Tryz.ntmps184
    go_wp2_with (first | (go_at_call 92; refine (within_b _ _ _ _ _ hb).mono ?_; rintro e w' ⟨rfl, rfl⟩))
    go_loop [5, 12] (fun v i => ∃ k : Nat, k ≤ B ∧ i = .int .i64 k ∧ v = .int .i64 (cI A k : Nat)) (fun _ i => B - (intOf i).toNat)
    case atStart => exact ⟨0, by omega, rfl, rfl⟩
    case round =>
      obtain ⟨k, hk, rfl, rfl⟩ := hrel
      by_cases hlt : k < B
      · have hk1 : (k : Int) < (B : Int) := by omega
        have HQ := Lib.hid (cI_step (a := A) (i := k) (by omega) (by omega)).2
        go_wp2
        go_round
        case rel => exact ⟨k + 1, by omega, by go_num, by rw [div_num (by omega) HQ.out (by omega)]; rfl⟩
        case measure => simp [intOf]; omega
      · obtain rfl : k = B := by omega
        go_wp2
        go_ret
        exact ⟨rfl, rfl⟩
set_option maxHeartbeats 1000000 in
theorem l17Choose_c (a b : Int) (w : World) (h0 : 0 ≤ a) (h1 : a ≤ 40) (hb : -100 ≤ b ∧ b ≤ 100) : Calls Tryz.prog 198 #[.int .i64 a, .int .i64 b] w fun e w' => e = .returned (.int .i64 (chF a b)) ∧ w = w' := by
  by_cases hlo : b < 0
  · have E : chF a b = 0 := by simp [chF, inB_false (n := b) (lo := 0) (hi := a) (by omega)]
    rw [E]
    go_enter Tryz.func198, Tryz.ntmps198
    go_wp2
    go_ret
    exact ⟨rfl, rfl⟩
  · by_cases hhi : a < b
    · have E : chF a b = 0 := by simp [chF, inB_false (n := b) (lo := 0) (hi := a) (by omega)]
      rw [E]
      go_enter Tryz.func198, Tryz.ntmps198
      go_wp2
      go_ret
      exact ⟨rfl, rfl⟩
    · obtain ⟨m, rfl⟩ : ∃ m : Nat, a = b + m := ⟨(a - b).toNat, by omega⟩
      obtain ⟨B, rfl⟩ := Int.eq_ofNat_of_zero_le (show 0 ≤ b by omega)
      have hmB : m + B ≤ 40 := by omega
      have E : chF ((B : Int) + m) B = (cS m B : Int) := by
        rw [chF, inB_true (by omega) (by omega), if_pos rfl, show ((B : Int) + m).toNat = B + m by omega, Int.toNat_natCast]
        rw [(c_all (B + m) (by omega) B (by omega) (by omega)).1, show B + m - B = m by omega]
      rw [E]
      clear E
      go_enter Tryz.func198, Tryz.ntmps198
      go_wp2
      go_loop [5, 6] (fun v i => ∃ k : Nat, k ≤ B ∧ i = .int .i64 ((k : Int) + 1) ∧ v = .int .i64 (cS m k : Nat)) (fun _ i => B + 1 - (intOf i).toNat)
      case atStart => exact ⟨0, by omega, rfl, rfl⟩
      case round =>
        obtain ⟨k, hk, rfl, rfl⟩ := hrel
        by_cases hlt : k < B
        · have hk1 : (k : Int) + 1 ≤ (B : Int) := by omega
          have HQ := Lib.hid (cS_step (m := m) hlt (by omega))
          have hsub : (B : Int) + (m : Int) - (B : Int) = (m : Int) := by omega
          go_wp2
          go_round
          case rel => exact ⟨k + 1, by omega, by go_num, by (try rw [hsub]); rw [div_numS HQ.out (by omega)]; rfl⟩
          case measure => simp [intOf]; omega
        · obtain rfl : k = B := by omega
          go_wp2
          go_ret
          exact ⟨rfl, rfl⟩
/-! ### the ways, in all -/
theorem ways_num {n g k : Int} {j : Nat} (hn : n ≤ 40) (hg : 0 ≤ g) (hgn : g ≤ n) (hj : j ≤ 40) : wrap64 (waysF n g k j + wrap64 (chF g (j : Int) * chF (n - g) (k - (j : Int)))) = waysF n g k (j + 1) := by
  have h1 := termW_bd (k := k) (x := (j : Int)) hn hg hgn
  have h2 := waysF_bd (k := k) hn hg hgn j
  have h3 : (j : Int) * 1099511627776 ≤ 40 * 1099511627776 := by omega
  unfold termW at h1
  rw [w64_in (n := chF g (j : Int) * chF (n - g) (k - (j : Int))) (by omega), w64_in (by omega)]; rfl
set_option maxHeartbeats 1000000 in
theorem waysOf_c (n g k : Int) (x : Nat) (w : World) (hn : 1 ≤ n ∧ n ≤ 40) (hg : 0 ≤ g ∧ g ≤ n) (hk : 0 ≤ k ∧ k ≤ n) (hx : x ≤ 40) : Calls Tryz.prog 183 #[.int .i64 n, .int .i64 g, .int .i64 k, .int .i64 0, .int .i64 x] w fun e w' => e = .returned (.int .i64 (waysF n g k (x + 1))) ∧ w = w' := by
  go_enter Tryz.func183, Tryz.ntmps183
  go_wp2
  go_loop [11, 12] (fun v i => ∃ j : Nat, j ≤ x + 1 ∧ i = .int .i64 j ∧ v = .int .i64 (waysF n g k j)) (fun _ i => x + 1 - (intOf i).toNat)
  case atStart => exact ⟨0, by omega, rfl, rfl⟩
  case round =>
    obtain ⟨j, hj, rfl, rfl⟩ := hrel
    by_cases hlt : j ≤ x
    · have hj1 : (j : Int) ≤ (x : Int) := by omega
      have HN := Lib.hid (ways_num (k := k) (j := j) hn.2 hg.1 hg.2 (by omega))
      go_wp2_with (first | (go_at_call 184; refine (choose_c _ _ _ (by omega) (by omega)).mono ?_; rintro e w' ⟨rfl, rfl⟩))
      go_round
      case rel => exact ⟨j + 1, by omega, by go_num, by rw [HN.out]⟩
      case measure => simp [intOf]; omega
    · obtain rfl : j = x + 1 := by omega
      go_wp2
      go_ret
      exact ⟨rfl, rfl⟩
set_option maxHeartbeats 1000000 in
theorem l17Ways_c (n g k : Int) (x : Nat) (w : World) (hn : 1 ≤ n ∧ n ≤ 40) (hg : 0 ≤ g ∧ g ≤ n) (hk : 0 ≤ k ∧ k ≤ n) (hx : x ≤ 40) : Calls Tryz.prog 197 #[.int .i64 n, .int .i64 g, .int .i64 k, .int .i64 0, .int .i64 x] w fun e w' => e = .returned (.int .i64 (waysF n g k (x + 1))) ∧ w = w' := by
  go_enter Tryz.func197, Tryz.ntmps197
  go_wp2
  go_loop [11, 12] (fun v i => ∃ j : Nat, j ≤ x + 1 ∧ i = .int .i64 j ∧ v = .int .i64 (waysF n g k j)) (fun _ i => x + 1 - (intOf i).toNat)
  case atStart => exact ⟨0, by omega, rfl, rfl⟩
  case round =>
    obtain ⟨j, hj, rfl, rfl⟩ := hrel
    by_cases hlt : j ≤ x
    · have hj1 : (j : Int) ≤ (x : Int) := by omega
      have HN := Lib.hid (ways_num (k := k) (j := j) hn.2 hg.1 hg.2 (by omega))
      go_wp2_with (first | (go_at_call 198; refine (l17Choose_c _ _ _ (by omega) (by omega) (by omega)).mono ?_; rintro e w' ⟨rfl, rfl⟩))
      go_round
      case rel => exact ⟨j + 1, by omega, by go_num, by rw [HN.out]⟩
      case measure => simp [intOf]; omega
    · obtain rfl : j = x + 1 := by omega
      go_wp2
      go_ret
      exact ⟨rfl, rfl⟩
/-! ### lowest terms -/
set_option maxHeartbeats 1000000 in
theorem gcd_c (a b : Int) (w : World) (ha : 0 ≤ a ∧ a ≤ 1000000000000000) (hb : 0 ≤ b ∧ b ≤ 1000000000000000) : Calls Tryz.prog 214 #[.int .i64 a, .int .i64 b] w fun e w' => e = .returned (.int .i64 (gcdF a b)) ∧ Below w.heap.size w w' := by
  go_enter Tryz.func214, Tryz.ntmps214
  go_wp2
  go_loopw [0, 1] (fun u v wr => ∃ x y : Int, u = .int .i64 x ∧ v = .int .i64 y ∧ 0 ≤ x ∧ x ≤ 1000000000000000 ∧ 0 ≤ y ∧ y ≤ 1000000000000000 ∧ Hid (gcdF a b = gcdF x y) ∧ Below w.heap.size w wr) (fun _ v _ => (intOf v).toNat)
  case atStart => exact ⟨a, b, rfl, rfl, ha.1, ha.2, hb.1, hb.2, rfl, Below.refl _ _⟩
  case round =>
    obtain ⟨x, y, rfl, rfl, hx0, hx1, hy0, hy1, HG, hB⟩ := hrel
    by_cases hy : y = 0
    · subst hy
      have HZ := Lib.hid (gcdF_zero hx0)
      go_wp2
      go_ret
      exact ⟨ret_int (by rw [HG.out, HZ.out]), hB⟩
    · have HS := Lib.hid (gcdF_step hx0 (show 0 < y by omega))
      have hm := Int.emod_nonneg x hy
      have hm2 := Int.emod_lt_of_pos x (show 0 < y by omega)
      have hrm : x.tmod y = x % y := IntWalk.rem_in _ _ hx0
      have hyy : ¬ (y == 0) = true := by simpa using hy
      go_wp2_with fail
      go_quiet (fail)
      go_wp2
      go_roundw
      case rel => exact ⟨y, x % y, rfl, rfl, by omega, hy1, hm, by omega, HG.out.trans HS.out, below_drewN hB nq⟩
      case measure => simp [intOf]; omega
theorem l01Abs_c (a : Int) (w : World) (ha : 0 ≤ a ∧ a ≤ 1000000000000000) : Calls Tryz.prog 240 #[.int .i64 a] w fun e w' => e = .returned (.int .i64 a) ∧ w = w' := by
  have hm : max a (-a) = a := by omega
  go_enter Tryz.func240, Tryz.ntmps240
  go_wp2
  go_ret
  exact ⟨by first | rfl | (simp [hm]; done) | (rw [hm]; done) | (rw [hm]; rfl), rfl⟩
set_option maxRecDepth 100000 in
set_option maxHeartbeats 1000000 in
theorem l01Gcd_c (a b : Int) (w : World) (ha : 0 ≤ a ∧ a ≤ 1000000000000000) (hb : 0 ≤ b ∧ b ≤ 1000000000000000) : Calls Tryz.prog 226 #[.int .i64 a, .int .i64 b] w fun e w' => e = .returned (.int .i64 (gcdF a b)) ∧ Below w.heap.size w w' := by
  go_enter Tryz.func226, Tryz.ntmps226
  go_wp2_with (first | (go_at_call 240; first | (refine (l01Abs_c a _ ha).mono ?_; rintro e w' ⟨rfl, rfl⟩) | (refine (l01Abs_c b _ hb).mono ?_; rintro e w' ⟨rfl, rfl⟩)))
  go_loopw [0, 1] (fun u v wr => ∃ x y : Int, u = .int .i64 x ∧ v = .int .i64 y ∧ 0 ≤ x ∧ x ≤ 1000000000000000 ∧ 0 ≤ y ∧ y ≤ 1000000000000000 ∧ Hid (gcdF a b = gcdF x y) ∧ Below w.heap.size w wr) (fun _ v _ => (intOf v).toNat)
  case atStart => exact ⟨a, b, rfl, rfl, ha.1, ha.2, hb.1, hb.2, rfl, Below.refl _ _⟩
  case round =>
    obtain ⟨x, y, rfl, rfl, hx0, hx1, hy0, hy1, HG, hB⟩ := hrel
    by_cases hy : y = 0
    · subst hy
      have HZ := Lib.hid (gcdF_zero hx0)
      go_wp2
      go_ret
      exact ⟨ret_int (by rw [HG.out, HZ.out]), hB⟩
    · have HS := Lib.hid (gcdF_step hx0 (show 0 < y by omega))
      have hm := Int.emod_nonneg x hy
      have hm2 := Int.emod_lt_of_pos x (show 0 < y by omega)
      have hrm : x.tmod y = x % y := IntWalk.rem_in _ _ hx0
      have hyy : ¬ (y == 0) = true := by simpa using hy
      go_wp2_with fail
      go_quiet (fail)
      go_wp2
      go_roundw
      case rel => exact ⟨y, x % y, rfl, rfl, by omega, hy1, hm, by omega, HG.out.trans HS.out, below_drewN hB nq⟩
      case measure => simp [intOf]; omega
theorem div_in {a b : Int} (ha : 0 ≤ a) (hb : 0 < b) (h : a ≤ 1000000000000000) : a.tdiv b = a / b ∧ 0 ≤ a / b ∧ a / b ≤ 1000000000000000 := by
  have h1 := Int.ediv_nonneg ha (Int.le_of_lt hb)
  have h2 := Int.ediv_le_self b ha
  exact ⟨Int.tdiv_eq_ediv_of_nonneg ha, h1, by omega⟩
set_option maxHeartbeats 1000000 in
theorem lowest_c (a b : Int) (w : World) (ha : 0 ≤ a ∧ a ≤ 1000000000000000) (hb : 0 < b ∧ b ≤ 1000000000000000) : Calls Tryz.prog 182 #[.int .i64 a, .int .i64 b] w fun e w' => e = .returned (.tuple #[.int .i64 (a / gcdF a b), .int .i64 (b / gcdF a b)]) ∧ Below w.heap.size w w' := by
  have hg := gcdF_pos (a := a) hb.1
  have hgc := fun W => gcd_c a b W ha (by omega)
  generalize gcdF a b = g at *
  obtain ⟨h1, h2, h3⟩ := div_in ha.1 (show 0 < g by omega) ha.2
  obtain ⟨k1, k2, k3⟩ := div_in (a := b) (by omega) (show 0 < g by omega) hb.2
  have w1 : IntKind.i64.wrap (a / g) = a / g := IntWalk.i64_in _ (by omega)
  have w2 : IntKind.i64.wrap (b / g) = b / g := IntWalk.i64_in _ (by omega)
  have hg0 : (g == 0) = false := beq_eq_false_iff_ne.2 (by omega)
  have HG := Lib.hid hgc
  clear hgc
  go_enter Tryz.func182, Tryz.ntmps182
  go_wp2_with fail
  refine (HG.out w).mono ?_
  rintro e wx ⟨rfl, hb1⟩
  go_wp2_with fail
  go_quiet (fail)
  go_wp2
  go_ret2
  exact ⟨rfl, below_drewN hb1 _⟩
set_option maxHeartbeats 1000000 in
theorem l08Fraction_c (a b : Int) (w : World) (ha : 0 ≤ a ∧ a ≤ 1000000000000000) (hb : 0 < b ∧ b ≤ 1000000000000000) : Calls Tryz.prog 196 #[.int .i64 a, .int .i64 b] w fun e w' => e = .returned (.tuple #[.int .i64 (a / gcdF a b), .int .i64 (b / gcdF a b)]) ∧ Below w.heap.size w w' := by
  have hg := gcdF_pos (a := a) hb.1
  have hgc := fun W => l01Gcd_c a b W ha (by omega)
  generalize gcdF a b = g at *
  obtain ⟨h1, h2, h3⟩ := div_in ha.1 (show 0 < g by omega) ha.2
  obtain ⟨k1, k2, k3⟩ := div_in (a := b) (by omega) (show 0 < g by omega) hb.2
  have w1 : IntKind.i64.wrap (a / g) = a / g := IntWalk.i64_in _ (by omega)
  have w2 : IntKind.i64.wrap (b / g) = b / g := IntWalk.i64_in _ (by omega)
  have hg0 : (g == 0) = false := beq_eq_false_iff_ne.2 (by omega)
  have HG := Lib.hid hgc
  clear hgc
  go_enter Tryz.func196, Tryz.ntmps196
  go_wp2_with fail
  refine (HG.out w).mono ?_
  rintro e wx ⟨rfl, hb1⟩
  go_wp2_with fail
  go_quiet (fail)
  go_wp2
  go_ret2
  exact ⟨rfl, below_drewN hb1 _⟩
theorem ways_bd {n g k : Int} {x : Nat} (hn : n ≤ 40) (hg : 0 ≤ g) (hgn : g ≤ n) (hx : x ≤ 40) : 0 ≤ waysF n g k (x + 1) ∧ waysF n g k (x + 1) ≤ 1000000000000000 := by
  have h := waysF_bd (k := k) hn hg hgn (x + 1)
  omega
theorem all_bd {n k : Int} (hn : n ≤ 40) (h0 : 0 ≤ k) (hk : k ≤ n) : 0 < chF n k ∧ chF n k ≤ 1000000000000000 := by
  have h1 := chF_pos hn h0 hk
  have h2 := (chF_bd (a := n) (b := k) (by omega) hn).2
  have h3 := two_le (show n.toNat ≤ 40 by omega)
  have e40 : (2 : Nat) ^ 40 = 1099511627776 := by decide
  omega
set_option maxHeartbeats 1000000 in
theorem chanceOf_c (n g k : Int) (x : Nat) (w : World) (hn : 1 ≤ n ∧ n ≤ 40) (hg : 0 ≤ g ∧ g ≤ n) (hk : 0 ≤ k ∧ k ≤ n) (hx : x ≤ 40) : Calls Tryz.prog 148 #[.int .i64 n, .int .i64 g, .int .i64 k, .int .i64 0, .int .i64 x] w fun e w' => e = .returned (.tuple #[.int .i64 (waysF n g k (x + 1) / gcdF (waysF n g k (x + 1)) (chF n k)), .int .i64 (chF n k / gcdF (waysF n g k (x + 1)) (chF n k))]) ∧ Below w.heap.size w w' := by
  have HW := Lib.hid (fun W => waysOf_c n g k x W hn hg hk hx)
  have HC := Lib.hid (fun W => choose_c n k W (by omega) hn.2)
  have HL := Lib.hid (fun W => lowest_c (waysF n g k (x + 1)) (chF n k) W (ways_bd hn.2 hg.1 hg.2 hx) (all_bd hn.2 hk.1 hk.2))
  generalize waysF n g k (x + 1) = a at *
  generalize chF n k = b at *
  generalize a / gcdF a b = p at *
  generalize b / gcdF a b = q at *
  go_enter Tryz.func148, Tryz.ntmps148
  go_wp2_with (first | (go_at_call 183; refine (HW.out _).mono ?_; rintro e w' ⟨rfl, rfl⟩) | (go_at_call 184; refine (HC.out _).mono ?_; rintro e w' ⟨rfl, rfl⟩) | (go_at_call 182; refine (HL.out _).mono ?_; rintro e w1 ⟨rfl, hb1⟩))
  go_ret2
  exact ⟨rfl, hb1⟩
set_option maxHeartbeats 1000000 in
theorem l17Chance_c (n g k : Int) (x : Nat) (w : World) (hn : 1 ≤ n ∧ n ≤ 40) (hg : 0 ≤ g ∧ g ≤ n) (hk : 0 ≤ k ∧ k ≤ n) (hx : x ≤ 40) : Calls Tryz.prog 165 #[.int .i64 n, .int .i64 g, .int .i64 k, .int .i64 0, .int .i64 x] w fun e w' => e = .returned (.tuple #[.int .i64 (waysF n g k (x + 1) / gcdF (waysF n g k (x + 1)) (chF n k)), .int .i64 (chF n k / gcdF (waysF n g k (x + 1)) (chF n k))]) ∧ Below w.heap.size w w' := by
  have HW := Lib.hid (fun W => l17Ways_c n g k x W hn hg hk hx)
  have HC := Lib.hid (fun W => l17Choose_c n k W (by omega) hn.2 (by omega))
  have HL := Lib.hid (fun W => l08Fraction_c (waysF n g k (x + 1)) (chF n k) W (ways_bd hn.2 hg.1 hg.2 hx) (all_bd hn.2 hk.1 hk.2))
  generalize waysF n g k (x + 1) = a at *
  generalize chF n k = b at *
  generalize a / gcdF a b = p at *
  generalize b / gcdF a b = q at *
  go_enter Tryz.func165, Tryz.ntmps165
  go_wp2_with (first | (go_at_call 197; refine (HW.out _).mono ?_; rintro e w' ⟨rfl, rfl⟩) | (go_at_call 198; refine (HC.out _).mono ?_; rintro e w' ⟨rfl, rfl⟩) | (go_at_call 196; refine (HL.out _).mono ?_; rintro e w1 ⟨rfl, hb1⟩))
  go_ret2
  exact ⟨rfl, hb1⟩
theorem codeW_0 {n g k x : Int} (h : codeW n g k x = 0) : (1 ≤ n ∧ n ≤ 40) ∧ (0 ≤ g ∧ g ≤ n) ∧ (0 ≤ k ∧ k ≤ n) ∧ (0 ≤ x ∧ x ≤ 40) := by
  unfold codeW at h
  split at h
  · rename_i h1
    simp only [Bool.and_eq_true] at h1
    exact ⟨inB_iff.1 h1.1.1.1, inB_iff.1 h1.1.1.2, inB_iff.1 h1.1.2, inB_iff.1 h1.2⟩
  · omega
theorem codeW_cases (n g k x : Int) : codeW n g k x = 0 ∨ codeW n g k x = 2 := by unfold codeW; split <;> simp
set_option maxRecDepth 100000 in
theorem isDraw_b (n g k : Int) (b : Bool) (w : World) (h : (inB n 1 40 && inB g 0 n && inB k 0 n) = b) : Calls Tryz.prog 146 #[.int .i64 n, .int .i64 g, .int .i64 k] w fun e w' => e = .returned (.bool b) ∧ w = w' := by
  have HB := Lib.hid h; clear h
  go_enter Tryz.func146, Tryz.ntmps146
  go_wp2_with (first | (go_at_call 92; refine (within_b _ _ _ _ _ rfl).mono ?_; rintro e w' ⟨rfl, rfl⟩))
  all_goals (go_ret; exact ⟨ret_bool (by rw [← HB.out]; simp_all), rfl⟩)
theorem isCount_b (x : Int) (b : Bool) (w : World) (h : inB x 0 40 = b) : Calls Tryz.prog 147 #[.int .i64 x] w fun e w' => e = .returned (.bool b) ∧ w = w' := by
  go_enter Tryz.func147, Tryz.ntmps147
  go_wp2_with (first | (go_at_call 92; refine (within_b _ _ _ _ _ h).mono ?_; rintro e w' ⟨rfl, rfl⟩))
  go_ret
  exact ⟨rfl, rfl⟩
set_option maxRecDepth 100000 in
theorem l17Code_c (n g k x : Int) (w : World) : Calls Tryz.prog 164 #[.int .i64 n, .int .i64 g, .int .i64 k, .int .i64 x] w fun e w' => e = .returned (.int .i64 (codeW n g k x)) ∧ w = w' := by
  generalize hc : codeW n g k x = c
  have HC := Lib.hid hc; clear hc
  go_enter Tryz.func164, Tryz.ntmps164
  go_wp2_with (first | (go_at_call 81; refine (l01In_b _ _ _ _ _ rfl).mono ?_; rintro e w' ⟨rfl, rfl⟩))
  all_goals (go_ret; exact ⟨ret_int (by rw [← HC.out]; simp_all [codeW]), rfl⟩)
set_option maxRecDepth 100000 in
set_option maxHeartbeats 2000000 in
theorem impl_ChanceOfAtMost (n g k x : Int) (w : World) : Calls Tryz.prog 108 #[.int .i64 n, .int .i64 g, .int .i64 k, .int .i64 x] w fun e w' => e = .returned (.tuple #[.int .i64 (topW n g k x), .int .i64 (botW n g k x), .int .i64 (codeW n g k x)]) ∧ Below w.heap.size w w' := by
  by_cases h0 : codeW n g k x = 0
  · obtain ⟨hn, hg, hk, hx⟩ := codeW_0 h0
    obtain ⟨X, rfl⟩ := Int.eq_ofNat_of_zero_le hx.1
    have e1 : inB n 1 40 = true := inB_true hn.1 hn.2
    have e2 : (inB n 1 40 && inB g 0 n && inB k 0 n) = true := by rw [e1, inB_true hg.1 hg.2, inB_true hk.1 hk.2]; rfl
    have e4 : inB (X : Int) 0 40 = true := inB_true hx.1 hx.2
    have HC := Lib.hid (fun W => chanceOf_c n g k X W hn hg hk (by omega))
    unfold topW botW
    rw [if_pos h0, if_pos h0, h0, Int.toNat_natCast]
    generalize waysF n g k (X + 1) / gcdF (waysF n g k (X + 1)) (chF n k) = p at *
    generalize chF n k / gcdF (waysF n g k (X + 1)) (chF n k) = q at *
    clear e1 h0
    go_enter Tryz.func108, Tryz.ntmps108
    go_wp2_with (first | (go_at_call 146; refine (isDraw_b _ _ _ _ _ e2).mono ?_; rintro e w' ⟨rfl, rfl⟩) | (go_at_call 147; refine (isCount_b _ _ _ e4).mono ?_; rintro e w' ⟨rfl, rfl⟩) | (go_at_call 148; refine (HC.out _).mono ?_; rintro e w1 ⟨rfl, hb1⟩))
    go_ret3
    exact ⟨rfl, hb1⟩
  · have h2 : codeW n g k x = 2 := by rcases codeW_cases n g k x with h | h; exact absurd h h0; exact h
    have HZ : Hid ((inB n 1 40 && inB g 0 n && inB k 0 n && inB x 0 40) = false) := by
      unfold Hid; unfold codeW at h0
      rw [← Bool.not_eq_true]; intro h; rw [if_pos h] at h0; exact h0 rfl
    unfold topW botW
    rw [if_neg h0, if_neg h0, h2]
    clear h0 h2
    cases e2 : (inB n 1 40 && inB g 0 n && inB k 0 n)
    · go_enter Tryz.func108, Tryz.ntmps108
      go_wp2_with (first | (go_at_call 146; refine (isDraw_b _ _ _ _ _ e2).mono ?_; rintro e w' ⟨rfl, rfl⟩))
      go_ret3
      exact ⟨rfl, Below.refl _ _⟩
    · have e4 : inB x 0 40 = false := by have := HZ.out; rw [e2] at this; simpa using this
      go_enter Tryz.func108, Tryz.ntmps108
      go_wp2_with (first | (go_at_call 146; refine (isDraw_b _ _ _ _ _ e2).mono ?_; rintro e w' ⟨rfl, rfl⟩) | (go_at_call 147; refine (isCount_b _ _ _ e4).mono ?_; rintro e w' ⟨rfl, rfl⟩))
      go_ret3
      exact ⟨rfl, Below.refl _ _⟩
set_option maxRecDepth 100000 in
set_option maxHeartbeats 2000000 in
theorem spec_ChanceOfAtMost (n g k x : Int) (w : World) : Calls Tryz.prog 117 #[.int .i64 n, .int .i64 g, .int .i64 k, .int .i64 x] w fun e w' => e = .returned (.tuple #[.int .i64 (topW n g k x), .int .i64 (botW n g k x), .int .i64 (codeW n g k x)]) ∧ Below w.heap.size w w' := by
  have HK := Lib.hid (fun W => l17Code_c n g k x W)
  by_cases h0 : codeW n g k x = 0
  · obtain ⟨hn, hg, hk, hx⟩ := codeW_0 h0
    obtain ⟨X, rfl⟩ := Int.eq_ofNat_of_zero_le hx.1
    have HC := Lib.hid (fun W => l17Chance_c n g k X W hn hg hk (by omega))
    unfold topW botW
    rw [h0] at HK
    rw [if_pos h0, if_pos h0, h0, Int.toNat_natCast]
    generalize waysF n g k (X + 1) / gcdF (waysF n g k (X + 1)) (chF n k) = p at *
    generalize chF n k / gcdF (waysF n g k (X + 1)) (chF n k) = q at *
    clear h0
    go_enter Tryz.func117, Tryz.ntmps117
    go_wp2_with (first | (go_at_call 164; refine (HK.out _).mono ?_; rintro e w' ⟨rfl, rfl⟩) | (go_at_call 165; refine (HC.out _).mono ?_; rintro e w1 ⟨rfl, hb1⟩))
    go_ret3
    exact ⟨rfl, hb1⟩
  · have h2 : codeW n g k x = 2 := by rcases codeW_cases n g k x with h | h; exact absurd h h0; exact h
    unfold topW botW
    rw [h2] at HK
    rw [if_neg h0, if_neg h0, h2]
    clear h0 h2
    go_enter Tryz.func117, Tryz.ntmps117
    go_wp2_with (first | (go_at_call 164; refine (HK.out _).mono ?_; rintro e w' ⟨rfl, rfl⟩))
    go_ret3
    exact ⟨rfl, Below.refl _ _⟩
end Go.Proofs.YtiamignopfhkfaaGreatDoor
end
