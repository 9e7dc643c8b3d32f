/- Contracts: LevelAt, CountSecret, the public text of both texts. -/
import Derived.Test.YtgckkocndhfbnaaMarks
namespace Go.Proofs.Ytgckkocndhfbnaa
open Go.RowKit
set_option linter.unusedVariables false
theorem at_b (i n : Int) (b : Bool) (w : World) (h : inB i 0 (n - 1) = b) : Calls Try.prog 54 #[.int .i64 i, .int .i64 n] w fun e w' => e = .returned (.bool b) ∧ w = w' := by
  by_cases h1 : 0 ≤ i <;> by_cases h2 : i < n
  · rw [inB_true h1 (by omega)] at h; subst h
    go_enter Try.func54, Try.ntmps54
    go_wp2
    go_ret; exact ⟨rfl, rfl⟩
  all_goals
    rw [inB_false (by omega)] at h; subst h
    go_enter Try.func54, Try.ntmps54
    go_wp2
    go_ret; exact ⟨rfl, rfl⟩

/-! ### LevelAt -/
def lvAt (L : List MarkD) (p : Int) : Int := ((L.find? (fun m => inB p m.from_ (m.to - 1))).map MarkD.level).getD 0
theorem lvAt_hit {L : List MarkD} {p : Int} {k : Nat} (hk : k < L.length) (T : lvAt L p = lvAt (L.drop k) p) (h : inB p L[k].from_ (L[k].to - 1) = true) : lvAt L p = L[k].level := by
  rw [T, List.drop_eq_getElem_cons hk, lvAt, List.find?_cons, h]; rfl
theorem lvAt_miss {L : List MarkD} {p : Int} {k : Nat} (hk : k < L.length) (T : lvAt L p = lvAt (L.drop k) p) (h : inB p L[k].from_ (L[k].to - 1) = false) : lvAt L p = lvAt (L.drop (k + 1)) p := by
  rw [T, List.drop_eq_getElem_cons hk, lvAt, List.find?_cons, h]; rfl
theorem lvAt_end {L : List MarkD} {p : Int} (T : lvAt L p = lvAt (L.drop L.length) p) : lvAt L p = 0 := by rw [T]; simp [lvAt]
def levR (s : ByteArray) (L : List MarkD) (p : Int) : Int × Int := if codeK s L = 0 then (if inB p 0 ((s.size : Int) - 1) then (lvAt L p, 0) else (0, 2)) else (0, codeK s L)
theorem levR_bad {s : ByteArray} {L : List MarkD} {p : Int} (h : codeK s L ≠ 0) : levR s L p = (0, codeK s L) := by rw [levR, if_neg h]
theorem levR_out {s : ByteArray} {L : List MarkD} {p : Int} (h : codeK s L = 0) (hp : inB p 0 ((s.size : Int) - 1) = false) : levR s L p = (0, 2) := by rw [levR, if_pos h, hp]; rfl
theorem levR_in {s : ByteArray} {L : List MarkD} {p : Int} (h : codeK s L = 0) (hp : inB p 0 ((s.size : Int) - 1) = true) : levR s L p = (lvAt L p, 0) := by rw [levR, if_pos h, hp]; rfl
set_option maxRecDepth 100000 in
set_option maxHeartbeats 2000000 in
theorem impl_LevelAt (s : ByteArray) (A : Option Addr) (c : Nat) (L : List MarkD) (p : Int) (w : World) (hs : s.size ≤ 1048576) (hr : Rd w w.heap.size A (L.length * 3) (L.flatMap markC)) (hl : L.length ≤ 140737488355328) (hcap : L.length ≤ c) :
    Calls Try.prog 18 #[.string s, .slice A L.length c, .int .i64 p] w fun e w' => e = .returned (.tuple #[.int .i64 (levR s L p).1, .int .i64 (levR s L p).2]) ∧ Below w.heap.size w w' := by
  have hmc := marksCode_c s A c L w hs hr hl hcap
  by_cases hk : codeK s L = 0
  · rw [hk] at hmc
    have HM := Lib.hid hmc
    cases hp : inB p 0 ((s.size : Int) - 1)
    · rw [levR_out hk hp]
      clear hk hmc
      go_enter Try.func18, Try.ntmps18
      go_wp2_with fail
      refine HM.out.mono ?_
      rintro e w1 ⟨rfl, hb1⟩
      go_wp2_with (first | (go_at_call 54; refine (at_b _ _ _ _ hp).mono ?_; rintro e w' ⟨rfl, rfl⟩))
      go_ret2
      exact ⟨rfl, hb1⟩
    · rw [levR_in hk hp]
      have HG := Lib.hid (fun k (hlt : k < L.length) => marks_elem (n := (s.size : Int)) (by omega) (codeK_0 hk).2 hlt)
      clear hk hmc
      go_enter Try.func18, Try.ntmps18
      go_wp2_with fail
      refine HM.out.mono ?_
      rintro e w1 ⟨rfl, hB2⟩
      go_wp2_with (first | (go_at_call 54; refine (at_b _ _ _ _ hp).mono ?_; rintro e w' ⟨rfl, rfl⟩))
      go_loopw [24] (fun i wr => ∃ k : Nat, k ≤ L.length ∧ i = .int .i64 k ∧ Below w.heap.size w wr ∧ Hid (lvAt L p = lvAt (L.drop k) p)) (fun i _ => L.length - (intOf i).toNat)
      case atStart => exact ⟨0, by omega, rfl, hB2, rfl⟩
      case round =>
        obtain ⟨k, hk, rfl, hB, HT⟩ := hrel
        clear hB2
        by_cases hlt : k < L.length
        · obtain ⟨bf, offf, rfl, hbf, hcf⟩ := Rd.elem markC 3 (fun _ => rfl) (rdW hB hr) (by omega) hlt
          have f0 : wr.cell? ⟨bf, offf + k * 3, none⟩ = some (.int .i64 L[k].from_) := hcf k hlt 0 _ rfl
          have f1 : wr.cell? ⟨bf, offf + k * 3 + 1, none⟩ = some (.int .i64 L[k].to) := hcf k hlt 1 _ rfl
          have f2 : wr.cell? ⟨bf, offf + k * 3 + 2, none⟩ = some (.int .i64 L[k].level) := hcf k hlt 2 _ rfl
          have hg := HG.out k hlt
          obtain ⟨hg1, hg2, hg3, hg4⟩ := hg
          cases hin : inB p L[k].from_ (L[k].to - 1)
          · have R := Lib.hid (lvAt_miss hlt HT.out hin)
            clear hcf
            generalize L[k] = x at *
            generalize endAt L k = z at *
            obtain ⟨x0, x1, x2⟩ := x
            simp only at hg1 hg2 hg3 hg4 hin
            go_wp2_with (first | (go_at_call 55; refine (within_b _ _ _ _ _ hin).mono ?_; rintro e w' ⟨rfl, rfl⟩))
            go_roundw
            case rel => exact ⟨k + 1, by omega, by go_num, bt hB ((Below.refl _ _).alloc (Nat.le_refl _) _), R⟩
            case measure => simp [intOf]; omega
          · have R := Lib.hid (lvAt_hit hlt HT.out hin)
            clear hcf
            generalize L[k] = x at *
            generalize endAt L k = z at *
            obtain ⟨x0, x1, x2⟩ := x
            simp only at hg1 hg2 hg3 hg4 hin
            go_wp2_with (first | (go_at_call 55; refine (within_b _ _ _ _ _ hin).mono ?_; rintro e w' ⟨rfl, rfl⟩))
            go_ret2
            exact ⟨by rw [R.out]; rfl, bt hB ((Below.refl _ _).alloc (Nat.le_refl _) _)⟩
        · obtain rfl : k = L.length := by omega
          have R := Lib.hid (lvAt_end HT.out)
          go_wp2
          go_ret2
          exact ⟨by rw [R.out]; rfl, hB⟩
  · rw [levR_bad hk]
    have hne : (codeK s L != 0) = true := by rw [bne_iff_ne]; exact hk
    clear hk
    go_enter Try.func18, Try.ntmps18
    go_wp2_with fail
    refine hmc.mono ?_
    rintro e w1 ⟨rfl, hb1⟩
    clear hmc
    go_wp2
    go_ret2
    exact ⟨rfl, hb1⟩
set_option maxRecDepth 100000 in
set_option maxHeartbeats 2000000 in
theorem spec_LevelAt (s : ByteArray) (A : Option Addr) (c : Nat) (L : List MarkD) (p : Int) (w : World) (hs : s.size ≤ 1048576) (hr : Rd w w.heap.size A (L.length * 3) (L.flatMap markC)) (hl : L.length ≤ 140737488355328) (hcap : L.length ≤ c) :
    Calls Try.prog 19 #[.string s, .slice A L.length c, .int .i64 p] w fun e w' => e = .returned (.tuple #[.int .i64 (levR s L p).1, .int .i64 (levR s L p).2]) ∧ Below w.heap.size w w' := by
  cases hp : inB p 0 ((s.size : Int) - 1)
  · have hmc := l32Code_c s A c L (-1) w hs hr hl hcap
    have HE : levR s L p = (0, codeL s L (-1)) := by
      rw [codeL_out (by decide)]
      by_cases hk : codeK s L = 0
      · rw [if_pos hk, levR_out hk hp]
      · rw [if_neg hk, levR_bad hk]
    have hne : (codeL s L (-1) != 0) = true := by
      rw [bne_iff_ne, codeL_out (by decide)]
      split
      · omega
      · assumption
    rw [HE]
    clear HE
    go_enter Try.func19, Try.ntmps19
    go_wp2_with (first | (go_at_call 56; refine (l01In_b _ _ _ _ _ hp).mono ?_; rintro e w' ⟨rfl, rfl⟩))
    refine hmc.mono ?_
    rintro e w1 ⟨rfl, hb1⟩
    clear hmc
    go_wp2
    go_ret2
    exact ⟨rfl, hb1⟩
  have hmc := l32Code_c s A c L 0 w hs hr hl hcap
  rw [codeL_in (by decide)] at hmc
  by_cases hk : codeK s L = 0
  · rw [hk] at hmc
    have HM := Lib.hid hmc
    rw [levR_in hk hp]
    have HG := Lib.hid (fun k (hlt : k < L.length) => marks_elem (n := (s.size : Int)) (by omega) (codeK_0 hk).2 hlt)
    clear hk hmc
    go_enter Try.func19, Try.ntmps19
    go_wp2_with (first | (go_at_call 56; refine (l01In_b _ _ _ _ _ hp).mono ?_; rintro e w' ⟨rfl, rfl⟩))
    refine HM.out.mono ?_
    rintro e w1 ⟨rfl, hB2⟩
    go_wp2
    go_loopw [10] (fun i wr => ∃ k : Nat, k ≤ L.length ∧ i = .int .i64 k ∧ Below w.heap.size w wr ∧ Hid (lvAt L p = lvAt (L.drop k) p)) (fun i _ => L.length - (intOf i).toNat)
    case atStart => exact ⟨0, by omega, rfl, hB2, rfl⟩
    case round =>
      obtain ⟨k, hk, rfl, hB, HT⟩ := hrel
      clear hB2
      by_cases hlt : k < L.length
      · obtain ⟨bf, offf, rfl, hbf, hcf⟩ := Rd.elem markC 3 (fun _ => rfl) (rdW hB hr) (by omega) hlt
        have f0 : wr.cell? ⟨bf, offf + k * 3, none⟩ = some (.int .i64 L[k].from_) := hcf k hlt 0 _ rfl
        have f1 : wr.cell? ⟨bf, offf + k * 3 + 1, none⟩ = some (.int .i64 L[k].to) := hcf k hlt 1 _ rfl
        have f2 : wr.cell? ⟨bf, offf + k * 3 + 2, none⟩ = some (.int .i64 L[k].level) := hcf k hlt 2 _ rfl
        have hg := HG.out k hlt
        obtain ⟨hg1, hg2, hg3, hg4⟩ := hg
        have hk0 : (0 : Int) ≤ (k : Int) := by omega
        have hk1 : (k : Int) < (L.length : Int) := by omega
        cases hin : inB p L[k].from_ (L[k].to - 1)
        · have R := Lib.hid (lvAt_miss hlt HT.out hin)
          clear hcf
          generalize L[k] = x at *
          generalize endAt L k = z at *
          obtain ⟨x0, x1, x2⟩ := x
          simp only at hg1 hg2 hg3 hg4 hin
          have hwr : IntKind.i64.wrap (x1 - 1) = x1 - 1 := IntWalk.i64_in _ (by omega)
          go_wp2_with fail
          have kf0 := cell_regrown f0
          have kf1 := cell_regrown f1
          have kf2 := cell_regrown f2
          refine wp_region_bel mixed (by kernel_rfl) ?_
          repeat (any_goals (first | go_big_quiet_step ((first | exact rg_same (l01In_b _ _ _ _ _ hin))) | quiet_step ((first | exact rg_same (l01In_b _ _ _ _ _ hin))) | (refine wpQuiet_step (fun K hK => ?_); go_simp; (split <;> first | (refine hK _ ?_; clear hK K) | (apply Exists.intro; refine ⟨fun _ => ?_, hK _ ?_⟩; ((first | exact rg_same (l01In_b _ _ _ _ _ hin))); clear hK K)))))
          all_goals (refine wpQuiet_nil ?_; intro w1 hw1)
          all_goals (clear kf0 kf1 kf2 hwr; replace f0 := (hw1.cell (by (try simp only); omega)).trans f0; replace f1 := (hw1.cell (by (try simp only); omega)).trans f1; replace f2 := (hw1.cell (by (try simp only); omega)).trans f2)
          go_wp2
          go_roundw
          case rel => exact ⟨k + 1, by omega, by go_num, bt hB hw1, R⟩
          case measure => simp [intOf]; omega
        · have R := Lib.hid (lvAt_hit hlt HT.out hin)
          clear hcf
          generalize L[k] = x at *
          generalize endAt L k = z at *
          obtain ⟨x0, x1, x2⟩ := x
          simp only at hg1 hg2 hg3 hg4 hin
          have hwr : IntKind.i64.wrap (x1 - 1) = x1 - 1 := IntWalk.i64_in _ (by omega)
          go_wp2_with fail
          have kf0 := cell_regrown f0
          have kf1 := cell_regrown f1
          have kf2 := cell_regrown f2
          refine wp_region_bel mixed (by kernel_rfl) ?_
          repeat (any_goals (first | go_big_quiet_step ((first | exact rg_same (l01In_b _ _ _ _ _ hin))) | quiet_step ((first | exact rg_same (l01In_b _ _ _ _ _ hin))) | (refine wpQuiet_step (fun K hK => ?_); go_simp; (split <;> first | (refine hK _ ?_; clear hK K) | (apply Exists.intro; refine ⟨fun _ => ?_, hK _ ?_⟩; ((first | exact rg_same (l01In_b _ _ _ _ _ hin))); clear hK K)))))
          all_goals (refine wpQuiet_nil ?_; intro w1 hw1)
          all_goals (clear kf0 kf1 kf2 hwr; replace f0 := (hw1.cell (by (try simp only); omega)).trans f0; replace f1 := (hw1.cell (by (try simp only); omega)).trans f1; replace f2 := (hw1.cell (by (try simp only); omega)).trans f2)
          go_wp2
          go_ret2
          exact ⟨by rw [R.out]; rfl, bt hB hw1⟩
      · obtain rfl : k = L.length := by omega
        have R := Lib.hid (lvAt_end HT.out)
        go_wp2
        go_ret2
        exact ⟨by rw [R.out]; rfl, hB⟩
  · rw [levR_bad hk]
    have hne : (codeK s L != 0) = true := by rw [bne_iff_ne]; exact hk
    clear hk
    go_enter Try.func19, Try.ntmps19
    go_wp2_with (first | (go_at_call 56; refine (l01In_b _ _ _ _ _ hp).mono ?_; rintro e w' ⟨rfl, rfl⟩))
    refine hmc.mono ?_
    rintro e w1 ⟨rfl, hb1⟩
    clear hmc
    go_wp2
    go_ret2
    exact ⟨rfl, hb1⟩

/-! ### CountSecret -/
def secAt (L : List MarkD) (lv : Int) : Nat → Int
  | 0 => 0
  | k + 1 => if lv < (L.getD k default).level then secAt L lv k + ((L.getD k default).to - (L.getD k default).from_) else secAt L lv k
theorem secAt_succ {L : List MarkD} {lv : Int} {k : Nat} (hk : k < L.length) : secAt L lv (k + 1) = if lv < L[k].level then secAt L lv k + (L[k].to - L[k].from_) else secAt L lv k := by rw [secAt, getD_lt hk]
theorem secAt_bd {n : Int} {L : List MarkD} {lv : Int} (hn : 0 ≤ n ∧ n ≤ 400) (h : marksOkB n L = true) : ∀ k, k ≤ L.length → 0 ≤ secAt L lv k ∧ secAt L lv k ≤ 400 * k
  | 0, _ => by simp [secAt]
  | k + 1, hk => by
    have IH := secAt_bd (lv := lv) hn h k (by omega)
    have he := marks_elem hn.1 h (show k < L.length by omega)
    rw [secAt_succ (show k < L.length by omega)]
    split <;> omega
def cntR (s : ByteArray) (L : List MarkD) (lv : Int) : Int × Int := if codeL s L lv = 0 then (secAt L lv L.length, 0) else (0, codeL s L lv)
theorem cntR_bad {s : ByteArray} {L : List MarkD} {lv : Int} (h : codeL s L lv ≠ 0) : cntR s L lv = (0, codeL s L lv) := by rw [cntR, if_neg h]
theorem cntR_ok {s : ByteArray} {L : List MarkD} {lv : Int} (h : codeL s L lv = 0) : cntR s L lv = (secAt L lv L.length, 0) := by rw [cntR, if_pos h]

set_option maxRecDepth 100000 in
set_option maxHeartbeats 2000000 in
theorem impl_CountSecret (s : ByteArray) (A : Option Addr) (c : Nat) (L : List MarkD) (lv : Int) (w : World) (hs : s.size ≤ 1048576) (hr : Rd w w.heap.size A (L.length * 3) (L.flatMap markC)) (hl : L.length ≤ 140737488355328) (hcap : L.length ≤ c) :
    Calls Try.prog 12 #[.string s, .slice A L.length c, .int .i64 lv] w fun e w' => e = .returned (.tuple #[.int .i64 (cntR s L lv).1, .int .i64 (cntR s L lv).2]) ∧ Below w.heap.size w w' := by
  have hmc := levelCode_c s A c L lv w hs hr hl hcap
  by_cases hk : codeL s L lv = 0
  · rw [cntR_ok hk]
    rw [hk] at hmc
    have HM := Lib.hid hmc
    obtain ⟨hT, hMk⟩ := codeK_0 (codeL_0 hk).1
    have hsz := text_len hT
    have h12 := (marks_parts hMk).1
    have HMk := Lib.hid hMk
    clear hk hmc hT hMk
    go_enter Try.func12, Try.ntmps12
    go_wp2_with fail
    refine HM.out.mono ?_
    rintro e w1 ⟨rfl, hB2⟩
    go_wp2
    go_loopw [9, 21] (fun q i wr => ∃ k : Nat, k ≤ L.length ∧ i = .int .i64 k ∧ q = .int .i64 (secAt L lv k) ∧ Below w.heap.size w wr) (fun _ i _ => L.length - (intOf i).toNat)
    case atStart => exact ⟨0, by omega, rfl, rfl, hB2⟩
    case round =>
      obtain ⟨k, hk, rfl, rfl, hB⟩ := hrel
      clear hB2
      by_cases hlt : k < L.length
      · obtain ⟨bf, offf, rfl, hbf, hcf⟩ := Rd.elem markC 3 (fun _ => rfl) (rdW hB hr) (by omega) hlt
        have f0 : wr.cell? ⟨bf, offf + k * 3, none⟩ = some (.int .i64 L[k].from_) := hcf k hlt 0 _ rfl
        have f1 : wr.cell? ⟨bf, offf + k * 3 + 1, none⟩ = some (.int .i64 L[k].to) := hcf k hlt 1 _ rfl
        have f2 : wr.cell? ⟨bf, offf + k * 3 + 2, none⟩ = some (.int .i64 L[k].level) := hcf k hlt 2 _ rfl
        have hg := marks_elem (n := (s.size : Int)) (by omega) HMk.out hlt
        obtain ⟨hg1, hg2, hg3, hg4⟩ := hg
        have hq := secAt_bd (n := (s.size : Int)) (lv := lv) (by omega) HMk.out k hk
        have hk0 : (0 : Int) ≤ (k : Int) := by omega
        have hk1 : (k : Int) < (L.length : Int) := by omega
        have HS := Lib.hid (secAt_succ (lv := lv) hlt)
        clear hcf
        generalize secAt L lv k = q at *
        generalize L[k] = x at *
        generalize endAt L k = z at *
        obtain ⟨x0, x1, x2⟩ := x
        simp only at hg1 hg2 hg3 hg4
        by_cases hgt : lv < x2
        · have hl2 : lv < x2 := hgt
          go_wp2
          go_roundw
          case rel => exact ⟨k + 1, by omega, by go_num, by rw [HS.out, if_pos hgt], bt hB ((Below.refl _ _).alloc (Nat.le_refl _) _)⟩
          case measure => simp [intOf]; omega
        · go_wp2
          go_roundw
          case rel => exact ⟨k + 1, by omega, by go_num, by rw [HS.out, if_neg hgt], bt hB ((Below.refl _ _).alloc (Nat.le_refl _) _)⟩
          case measure => simp [intOf]; omega
      · obtain rfl : k = L.length := by omega
        go_wp2
        go_ret2
        exact ⟨rfl, hB⟩
  · rw [cntR_bad hk]
    have hne : (codeL s L lv != 0) = true := by rw [bne_iff_ne]; exact hk
    clear hk
    go_enter Try.func12, Try.ntmps12
    go_wp2_with fail
    refine hmc.mono ?_
    rintro e w1 ⟨rfl, hb1⟩
    clear hmc
    go_wp2
    go_ret2
    exact ⟨rfl, hb1⟩


set_option maxRecDepth 100000 in
set_option maxHeartbeats 2000000 in
theorem spec_CountSecret (s : ByteArray) (A : Option Addr) (c : Nat) (L : List MarkD) (lv : Int) (w : World) (hs : s.size ≤ 1048576) (hr : Rd w w.heap.size A (L.length * 3) (L.flatMap markC)) (hl : L.length ≤ 140737488355328) (hcap : L.length ≤ c) :
    Calls Try.prog 13 #[.string s, .slice A L.length c, .int .i64 lv] w fun e w' => e = .returned (.tuple #[.int .i64 (cntR s L lv).1, .int .i64 (cntR s L lv).2]) ∧ Below w.heap.size w w' := by
  have hmc := l32Code_c s A c L lv w hs hr hl hcap
  by_cases hk : codeL s L lv = 0
  · rw [cntR_ok hk]
    rw [hk] at hmc
    have HM := Lib.hid hmc
    obtain ⟨hT, hMk⟩ := codeK_0 (codeL_0 hk).1
    have hsz := text_len hT
    have h12 := (marks_parts hMk).1
    have HMk := Lib.hid hMk
    clear hk hmc hT hMk
    go_enter Try.func13, Try.ntmps13
    go_wp2_with fail
    refine HM.out.mono ?_
    rintro e w1 ⟨rfl, hB2⟩
    go_wp2
    go_loopw [9, 10] (fun q i wr => ∃ k : Nat, k ≤ L.length ∧ i = .int .i64 k ∧ q = .int .i64 (secAt L lv k) ∧ Below w.heap.size w wr) (fun _ i _ => L.length - (intOf i).toNat)
    case atStart => exact ⟨0, by omega, rfl, rfl, hB2⟩
    case round =>
      obtain ⟨k, hk, rfl, rfl, hB⟩ := hrel
      clear hB2
      by_cases hlt : k < L.length
      · obtain ⟨bf, offf, rfl, hbf, hcf⟩ := Rd.elem markC 3 (fun _ => rfl) (rdW hB hr) (by omega) hlt
        have f0 : wr.cell? ⟨bf, offf + k * 3, none⟩ = some (.int .i64 L[k].from_) := hcf k hlt 0 _ rfl
        have f1 : wr.cell? ⟨bf, offf + k * 3 + 1, none⟩ = some (.int .i64 L[k].to) := hcf k hlt 1 _ rfl
        have f2 : wr.cell? ⟨bf, offf + k * 3 + 2, none⟩ = some (.int .i64 L[k].level) := hcf k hlt 2 _ rfl
        have hg := marks_elem (n := (s.size : Int)) (by omega) HMk.out hlt
        obtain ⟨hg1, hg2, hg3, hg4⟩ := hg
        have hq := secAt_bd (n := (s.size : Int)) (lv := lv) (by omega) HMk.out k hk
        have hk0 : (0 : Int) ≤ (k : Int) := by omega
        have hk1 : (k : Int) < (L.length : Int) := by omega
        have HS := Lib.hid (secAt_succ (lv := lv) hlt)
        clear hcf
        generalize secAt L lv k = q at *
        generalize L[k] = x at *
        generalize endAt L k = z at *
        obtain ⟨x0, x1, x2⟩ := x
        simp only at hg1 hg2 hg3 hg4
        by_cases hgt : lv < x2
        · have hw1 : IntKind.i64.wrap (q + x1) = q + x1 := IntWalk.i64_in _ (by omega)
          have hw2 : IntKind.i64.wrap (q + x1 - x0) = q + x1 - x0 := IntWalk.i64_in _ (by omega)
          have HW1 := Lib.hid hw1
          have HW2 := Lib.hid hw2
          clear hw1 hw2
          go_wp2_with fail
          have hv1 := HW1.out
          have hv2 := HW2.out
          have kf0 := cell_regrown f0
          have kf1 := cell_regrown f1
          have kf2 := cell_regrown f2
          refine wp_region_bel mixed (by kernel_rfl) ?_
          repeat (any_goals (first | go_big_quiet_step ((fail)) | quiet_step ((fail)) | (refine wpQuiet_step (fun K hK => ?_); go_simp; (split <;> first | (refine hK _ ?_; clear hK K) | (apply Exists.intro; refine ⟨fun _ => ?_, hK _ ?_⟩; ((fail)); clear hK K)))))
          all_goals (refine wpQuiet_nil ?_; intro w1 hw1)
          all_goals (clear kf0 kf1 kf2 hv1 hv2; replace f0 := (hw1.cell (by (try simp only); omega)).trans f0; replace f1 := (hw1.cell (by (try simp only); omega)).trans f1; replace f2 := (hw1.cell (by (try simp only); omega)).trans f2)
          go_wp2
          go_roundw
          case rel => exact ⟨k + 1, by omega, by go_num, by rw [HS.out, if_pos hgt]; go_num, bt hB hw1⟩
          case measure => simp [intOf]; omega
        · go_wp2
          go_roundw
          case rel => exact ⟨k + 1, by omega, by go_num, by rw [HS.out, if_neg hgt], hB⟩
          case measure => simp [intOf]; omega
      · obtain rfl : k = L.length := by omega
        go_wp2
        go_ret2
        exact ⟨rfl, hB⟩
  · rw [cntR_bad hk]
    have hne : (codeL s L lv != 0) = true := by rw [bne_iff_ne]; exact hk
    clear hk
    go_enter Try.func13, Try.ntmps13
    go_wp2_with fail
    refine hmc.mono ?_
    rintro e w1 ⟨rfl, hb1⟩
    clear hmc
    go_wp2
    go_ret2
    exact ⟨rfl, hb1⟩


/-! ### The public text -/
def hidB : ByteArray := ⟨#[91, 35, 93]⟩
def pubAt (s : ByteArray) (L : List MarkD) (lv : Int) : Nat → ByteArray × Nat
  | 0 => (ByteArray.empty, 0)
  | k + 1 => if lv < (L.getD k default).level then ((pubAt s L lv k).1 ++ (s.extract (pubAt s L lv k).2 (L.getD k default).from_.toNat ++ hidB), (L.getD k default).to.toNat) else pubAt s L lv k
theorem pubAt_succ {s : ByteArray} {L : List MarkD} {lv : Int} {k : Nat} (hk : k < L.length) : pubAt s L lv (k + 1) = if lv < L[k].level then ((pubAt s L lv k).1 ++ (s.extract (pubAt s L lv k).2 L[k].from_.toNat ++ hidB), L[k].to.toNat) else pubAt s L lv k := by rw [pubAt, getD_lt hk]
theorem pubAt_bd {s : ByteArray} {L : List MarkD} {lv : Int} (hn : s.size ≤ 400) (h : marksOkB s.size L = true) : ∀ k, k ≤ L.length → ((pubAt s L lv k).2 : Int) ≤ endAt L k ∧ (pubAt s L lv k).1.size ≤ 403 * k
  | 0, _ => by simp [pubAt, endAt]
  | k + 1, hk => by
    have IH := pubAt_bd (lv := lv) hn h k (by omega)
    have he := marks_elem (n := (s.size : Int)) (by omega) h (show k < L.length by omega)
    rw [pubAt_succ (show k < L.length by omega), endAt_succ (show k < L.length by omega)]
    have h3 : hidB.size = 3 := rfl
    split
    · refine ⟨by simp only; omega, ?_⟩
      simp only [ByteArray.size_append, ByteArray.size_extract, h3]
      omega
    · omega
def pubT (s : ByteArray) (L : List MarkD) (lv : Int) : ByteArray := (pubAt s L lv L.length).1 ++ s.extract (pubAt s L lv L.length).2 s.size

set_option maxRecDepth 100000 in
set_option maxHeartbeats 2000000 in
theorem impl_pub (s : ByteArray) (A : Option Addr) (c : Nat) (L : List MarkD) (lv : Int) (w : World) (hr : Rd w w.heap.size A (L.length * 3) (L.flatMap markC)) (hl : L.length ≤ 140737488355328) (hcap : L.length ≤ c) (hsz : s.size ≤ 400) (hM : marksOkB s.size L = true) :
    Calls Try.prog 48 #[.string s, .slice A L.length c, .int .i64 lv] w fun e w' => e = .returned (.string (pubT s L lv)) ∧ Below w.heap.size w w' := by
  have HM := Lib.hid hM
  have h12 := (marks_parts hM).1
  have h3 : Hid (hidB.size = 3) := rfl
  clear hM
  go_enter Try.func48, Try.ntmps48
  go_wp2
  go_loopw [7, 8, 13] (fun o q i wr => ∃ k : Nat, k ≤ L.length ∧ i = .int .i64 k ∧ o = .string (pubAt s L lv k).1 ∧ q = .int .i64 (pubAt s L lv k).2 ∧ Below w.heap.size w wr) (fun _ _ i _ => L.length - (intOf i).toNat)
  case atStart => exact ⟨0, by omega, rfl, rfl, rfl, Below.refl _ _⟩
  case round =>
    obtain ⟨k, hk, rfl, rfl, rfl, hB⟩ := hrel
    have hq := pubAt_bd (lv := lv) hsz HM.out k hk
    by_cases hlt : k < L.length
    · obtain ⟨bf, offf, rfl, hbf, hcf⟩ := Rd.elem markC 3 (fun _ => rfl) (rdW hB hr) (by omega) hlt
      have f0 : wr.cell? ⟨bf, offf + k * 3, none⟩ = some (.int .i64 L[k].from_) := hcf k hlt 0 _ rfl
      have f1 : wr.cell? ⟨bf, offf + k * 3 + 1, none⟩ = some (.int .i64 L[k].to) := hcf k hlt 1 _ rfl
      have f2 : wr.cell? ⟨bf, offf + k * 3 + 2, none⟩ = some (.int .i64 L[k].level) := hcf k hlt 2 _ rfl
      have hg := marks_elem (n := (s.size : Int)) (by omega) HM.out hlt
      obtain ⟨hg1, hg2, hg3, hg4⟩ := hg
      have HS := Lib.hid (pubAt_succ (s := s) (lv := lv) hlt)
      clear hcf
      generalize pubAt s L lv k = pq at *
      generalize L[k] = x at *
      generalize endAt L k = z at *
      obtain ⟨x0, x1, x2⟩ := x
      obtain ⟨o, q⟩ := pq
      simp only at hg1 hg2 hg3 hg4 hq
      obtain ⟨n0, rfl⟩ := Int.eq_ofNat_of_zero_le (show 0 ≤ x0 by omega)
      obtain ⟨n1, rfl⟩ := Int.eq_ofNat_of_zero_le (show 0 ≤ x1 by omega)
      have hq0 : q ≤ n0 := by omega
      have hn0 : n0 ≤ s.size := by omega
      have hos : o.size ≤ 403 * 12 := by omega
      have hes : (s.extract q n0).size ≤ 400 := by rw [ByteArray.size_extract]; omega
      have hes2 : (s.extract q n0 ++ hidB).size ≤ 403 := by rw [ByteArray.size_append, h3.out]; omega
      have hes3 : (o ++ s.extract q n0).size ≤ 403 * 13 := by rw [ByteArray.size_append]; omega
      by_cases hgt : lv < x2
      · go_wp2
        go_roundw
        case rel => exact ⟨k + 1, by omega, by go_num, by rw [HS.out, if_pos hgt]; rfl, by rw [HS.out, if_pos hgt]; simp, bt hB ((Below.refl _ _).alloc (Nat.le_refl _) _)⟩
        case measure => simp [intOf]; omega
      · go_wp2
        go_roundw
        case rel => exact ⟨k + 1, by omega, by go_num, by rw [HS.out, if_neg hgt], by rw [HS.out, if_neg hgt], bt hB ((Below.refl _ _).alloc (Nat.le_refl _) _)⟩
        case measure => simp [intOf]; omega
    · obtain rfl : k = L.length := by omega
      have hz := end_bd (n := (s.size : Int)) (by omega) (Nat.le_refl _) (marks_parts HM.out).2
      have HP : Hid (pubT s L lv = (pubAt s L lv L.length).1 ++ s.extract (pubAt s L lv L.length).2 s.size) := rfl
      generalize pubAt s L lv L.length = pq at *
      obtain ⟨o, q⟩ := pq
      simp only at hq
      have hq0 : q ≤ s.size := by omega
      have hos : o.size ≤ 403 * 12 := by omega
      have hes : (s.extract q s.size).size ≤ 400 := by rw [ByteArray.size_extract]; omega
      go_wp2
      go_ret
      exact ⟨by rw [HP.out]; rfl, hB⟩


set_option maxRecDepth 100000 in
set_option maxHeartbeats 2000000 in
theorem spec_pub (s : ByteArray) (A : Option Addr) (c : Nat) (L : List MarkD) (lv : Int) (w : World) (hr : Rd w w.heap.size A (L.length * 3) (L.flatMap markC)) (hl : L.length ≤ 140737488355328) (hcap : L.length ≤ c) (hsz : s.size ≤ 400) (hM : marksOkB s.size L = true) :
    Calls Try.prog 50 #[.string s, .slice A L.length c, .int .i64 lv] w fun e w' => e = .returned (.string (pubT s L lv)) ∧ Below w.heap.size w w' := by
  have HM := Lib.hid hM
  have h12 := (marks_parts hM).1
  have h3 : Hid (hidB.size = 3) := rfl
  clear hM
  go_enter Try.func50, Try.ntmps50
  go_wp2
  go_loopw [7, 8, 9] (fun o q i wr => ∃ k : Nat, k ≤ L.length ∧ i = .int .i64 k ∧ o = .string (pubAt s L lv k).1 ∧ q = .int .i64 (pubAt s L lv k).2 ∧ Below w.heap.size w wr) (fun _ _ i _ => L.length - (intOf i).toNat)
  case atStart => exact ⟨0, by omega, rfl, rfl, rfl, Below.refl _ _⟩
  case round =>
    obtain ⟨k, hk, rfl, rfl, rfl, hB⟩ := hrel
    have hq := pubAt_bd (lv := lv) hsz HM.out k hk
    by_cases hlt : k < L.length
    · obtain ⟨bf, offf, rfl, hbf, hcf⟩ := Rd.elem markC 3 (fun _ => rfl) (rdW hB hr) (by omega) hlt
      have f0 : wr.cell? ⟨bf, offf + k * 3, none⟩ = some (.int .i64 L[k].from_) := hcf k hlt 0 _ rfl
      have f1 : wr.cell? ⟨bf, offf + k * 3 + 1, none⟩ = some (.int .i64 L[k].to) := hcf k hlt 1 _ rfl
      have f2 : wr.cell? ⟨bf, offf + k * 3 + 2, none⟩ = some (.int .i64 L[k].level) := hcf k hlt 2 _ rfl
      have hg := marks_elem (n := (s.size : Int)) (by omega) HM.out hlt
      obtain ⟨hg1, hg2, hg3, hg4⟩ := hg
      have HS := Lib.hid (pubAt_succ (s := s) (lv := lv) hlt)
      clear hcf
      generalize pubAt s L lv k = pq at *
      generalize L[k] = x at *
      generalize endAt L k = z at *
      obtain ⟨x0, x1, x2⟩ := x
      obtain ⟨o, q⟩ := pq
      simp only at hg1 hg2 hg3 hg4 hq
      obtain ⟨n0, rfl⟩ := Int.eq_ofNat_of_zero_le (show 0 ≤ x0 by omega)
      obtain ⟨n1, rfl⟩ := Int.eq_ofNat_of_zero_le (show 0 ≤ x1 by omega)
      have hq0 : q ≤ n0 := by omega
      have hn0 : n0 ≤ s.size := by omega
      have hos : o.size ≤ 403 * 12 := by omega
      have hes : (s.extract q n0).size ≤ 400 := by rw [ByteArray.size_extract]; omega
      have hes2 : (s.extract q n0 ++ hidB).size ≤ 403 := by rw [ByteArray.size_append, h3.out]; omega
      have hes3 : (o ++ s.extract q n0).size ≤ 403 * 13 := by rw [ByteArray.size_append]; omega
      by_cases hgt : lv < x2
      · go_wp2
        go_roundw
        case rel => exact ⟨k + 1, by omega, by go_num, by rw [HS.out, if_pos hgt]; simp [hidB, ByteArray.append_assoc], by rw [HS.out, if_pos hgt]; simp, bt hB ((Below.refl _ _).alloc (Nat.le_refl _) _)⟩
        case measure => simp [intOf]; omega
      · go_wp2
        go_roundw
        case rel => exact ⟨k + 1, by omega, by go_num, by rw [HS.out, if_neg hgt], by rw [HS.out, if_neg hgt], bt hB ((Below.refl _ _).alloc (Nat.le_refl _) _)⟩
        case measure => simp [intOf]; omega
    · obtain rfl : k = L.length := by omega
      have hz := end_bd (n := (s.size : Int)) (by omega) (Nat.le_refl _) (marks_parts HM.out).2
      have HP : Hid (pubT s L lv = (pubAt s L lv L.length).1 ++ s.extract (pubAt s L lv L.length).2 s.size) := rfl
      generalize pubAt s L lv L.length = pq at *
      obtain ⟨o, q⟩ := pq
      simp only at hq
      have hq0 : q ≤ s.size := by omega
      have hos : o.size ≤ 403 * 12 := by omega
      have hes : (s.extract q s.size).size ≤ 400 := by rw [ByteArray.size_extract]; omega
      go_wp2
      go_ret
      exact ⟨by rw [HP.out]; rfl, hB⟩


def pubR (s : ByteArray) (L : List MarkD) (lv : Int) : ByteArray × Int := if codeL s L lv = 0 then (pubT s L lv, 0) else (ByteArray.empty, codeL s L lv)
theorem pubR_bad {s : ByteArray} {L : List MarkD} {lv : Int} (h : codeL s L lv ≠ 0) : pubR s L lv = (ByteArray.empty, codeL s L lv) := by rw [pubR, if_neg h]
theorem pubR_ok {s : ByteArray} {L : List MarkD} {lv : Int} (h : codeL s L lv = 0) : pubR s L lv = (pubT s L lv, 0) := by rw [pubR, if_pos h]
def isPubR (s : ByteArray) (L : List MarkD) (lv : Int) (t : ByteArray) : Bool × Int := if codeL s L lv = 0 then ((pubT s L lv).toList == t.toList, 0) else (false, codeL s L lv)
theorem isPubR_bad {s : ByteArray} {L : List MarkD} {lv : Int} {t : ByteArray} (h : codeL s L lv ≠ 0) : isPubR s L lv t = (false, codeL s L lv) := by rw [isPubR, if_neg h]
theorem isPubR_ok {s : ByteArray} {L : List MarkD} {lv : Int} {t : ByteArray} (h : codeL s L lv = 0) : isPubR s L lv t = ((pubT s L lv).toList == t.toList, 0) := by rw [isPubR, if_pos h]

set_option maxRecDepth 100000 in
set_option maxHeartbeats 2000000 in
theorem impl_PublicText (s : ByteArray) (A : Option Addr) (c : Nat) (L : List MarkD) (lv : Int) (w : World) (hs : s.size ≤ 1048576) (hr : Rd w w.heap.size A (L.length * 3) (L.flatMap markC)) (hl : L.length ≤ 140737488355328) (hcap : L.length ≤ c) :
    Calls Try.prog 10 #[.string s, .slice A L.length c, .int .i64 lv] w fun e w' => e = .returned (.tuple #[.string (pubR s L lv).1, .int .i64 (pubR s L lv).2]) ∧ Below w.heap.size w w' := by
  have hmc := levelCode_c s A c L lv w hs hr hl hcap
  by_cases hk : codeL s L lv = 0
  · rw [pubR_ok hk]
    rw [hk] at hmc
    have HM := Lib.hid hmc
    obtain ⟨hT, hMk⟩ := codeK_0 (codeL_0 hk).1
    have hsz := text_len hT
    have HMk := Lib.hid hMk
    clear hk hmc hT hMk
    go_enter Try.func10, Try.ntmps10
    go_wp2_with fail
    refine HM.out.mono ?_
    rintro e w1 ⟨rfl, hb1⟩
    go_wp2_with fail
    refine (impl_pub s A c L lv w1 (rdW hb1 hr) hl hcap hsz HMk.out).mono ?_
    rintro e w2 ⟨rfl, hb2⟩
    go_wp2
    go_ret2
    exact ⟨rfl, bt hb1 hb2⟩
  · rw [pubR_bad hk]
    have hne : (codeL s L lv != 0) = true := by rw [bne_iff_ne]; exact hk
    clear hk
    go_enter Try.func10, Try.ntmps10
    go_wp2_with fail
    refine hmc.mono ?_
    rintro e w1 ⟨rfl, hb1⟩
    clear hmc
    go_wp2
    go_ret2
    exact ⟨rfl, hb1⟩


set_option maxRecDepth 100000 in
set_option maxHeartbeats 2000000 in
theorem impl_IsPublicText (s : ByteArray) (A : Option Addr) (c : Nat) (L : List MarkD) (lv : Int) (t : ByteArray) (w : World) (hs : s.size ≤ 1048576) (hr : Rd w w.heap.size A (L.length * 3) (L.flatMap markC)) (hl : L.length ≤ 140737488355328) (hcap : L.length ≤ c) :
    Calls Try.prog 15 #[.string s, .slice A L.length c, .int .i64 lv, .string t] w fun e w' => e = .returned (.tuple #[.bool (isPubR s L lv t).1, .int .i64 (isPubR s L lv t).2]) ∧ Below w.heap.size w w' := by
  have hmc := levelCode_c s A c L lv w hs hr hl hcap
  by_cases hk : codeL s L lv = 0
  · rw [isPubR_ok hk]
    rw [hk] at hmc
    have HM := Lib.hid hmc
    obtain ⟨hT, hMk⟩ := codeK_0 (codeL_0 hk).1
    have hsz := text_len hT
    have HMk := Lib.hid hMk
    clear hk hmc hT hMk
    go_enter Try.func15, Try.ntmps15
    go_wp2_with fail
    refine HM.out.mono ?_
    rintro e w1 ⟨rfl, hb1⟩
    go_wp2_with fail
    refine (impl_pub s A c L lv w1 (rdW hb1 hr) hl hcap hsz HMk.out).mono ?_
    rintro e w2 ⟨rfl, hb2⟩
    go_wp2
    go_ret2
    exact ⟨rfl, bt hb1 hb2⟩
  · rw [isPubR_bad hk]
    have hne : (codeL s L lv != 0) = true := by rw [bne_iff_ne]; exact hk
    clear hk
    go_enter Try.func15, Try.ntmps15
    go_wp2_with fail
    refine hmc.mono ?_
    rintro e w1 ⟨rfl, hb1⟩
    clear hmc
    go_wp2
    go_ret2
    exact ⟨rfl, hb1⟩


set_option maxRecDepth 100000 in
set_option maxHeartbeats 2000000 in
theorem spec_PublicText (s : ByteArray) (A : Option Addr) (c : Nat) (L : List MarkD) (lv : Int) (w : World) (hs : s.size ≤ 1048576) (hr : Rd w w.heap.size A (L.length * 3) (L.flatMap markC)) (hl : L.length ≤ 140737488355328) (hcap : L.length ≤ c) :
    Calls Try.prog 11 #[.string s, .slice A L.length c, .int .i64 lv] w fun e w' => e = .returned (.tuple #[.string (pubR s L lv).1, .int .i64 (pubR s L lv).2]) ∧ Below w.heap.size w w' := by
  have hmc := l32Code_c s A c L lv w hs hr hl hcap
  by_cases hk : codeL s L lv = 0
  · rw [pubR_ok hk]
    rw [hk] at hmc
    have HM := Lib.hid hmc
    obtain ⟨hT, hMk⟩ := codeK_0 (codeL_0 hk).1
    have hsz := text_len hT
    have HMk := Lib.hid hMk
    clear hk hmc hT hMk
    go_enter Try.func11, Try.ntmps11
    go_wp2_with fail
    refine HM.out.mono ?_
    rintro e w1 ⟨rfl, hb1⟩
    go_wp2_with fail
    refine (spec_pub s A c L lv w1 (rdW hb1 hr) hl hcap hsz HMk.out).mono ?_
    rintro e w2 ⟨rfl, hb2⟩
    go_wp2
    go_ret2
    exact ⟨rfl, bt hb1 hb2⟩
  · rw [pubR_bad hk]
    have hne : (codeL s L lv != 0) = true := by rw [bne_iff_ne]; exact hk
    clear hk
    go_enter Try.func11, Try.ntmps11
    go_wp2_with fail
    refine hmc.mono ?_
    rintro e w1 ⟨rfl, hb1⟩
    clear hmc
    go_wp2
    go_ret2
    exact ⟨rfl, hb1⟩


set_option maxRecDepth 100000 in
set_option maxHeartbeats 2000000 in
theorem spec_IsPublicText (s : ByteArray) (A : Option Addr) (c : Nat) (L : List MarkD) (lv : Int) (t : ByteArray) (w : World) (hs : s.size ≤ 1048576) (hr : Rd w w.heap.size A (L.length * 3) (L.flatMap markC)) (hl : L.length ≤ 140737488355328) (hcap : L.length ≤ c) :
    Calls Try.prog 16 #[.string s, .slice A L.length c, .int .i64 lv, .string t] w fun e w' => e = .returned (.tuple #[.bool (isPubR s L lv t).1, .int .i64 (isPubR s L lv t).2]) ∧ Below w.heap.size w w' := by
  have hmc := l32Code_c s A c L lv w hs hr hl hcap
  by_cases hk : codeL s L lv = 0
  · rw [isPubR_ok hk]
    rw [hk] at hmc
    have HM := Lib.hid hmc
    obtain ⟨hT, hMk⟩ := codeK_0 (codeL_0 hk).1
    have hsz := text_len hT
    have HMk := Lib.hid hMk
    clear hk hmc hT hMk
    go_enter Try.func16, Try.ntmps16
    go_wp2_with fail
    refine HM.out.mono ?_
    rintro e w1 ⟨rfl, hb1⟩
    go_wp2_with fail
    refine (spec_pub s A c L lv w1 (rdW hb1 hr) hl hcap hsz HMk.out).mono ?_
    rintro e w2 ⟨rfl, hb2⟩
    go_wp2
    go_ret2
    exact ⟨rfl, bt hb1 hb2⟩
  · rw [isPubR_bad hk]
    have hne : (codeL s L lv != 0) = true := by rw [bne_iff_ne]; exact hk
    clear hk
    go_enter Try.func16, Try.ntmps16
    go_wp2_with fail
    refine hmc.mono ?_
    rintro e w1 ⟨rfl, hb1⟩
    clear hmc
    go_wp2
    go_ret2
    exact ⟨rfl, hb1⟩

end Go.Proofs.Ytgckkocndhfbnaa
