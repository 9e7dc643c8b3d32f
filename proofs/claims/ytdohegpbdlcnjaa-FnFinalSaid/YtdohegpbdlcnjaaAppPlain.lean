/- Contracts: StandsOn, LongestAppeal, IsFinalOn of both texts. -/
import Derived.Test.YtdohegpbdlcnjaaAppS
import Derived.Test.YtdohegpbdlcnjaaRow
namespace Go.Proofs.Ytdohegpbdlcnjaa
open Go.RowKit
set_option linter.unusedVariables false
/-! ### Plain facts -/
def elOk (x : AppealD) : Prop := (0 ≤ x.filed ∧ x.filed ≤ 20000) ∧ (0 ≤ x.decided ∧ x.decided ≤ 20000) ∧ (0 ≤ x.result ∧ x.result ≤ 3)
theorem apps_elem {H : List Int} {J : Int} {L : List AppealD} (h : appsOk H J L = true) {k : Nat} (hk : k < L.length) : elOk L[k] := by
  obtain ⟨_, h2, _, h4⟩ := apps_parts h
  have hb := (last_bd (H := H) h2 (show k ≤ L.length by omega) (fun j hj => h4 j (by omega))).1
  have := h4 k hk
  rw [appAt_eq hk, Bool.and_eq_true, Bool.and_eq_true] at this
  have hd := app_dec hb this.1.2
  have hf : inB L[k].filed (lastAt J L k) (deadF H (lastAt J L k) 30) = true := by
    have h3 := this.1.2
    simp only [appOk, Bool.and_eq_true] at h3
    exact h3.1.1.1
  exact ⟨app_filed hb hf, hd.1, hd.2⟩
def standAt (L : List AppealD) : Nat → Int
  | 0 => 1
  | k + 1 => if (L.getD k default).result = 2 then - standAt L k else standAt L k
theorem standAt_bd (L : List AppealD) : ∀ k, -1 ≤ standAt L k ∧ standAt L k ≤ 1
  | 0 => by simp [standAt]
  | k + 1 => by have := standAt_bd L k; rw [standAt]; split <;> omega
theorem getD_lt {α : Type} [Inhabited α] {L : List α} {k : Nat} (hk : k < L.length) : L.getD k default = L[k] := by rw [List.getD_eq_getElem?_getD, List.getElem?_eq_getElem hk]; rfl
theorem standAt_succ {L : List AppealD} {k : Nat} (hk : k < L.length) : standAt L (k + 1) = if L[k].result = 2 then - standAt L k else standAt L k := by rw [standAt, getD_lt hk]
def standF (H : List Int) (J : Int) (L : List AppealD) : Int × Int := if appsOk H J L then (if settledB L then (standAt L L.length, 0) else (0, 0)) else (0, 1)
def longAt (L : List AppealD) : Nat → Int × Int
  | 0 => (-1, -1)
  | k + 1 => if (L.getD k default).result ≠ 0 ∧ (longAt L k).2 < (L.getD k default).decided - (L.getD k default).filed then ((k : Int), (L.getD k default).decided - (L.getD k default).filed) else longAt L k
theorem longAt_succ {L : List AppealD} {k : Nat} (hk : k < L.length) : longAt L (k + 1) = if L[k].result ≠ 0 ∧ (longAt L k).2 < L[k].decided - L[k].filed then ((k : Int), L[k].decided - L[k].filed) else longAt L k := by rw [longAt, getD_lt hk]
theorem longAt_bd {L : List AppealD} (h : ∀ j (hj : j < L.length), elOk L[j]) : ∀ k, k ≤ L.length → (-1 ≤ (longAt L k).1 ∧ (longAt L k).1 < k) ∧ (-1 ≤ (longAt L k).2 ∧ (longAt L k).2 ≤ 20000) ∧ ((longAt L k).1 < 0 ↔ (longAt L k).2 < 0)
  | 0, _ => by simp [longAt]
  | k + 1, hk => by
    have := longAt_bd h k (by omega)
    have he := h k (by omega)
    rw [longAt_succ (by omega)]
    obtain ⟨⟨_, _⟩, ⟨_, _⟩, _⟩ := he
    split <;> (try simp only) <;> omega
def bestAt (L : List AppealD) (k : Nat) : Int := if (longAt L k).1 < 0 then 0 else (longAt L k).1
def longF (H : List Int) (J : Int) (L : List AppealD) : Int × Int × Int := if appsOk H J L then (if (longAt L L.length).1 < 0 then (0, 0, 4) else ((longAt L L.length).1, (longAt L L.length).2, 0)) else (0, 0, 1)
theorem longF_bad {H : List Int} {J : Int} {L : List AppealD} (h : appsOk H J L = false) : longF H J L = (0, 0, 1) := by rw [longF, h]; rfl
theorem longF_neg {H : List Int} {J : Int} {L : List AppealD} (h : appsOk H J L = true) (hn : (longAt L L.length).1 < 0) : longF H J L = (0, 0, 4) := by rw [longF, h, if_pos rfl, if_pos hn]
theorem longF_pos {H : List Int} {J : Int} {L : List AppealD} (h : appsOk H J L = true) (hn : 0 ≤ (longAt L L.length).1) : longF H J L = ((longAt L L.length).1, (longAt L L.length).2, 0) := by rw [longF, h, if_pos rfl, if_neg (by omega)]
theorem bestAt_pos {L : List AppealD} {k : Nat} (h : 0 ≤ (longAt L k).1) : bestAt L k = (longAt L k).1 := by rw [bestAt, if_neg (by omega)]
def finF (H : List Int) (J : Int) (L : List AppealD) (day : Int) : Bool × Int :=
  if appsOk H J L then (if inB day 0 20000 then (settledB L && decide (lastAt J L L.length ≤ day) && (decide (L.length = 6) || decide (deadF H (lastAt J L L.length) 30 < day)), 0) else (false, 2)) else (false, 1)

/-! ### StandsOn -/
set_option maxRecDepth 100000 in
set_option maxHeartbeats 1000000 in
theorem impl_StandsOn (AH : Option Addr) (cH : Nat) (H : List Int) (J : Int) (A : Option Addr) (c : Nat) (L : List AppealD) (w : World) (hrH : Rd w w.heap.size AH H.length (H.map (Value.int .i64))) (hlH : H.length ≤ 140737488355328) (hcapH : H.length ≤ cH) (hr : Rd w w.heap.size A (L.length * 5) (L.flatMap appealC)) (hl : L.length ≤ 140737488355328) (hcap : L.length ≤ c) :
    Calls Try.prog 50 #[.slice AH H.length cH, .int .i64 J, .slice A L.length c] w fun e w' => e = .returned (.tuple #[.int .i64 (standF H J L).1, .int .i64 (standF H J L).2]) ∧ Below w.heap.size w w' := by
  unfold standF
  cases hT : appsOk H J L
  · rw [if_neg (by decide)]
    go_enter Try.func50, Try.ntmps50
    go_wp2_with fail
    refine (impl_AreAppeals AH cH H J A c L _ w hrH hlH hcapH hr hl hcap hT).mono ?_
    rintro e w1 ⟨rfl, hb1⟩
    go_wp2
    go_ret2
    exact ⟨rfl, hb1⟩
  rw [if_pos rfl]
  cases hS : settledB L
  · rw [if_neg (by decide)]
    go_enter Try.func50, Try.ntmps50
    go_wp2_with fail
    refine (impl_AreAppeals AH cH H J A c L _ w hrH hlH hcapH hr hl hcap hT).mono ?_
    rintro e w1 ⟨rfl, hb1⟩
    go_wp2_with fail
    refine (settled_b A c L _ w1 (rdW hb1 hr) hl hcap hS).mono ?_
    rintro e w2 ⟨rfl, hb2⟩
    go_wp2
    go_ret2
    exact ⟨rfl, bt hb1 hb2⟩
  rw [if_pos rfl]
  go_enter Try.func50, Try.ntmps50
  go_wp2_with fail
  refine (impl_AreAppeals AH cH H J A c L _ w hrH hlH hcapH hr hl hcap hT).mono ?_
  rintro e w1 ⟨rfl, hb1⟩
  go_wp2_with fail
  refine (settled_b A c L _ w1 (rdW hb1 hr) hl hcap hS).mono ?_
  rintro e w2 ⟨rfl, hb2⟩
  have hB2 := bt hb1 hb2
  clear hT hS hb1 hb2
  go_wp2
  go_loopw [8, 21] (fun s i wr => ∃ k : Nat, k ≤ L.length ∧ i = .int .i64 k ∧ s = .int .i64 (standAt L k) ∧ Below w.heap.size w wr) (fun _ i _ => L.length - (intOf i).toNat)
  case atStart => exact ⟨0, by omega, rfl, rfl, hB2⟩
  case round =>
    obtain ⟨k, hk, rfl, rfl, hB⟩ := hrel
    clear hB2
    by_cases hlt : k < L.length
    · obtain ⟨bf, offf, rfl, hbf, hcf⟩ := Rd.elem appealC 5 (fun _ => rfl) (rdW hB hr) (by omega) hlt
      have f0 : wr.cell? ⟨bf, offf + k * 5, none⟩ = some (.int .i64 L[k].level) := hcf k hlt 0 _ rfl
      have f1 : wr.cell? ⟨bf, offf + k * 5 + 1, none⟩ = some (.int .i64 L[k].filed) := hcf k hlt 1 _ rfl
      have f2 : wr.cell? ⟨bf, offf + k * 5 + 2, none⟩ = some (.int .i64 L[k].replied) := hcf k hlt 2 _ rfl
      have f3 : wr.cell? ⟨bf, offf + k * 5 + 3, none⟩ = some (.int .i64 L[k].decided) := hcf k hlt 3 _ rfl
      have f4 : wr.cell? ⟨bf, offf + k * 5 + 4, none⟩ = some (.int .i64 L[k].result) := hcf k hlt 4 _ rfl
      have hbd := standAt_bd L k
      have HS := Lib.hid (standAt_succ hlt)
      clear hcf
      generalize standAt L k = s at *
      generalize L[k] = x at *
      obtain ⟨x0, x1, x2, x3, x4⟩ := x
      by_cases h2 : x4 = 2
      · subst h2
        go_wp2
        go_roundw
        case rel => exact ⟨k + 1, by omega, by go_num, by rw [HS.out]; rfl, bt hB ((Below.refl _ _).alloc (Nat.le_refl _) _)⟩
        case measure => simp [intOf]; omega
      · go_wp2
        go_roundw
        case rel => exact ⟨k + 1, by omega, by go_num, by rw [HS.out, if_neg h2], bt hB ((Below.refl _ _).alloc (Nat.le_refl _) _)⟩
        case measure => simp [intOf]; omega
    · obtain rfl : k = L.length := by omega
      go_wp2
      go_ret2
      exact ⟨rfl, hB⟩

set_option maxRecDepth 100000 in
set_option maxHeartbeats 1000000 in
theorem spec_StandsOn (AH : Option Addr) (cH : Nat) (H : List Int) (J : Int) (A : Option Addr) (c : Nat) (L : List AppealD) (w : World) (hrH : Rd w w.heap.size AH H.length (H.map (Value.int .i64))) (hlH : H.length ≤ 140737488355328) (hcapH : H.length ≤ cH) (hr : Rd w w.heap.size A (L.length * 5) (L.flatMap appealC)) (hl : L.length ≤ 140737488355328) (hcap : L.length ≤ c) :
    Calls Try.prog 51 #[.slice AH H.length cH, .int .i64 J, .slice A L.length c] w fun e w' => e = .returned (.tuple #[.int .i64 (standF H J L).1, .int .i64 (standF H J L).2]) ∧ Below w.heap.size w w' := by
  unfold standF
  have hc0 := l31Code_c AH cH H J A c L 0 w hrH hlH hcapH hr hl hcap
  unfold codeA at hc0
  have h00 : inB 0 0 20000 = true := by decide
  cases hT : appsOk H J L
  · rw [if_neg (by decide)]
    rw [hT, if_neg (by decide)] at hc0
    go_enter Try.func51, Try.ntmps51
    go_wp2_with fail
    refine hc0.mono ?_
    rintro e w1 ⟨rfl, hb1⟩
    clear hc0
    go_wp2
    go_ret2
    exact ⟨rfl, hb1⟩
  rw [hT, if_pos rfl, h00, if_pos rfl] at hc0
  rw [if_pos rfl]
  have HC := Lib.hid hc0
  have HR := Lib.hid hr
  clear hc0 h00
  by_cases h0 : L.length = 0
  · have hS : settledB L = true := by rw [settledB, h0]; rfl
    rw [if_pos hS]
    have h0r : decide ((0 : Int) < L.length) = false := decide_eq_false (by omega)
    have h0s : decide (0 < L.length) = false := decide_eq_false (by omega)
    have HZ := Lib.hid h0
    clear h0 hT hS
    go_enter Try.func51, Try.ntmps51
    go_wp2_with fail
    refine HC.out.mono ?_
    rintro e w1 ⟨rfl, hB2⟩
    go_wp2
    go_loopw [9, 10] (fun s i wr => ∃ k : Nat, k ≤ L.length ∧ i = .int .i64 k ∧ s = .int .i64 (standAt L k) ∧ Below w.heap.size w wr) (fun _ i _ => L.length - (intOf i).toNat)
    case atStart => exact ⟨0, by omega, rfl, rfl, hB2⟩
    case round =>
      obtain ⟨k, hk, rfl, rfl, hB⟩ := hrel
      clear hB2
      by_cases hlt : k < L.length
      · obtain ⟨bf, offf, rfl, hbf, hcf⟩ := Rd.elem appealC 5 (fun _ => rfl) (rdW hB HR.out) (by omega) hlt
        have f0 : wr.cell? ⟨bf, offf + k * 5, none⟩ = some (.int .i64 L[k].level) := hcf k hlt 0 _ rfl
        have f1 : wr.cell? ⟨bf, offf + k * 5 + 1, none⟩ = some (.int .i64 L[k].filed) := hcf k hlt 1 _ rfl
        have f2 : wr.cell? ⟨bf, offf + k * 5 + 2, none⟩ = some (.int .i64 L[k].replied) := hcf k hlt 2 _ rfl
        have f3 : wr.cell? ⟨bf, offf + k * 5 + 3, none⟩ = some (.int .i64 L[k].decided) := hcf k hlt 3 _ rfl
        have f4 : wr.cell? ⟨bf, offf + k * 5 + 4, none⟩ = some (.int .i64 L[k].result) := hcf k hlt 4 _ rfl
        have hbd := standAt_bd L k
        have HS := Lib.hid (standAt_succ hlt)
        clear hcf
        generalize standAt L k = s at *
        generalize L[k] = x at *
        obtain ⟨x0, x1, x2, x3, x4⟩ := x
        by_cases h2 : x4 = 2
        · subst h2
          go_wp2
          go_roundw
          case rel => exact ⟨k + 1, by omega, by go_num, by rw [HS.out]; rfl, hB⟩
          case measure => simp [intOf]; omega
        · go_wp2
          go_roundw
          case rel => exact ⟨k + 1, by omega, by go_num, by rw [HS.out, if_neg h2], hB⟩
          case measure => simp [intOf]; omega
      · obtain rfl : k = L.length := by omega
        go_wp2
        go_ret2
        exact ⟨rfl, hB⟩
  obtain ⟨b, off, a0, a1, a2, a3, a4, rfl, hb, hx, f0, f1, f2, f3, f4⟩ := last_cells hr (by omega)
  have hres := (apps_last hT).2 (by omega)
  rw [hx] at hres
  simp only at hres
  have h1 : (1 : Int) ≤ L.length := by omega
  have h1r : decide ((0 : Int) < L.length) = true := decide_eq_true (by omega)
  cases hg : goesB ⟨a0, a1, a2, a3, a4⟩
  · have hS : settledB L = false := by rw [settledB, hx, hg, decide_eq_false h0]; rfl
    rw [if_neg (by rw [hS]; decide)]
    have hcl := closed_of hg hres.1 hres.2
    clear h0 hT hx hr hres hg
    go_enter Try.func51, Try.ntmps51
    go_wp2_with fail
    refine HC.out.mono ?_
    rintro e w1 ⟨rfl, hb1⟩
    have hk := (bcell hb1).1
    rw [← hk _ _ hb] at f0 f1 f2 f3 f4
    clear hk
    go_wp2_with fail
    refine (l31Closed_b _ _ _ _ _ _ _ hcl).mono ?_
    rintro e w2 ⟨rfl, hb2⟩
    go_wp2
    go_ret2
    exact ⟨rfl, bt hb1 hb2⟩
  · have hS : settledB L = true := by rw [settledB, hx, hg]; simp
    rw [if_pos hS]
    have hcl := closed_of hg hres.1 hres.2
    clear h0 hT hx hr hres hg
    go_enter Try.func51, Try.ntmps51
    go_wp2_with fail
    refine HC.out.mono ?_
    rintro e w1 ⟨rfl, hb1⟩
    have hk := (bcell hb1).1
    rw [← hk _ _ hb] at f0 f1 f2 f3 f4
    clear hk
    go_wp2_with fail
    refine (l31Closed_b _ _ _ _ _ _ _ hcl).mono ?_
    rintro e w2 ⟨rfl, hb2⟩
    have hB2 := bt hb1 hb2
    clear f0 f1 f2 f3 f4 hb1 hb2
    go_wp2
    go_loopw [9, 10] (fun s i wr => ∃ k : Nat, k ≤ L.length ∧ i = .int .i64 k ∧ s = .int .i64 (standAt L k) ∧ Below w.heap.size w wr) (fun _ i _ => L.length - (intOf i).toNat)
    case atStart => exact ⟨0, by omega, rfl, rfl, hB2⟩
    case round =>
      obtain ⟨k, hk, rfl, rfl, hB⟩ := hrel
      clear hB2
      by_cases hlt : k < L.length
      · obtain ⟨hbf, hcf⟩ := Rd.elemS appealC 5 (fun _ => rfl) (rdW hB HR.out) (by omega) hlt
        have f0 : wr.cell? ⟨b, off + k * 5, none⟩ = some (.int .i64 L[k].level) := hcf k hlt 0 _ rfl
        have f1 : wr.cell? ⟨b, off + k * 5 + 1, none⟩ = some (.int .i64 L[k].filed) := hcf k hlt 1 _ rfl
        have f2 : wr.cell? ⟨b, off + k * 5 + 2, none⟩ = some (.int .i64 L[k].replied) := hcf k hlt 2 _ rfl
        have f3 : wr.cell? ⟨b, off + k * 5 + 3, none⟩ = some (.int .i64 L[k].decided) := hcf k hlt 3 _ rfl
        have f4 : wr.cell? ⟨b, off + k * 5 + 4, none⟩ = some (.int .i64 L[k].result) := hcf k hlt 4 _ rfl
        have hbd := standAt_bd L k
        have HS := Lib.hid (standAt_succ hlt)
        clear hcf
        generalize standAt L k = s at *
        generalize L[k] = x at *
        obtain ⟨x0, x1, x2, x3, x4⟩ := x
        by_cases h2 : x4 = 2
        · subst h2
          go_wp2
          go_roundw
          case rel => exact ⟨k + 1, by omega, by go_num, by rw [HS.out]; rfl, hB⟩
          case measure => simp [intOf]; omega
        · go_wp2
          go_roundw
          case rel => exact ⟨k + 1, by omega, by go_num, by rw [HS.out, if_neg h2], hB⟩
          case measure => simp [intOf]; omega
      · obtain rfl : k = L.length := by omega
        go_wp2
        go_ret2
        exact ⟨rfl, hB⟩

/-! ### LongestAppeal -/
set_option maxRecDepth 100000 in
set_option maxHeartbeats 2000000 in
theorem impl_LongestAppeal (AH : Option Addr) (cH : Nat) (H : List Int) (J : Int) (A : Option Addr) (c : Nat) (L : List AppealD) (w : World) (hrH : Rd w w.heap.size AH H.length (H.map (Value.int .i64))) (hlH : H.length ≤ 140737488355328) (hcapH : H.length ≤ cH) (hr : Rd w w.heap.size A (L.length * 5) (L.flatMap appealC)) (hl : L.length ≤ 140737488355328) (hcap : L.length ≤ c) :
    Calls Try.prog 52 #[.slice AH H.length cH, .int .i64 J, .slice A L.length c] w fun e w' => e = .returned (.tuple #[.int .i64 (longF H J L).1, .int .i64 (longF H J L).2.1, .int .i64 (longF H J L).2.2]) ∧ Below w.heap.size w w' := by
  cases hT : appsOk H J L
  · rw [longF_bad hT]
    go_enter Try.func52, Try.ntmps52
    go_wp2_with fail
    refine (impl_AreAppeals AH cH H J A c L _ w hrH hlH hcapH hr hl hcap hT).mono ?_
    rintro e w1 ⟨rfl, hb1⟩
    go_wp2
    go_ret3
    exact ⟨rfl, hb1⟩
  go_enter Try.func52, Try.ntmps52
  go_wp2_with fail
  refine (impl_AreAppeals AH cH H J A c L _ w hrH hlH hcapH hr hl hcap hT).mono ?_
  rintro e w1 ⟨rfl, hB2⟩
  have HT := Lib.hid hT
  clear hT
  go_wp2
  go_loopw [9, 10, 21] (fun p m i wr => ∃ k : Nat, k ≤ L.length ∧ i = .int .i64 k ∧ p = .int .i64 (longAt L k).1 ∧ m = .int .i64 (longAt L k).2 ∧ Below w.heap.size w wr) (fun _ _ i _ => L.length - (intOf i).toNat)
  case atStart => exact ⟨0, by omega, rfl, rfl, rfl, hB2⟩
  case round =>
    obtain ⟨k, hk, rfl, rfl, rfl, hB⟩ := hrel
    clear hB2
    have hbd := longAt_bd (fun j hj => apps_elem HT.out hj) k hk
    by_cases hlt : k < L.length
    · obtain ⟨bf, offf, rfl, hbf, hcf⟩ := Rd.elem appealC 5 (fun _ => rfl) (rdW hB hr) (by omega) hlt
      have f0 : wr.cell? ⟨bf, offf + k * 5, none⟩ = some (.int .i64 L[k].level) := hcf k hlt 0 _ rfl
      have f1 : wr.cell? ⟨bf, offf + k * 5 + 1, none⟩ = some (.int .i64 L[k].filed) := hcf k hlt 1 _ rfl
      have f2 : wr.cell? ⟨bf, offf + k * 5 + 2, none⟩ = some (.int .i64 L[k].replied) := hcf k hlt 2 _ rfl
      have f3 : wr.cell? ⟨bf, offf + k * 5 + 3, none⟩ = some (.int .i64 L[k].decided) := hcf k hlt 3 _ rfl
      have f4 : wr.cell? ⟨bf, offf + k * 5 + 4, none⟩ = some (.int .i64 L[k].result) := hcf k hlt 4 _ rfl
      have hel := apps_elem HT.out hlt
      have HS := Lib.hid (longAt_succ hlt)
      clear hcf
      generalize longAt L k = pq at *
      generalize L[k] = x at *
      obtain ⟨x0, x1, x2, x3, x4⟩ := x
      obtain ⟨p, q⟩ := pq
      obtain ⟨⟨hp1, hp2⟩, ⟨hq1, hq2⟩, hpq⟩ := hbd
      obtain ⟨⟨he1, he2⟩, ⟨he3, he4⟩, he5, he6⟩ := hel
      simp only at hp1 hp2 hq1 hq2 he1 he2 he3 he4 he5 he6
      clear hpq
      by_cases h2 : x4 = 0
      · subst h2
        go_wp2
        go_roundw
        case rel => exact ⟨k + 1, by omega, by go_num, by rw [HS.out]; simp, by rw [HS.out]; simp, bt hB ((Below.refl _ _).alloc (Nat.le_refl _) _)⟩
        case measure => simp [intOf]; omega
      · by_cases h3 : q < x3 - x1
        · have HV := Lib.hid (show (x4 ≠ 0 ∧ q < x3 - x1) from ⟨h2, h3⟩)
          go_wp2
          go_roundw
          case rel => exact ⟨k + 1, by omega, by go_num, by rw [HS.out, if_pos HV.out], by rw [HS.out, if_pos HV.out], bt hB ((Below.refl _ _).alloc (Nat.le_refl _) _)⟩
          case measure => simp [intOf]; omega
        · have HV := Lib.hid (show ¬ (x4 ≠ 0 ∧ q < x3 - x1) from fun h => h3 h.2)
          go_wp2
          go_roundw
          case rel => exact ⟨k + 1, by omega, by go_num, by rw [HS.out, if_neg HV.out], by rw [HS.out, if_neg HV.out], bt hB ((Below.refl _ _).alloc (Nat.le_refl _) _)⟩
          case measure => simp [intOf]; omega
    · obtain rfl : k = L.length := by omega
      by_cases hn : (longAt L L.length).1 < 0
      · have HN := Lib.hid hn
        go_wp2
        go_ret3
        exact ⟨by rw [longF_neg HT.out HN.out]; rfl, hB⟩
      · have hn' : 0 ≤ (longAt L L.length).1 := by omega
        have HN := Lib.hid hn'
        clear hn'
        go_wp2
        go_ret3
        exact ⟨by rw [longF_pos HT.out HN.out]; rfl, hB⟩

set_option maxRecDepth 100000 in
set_option maxHeartbeats 2000000 in
theorem spec_LongestAppeal (AH : Option Addr) (cH : Nat) (H : List Int) (J : Int) (A : Option Addr) (c : Nat) (L : List AppealD) (w : World) (hrH : Rd w w.heap.size AH H.length (H.map (Value.int .i64))) (hlH : H.length ≤ 140737488355328) (hcapH : H.length ≤ cH) (hr : Rd w w.heap.size A (L.length * 5) (L.flatMap appealC)) (hl : L.length ≤ 140737488355328) (hcap : L.length ≤ c) :
    Calls Try.prog 53 #[.slice AH H.length cH, .int .i64 J, .slice A L.length c] w fun e w' => e = .returned (.tuple #[.int .i64 (longF H J L).1, .int .i64 (longF H J L).2.1, .int .i64 (longF H J L).2.2]) ∧ Below w.heap.size w w' := by
  have hc0 := l31Code_c AH cH H J A c L 0 w hrH hlH hcapH hr hl hcap
  unfold codeA at hc0
  have h00 : inB 0 0 20000 = true := by decide
  cases hT : appsOk H J L
  · rw [longF_bad hT]
    rw [hT, if_neg (by decide)] at hc0
    go_enter Try.func53, Try.ntmps53
    go_wp2_with fail
    refine hc0.mono ?_
    rintro e w1 ⟨rfl, hb1⟩
    clear hc0
    go_wp2
    go_ret3
    exact ⟨rfl, hb1⟩
  rw [hT, if_pos rfl, h00, if_pos rfl] at hc0
  have HC := Lib.hid hc0
  have HT := Lib.hid hT
  clear hc0 h00 hT
  go_enter Try.func53, Try.ntmps53
  go_wp2_with fail
  refine HC.out.mono ?_
  rintro e w1 ⟨rfl, hB2⟩
  go_wp2
  go_loopw [10, 11, 12] (fun p m i wr => ∃ k : Nat, k ≤ L.length ∧ i = .int .i64 k ∧ p = .int .i64 (bestAt L k) ∧ m = .int .i64 (longAt L k).2 ∧ Below w.heap.size w wr) (fun _ _ i _ => L.length - (intOf i).toNat)
  case atStart => exact ⟨0, by omega, rfl, rfl, rfl, hB2⟩
  case round =>
    obtain ⟨k, hk, rfl, rfl, rfl, hB⟩ := hrel
    clear hB2
    have hbd := longAt_bd (fun j hj => apps_elem HT.out hj) k hk
    by_cases hlt : k < L.length
    · obtain ⟨bf, offf, rfl, hbf, hcf⟩ := Rd.elem appealC 5 (fun _ => rfl) (rdW hB hr) (by omega) hlt
      have f0 : wr.cell? ⟨bf, offf + k * 5, none⟩ = some (.int .i64 L[k].level) := hcf k hlt 0 _ rfl
      have f1 : wr.cell? ⟨bf, offf + k * 5 + 1, none⟩ = some (.int .i64 L[k].filed) := hcf k hlt 1 _ rfl
      have f2 : wr.cell? ⟨bf, offf + k * 5 + 2, none⟩ = some (.int .i64 L[k].replied) := hcf k hlt 2 _ rfl
      have f3 : wr.cell? ⟨bf, offf + k * 5 + 3, none⟩ = some (.int .i64 L[k].decided) := hcf k hlt 3 _ rfl
      have f4 : wr.cell? ⟨bf, offf + k * 5 + 4, none⟩ = some (.int .i64 L[k].result) := hcf k hlt 4 _ rfl
      have hel := apps_elem HT.out hlt
      have HS := Lib.hid (longAt_succ hlt)
      have HS2 := Lib.hid (show bestAt L (k + 1) = if (longAt L (k + 1)).1 < 0 then 0 else (longAt L (k + 1)).1 from rfl)
      have HS3 := Lib.hid (show bestAt L k = if (longAt L k).1 < 0 then 0 else (longAt L k).1 from rfl)
      clear hcf
      generalize bestAt L k = bb at *
      generalize longAt L k = pq at *
      generalize L[k] = x at *
      obtain ⟨x0, x1, x2, x3, x4⟩ := x
      obtain ⟨p, q⟩ := pq
      obtain ⟨⟨hp1, hp2⟩, ⟨hq1, hq2⟩, hpq⟩ := hbd
      obtain ⟨⟨he1, he2⟩, ⟨he3, he4⟩, he5, he6⟩ := hel
      simp only at hp1 hp2 hq1 hq2 he1 he2 he3 he4 he5 he6
      clear hpq
      have hk0 : (0 : Int) ≤ (k : Int) := by omega
      have hk1 : (k : Int) < (L.length : Int) := by omega
      by_cases h2 : x4 = 0
      · subst h2
        go_wp2_with fail
        have kf1 := cell_regrown f1
        have kf3 := cell_regrown f3
        have kf4 := cell_regrown f4
        refine wp_region_bel mixed (by kernel_rfl) ?_
        repeat (any_goals (first | go_big_quiet_step ((fail)) | quiet_step ((fail)) | (refine wpQuiet_step (fun K hK => ?_); go_simp; (split <;> first | (refine hK _ ?_; clear hK K) | (apply Exists.intro; refine ⟨fun _ => ?_, hK _ ?_⟩; ((fail)); clear hK K)))))
        all_goals (refine wpQuiet_nil ?_; intro w1 hw1)
        all_goals (clear kf1 kf3 kf4; replace f1 := (hw1.cell (by (try simp only); omega)).trans f1; replace f3 := (hw1.cell (by (try simp only); omega)).trans f3; replace f4 := (hw1.cell (by (try simp only); omega)).trans f4)
        go_wp2
        go_roundw
        case rel => exact ⟨k + 1, by omega, by go_num, by rw [HS2.out, HS.out]; simp [← HS3.out], by rw [HS.out]; simp, bt hB hw1⟩
        case measure => simp [intOf]; omega
      · by_cases h3 : q < x3 - x1
        · have HV := Lib.hid (show (x4 ≠ 0 ∧ q < x3 - x1) from ⟨h2, h3⟩)
          have hwr : IntKind.i64.wrap (x3 - x1) = x3 - x1 := IntWalk.i64_in _ (by omega)
          go_wp2_with fail
          have kf1 := cell_regrown f1
          have kf3 := cell_regrown f3
          have kf4 := cell_regrown f4
          refine wp_region_bel mixed (by kernel_rfl) ?_
          repeat (any_goals (first | go_big_quiet_step ((fail)) | quiet_step ((fail)) | (refine wpQuiet_step (fun K hK => ?_); go_simp; (split <;> first | (refine hK _ ?_; clear hK K) | (apply Exists.intro; refine ⟨fun _ => ?_, hK _ ?_⟩; ((fail)); clear hK K)))))
          all_goals (refine wpQuiet_nil ?_; intro w1 hw1)
          all_goals (clear kf1 kf3 kf4 hwr; replace f1 := (hw1.cell (by (try simp only); omega)).trans f1; replace f3 := (hw1.cell (by (try simp only); omega)).trans f3; replace f4 := (hw1.cell (by (try simp only); omega)).trans f4)
          go_wp2_with fail
          have hB' := bt hB hw1
          have hs1 := hw1.size
          clear hw1
          have kf1 := cell_regrown f1
          have kf3 := cell_regrown f3
          have kf4 := cell_regrown f4
          refine wp_region_bel mixed (by kernel_rfl) ?_
          repeat (any_goals (first | go_big_quiet_step ((fail)) | quiet_step ((fail)) | (refine wpQuiet_step (fun K hK => ?_); go_simp; (split <;> first | (refine hK _ ?_; clear hK K) | (apply Exists.intro; refine ⟨fun _ => ?_, hK _ ?_⟩; ((fail)); clear hK K)))))
          all_goals (refine wpQuiet_nil ?_; intro w1 hw1)
          all_goals (clear kf1 kf3 kf4; replace f1 := (hw1.cell (by (try simp only); omega)).trans f1; replace f3 := (hw1.cell (by (try simp only); omega)).trans f3; replace f4 := (hw1.cell (by (try simp only); omega)).trans f4)
          go_wp2
          go_roundw
          case rel => exact ⟨k + 1, by omega, by go_num, by rw [HS2.out, HS.out, if_pos HV.out, if_neg (by simp only; omega)], by rw [HS.out, if_pos HV.out], bt hB' hw1⟩
          case measure => simp [intOf]; omega
        · have HV := Lib.hid (show ¬ (x4 ≠ 0 ∧ q < x3 - x1) from fun h => h3 h.2)
          have hwr : IntKind.i64.wrap (x3 - x1) = x3 - x1 := IntWalk.i64_in _ (by omega)
          go_wp2_with fail
          have kf1 := cell_regrown f1
          have kf3 := cell_regrown f3
          have kf4 := cell_regrown f4
          refine wp_region_bel mixed (by kernel_rfl) ?_
          repeat (any_goals (first | go_big_quiet_step ((fail)) | quiet_step ((fail)) | (refine wpQuiet_step (fun K hK => ?_); go_simp; (split <;> first | (refine hK _ ?_; clear hK K) | (apply Exists.intro; refine ⟨fun _ => ?_, hK _ ?_⟩; ((fail)); clear hK K)))))
          all_goals (refine wpQuiet_nil ?_; intro w1 hw1)
          all_goals (clear kf1 kf3 kf4 hwr; replace f1 := (hw1.cell (by (try simp only); omega)).trans f1; replace f3 := (hw1.cell (by (try simp only); omega)).trans f3; replace f4 := (hw1.cell (by (try simp only); omega)).trans f4)
          go_wp2
          go_roundw
          case rel => exact ⟨k + 1, by omega, by go_num, by rw [HS2.out, HS.out, if_neg HV.out, ← HS3.out], by rw [HS.out, if_neg HV.out], bt hB hw1⟩
          case measure => simp [intOf]; omega
    · obtain rfl : k = L.length := by omega
      have HS3 := Lib.hid (show bestAt L L.length = if (longAt L L.length).1 < 0 then 0 else (longAt L L.length).1 from rfl)
      have h20 := hbd.2.2
      clear hbd
      by_cases hn : (longAt L L.length).1 < 0
      · have hn2 := h20.1 hn
        have HN := Lib.hid hn
        clear h20 hn
        go_wp2
        go_ret3
        exact ⟨by rw [longF_neg HT.out HN.out]; rfl, hB⟩
      · have hn' : 0 ≤ (longAt L L.length).1 := by omega
        have HN := Lib.hid hn'
        clear hn'
        have hn2 : ¬ (longAt L L.length).2 < 0 := fun h => hn (h20.2 h)
        clear h20 hn
        go_wp2
        go_ret3
        exact ⟨by rw [longF_pos HT.out HN.out, bestAt_pos HN.out]; rfl, hB⟩
end Go.Proofs.Ytdohegpbdlcnjaa
