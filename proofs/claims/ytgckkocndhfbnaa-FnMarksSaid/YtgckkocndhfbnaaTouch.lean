/- Contracts: touches (its closure, ContainsFunc and IndexFunc included); l32Free. -/
import Derived.Test.YtgckkocndhfbnaaMarks
namespace Go.Proofs.Ytgckkocndhfbnaa
open Go.RowKit
set_option linter.unusedVariables false
def hit1 (f t : Int) (o : MarkD) : Bool := decide (o.from_ < t) && decide (f < o.to)
def hitB (f t : Int) (L : List MarkD) : Bool := L.any (hit1 f t)
theorem hit_yes {f t : Int} {L : List MarkD} {k : Nat} (hk : k < L.length) (h : hit1 f t L[k] = true) : hitB f t L = true := by
  unfold hitB; rw [List.any_eq_true]; exact ⟨_, List.getElem_mem hk, h⟩
theorem hit_no {f t : Int} {L : List MarkD} (h : ∀ j (hj : j < L.length), j < L.length → hit1 f t L[j] = false) : hitB f t L = false := by
  unfold hitB
  rw [List.any_eq_false]
  intro x hx
  obtain ⟨j, hj, rfl⟩ := List.getElem_of_mem hx
  rw [h j hj hj]; decide
theorem hit_step {f t : Int} {L : List MarkD} {k : Nat} (hk : k < L.length) (T : Hid (∀ j (hj : j < L.length), j < k → hit1 f t L[j] = false)) (h : hit1 f t L[k] = false) : Hid (∀ j (hj : j < L.length), j < k + 1 → hit1 f t L[j] = false) := fun j hj hlt => by
  by_cases e : j = k
  · subst e; exact h
  · exact T.out j hj (by omega)
set_option maxRecDepth 100000 in
set_option maxHeartbeats 2000000 in
theorem touch1_c (o0 o1 o2 f t lv : Int) (b : Nat) (r : Bool) (w : World) (h0 : w.cell? ⟨b, 0, none⟩ = some (.int .i64 f)) (h1 : w.cell? ⟨b, 1, none⟩ = some (.int .i64 t)) (hb : b < w.heap.size) (hft : f < t) (ho : o0 < o1) (h : hit1 f t ⟨o0, o1, o2⟩ = r) :
    Calls Try.prog 76 #[.agg #[.int .i64 o0, .int .i64 o1, .int .i64 o2], .pointer (some ⟨b, 0, none⟩)] w fun e w' => e = .returned (.bool r) ∧ Below w.heap.size w w' := by
  have hr : decide (max f o0 < min t o1) = r := by
    subst h
    unfold hit1
    rw [Bool.eq_iff_iff, Bool.and_eq_true, decide_eq_true_eq, decide_eq_true_eq, decide_eq_true_eq]
    show (max f o0 < min t o1) ↔ (o0 < t ∧ f < o1)
    omega
  have HR := Lib.hid hr
  clear h hr
  go_enter Try.func76, Try.ntmps76
  go_wp2_with fail
  generalize hW0 : w.alloc _ = W0
  have hbW0 : Below w.heap.size w W0 := by subst hW0; exact (Below.refl _ _).alloc (Nat.le_refl _) _
  have hsW0 : W0.heap.size = w.heap.size + 1 := by subst hW0; simp
  have cxW0_0 : ∀ i, W0.cell? ⟨w.heap.size, i, none⟩ = (#[.int .i64 o0, .int .i64 o1, .int .i64 o2] : Array Value)[i]? := by intro i; subst hW0; simp [go_sem]
  have HSW0 := Lib.hid hsW0; clear hW0 hsW0
  have k0 := (hbW0.cell (p := ⟨b, 0, none⟩) hb).trans h0
  have k1 := (hbW0.cell (p := ⟨b, 1, none⟩) hb).trans h1
  clear h0 h1
  go_wp2
  all_goals
    go_ret
    exact ⟨ret_bool (by rw [← HR.out, Bool.eq_iff_iff]; constructor <;> intro hh <;> first | rfl | (simp only [decide_eq_true_eq] at *; omega)), by first | exact hbW0 | exact (Below.refl _ _).alloc (Nat.le_refl _) _⟩
set_option maxRecDepth 100000 in
set_option maxHeartbeats 2000000 in
theorem indexTouch_c (A : Option Addr) (c : Nat) (L : List MarkD) (f t lv : Int) (b : Nat) (r : Bool) (w : World) (hr : Rd w w.heap.size A (L.length * 3) (L.flatMap markC)) (hl : L.length ≤ 1000000) (h0 : w.cell? ⟨b, 0, none⟩ = some (.int .i64 f)) (h1 : w.cell? ⟨b, 1, none⟩ = some (.int .i64 t)) (hb : b < w.heap.size) (hft : f < t) (ho : ∀ o ∈ L, o.from_ < o.to) (h : hitB f t L = r) :
    Calls Try.prog 83 #[.slice A L.length c, .func (.func 76) #[] #[.pointer (some ⟨b, 0, none⟩)]] w fun e w' => (∃ q : Int, e = .returned (.int .i64 q) ∧ decide (0 ≤ q) = r) ∧ Below w.heap.size w w' := by
  have HH := Lib.hid h
  have HO := Lib.hid ho
  clear h ho
  go_enter Try.func83, Try.ntmps83
  go_wp2
  go_loopw [8] (fun i wr => ∃ k : Nat, k ≤ L.length ∧ i = .int .i64 k ∧ Below w.heap.size w wr ∧ Hid (∀ j (hj : j < L.length), j < k → hit1 f t L[j] = false)) (fun i _ => L.length - (intOf i).toNat)
  case atStart => exact ⟨0, by omega, rfl, Below.refl _ _, Lib.hid (fun j hj h => by omega)⟩
  case round =>
    obtain ⟨k, hk, rfl, hB, HT⟩ := hrel
    have hzr := hB.size
    by_cases hlt : k < L.length
    · obtain ⟨bf, offf, rfl, hbf, hcf⟩ := Rd.elem markC 3 (fun _ => rfl) (rdW hB hr) (by omega) hlt
      have f0 : wr.cell? ⟨bf, offf + k * 3, none⟩ = some (.int .i64 L[k].from_) := hcf k hlt 0 _ rfl
      have f1 : wr.cell? ⟨bf, offf + k * 3 + 1, none⟩ = some (.int .i64 L[k].to) := hcf k hlt 1 _ rfl
      have f2 : wr.cell? ⟨bf, offf + k * 3 + 2, none⟩ = some (.int .i64 L[k].level) := hcf k hlt 2 _ rfl
      have hov := HO.out _ (List.getElem_mem hlt)
      have k0 := (hB.cell (p := ⟨b, 0, none⟩) hb).trans h0
      have k1 := (hB.cell (p := ⟨b, 1, none⟩) hb).trans h1
      clear hcf
      have hk1 : (k : Int) < (L.length : Int) := by omega
      cases hh : hit1 f t L[k]
      · have HHf := Lib.hid hh
        clear hh
        generalize hx : L[k] = x at *
        obtain ⟨o0, o1, o2⟩ := x
        have HX := Lib.hid hx
        clear hx
        go_wp2_with fail
        refine (touch1_c o0 o1 o2 f t lv b false wr k0 k1 (by omega) hft hov HHf.out).mono ?_
        rintro e w2 ⟨rfl, hb2⟩
        go_wp2
        go_roundw
        case rel => exact ⟨k + 1, by omega, by go_num, bt hB hb2, hit_step hlt HT (by rw [HX.out]; exact HHf.out)⟩
        case measure => simp [intOf]; omega
      · have HHf := Lib.hid hh
        have HYES := Lib.hid (hit_yes hlt hh)
        clear hh
        generalize hx : L[k] = x at *
        obtain ⟨o0, o1, o2⟩ := x
        clear hx
        go_wp2_with fail
        refine (touch1_c o0 o1 o2 f t lv b true wr k0 k1 (by omega) hft hov HHf.out).mono ?_
        rintro e w2 ⟨rfl, hb2⟩
        go_wp2
        go_ret
        exact ⟨⟨(k : Int), rfl, by rw [← HH.out, HYES.out]; simp⟩, bt hB hb2⟩
    · obtain rfl : k = L.length := by omega
      go_wp2
      go_ret
      exact ⟨⟨-1, rfl, by rw [← HH.out, hit_no HT.out]; rfl⟩, hB⟩
set_option maxRecDepth 100000 in
set_option maxHeartbeats 2000000 in
theorem containsTouch_c (A : Option Addr) (c : Nat) (L : List MarkD) (f t lv : Int) (b : Nat) (r : Bool) (w : World) (hr : Rd w w.heap.size A (L.length * 3) (L.flatMap markC)) (hl : L.length ≤ 1000000) (h0 : w.cell? ⟨b, 0, none⟩ = some (.int .i64 f)) (h1 : w.cell? ⟨b, 1, none⟩ = some (.int .i64 t)) (hb : b < w.heap.size) (hft : f < t) (ho : ∀ o ∈ L, o.from_ < o.to) (h : hitB f t L = r) :
    Calls Try.prog 75 #[.slice A L.length c, .func (.func 76) #[] #[.pointer (some ⟨b, 0, none⟩)]] w fun e w' => e = .returned (.bool r) ∧ Below w.heap.size w w' := by
  have HO := Lib.hid ho
  have HH := Lib.hid h
  clear ho h
  go_enter Try.func75, Try.ntmps75
  go_wp2_with fail
  refine (indexTouch_c A c L f t lv b r w hr hl h0 h1 hb hft HO.out HH.out).mono ?_
  rintro e w2 ⟨⟨q, rfl, hq⟩, hb2⟩
  have HQ := Lib.hid hq
  clear hq
  go_wp2
  go_ret
  exact ⟨ret_bool HQ.out, hb2⟩
set_option maxRecDepth 100000 in
set_option maxHeartbeats 2000000 in
theorem touches_c (A : Option Addr) (c : Nat) (L : List MarkD) (f t lv : Int) (r : Bool) (w : World) (hr : Rd w w.heap.size A (L.length * 3) (L.flatMap markC)) (hl : L.length ≤ 1000000) (hft : f < t) (ho : ∀ o ∈ L, o.from_ < o.to) (h : hitB f t L = r) :
    Calls Try.prog 66 #[.agg #[.int .i64 f, .int .i64 t, .int .i64 lv], .slice A L.length c] w fun e w' => e = .returned (.bool r) ∧ Below w.heap.size w w' := by
  have HO := Lib.hid ho
  have HH := Lib.hid h
  clear ho h
  have hmf : ∀ (fn : Fn) (first cap : Array Value) (w : World), (Instr.makeFunc fn first cap).run Try.prog w = .ok (.func fn first cap) w := fun _ _ _ _ => rfl
  go_enter Try.func66, Try.ntmps66
  go_wp2_with fail
  generalize hW0 : w.alloc _ = W0
  have hbW0 : Below w.heap.size w W0 := by subst hW0; exact (Below.refl _ _).alloc (Nat.le_refl _) _
  have hsW0 : W0.heap.size = w.heap.size + 1 := by subst hW0; simp
  have cxW0_0 : ∀ i, W0.cell? ⟨w.heap.size, i, none⟩ = (#[.int .i64 f, .int .i64 t, .int .i64 lv] : Array Value)[i]? := by intro i; subst hW0; simp [go_sem]
  have HSW0 := Lib.hid hsW0; clear hW0 hsW0
  have hzz : w.heap.size < W0.heap.size := by have := HSW0.out; omega
  refine (containsTouch_c A c L f t lv w.heap.size r W0 (rdW hbW0 hr) hl (by rw [cxW0_0]; rfl) (by rw [cxW0_0]; rfl) hzz hft HO.out HH.out).mono ?_
  rintro e w2 ⟨rfl, hb2⟩
  go_wp2
  go_ret
  exact ⟨rfl, bt hbW0 hb2⟩
set_option maxRecDepth 100000 in
set_option maxHeartbeats 2000000 in
theorem l32Free_c (A : Option Addr) (c : Nat) (L : List MarkD) (f t : Int) (r : Bool) (w : World) (hr : Rd w w.heap.size A (L.length * 3) (L.flatMap markC)) (hl : L.length ≤ 1000000) (h : (!hitB f t L) = r) :
    Calls Try.prog 62 #[.slice A L.length c, .int .i64 f, .int .i64 t] w fun e w' => e = .returned (.bool r) ∧ Below w.heap.size w w' := by
  have HH := Lib.hid h
  clear h
  go_enter Try.func62, Try.ntmps62
  go_wp2
  go_loopw [7] (fun i wr => ∃ k : Nat, k ≤ L.length ∧ i = .int .i64 k ∧ Below w.heap.size w wr ∧ Hid (∀ j (hj : j < L.length), j < k → hit1 f t L[j] = false)) (fun i _ => L.length - (intOf i).toNat)
  case atStart => exact ⟨0, by omega, rfl, Below.refl _ _, Lib.hid (fun j hj h => by omega)⟩
  case round =>
    obtain ⟨k, hk, rfl, hB, HT⟩ := hrel
    by_cases hlt : k < L.length
    · obtain ⟨bg, offg, rfl, hbg, hcg⟩ := Rd.elem markC 3 (fun _ => rfl) (rdW hB hr) (by omega) hlt
      have g0 : wr.cell? ⟨bg, offg + k * 3, none⟩ = some (.int .i64 L[k].from_) := hcg k hlt 0 _ rfl
      have g1 : wr.cell? ⟨bg, offg + k * 3 + 1, none⟩ = some (.int .i64 L[k].to) := hcg k hlt 1 _ rfl
      have g2 : wr.cell? ⟨bg, offg + k * 3 + 2, none⟩ = some (.int .i64 L[k].level) := hcg k hlt 2 _ rfl
      clear hcg g2
      have hk1 : (k : Int) < (L.length : Int) := by omega
      by_cases hx1 : L[k].from_ < t
      · by_cases hx2 : f < L[k].to
        · have HYES := Lib.hid (hit_yes hlt (show hit1 f t L[k] = true by unfold hit1; rw [decide_eq_true hx1, decide_eq_true hx2]; rfl))
          generalize L[k].from_ = x0 at *
          generalize L[k].to = x1 at *
          go_wp2
          go_ret
          exact ⟨ret_bool (by rw [← HH.out, HYES.out]; rfl), hB⟩
        · have HNO := hit_step hlt HT (show hit1 f t L[k] = false by unfold hit1; rw [decide_eq_false hx2, Bool.and_false])
          generalize L[k].from_ = x0 at *
          generalize L[k].to = x1 at *
          go_wp2
          go_roundw
          case rel => exact ⟨k + 1, by omega, by go_num, hB, HNO⟩
          case measure => simp [intOf]; omega
      · have HNO := hit_step hlt HT (show hit1 f t L[k] = false by unfold hit1; rw [decide_eq_false hx1, Bool.false_and])
        generalize L[k].from_ = x0 at *
        generalize L[k].to = x1 at *
        go_wp2
        go_roundw
        case rel => exact ⟨k + 1, by omega, by go_num, hB, HNO⟩
        case measure => simp [intOf]; omega
    · obtain rfl : k = L.length := by omega
      go_wp2
      go_ret
      exact ⟨ret_bool (by rw [← HH.out, hit_no HT.out]; rfl), hB⟩
end Go.Proofs.Ytgckkocndhfbnaa
