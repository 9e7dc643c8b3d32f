/- Contracts: holidays, court days, deadlines of both texts. -/
import Derived.Test.YtdohegpbdlcnjaaWord
import Derived.Test.YtdohegpbdlcnjaaInts
namespace Go.Proofs.Ytdohegpbdlcnjaa
open Go.RowKit
set_option linter.unusedVariables false
def holAt (H : List Int) (k : Nat) : Bool :=
  match H[k]? with
  | none => true
  | some x => inB x 0 20000 && (decide (k = 0) || decide (H.getD (k - 1) 0 < x))
def incOk (H : List Int) : Bool := (List.range H.length).all (holAt H)
def holOk (H : List Int) : Bool := decide (H.length ≤ 40) && incOk H
theorem holAt_eq {H : List Int} {k : Nat} (hk : k < H.length) : holAt H k = (inB H[k] 0 20000 && (decide (k = 0) || decide (H.getD (k - 1) 0 < H[k]))) := by
  simp [holAt, List.getElem?_eq_getElem hk]
theorem inc_false {H : List Int} {k : Nat} (hk : k < H.length) (h : holAt H k = false) : incOk H = false := by
  rw [incOk, ← Bool.not_eq_true, List.all_eq_true]
  intro hh
  have := hh k (by simp [hk])
  rw [h] at this; cases this
theorem inc_true {H : List Int} (h : ∀ j, j < H.length → holAt H j = true) : incOk H = true := by
  rw [incOk, List.all_eq_true]; intro x hx; exact h x (by simpa using hx)
theorem holAt_step {H : List Int} {k : Nat} (T : Hid (∀ j, j < k → holAt H j = true)) (h : holAt H k = true) : Hid (∀ j, j < k + 1 → holAt H j = true) := by
  intro j hj
  by_cases e : j = k
  · subst e; exact h
  · exact T.out j (by omega)
theorem hol_mem {H : List Int} (h : holOk H = true) {x : Int} (hx : x ∈ H) : x ≤ 20000 := by
  simp only [holOk, incOk, Bool.and_eq_true, List.all_eq_true] at h
  obtain ⟨i, hi, rfl⟩ := List.getElem_of_mem hx
  have := h.2 i (by simp [hi])
  rw [holAt_eq hi, Bool.and_eq_true] at this
  exact (inB_iff.1 this.1).2
theorem hol_len {H : List Int} (h : holOk H = true) : H.length ≤ 40 := by
  simp only [holOk, Bool.and_eq_true, decide_eq_true_eq] at h; exact h.1

def courtB (H : List Int) (d : Int) : Bool := decide (d % 7 < 5) && !H.contains d
def nextD (H : List Int) : Nat → Int → Int
  | 0, d => d
  | f + 1, d => if courtB H d then d else nextD H f (d + 1)
def nx (H : List Int) (d : Int) : Int := nextD H (20034 - d).toNat d
theorem nx_court {H : List Int} {d : Int} (h : courtB H d = true) : nx H d = d := by
  unfold nx
  cases (20034 - d).toNat with
  | zero => rfl
  | succ f => rw [nextD, if_pos h]
theorem nx_step {H : List Int} {d : Int} (hd : d < 20034) (h : courtB H d = false) : nx H d = nx H (d + 1) := by
  unfold nx
  have : (20034 - d).toNat = (20034 - (d + 1)).toNat + 1 := by omega
  rw [this, nextD, if_neg (by rw [h]; simp)]
theorem nextD_ge (H : List Int) : ∀ (f : Nat) (d : Int), d ≤ nextD H f d
  | 0, d => Int.le_refl _
  | f + 1, d => by
    unfold nextD; split
    · exact Int.le_refl _
    · have := nextD_ge H f (d + 1); omega
theorem nx_ge (H : List Int) (d : Int) : d ≤ nx H d := nextD_ge H _ d
theorem court_last {H : List Int} (h : holOk H = true) : courtB H 20034 = true := by
  have : ¬ (20034 : Int) ∈ H := fun hh => by have := hol_mem h hh; omega
  simp [courtB, this]
def deadF (H : List Int) (day n : Int) : Int := if nx H (day + n) ≤ 20000 then nx H (day + n) else day

theorem hasI_hit {H : List Int} {x : Int} {k : Nat} (hk : k < H.length) (T : H.contains x = (H.drop k).contains x) (h : x = H[k]) : H.contains x = true := by
  rw [T, List.drop_eq_getElem_cons hk, List.contains_cons, h]; simp
theorem hasI_miss {H : List Int} {x : Int} {k : Nat} (hk : k < H.length) (T : H.contains x = (H.drop k).contains x) (h : ¬ x = H[k]) : H.contains x = (H.drop (k + 1)).contains x := by
  rw [T, List.drop_eq_getElem_cons hk, List.contains_cons]; simp [h]

set_option maxHeartbeats 1000000 in
theorem has_b (A : Option Addr) (c : Nat) (H : List Int) (x : Int) (b : Bool) (w : World) (hr : Rd w w.heap.size A H.length (H.map (Value.int .i64))) (hl : H.length ≤ 140737488355328) (hcap : H.length ≤ c) (h : H.contains x = b) :
    Calls Try.prog 105 #[.slice A H.length c, .int .i64 x] w fun e w' => e = .returned (.bool b) ∧ w = w' := by
  have HB := Lib.hid h; clear h
  go_enter Try.func105, Try.ntmps105
  go_wp2
  go_loop [9] (fun i => ∃ k : Nat, k ≤ H.length ∧ i = .int .i64 k ∧ Hid (H.contains x = (H.drop k).contains x)) (fun i => H.length - (intOf i).toNat)
  case atStart => exact ⟨0, by omega, rfl, rfl⟩
  case round =>
    obtain ⟨k, hk, rfl, HT⟩ := hrel
    by_cases hlt : k < H.length
    · obtain ⟨bf, offf, rfl, hbf, hcf⟩ := Rd.ints hr hlt
      have f0 := hcf k hlt
      clear hcf
      by_cases e : x = H[k]
      · have R := Lib.hid (hasI_hit hlt HT.out e)
        have hb : (x == H[k]) = true := by simp [e]
        have e' := Lib.hid e; clear e
        go_wp2
        go_ret
        exact ⟨ret_bool (by rw [← HB.out, R.out]), rfl⟩
      · have R := Lib.hid (hasI_miss hlt HT.out e)
        have hb : (x == H[k]) = false := by simp [e]
        have e' := Lib.hid e; clear e
        go_wp2
        go_round
        case rel => exact ⟨k + 1, by omega, by go_num, R⟩
        case measure => simp [intOf]; omega
    · obtain rfl : k = H.length := by omega
      go_wp2
      go_ret
      exact ⟨ret_bool (by rw [← HB.out, HT.out]; simp), rfl⟩

set_option maxHeartbeats 1000000 in
theorem l01Has_b (A : Option Addr) (c : Nat) (H : List Int) (x : Int) (b : Bool) (w : World) (hr : Rd w w.heap.size A H.length (H.map (Value.int .i64))) (hl : H.length ≤ 140737488355328) (hcap : H.length ≤ c) (h : H.contains x = b) :
    Calls Try.prog 106 #[.slice A H.length c, .int .i64 x] w fun e w' => e = .returned (.bool b) ∧ w = w' := by
  have HB := Lib.hid h; clear h
  go_enter Try.func106, Try.ntmps106
  go_wp2
  go_loop [5] (fun i => ∃ k : Nat, k ≤ H.length ∧ i = .int .i64 k ∧ Hid (H.contains x = (H.drop k).contains x)) (fun i => H.length - (intOf i).toNat)
  case atStart => exact ⟨0, by omega, rfl, rfl⟩
  case round =>
    obtain ⟨k, hk, rfl, HT⟩ := hrel
    by_cases hlt : k < H.length
    · obtain ⟨bf, offf, rfl, hbf, hcf⟩ := Rd.ints hr hlt
      have f0 := hcf k hlt
      clear hcf
      by_cases e : x = H[k]
      · have R := Lib.hid (hasI_hit hlt HT.out e)
        have hb : (H[k] == x) = true := by simp [e]
        have e' := Lib.hid e; clear e
        go_wp2
        go_ret
        exact ⟨ret_bool (by rw [← HB.out, R.out]), rfl⟩
      · have R := Lib.hid (hasI_miss hlt HT.out e)
        have hb : (H[k] == x) = false := by simp; exact fun h => e h.symm
        have e' := Lib.hid e; clear e
        go_wp2
        go_round
        case rel => exact ⟨k + 1, by omega, by go_num, R⟩
        case measure => simp [intOf]; omega
    · obtain rfl : k = H.length := by omega
      go_wp2
      go_ret
      exact ⟨ret_bool (by rw [← HB.out, HT.out]; simp), rfl⟩

theorem isCourtDay_b (A : Option Addr) (c : Nat) (H : List Int) (d : Int) (b : Bool) (w : World) (hr : Rd w w.heap.size A H.length (H.map (Value.int .i64))) (hl : H.length ≤ 140737488355328) (hcap : H.length ≤ c) (h0 : 0 ≤ d) (h : courtB H d = b) :
    Calls Try.prog 103 #[.slice A H.length c, .int .i64 d] w fun e w' => e = .returned (.bool b) ∧ w = w' := by
  have HB := Lib.hid h; clear h
  cases hc : H.contains d
  all_goals
    go_enter Try.func103, Try.ntmps103
    go_wp2_with (first | (go_at_call 105; refine (has_b A c H d _ _ hr hl hcap hc).mono ?_; rintro e w' ⟨rfl, rfl⟩))
    all_goals (go_ret; exact ⟨ret_bool (by rw [← HB.out]; simp_all [courtB]), rfl⟩)

theorem l02Court_b (A : Option Addr) (c : Nat) (H : List Int) (d : Int) (b : Bool) (w : World) (hr : Rd w w.heap.size A H.length (H.map (Value.int .i64))) (hl : H.length ≤ 140737488355328) (hcap : H.length ≤ c) (h0 : 0 ≤ d) (h : courtB H d = b) :
    Calls Try.prog 104 #[.slice A H.length c, .int .i64 d] w fun e w' => e = .returned (.bool b) ∧ w = w' := by
  have HB := Lib.hid h; clear h
  cases hc : H.contains d
  all_goals
    go_enter Try.func104, Try.ntmps104
    go_wp2_with (first | (go_at_call 106; refine (l01Has_b A c H d _ _ hr hl hcap hc).mono ?_; rintro e w' ⟨rfl, rfl⟩))
    all_goals (go_ret; exact ⟨ret_bool (by rw [← HB.out]; simp_all [courtB]), rfl⟩)
end Go.Proofs.Ytdohegpbdlcnjaa
