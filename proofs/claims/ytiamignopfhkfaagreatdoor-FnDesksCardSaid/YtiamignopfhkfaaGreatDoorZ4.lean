/- Contracts of the helpers of the laws for []int64: to, eq, mark, held. Contracts: holidays, court days, deadlines of both texts. Contracts: next court day, deadlines, AreHolidays of both texts. Contracts: desks: the helpers of the laws, and IsDesk of both texts. Contracts: OpenMotions, DueOn of both texts. Contracts: motionCode, l30Free of both texts. 'append' of a whole slice to a row of the call's own; a clone. -/
import Derived.Test.YtiamignopfhkfaaGreatDoorZ2
import Derived.Test.YtiamignopfhkfaaGreatDoorZ3
import Derived.Test.YtiamignopfhkfaaGreatDoorZ1
import Derived.Laws.AppendOwnNone
section
namespace Go.Proofs.YtiamignopfhkfaaGreatDoor
open Go.RowKit
abbrev intC (L : List Int) : List Value := L.map (Value.int .i64)
theorem int_info : (Tryz.prog.info? 2).map (fun i => (i.zero, i.size, i.bytes)) = some (some (.int .i64 0), 1, 8) := by kernel_rfl
theorem Rd.ints {w : World} {B : Nat} {A : Option Addr} {L : List Int} (h : Rd w B A L.length (L.map (Value.int .i64))) {k : Nat} (hk : k < L.length) :
    ∃ b off, A = some ⟨b, off, none⟩ ∧ b < B ∧ ∀ i (hi : i < L.length), w.cell? ⟨b, off + i, none⟩ = some (.int .i64 L[i]) := by
  obtain ⟨b, off, e, hb, hc⟩ := h.2 (by omega)
  exact ⟨b, off, e, hb, fun i hi => hc i _ (by simp [List.getElem?_eq_getElem hi])⟩
theorem Rd.of_own1 {w : World} {base : Nat} {e : TypeId} {n c : Nat} {A : Option Addr} {xs : List Value} (h : w.ownsRow base e 1 (.slice A n c) n xs) : Rd w w.heap.size A n xs := by
  have := Rd.of_own h
  rwa [Nat.mul_one] at this
theorem int_step {L : List Int} {ys : List Value} {k : Nat} (hk : k < L.length) (hlen : ys.length = L.length * 1) (h : ys.take k = (L.take k).map (Value.int .i64)) : (ys.set k (.int .i64 L[k])).take (k + 1) = (L.take (k + 1)).map (Value.int .i64) := by
  rw [List.take_add_one, List.getElem?_set_self (by omega), List.take_set_of_le (Nat.le_refl _), h, List.take_succ_eq_append_getElem hk]
  simp only [List.map_append, List.map_cons, List.map_nil]
  rfl
theorem int_end {L : List Int} {ys : List Value} {n : Nat} (hn : L.length = n) (hlen : ys.length = n * 1) (h : ys.take n = (L.take n).map (Value.int .i64)) : ys = L.map (Value.int .i64) := by
  rw [List.take_of_length_le (by omega), List.take_of_length_le (by omega)] at h; exact h


set_option maxHeartbeats 1000000 in
theorem eqInt64S_c (A A' : Option Addr) (c c' : Nat) (L : List Int) (w : World) (hr : Rd w w.heap.size A L.length (L.map (Value.int .i64))) (hr' : Rd w w.heap.size A' L.length (L.map (Value.int .i64))) (hl : L.length ≤ 140737488355328) :
    Calls Tryz.prog 41 #[.slice A L.length c, .slice A' L.length c'] w fun e w' => e = .returned (.bool true) ∧ Below w.heap.size w w' := by
  go_enter Tryz.func41, Tryz.ntmps41
  go_wp2
  go_loopw [5] (fun i wr => ∃ k : Nat, k ≤ L.length ∧ i = .int .i64 k ∧ Below w.heap.size w wr) (fun i _ => L.length - (intOf i).toNat)
  case atStart => exact ⟨0, by omega, rfl, Below.refl _ _⟩
  case round =>
    obtain ⟨k, hk, rfl, hB⟩ := hrel
    by_cases hlt : k < L.length
    · obtain ⟨b, off, rfl, hb, hc⟩ := Rd.ints (hr.below hB) hlt
      obtain ⟨b', off', rfl, hb', hc'⟩ := Rd.ints (hr'.below hB) hlt
      have hf0 : wr.cell? ⟨b, off + k, none⟩ = some (.int .i64 L[k]) := hc k hlt
      have hg0 : wr.cell? ⟨b', off' + k, none⟩ = some (.int .i64 L[k]) := hc' k hlt
      clear hc hc'
      generalize L[k] = a0 at *
      have hk0 : (0 : Int) ≤ (k : Int) := by omega
      have hk1 : (k : Int) < (L.length : Int) := by omega
      have kf0 := cell_regrown hf0; have kg0 := cell_regrown hg0
      go_wp2_with fail
      refine wp_region_bel mixed (by kernel_rfl) ?_
      repeat (go_big_quiet_step (fail))
      refine wpQuiet_nil ?_
      intro w1 hw1
      clear hf0 hg0 kf0 kg0
      go_wp2
      go_roundw
      case rel => exact ⟨k + 1, by omega, by go_num, bt hB hw1⟩
      case measure => simp [intOf]; omega
    · obtain rfl : k = L.length := by omega
      go_wp2
      go_ret
      exact ⟨rfl, hB⟩


def intMarks (q : Int) (n : Nat) : List Int := (List.range n).map fun (i : Nat) => q + (i : Int)
theorem intMarks_len (q : Int) (n : Nat) : (intMarks q n).length = n := by simp [intMarks]
theorem intMarks_0 {q : Int} {n i : Nat} (h : i < (intMarks q n).length) : (intMarks q n)[i] = q + (i : Int) := by simp [intMarks]
set_option maxHeartbeats 1000000 in
theorem markInt64S_c (A : Option Addr) (n c base : Nat) (xs : List Value) (q : Int) (w : World) (hown : w.ownsRow base 2 1 (.slice A n c) n xs) (hn : n ≤ 140737488355328) (h0 : 0 ≤ q) (h1 : q ≤ 16777216) :
    Calls Tryz.prog 44 #[.slice A n c, .int .i64 q] w fun e w' => e = .returned (.int .i64 (q + n * 1)) ∧
      w'.ownsRow base 2 1 (.slice A n c) n ((intMarks q n).map (Value.int .i64)) ∧ w.grownBy w' (Value.slice A n c).ownBlock := by
  go_enter Tryz.func44, Tryz.ntmps44
  go_wp2
  go_loopw [1, 5] (fun v i wr => ∃ k : Nat, k ≤ n ∧ i = .int .i64 k ∧ v = .int .i64 (q + k) ∧ Hid (w.grownBy wr (Value.slice A n c).ownBlock) ∧ Hid (∃ ys, wr.ownsRow base 2 1 (.slice A n c) n ys ∧ ys.take k = ((intMarks q n).take k).map (Value.int .i64)))
    (fun _ i _ => n - (intOf i).toNat)
  case atStart => exact ⟨0, by omega, rfl, by go_num, World.grownBy.refl _ _, xs, hown, by simp⟩
  case round =>
    obtain ⟨k, hk, rfl, rfl, HG, HO⟩ := hrel
    clear hown
    by_cases hlt : k < n
    · obtain ⟨ys, hown, hys⟩ := HO.out
      obtain ⟨g, rfl, hg1, hg2⟩ := own_head hown (by omega)
      obtain ⟨u0, hu0⟩ := own_cell hown (j := k) (by omega)
      have hz0 := hown.frozenAt k
      have HY := Lib.hid hys; have HN := Lib.hid hown
      clear hys hown HO
      go_wp2
      go_roundw
      case rel =>
        refine ⟨k + 1, by omega, by go_num, by go_num, grown_set HG.out, _, (HN.out.stored k _).1, ?_⟩
        have hl : (intMarks q n).length = n := intMarks_len q n
        have hk2 : k < (intMarks q n).length := by rw [hl]; exact hlt
        have := int_step hk2 (by rw [hl]; exact HN.out.1) HY.out
        rw [intMarks_0] at this
        exact this
      case measure => simp [intOf]; omega
    · obtain rfl : k = n := by omega
      go_wp2
      go_ret
      obtain ⟨ys, hown, hys⟩ := HO.out
      obtain rfl := int_end (intMarks_len q k) hown.1 hys
      exact ⟨ret_int (by omega), hown, HG.out⟩

set_option maxHeartbeats 1000000 in
theorem heldInt64S_c (A : Option Addr) (n c : Nat) (q : Int) (w : World) (hr : Rd w w.heap.size A n ((intMarks q n).map (Value.int .i64))) (hn : n ≤ 140737488355328) (h0 : 0 ≤ q) (h1 : q ≤ 16777216) :
    Calls Tryz.prog 47 #[.slice A n c, .int .i64 q] w fun e w' => e = .returned (.int .i64 (q + n * 1)) ∧ Below w.heap.size w w' := by
  go_enter Tryz.func47, Tryz.ntmps47
  go_wp2
  go_loop [1, 5] (fun v i => ∃ k : Nat, k ≤ n ∧ i = .int .i64 k ∧ v = .int .i64 (q + k)) (fun _ i => n - (intOf i).toNat)
  case atStart => exact ⟨0, by omega, rfl, by go_num⟩
  case round =>
    obtain ⟨k, hk, rfl, rfl⟩ := hrel
    by_cases hlt : k < n
    · have hl : (intMarks q n).length = n := intMarks_len q n
      have hr' : Rd w w.heap.size A (intMarks q n).length ((intMarks q n).map (Value.int .i64)) := by rw [hl]; exact hr
      obtain ⟨b, off, rfl, hb, hc⟩ := Rd.ints (L := intMarks q n) hr' (k := k) (by omega)
      have hk2 : k < (intMarks q n).length := by omega
      have hf0 : w.cell? ⟨b, off + k, none⟩ = some (.int .i64 (q + (k : Int))) := by have h := hc k hk2; rw [intMarks_0] at h; exact h
      clear hc hl hk2 hr hr'
      go_wp2
      go_round
      case rel => exact ⟨k + 1, by omega, by go_num, by go_num⟩
      case measure => simp [intOf]; omega
    · obtain rfl : k = n := by omega
      go_wp2
      go_ret
      exact ⟨ret_int (by omega), Below.refl _ _⟩
end Go.Proofs.YtiamignopfhkfaaGreatDoor
end
section
namespace Go.Proofs.YtiamignopfhkfaaGreatDoor
open Go.RowKit
set_option linter.unusedVariables false
def holAt (H : List Int) (k : Nat) : Bool :=
  match H[k]? with
  | none => true
  | some x => inB x 0 20000 && (decide (k = 0) || decide (H.getD (k - 1) 0 < x))
def incOk (H : List Int) : Bool := (List.range H.length).all (holAt H)
def holOk (H : List Int) : Bool := decide (H.length ≤ 40) && incOk H
theorem holAt_eq {H : List Int} {k : Nat} (hk : k < H.length) : holAt H k = (inB H[k] 0 20000 && (decide (k = 0) || decide (H.getD (k - 1) 0 < H[k]))) := by
  simp [holAt, List.getElem?_eq_getElem hk]
theorem inc_false {H : List Int} {k : Nat} (hk : k < H.length) (h : holAt H k = false) : incOk H = false := by
  rw [incOk, ← Bool.not_eq_true, List.all_eq_true]
  intro hh
  have := hh k (by simp [hk])
  rw [h] at this; cases this
theorem inc_true {H : List Int} (h : ∀ j, j < H.length → holAt H j = true) : incOk H = true := by
  rw [incOk, List.all_eq_true]; intro x hx; exact h x (by simpa using hx)
theorem holAt_step {H : List Int} {k : Nat} (T : Hid (∀ j, j < k → holAt H j = true)) (h : holAt H k = true) : Hid (∀ j, j < k + 1 → holAt H j = true) := by
  intro j hj
  by_cases e : j = k
  · subst e; exact h
  · exact T.out j (by omega)
theorem hol_mem {H : List Int} (h : holOk H = true) {x : Int} (hx : x ∈ H) : x ≤ 20000 := by
  simp only [holOk, incOk, Bool.and_eq_true, List.all_eq_true] at h
  obtain ⟨i, hi, rfl⟩ := List.getElem_of_mem hx
  have := h.2 i (by simp [hi])
  rw [holAt_eq hi, Bool.and_eq_true] at this
  exact (inB_iff.1 this.1).2
theorem hol_len {H : List Int} (h : holOk H = true) : H.length ≤ 40 := by
  simp only [holOk, Bool.and_eq_true, decide_eq_true_eq] at h; exact h.1

def courtB (H : List Int) (d : Int) : Bool := decide (d % 7 < 5) && !H.contains d
def nextD (H : List Int) : Nat → Int → Int
  | 0, d => d
  | f + 1, d => if courtB H d then d else nextD H f (d + 1)
def nx (H : List Int) (d : Int) : Int := nextD H (20034 - d).toNat d
theorem nx_court {H : List Int} {d : Int} (h : courtB H d = true) : nx H d = d := by
  unfold nx
  cases (20034 - d).toNat with
  | zero => rfl
  | succ f => rw [nextD, if_pos h]
theorem nx_step {H : List Int} {d : Int} (hd : d < 20034) (h : courtB H d = false) : nx H d = nx H (d + 1) := by
  unfold nx
  have : (20034 - d).toNat = (20034 - (d + 1)).toNat + 1 := by omega
  rw [this, nextD, if_neg (by rw [h]; simp)]
theorem nextD_ge (H : List Int) : ∀ (f : Nat) (d : Int), d ≤ nextD H f d
  | 0, d => Int.le_refl _
  | f + 1, d => by
    unfold nextD; split
    · exact Int.le_refl _
    · have := nextD_ge H f (d + 1); omega
theorem nx_ge (H : List Int) (d : Int) : d ≤ nx H d := nextD_ge H _ d
theorem court_last {H : List Int} (h : holOk H = true) : courtB H 20034 = true := by
  have : ¬ (20034 : Int) ∈ H := fun hh => by have := hol_mem h hh; omega
  simp [courtB, this]
def deadF (H : List Int) (day n : Int) : Int := if nx H (day + n) ≤ 20000 then nx H (day + n) else day

theorem hasI_hit {H : List Int} {x : Int} {k : Nat} (hk : k < H.length) (T : H.contains x = (H.drop k).contains x) (h : x = H[k]) : H.contains x = true := by
  rw [T, List.drop_eq_getElem_cons hk, List.contains_cons, h]; simp
theorem hasI_miss {H : List Int} {x : Int} {k : Nat} (hk : k < H.length) (T : H.contains x = (H.drop k).contains x) (h : ¬ x = H[k]) : H.contains x = (H.drop (k + 1)).contains x := by
  rw [T, List.drop_eq_getElem_cons hk, List.contains_cons]; simp [h]

set_option maxHeartbeats 1000000 in
theorem has_b (A : Option Addr) (c : Nat) (H : List Int) (x : Int) (b : Bool) (w : World) (hr : Rd w w.heap.size A H.length (H.map (Value.int .i64))) (hl : H.length ≤ 140737488355328) (hcap : H.length ≤ c) (h : H.contains x = b) :
    Calls Tryz.prog 209 #[.slice A H.length c, .int .i64 x] w fun e w' => e = .returned (.bool b) ∧ w = w' := by
  have HB := Lib.hid h; clear h
  go_enter Tryz.func209, Tryz.ntmps209
  go_wp2
  go_loop [9] (fun i => ∃ k : Nat, k ≤ H.length ∧ i = .int .i64 k ∧ Hid (H.contains x = (H.drop k).contains x)) (fun i => H.length - (intOf i).toNat)
  case atStart => exact ⟨0, by omega, rfl, rfl⟩
  case round =>
    obtain ⟨k, hk, rfl, HT⟩ := hrel
    by_cases hlt : k < H.length
    · obtain ⟨bf, offf, rfl, hbf, hcf⟩ := Rd.ints hr hlt
      have f0 := hcf k hlt
      clear hcf
      by_cases e : x = H[k]
      · have R := Lib.hid (hasI_hit hlt HT.out e)
        have hb : (x == H[k]) = true := by simp [e]
        have e' := Lib.hid e; clear e
        go_wp2
        go_ret
        exact ⟨ret_bool (by rw [← HB.out, R.out]), rfl⟩
      · have R := Lib.hid (hasI_miss hlt HT.out e)
        have hb : (x == H[k]) = false := by simp [e]
        have e' := Lib.hid e; clear e
        go_wp2
        go_round
        case rel => exact ⟨k + 1, by omega, by go_num, R⟩
        case measure => simp [intOf]; omega
    · obtain rfl : k = H.length := by omega
      go_wp2
      go_ret
      exact ⟨ret_bool (by rw [← HB.out, HT.out]; simp), rfl⟩

set_option maxHeartbeats 1000000 in
theorem l01Has_b (A : Option Addr) (c : Nat) (H : List Int) (x : Int) (b : Bool) (w : World) (hr : Rd w w.heap.size A H.length (H.map (Value.int .i64))) (hl : H.length ≤ 140737488355328) (hcap : H.length ≤ c) (h : H.contains x = b) :
    Calls Tryz.prog 195 #[.slice A H.length c, .int .i64 x] w fun e w' => e = .returned (.bool b) ∧ w = w' := by
  have HB := Lib.hid h; clear h
  go_enter Tryz.func195, Tryz.ntmps195
  go_wp2
  go_loop [5] (fun i => ∃ k : Nat, k ≤ H.length ∧ i = .int .i64 k ∧ Hid (H.contains x = (H.drop k).contains x)) (fun i => H.length - (intOf i).toNat)
  case atStart => exact ⟨0, by omega, rfl, rfl⟩
  case round =>
    obtain ⟨k, hk, rfl, HT⟩ := hrel
    by_cases hlt : k < H.length
    · obtain ⟨bf, offf, rfl, hbf, hcf⟩ := Rd.ints hr hlt
      have f0 := hcf k hlt
      clear hcf
      by_cases e : x = H[k]
      · have R := Lib.hid (hasI_hit hlt HT.out e)
        have hb : (H[k] == x) = true := by simp [e]
        have e' := Lib.hid e; clear e
        go_wp2
        go_ret
        exact ⟨ret_bool (by rw [← HB.out, R.out]), rfl⟩
      · have R := Lib.hid (hasI_miss hlt HT.out e)
        have hb : (H[k] == x) = false := by simp; exact fun h => e h.symm
        have e' := Lib.hid e; clear e
        go_wp2
        go_round
        case rel => exact ⟨k + 1, by omega, by go_num, R⟩
        case measure => simp [intOf]; omega
    · obtain rfl : k = H.length := by omega
      go_wp2
      go_ret
      exact ⟨ret_bool (by rw [← HB.out, HT.out]; simp), rfl⟩

theorem isCourtDay_b (A : Option Addr) (c : Nat) (H : List Int) (d : Int) (b : Bool) (w : World) (hr : Rd w w.heap.size A H.length (H.map (Value.int .i64))) (hl : H.length ≤ 140737488355328) (hcap : H.length ≤ c) (h0 : 0 ≤ d) (h : courtB H d = b) :
    Calls Tryz.prog 178 #[.slice A H.length c, .int .i64 d] w fun e w' => e = .returned (.bool b) ∧ w = w' := by
  have HB := Lib.hid h; clear h
  cases hc : H.contains d
  all_goals
    go_enter Tryz.func178, Tryz.ntmps178
    go_wp2_with (first | (go_at_call 209; refine (has_b A c H d _ _ hr hl hcap hc).mono ?_; rintro e w' ⟨rfl, rfl⟩))
    all_goals (go_ret; exact ⟨ret_bool (by rw [← HB.out]; simp_all [courtB]), rfl⟩)

theorem l02Court_b (A : Option Addr) (c : Nat) (H : List Int) (d : Int) (b : Bool) (w : World) (hr : Rd w w.heap.size A H.length (H.map (Value.int .i64))) (hl : H.length ≤ 140737488355328) (hcap : H.length ≤ c) (h0 : 0 ≤ d) (h : courtB H d = b) :
    Calls Tryz.prog 155 #[.slice A H.length c, .int .i64 d] w fun e w' => e = .returned (.bool b) ∧ w = w' := by
  have HB := Lib.hid h; clear h
  cases hc : H.contains d
  all_goals
    go_enter Tryz.func155, Tryz.ntmps155
    go_wp2_with (first | (go_at_call 195; refine (l01Has_b A c H d _ _ hr hl hcap hc).mono ?_; rintro e w' ⟨rfl, rfl⟩))
    all_goals (go_ret; exact ⟨ret_bool (by rw [← HB.out]; simp_all [courtB]), rfl⟩)
end Go.Proofs.YtiamignopfhkfaaGreatDoor
end
section
namespace Go.Proofs.YtiamignopfhkfaaGreatDoor
open Go.RowKit
set_option linter.unusedVariables false

set_option maxHeartbeats 1000000 in
theorem nextCourtDay_c (A : Option Addr) (c : Nat) (H : List Int) (d : Int) (w : World) (hr : Rd w w.heap.size A H.length (H.map (Value.int .i64))) (hl : H.length ≤ 140737488355328) (hcap : H.length ≤ c) (h0 : 0 ≤ d ∧ d ≤ 20030) :
    Calls Tryz.prog 131 #[.slice A H.length c, .int .i64 d] w fun e w' => e = .returned (.tuple #[.int .i64 (if nx H d ≤ 20000 then nx H d else 0), .int .i64 (if nx H d ≤ 20000 then 0 else 3)]) ∧ w = w' := by
  by_cases hz : nx H d ≤ 20000
  · rw [if_pos hz, if_pos hz]
    have HZ := Lib.hid hz; clear hz
    go_enter Tryz.func131, Tryz.ntmps131
    go_wp2
    go_loop [1] (fun i => ∃ q : Int, i = .int .i64 q ∧ 0 ≤ q ∧ q ≤ 20030 ∧ Hid (nx H d = nx H q)) (fun i => (20030 - intOf i).toNat)
    case atStart => exact ⟨d, rfl, h0.1, h0.2, rfl⟩
    case round =>
      obtain ⟨q, rfl, hq0, hq1, HT⟩ := hrel
      by_cases hlt : q ≤ 20000
      · cases hc : courtB H q
        · have HS := Lib.hid (nx_step (by omega) hc)
          have HC := Lib.hid hc; clear hc
          go_wp2_with (first | (go_at_call 178; refine (isCourtDay_b A c H q _ _ hr hl hcap hq0 HC.out).mono ?_; rintro e w' ⟨rfl, rfl⟩))
          go_round
          case rel => exact ⟨q + 1, by go_num, by omega, by omega, HT.out.trans HS.out⟩
          case measure => simp [intOf]; omega
        · have HS := Lib.hid (nx_court hc)
          have HC := Lib.hid hc; clear hc
          go_wp2_with (first | (go_at_call 178; refine (isCourtDay_b A c H q _ _ hr hl hcap hq0 HC.out).mono ?_; rintro e w' ⟨rfl, rfl⟩))
          go_ret2
          exact ⟨by rw [HT.out, HS.out]; rfl, rfl⟩
      · exfalso
        have h1 := nx_ge H q
        have h2 := HT.out
        have h3 := HZ.out
        omega
  · rw [if_neg hz, if_neg hz]
    have HZ := Lib.hid hz; clear hz
    go_enter Tryz.func131, Tryz.ntmps131
    go_wp2
    go_loop [1] (fun i => ∃ q : Int, i = .int .i64 q ∧ 0 ≤ q ∧ q ≤ 20030 ∧ Hid (nx H d = nx H q)) (fun i => (20030 - intOf i).toNat)
    case atStart => exact ⟨d, rfl, h0.1, h0.2, rfl⟩
    case round =>
      obtain ⟨q, rfl, hq0, hq1, HT⟩ := hrel
      by_cases hlt : q ≤ 20000
      · cases hc : courtB H q
        · have HS := Lib.hid (nx_step (by omega) hc)
          have HC := Lib.hid hc; clear hc
          go_wp2_with (first | (go_at_call 178; refine (isCourtDay_b A c H q _ _ hr hl hcap hq0 HC.out).mono ?_; rintro e w' ⟨rfl, rfl⟩))
          go_round
          case rel => exact ⟨q + 1, by go_num, by omega, by omega, HT.out.trans HS.out⟩
          case measure => simp [intOf]; omega
        · exfalso
          have h1 := nx_court hc
          have h2 := HT.out
          have h3 := HZ.out
          omega
      · go_wp2
        go_ret2
        exact ⟨rfl, rfl⟩

set_option maxHeartbeats 1000000 in
theorem l02Next_c (A : Option Addr) (c : Nat) (H : List Int) (d : Int) (w : World) (hr : Rd w w.heap.size A H.length (H.map (Value.int .i64))) (hl : H.length ≤ 140737488355328) (hcap : H.length ≤ c) (h0 : 0 ≤ d ∧ d ≤ 20030) (hok : holOk H = true) :
    Calls Tryz.prog 161 #[.slice A H.length c, .int .i64 d] w fun e w' => e = .returned (.int .i64 (nx H d)) ∧ w = w' := by
  have HOK := Lib.hid hok; clear hok
  go_enter Tryz.func161, Tryz.ntmps161
  go_wp2
  go_loop [1] (fun i => ∃ q : Int, i = .int .i64 q ∧ 0 ≤ q ∧ q ≤ 20034 ∧ Hid (nx H d = nx H q)) (fun i => (20034 - intOf i).toNat)
  case atStart => exact ⟨d, rfl, h0.1, by omega, rfl⟩
  case round =>
    obtain ⟨q, rfl, hq0, hq1, HT⟩ := hrel
    cases hc : courtB H q
    · have hlt : q < 20034 := by
        rcases Int.lt_or_eq_of_le hq1 with h | h
        · exact h
        · rw [h, court_last HOK.out] at hc; cases hc
      have HS := Lib.hid (nx_step hlt hc)
      have HC := Lib.hid hc
      go_wp2_with (first | (go_at_call 155; refine (l02Court_b A c H q _ _ hr hl hcap hq0 HC.out).mono ?_; rintro e w' ⟨rfl, rfl⟩))
      go_round
      case rel => exact ⟨q + 1, by go_num, by omega, by omega, HT.out.trans HS.out⟩
      case measure => simp [intOf]; omega
    · have HS := Lib.hid (nx_court hc)
      have HC := Lib.hid hc
      go_wp2_with (first | (go_at_call 155; refine (l02Court_b A c H q _ _ hr hl hcap hq0 HC.out).mono ?_; rintro e w' ⟨rfl, rfl⟩))
      go_ret
      exact ⟨ret_int (by rw [HT.out, HS.out]), rfl⟩



set_option maxHeartbeats 1000000 in
theorem increasing_b (A : Option Addr) (c : Nat) (H : List Int) (b : Bool) (w : World) (hr : Rd w w.heap.size A H.length (H.map (Value.int .i64))) (hl : H.length ≤ 140737488355328) (hcap : H.length ≤ c) (h : incOk H = b) :
    Calls Tryz.prog 76 #[.slice A H.length c, .int .i64 0, .int .i64 20000] w fun e w' => e = .returned (.bool b) ∧ w = w' := by
  have HB := Lib.hid h; clear h
  go_enter Tryz.func76, Tryz.ntmps76
  go_wp2
  go_loop [11] (fun i => ∃ k : Nat, k ≤ H.length ∧ i = .int .i64 k ∧ Hid (∀ j, j < k → holAt H j = true)) (fun i => H.length - (intOf i).toNat)
  case atStart => exact ⟨0, by omega, rfl, fun j hj => absurd hj (by omega)⟩
  case round =>
    obtain ⟨k, hk, rfl, HT⟩ := hrel
    by_cases hlt : k < H.length
    · obtain ⟨bf, offf, rfl, hbf, hcf⟩ := Rd.ints hr hlt
      have f0 := hcf k hlt
      have hp0 : 0 < k → w.cell? ⟨bf, offf + (k - 1), none⟩ = some (.int .i64 (H.getD (k - 1) 0)) := by
        intro h0
        rw [List.getD_eq_getElem?_getD, List.getElem?_eq_getElem (show k - 1 < H.length by omega)]
        exact hcf (k - 1) (by omega)
      have T := Lib.hid (holAt_eq hlt)
      have hk' : (k : Int) < H.length := by omega
      have hk0 : (0 : Int) ≤ (k : Int) := by omega
      have hkc : (k : Int) ≤ (c : Int) := by omega
      clear hcf
      generalize H[k] = x at *
      generalize H.getD (k - 1) 0 = p at *
      go_wp2_with (first | (go_at_call 92; refine (within_b _ _ _ _ _ rfl).mono ?_; rintro e w' ⟨rfl, rfl⟩))
      all_goals first
        | (go_ret
           exact ⟨ret_bool (by rw [← HB.out]; exact (inc_false hlt (by rw [T.out]; simp_all <;> omega)).symm), rfl⟩)
        | (go_round
           case rel => exact ⟨k + 1, by omega, by go_num, holAt_step HT (by rw [T.out]; simp_all <;> omega)⟩
           case measure => simp [intOf]; omega)
    · have hkl : k = H.length := by omega
      subst hkl
      have HF := Lib.hid (inc_true HT.out)
      clear hlt HT
      go_wp2
      go_ret
      exact ⟨ret_bool (by rw [← HB.out, HF.out]), rfl⟩

theorem impl_AreHolidays (A : Option Addr) (c : Nat) (H : List Int) (b : Bool) (w : World) (hr : Rd w w.heap.size A H.length (H.map (Value.int .i64))) (hl : H.length ≤ 140737488355328) (hcap : H.length ≤ c) (h : holOk H = b) :
    Calls Tryz.prog 53 #[.slice A H.length c] w fun e w' => e = .returned (.bool b) ∧ w = w' := by
  have HB := Lib.hid h; clear h
  cases hi : incOk H
  all_goals
    go_enter Tryz.func53, Tryz.ntmps53
    go_wp2_with (first | (go_at_call 61; refine (few_b _ _ _ _ rfl).mono ?_; rintro e w' ⟨rfl, rfl⟩) | (go_at_call 76; refine (increasing_b A c H _ _ hr hl hcap hi).mono ?_; rintro e w' ⟨rfl, rfl⟩))
    all_goals (go_ret; exact ⟨ret_bool (by rw [← HB.out]; simp_all [holOk] <;> omega), rfl⟩)

set_option maxHeartbeats 1000000 in
theorem spec_AreHolidays (A : Option Addr) (c : Nat) (H : List Int) (b : Bool) (w : World) (hr : Rd w w.heap.size A H.length (H.map (Value.int .i64))) (hl : H.length ≤ 140737488355328) (hcap : H.length ≤ c) (h : holOk H = b) :
    Calls Tryz.prog 56 #[.slice A H.length c] w fun e w' => e = .returned (.bool b) ∧ Below w.heap.size w w' := by
  have HB := Lib.hid h; clear h
  go_enter Tryz.func56, Tryz.ntmps56
  go_wp2
  go_loopw [3] (fun i wr => ∃ k : Nat, k ≤ H.length ∧ i = .int .i64 k ∧ Below w.heap.size w wr ∧ Hid (∀ j, j < k → holAt H j = true)) (fun i _ => H.length - (intOf i).toNat)
  case atStart => exact ⟨0, by omega, rfl, Below.refl _ _, fun j hj => absurd hj (by omega)⟩
  case round =>
    obtain ⟨k, hk, rfl, hB, HT⟩ := hrel
    by_cases hlt : k < H.length
    · obtain ⟨bf, offf, rfl, hbf, hcf⟩ := Rd.ints (rdW hB hr) hlt
      have f0 := hcf k hlt
      have hp0 : 0 < k → wr.cell? ⟨bf, offf + (k - 1), none⟩ = some (.int .i64 (H.getD (k - 1) 0)) := by
        intro h0
        rw [List.getD_eq_getElem?_getD, List.getElem?_eq_getElem (show k - 1 < H.length by omega)]
        exact hcf (k - 1) (by omega)
      have T := Lib.hid (holAt_eq hlt)
      have hk' : (k : Int) < H.length := by omega
      have hk0 : (0 : Int) ≤ (k : Int) := by omega
      have hkc : (k : Int) ≤ (c : Int) := by omega
      clear hcf
      generalize H[k] = x at *
      generalize H.getD (k - 1) 0 = p at *
      go_wp2_with fail
      have k0 := cell_regrown f0
      have k3 := fun h => cell_regrown (hp0 h)
      clear f0 hp0
      refine wp_region_bel mixed (by kernel_rfl) ?_
      repeat (any_goals (first | go_big_quiet_step ((first | exact rg_same (l02Is_b _ _ _ rfl))) | quiet_step ((first | exact rg_same (l02Is_b _ _ _ rfl))) | (refine wpQuiet_step (fun K hK => ?_); go_simp; (split <;> first | (refine hK _ ?_; clear hK K) | (apply Exists.intro; refine ⟨fun _ => ?_, hK _ ?_⟩; ((first | exact rg_same (l02Is_b _ _ _ rfl))); clear hK K)))))
      all_goals (refine wpQuiet_nil ?_; intro w1 hw1)
      all_goals go_wp2
      all_goals first
        | (go_ret
           exact ⟨ret_bool (by rw [← HB.out, holOk, inc_false hlt (by rw [T.out]; simp_all <;> omega), Bool.and_false]), bt hB hw1⟩)
        | (go_roundw
           case rel => exact ⟨k + 1, by omega, by go_num, bt hB hw1, holAt_step HT (by rw [T.out]; simp_all <;> omega)⟩
           case measure => simp [intOf]; omega)
    · have hkl : k = H.length := by omega
      subst hkl
      have HF := Lib.hid (inc_true HT.out)
      clear hlt HT
      go_wp2
      go_ret
      exact ⟨ret_bool (by rw [← HB.out, holOk, HF.out]; simp <;> omega), hB⟩
end Go.Proofs.YtiamignopfhkfaaGreatDoor
end
section
namespace Go.Proofs.YtiamignopfhkfaaGreatDoor
open Go.RowKit
set_option linter.unusedVariables false
def DeskSz (a b n : Nat) (l : Int) (w : World) (e : Ending) (w' : World) : Prop := ∃ r : Int, e = .returned (.int .i64 r) ∧ r ≤ l ∧ (0 ≤ r → (a : Int) ≤ l ∧ (b : Int) ≤ l ∧ (n : Int) ≤ l) ∧ Below w.heap.size w w'
theorem box_other {W : World} {b b' j : Nat} {u : Value} {cs : Array Value} (h : ∀ i, W.cell? ⟨b, i, none⟩ = cs[i]?) (hne : b ≠ b') : ∀ i, (W.setCell ⟨b', j, none⟩ u).cell? ⟨b, i, none⟩ = cs[i]? :=
  fun i => (World.cell?_of_block (a := ⟨b, i, none⟩) (Below.heap_setCell _ _ _ _ hne)).trans (h i)
theorem box_set {W : World} {b j : Nat} {u : Value} {cs : Array Value} (h : ∀ i, W.cell? ⟨b, i, none⟩ = cs[i]?) (hj : j < cs.size) : ∀ i, (W.setCell ⟨b, j, none⟩ u).cell? ⟨b, i, none⟩ = (cs.setIfInBounds j u)[i]? := by
  intro i
  by_cases e : i = j
  · subst e
    simp [go_sem, h, hj]
  · simp [go_sem, h, Ne.symm e]
theorem fz_set {W : World} {b : Nat} (h : ∀ i, W.frozen? ⟨b, i, none⟩ = false) (p : Addr) (u : Value) : ∀ i, (W.setCell p u).frozen? ⟨b, i, none⟩ = false := fun i => by simp [go_sem, h]
def DeskTo (H : List Int) (K : List CallD) (M : List MotionD) (w : World) (e : Ending) (w' : World) : Prop :=
  ∃ g1 g2 g3 : Nat, e = .returned (.agg #[.slice (some ⟨g1, 0, none⟩) H.length H.length, .slice (some ⟨g2, 0, none⟩) K.length K.length, .slice (some ⟨g3, 0, none⟩) M.length M.length]) ∧
    Rd w' w'.heap.size (some ⟨g1, 0, none⟩) H.length (H.map (Value.int .i64)) ∧ Rd w' w'.heap.size (some ⟨g2, 0, none⟩) (K.length * 4) (K.flatMap callC) ∧ Rd w' w'.heap.size (some ⟨g3, 0, none⟩) (M.length * 6) (M.flatMap motionC) ∧ Below w.heap.size w w'
theorem own_setBelow {W : World} {base : Nat} {e : TypeId} {size n : Nat} {v : Value} {xs : List Value} (h : W.ownsRow base e size v n xs) {b : Nat} (hb : b < base) (j : Nat) (u : Value) : (W.setCell ⟨b, j, none⟩ u).ownsRow base e size v n xs :=
  h.kept (grown_set (World.grownBy.refl _ _)) (.inr (fun e => by have := h.lt _ e; omega))
theorem eqDesk_c (A1 A2 A3 B1 B2 B3 : Option Addr) (c1 c2 c3 d1 d2 d3 : Nat) (H : List Int) (K : List CallD) (M : List MotionD) (w : World) (hr1 : Rd w w.heap.size A1 H.length (H.map (Value.int .i64))) (hr2 : Rd w w.heap.size A2 (K.length * 4) (K.flatMap callC)) (hr3 : Rd w w.heap.size A3 (M.length * 6) (M.flatMap motionC)) (kr1 : Rd w w.heap.size B1 H.length (H.map (Value.int .i64))) (kr2 : Rd w w.heap.size B2 (K.length * 4) (K.flatMap callC)) (kr3 : Rd w w.heap.size B3 (M.length * 6) (M.flatMap motionC))
    (h1 : H.length ≤ 140737488355328) (h2 : K.length ≤ 140737488355328) (h3 : M.length ≤ 140737488355328) :
    Calls Tryz.prog 17 #[.agg #[.slice A1 H.length c1, .slice A2 K.length c2, .slice A3 M.length c3], .agg #[.slice B1 H.length d1, .slice B2 K.length d2, .slice B3 M.length d3]] w fun e w' => e = .returned (.bool true) ∧ Below w.heap.size w w' := by
  go_enter Tryz.func17, Tryz.ntmps17
  go_wp2_with fail
  generalize hW0 : (w.alloc _).alloc _ = W0
  have hbW0 : Below w.heap.size w W0 := by subst hW0; exact ((Below.refl _ _).alloc (Nat.le_refl _) _).alloc (by (try simp) <;> (try omega)) _
  have hsW0 : W0.heap.size = w.heap.size + 2 := by subst hW0; simp
  have cxW0_0 : ∀ i, W0.cell? ⟨w.heap.size, i, none⟩ = (#[.slice A1 H.length c1, .slice A2 K.length c2, .slice A3 M.length c3] : Array Value)[i]? := by intro i; subst hW0; simp [go_sem]
  have cxW0_1 : ∀ i, W0.cell? ⟨w.heap.size + 1, i, none⟩ = (#[.slice B1 H.length d1, .slice B2 K.length d2, .slice B3 M.length d3] : Array Value)[i]? := by intro i; subst hW0; simp [go_sem]
  have HSW0 := Lib.hid hsW0; clear hW0 hsW0
  have hz0 : w.heap.size + 2 ≤ W0.heap.size := by have := HSW0.out; omega
  refine (eqInt64S_c A1 B1 c1 d1 H W0 (rdW hbW0 hr1) (rdW hbW0 kr1) h1).mono ?_
  rintro e w1 ⟨rfl, hb1⟩
  have hB1 := bt hbW0 hb1
  have hz1 := hb1.size
  replace cxW0_0 := fun i => (hb1.cell (by (try simp only); have := HSW0.out; omega)).trans (cxW0_0 i)
  replace cxW0_1 := fun i => (hb1.cell (by (try simp only); have := HSW0.out; omega)).trans (cxW0_1 i)
  go_wp2_with fail
  refine (eqCallS_c A2 B2 c2 d2 K w1 (rdW hB1 hr2) (rdW hB1 kr2) h2).mono ?_
  rintro e w2 ⟨rfl, hb2⟩
  have hB2 := bt hB1 hb2
  have hz2 := hb2.size
  replace cxW0_0 := fun i => (hb2.cell (by (try simp only); have := HSW0.out; omega)).trans (cxW0_0 i)
  replace cxW0_1 := fun i => (hb2.cell (by (try simp only); have := HSW0.out; omega)).trans (cxW0_1 i)
  go_wp2_with fail
  refine (eqMotionS_c A3 B3 c3 d3 M w2 (rdW hB2 hr3) (rdW hB2 kr3) h3).mono ?_
  rintro e w3 ⟨rfl, hb3⟩
  go_wp2
  go_ret
  exact ⟨rfl, bt hB2 hb3⟩

def deskOk (H : List Int) (K : List CallD) (M : List MotionD) : Bool := holOk H && callsOk K && motsOk M

set_option maxRecDepth 100000 in
theorem spec_IsDesk (A1 A2 A3 : Option Addr) (c1 c2 c3 : Nat) (H : List Int) (K : List CallD) (M : List MotionD) (b : Bool) (w : World) (hr1 : Rd w w.heap.size A1 H.length (H.map (Value.int .i64))) (hr2 : Rd w w.heap.size A2 (K.length * 4) (K.flatMap callC)) (hr3 : Rd w w.heap.size A3 (M.length * 6) (M.flatMap motionC)) (h1 : H.length ≤ 140737488355328) (k1 : H.length ≤ c1) (h2 : K.length ≤ 140737488355328) (k2 : K.length ≤ c2) (h3 : M.length ≤ 140737488355328) (k3 : M.length ≤ c3) (hW : ∀ x ∈ M, MotionW x) (h : deskOk H K M = b) :
    Calls Tryz.prog 26 #[.agg #[.slice A1 H.length c1, .slice A2 K.length c2, .slice A3 M.length c3]] w fun e w' => e = .returned (.bool b) ∧ Below w.heap.size w w' := by
  go_enter Tryz.func26, Tryz.ntmps26
  go_wp2_with fail
  generalize hW0 : w.alloc _ = W0
  have hbW0 : Below w.heap.size w W0 := by subst hW0; exact (Below.refl _ _).alloc (Nat.le_refl _) _
  have hsW0 : W0.heap.size = w.heap.size + 1 := by subst hW0; simp
  have cxW0_0 : ∀ i, W0.cell? ⟨w.heap.size, i, none⟩ = (#[.slice A1 H.length c1, .slice A2 K.length c2, .slice A3 M.length c3] : Array Value)[i]? := by intro i; subst hW0; simp [go_sem]
  have HSW0 := Lib.hid hsW0; clear hW0 hsW0
  have hz0 : w.heap.size + 1 ≤ W0.heap.size := by have := HSW0.out; omega
  refine (spec_AreHolidays A1 c1 H _ W0 (rdW hbW0 hr1) h1 k1 rfl).mono ?_
  rintro e w1 ⟨rfl, hb1⟩
  have hB1 := bt hbW0 hb1
  have hz1 := hb1.size
  replace cxW0_0 := fun i => (hb1.cell (by (try simp only); have := HSW0.out; omega)).trans (cxW0_0 i)
  have HB := Lib.hid h; clear h
  cases e1 : holOk H
  · go_wp2
    go_ret
    exact ⟨ret_bool (by rw [← HB.out]; simp [deskOk, e1]), hB1⟩
  go_wp2_with fail
  refine (spec_AreCalls A2 c2 K _ w1 (rdW hB1 hr2) h2 k2 rfl).mono ?_
  rintro e w2 ⟨rfl, hb2⟩
  have hB2 := bt hB1 hb2
  have hz2 := hb2.size
  replace cxW0_0 := fun i => (hb2.cell (by (try simp only); have := HSW0.out; omega)).trans (cxW0_0 i)
  cases e2 : callsOk K
  · go_wp2
    go_ret
    exact ⟨ret_bool (by rw [← HB.out]; simp [deskOk, e1, e2]), hB2⟩
  go_wp2_with fail
  refine (spec_AreMotions A3 c3 M _ w2 (rdW hB2 hr3) h3 k3 hW rfl).mono ?_
  rintro e w3 ⟨rfl, hb3⟩
  go_wp2
  go_ret
  exact ⟨ret_bool (by rw [← HB.out]; simp [deskOk, e1, e2]), bt hB2 hb3⟩

set_option maxRecDepth 100000 in
theorem impl_IsDesk (A1 A2 A3 : Option Addr) (c1 c2 c3 : Nat) (H : List Int) (K : List CallD) (M : List MotionD) (b : Bool) (w : World) (hr1 : Rd w w.heap.size A1 H.length (H.map (Value.int .i64))) (hr2 : Rd w w.heap.size A2 (K.length * 4) (K.flatMap callC)) (hr3 : Rd w w.heap.size A3 (M.length * 6) (M.flatMap motionC)) (h1 : H.length ≤ 140737488355328) (k1 : H.length ≤ c1) (h2 : K.length ≤ 140737488355328) (k2 : K.length ≤ c2) (h3 : M.length ≤ 140737488355328) (k3 : M.length ≤ c3) (hW : ∀ x ∈ M, MotionW x) (h : deskOk H K M = b) :
    Calls Tryz.prog 25 #[.agg #[.slice A1 H.length c1, .slice A2 K.length c2, .slice A3 M.length c3]] w fun e w' => e = .returned (.bool b) ∧ Below w.heap.size w w' := by
  go_enter Tryz.func25, Tryz.ntmps25
  go_wp2_with fail
  generalize hW0 : w.alloc _ = W0
  have hbW0 : Below w.heap.size w W0 := by subst hW0; exact (Below.refl _ _).alloc (Nat.le_refl _) _
  have hsW0 : W0.heap.size = w.heap.size + 1 := by subst hW0; simp
  have cxW0_0 : ∀ i, W0.cell? ⟨w.heap.size, i, none⟩ = (#[.slice A1 H.length c1, .slice A2 K.length c2, .slice A3 M.length c3] : Array Value)[i]? := by intro i; subst hW0; simp [go_sem]
  have HSW0 := Lib.hid hsW0; clear hW0 hsW0
  have hz0 : w.heap.size + 1 ≤ W0.heap.size := by have := HSW0.out; omega
  refine (impl_AreHolidays A1 c1 H _ W0 (rdW hbW0 hr1) h1 k1 rfl).mono ?_
  rintro e w1 ⟨rfl, rfl⟩
  have hB1 := hbW0
  have HB := Lib.hid h; clear h
  cases e1 : holOk H
  · go_wp2
    go_ret
    exact ⟨ret_bool (by rw [← HB.out]; simp [deskOk, e1]), hB1⟩
  go_wp2_with fail
  refine (impl_AreCalls A2 c2 K _ W0 (rdW hB1 hr2) h2 k2 rfl).mono ?_
  rintro e w2 ⟨rfl, hb2⟩
  have hB2 := bt hB1 hb2
  have hz2 := hb2.size
  replace cxW0_0 := fun i => (hb2.cell (by (try simp only); have := HSW0.out; omega)).trans (cxW0_0 i)
  cases e2 : callsOk K
  · go_wp2
    go_ret
    exact ⟨ret_bool (by rw [← HB.out]; simp [deskOk, e1, e2]), hB2⟩
  go_wp2_with fail
  refine (impl_AreMotions A3 c3 M _ w2 (rdW hB2 hr3) h3 k3 hW rfl).mono ?_
  rintro e w3 ⟨rfl, hb3⟩
  go_wp2
  go_ret
  exact ⟨ret_bool (by rw [← HB.out]; simp [deskOk, e1, e2]), bt hB2 hb3⟩
end Go.Proofs.YtiamignopfhkfaaGreatDoor
end
section
namespace Go.Proofs.YtiamignopfhkfaaGreatDoor
open Go.RowKit
set_option linter.unusedVariables false
def selM (p : MotionD → Bool) (L : List MotionD) : List Int := (L.filter p).map (·.number)
theorem selM_snoc {p : MotionD → Bool} {L : List MotionD} {k : Nat} (hk : k < L.length) : selM p (L.take (k + 1)) = selM p (L.take k) ++ (if p L[k] then [L[k].number] else []) := by
  rw [List.take_succ_eq_append_getElem hk, selM, List.filter_append, List.map_append]
  cases h : p L[k] <;> simp [selM, h]
theorem selM_len (p : MotionD → Bool) (L : List MotionD) : (selM p L).length ≤ L.length := by
  rw [selM, List.length_map]; exact List.length_filter_le _ _
theorem mots_len {L : List MotionD} (h : motsOk L = true) : L.length ≤ 12 := by
  simp only [motsOk, Bool.and_eq_true, decide_eq_true_eq] at h; exact h.2
theorem mots_ok {L : List MotionD} (h : motsOk L = true) {k : Nat} (hk : k < L.length) : motAt L k = true := by
  rcases hh : motAt L k with _ | _
  · rw [mots_false hk hh] at h; cases h
  · rfl
theorem mot_bds {m : MotionD} (h : motOk m = true) : (1 ≤ m.number ∧ m.number ≤ 1000) ∧ (0 ≤ m.filed ∧ m.filed ≤ 20000) ∧ (m.filed ≤ m.changed ∧ m.changed ≤ 20000) ∧ (0 ≤ m.state ∧ m.state ≤ 5) := by
  simp only [motOk, Bool.and_eq_true] at h
  exact ⟨inB_iff.1 h.1.1.1.1.1, inB_iff.1 h.1.1.1.2, inB_iff.1 h.1.1.2, inB_iff.1 h.1.2⟩
theorem mots_bds {L : List MotionD} (h : motsOk L = true) {k : Nat} (hk : k < L.length) : (1 ≤ L[k].number ∧ L[k].number ≤ 1000) ∧ (0 ≤ L[k].filed ∧ L[k].filed ≤ 20000) ∧ (L[k].filed ≤ L[k].changed ∧ L[k].changed ≤ 20000) ∧ (0 ≤ L[k].state ∧ L[k].state ≤ 5) := by
  have := mots_ok h hk
  rw [motAt_eq hk, Bool.and_eq_true, Bool.and_eq_true] at this
  exact mot_bds this.1.1

def closedB (m : MotionD) : Bool := decide (3 ≤ m.state)
def openP (m : MotionD) : Bool := !closedB m
def dueP (day : Int) (m : MotionD) : Bool := m.state == 0 && decide (m.filed + 14 < day)
def openFor (L : List MotionD) : List Int := if motsOk L then selM openP L else []
def openCode (L : List MotionD) : Int := if motsOk L then 0 else 1
def dueFor (L : List MotionD) (day : Int) : List Int := if motsOk L then (if inB day 0 20000 then selM (dueP day) L else []) else []
def dueCode (L : List MotionD) (day : Int) : Int := if motsOk L then (if inB day 0 20000 then 0 else 2) else 1

theorem openFor_len (L : List MotionD) : (openFor L).length ≤ L.length := by
  unfold openFor; split
  · exact selM_len _ _
  · simp
theorem dueFor_len (L : List MotionD) (day : Int) : (dueFor L day).length ≤ L.length := by
  unfold dueFor; split
  · split
    · exact selM_len _ _
    · simp
  · simp

theorem closed_b (a0 : Int) (a1 : ByteArray) (a2 a3 a4 a5 : Int) (b : Bool) (w : World) (h : decide (3 ≤ a4) = b) : Calls Tryz.prog 142 #[.agg #[.int .i64 a0, .string a1, .int .i64 a2, .int .i64 a3, .int .i64 a4, .int .i64 a5]] w fun e w' => e = .returned (.bool b) ∧ Below w.heap.size w w' := by
  subst h
  go_enter Tryz.func142, Tryz.ntmps142
  go_wp2
  go_ret
  exact ⟨rfl, (Below.refl _ _).alloc (Nat.le_refl _) _⟩
theorem l30Closed_b (a0 : Int) (a1 : ByteArray) (a2 a3 a4 a5 : Int) (b : Bool) (w : World) (h : decide (3 ≤ a4) = b) : Calls Tryz.prog 166 #[.agg #[.int .i64 a0, .string a1, .int .i64 a2, .int .i64 a3, .int .i64 a4, .int .i64 a5]] w fun e w' => e = .returned (.bool b) ∧ Below w.heap.size w w' := by
  subst h
  go_enter Tryz.func166, Tryz.ntmps166
  go_wp2
  go_ret
  exact ⟨rfl, (Below.refl _ _).alloc (Nat.le_refl _) _⟩
theorem openAcc_b (a0 : Int) (a1 : ByteArray) (a2 a3 a4 a5 : Int) (b : Bool) (w : World) (h : decide (3 ≤ a4) = b) : Calls Tryz.prog 141 #[.agg #[.int .i64 a0, .string a1, .int .i64 a2, .int .i64 a3, .int .i64 a4, .int .i64 a5]] w fun e w' => e = .returned (.bool (!b)) ∧ Below w.heap.size w w' := by
  go_enter Tryz.func141, Tryz.ntmps141
  go_wp2_with fail
  generalize hW0 : w.alloc _ = W0
  have hbW0 : Below w.heap.size w W0 := by subst hW0; exact (Below.refl _ _).alloc (Nat.le_refl _) _
  have hsW0 : W0.heap.size = w.heap.size + 1 := by subst hW0; simp
  have HSW0 := Lib.hid hsW0; clear hW0 hsW0
  refine (closed_b _ _ _ _ _ _ b _ h).mono ?_
  rintro e w1 ⟨rfl, hb1⟩
  go_wp2
  go_ret
  exact ⟨rfl, bt hbW0 hb1⟩
set_option maxHeartbeats 2000000 in
theorem withOpen_c (A : Option Addr) (c : Nat) (L : List MotionD) (w : World) (hr : Rd w w.heap.size A (L.length * 6) (L.flatMap motionC)) (hl : L.length ≤ 140737488355328) (hcap : L.length ≤ c) (hW : ∀ x ∈ L, MotionW x) (hok : motsOk L = true) :
    Calls Tryz.prog 140 #[.slice A L.length c, .func (.func 141) #[] #[]] w (RowPost1 2 1 (selM openP L).length ((selM openP L).map (Value.int .i64)) w) := by
  obtain ⟨i0, hi, hz0, hz1, hz2⟩ := info_parts int_info
  have h12 := mots_len hok
  have HOK := Lib.hid hok; clear hok
  go_enter Tryz.func140, Tryz.ntmps140
  go_wp2
  have hown0 := World.ownsRow_lit (e := 2) (size := 1) w #[] 0 (Nat.le_refl _) (by unfold maxLen; omega) rfl
  go_loopw [5, 11] (fun v i wr => ∃ (k : Nat) (R : List Int) (A2 : Option Addr) (c2 : Nat), k ≤ L.length ∧ i = .int .i64 k ∧ v = .slice A2 R.length c2 ∧ R.length ≤ k ∧ Below w.heap.size w wr ∧ Hid (wr.ownsRow w.heap.size 2 1 (.slice A2 R.length c2) R.length (R.map (Value.int .i64))) ∧ Hid (R = selM openP (L.take k))) (fun _ i _ => L.length - (intOf i).toNat)
  case atStart => exact ⟨0, [], _, _, by omega, rfl, rfl, by simp, (Below.refl _ _).alloc (Nat.le_refl _) _, hown0, by simp [Hid, selM]⟩
  case round =>
    obtain ⟨k, R, A2, c2, hk, rfl, rfl, hRk, hB, HO, HR⟩ := hrel
    clear hown0
    by_cases hlt : k < L.length
    · obtain ⟨bf, offf, rfl, hbf, hcf⟩ := Rd.elem motionC 6 (fun _ => rfl) (rdW hB hr) (by omega) hlt
      have f0 : wr.cell? ⟨bf, offf + k * 6, none⟩ = some (.int .i64 L[k].number) := hcf k hlt 0 _ rfl
      have f1 : wr.cell? ⟨bf, offf + k * 6 + 1, none⟩ = some (.string L[k].party) := hcf k hlt 1 _ rfl
      have f2 : wr.cell? ⟨bf, offf + k * 6 + 2, none⟩ = some (.int .i64 L[k].filed) := hcf k hlt 2 _ rfl
      have f3 : wr.cell? ⟨bf, offf + k * 6 + 3, none⟩ = some (.int .i64 L[k].changed) := hcf k hlt 3 _ rfl
      have f4 : wr.cell? ⟨bf, offf + k * 6 + 4, none⟩ = some (.int .i64 L[k].state) := hcf k hlt 4 _ rfl
      have f5 : wr.cell? ⟨bf, offf + k * 6 + 5, none⟩ = some (.int .i64 L[k].after) := hcf k hlt 5 _ rfl
      have hk' : (k : Int) < L.length := by omega
      have HS := Lib.hid (selM_snoc (p := openP) hlt)
      have hfl := (mots_bds HOK.out hlt).2.1
      have hsw := hB.size
      clear hcf
      generalize L[k] = x at *
      obtain ⟨x0, x1, x2, x3, x4, x5⟩ := x
      have hfl' : 0 ≤ x2 ∧ x2 ≤ 20000 := hfl
      clear hfl; have hfl := hfl'; clear hfl'
      cases hc : decide (3 ≤ x4)
      all_goals
        go_wp2_with fail
        generalize hW1 : wr.alloc _ = W1
        have hbW1 : Below wr.heap.size wr W1 := by subst hW1; exact (Below.refl _ _).alloc (Nat.le_refl _) _
        have hsW1 : W1.heap.size = wr.heap.size + 1 := by subst hW1; simp
        have cxW1_0 : ∀ i, W1.cell? ⟨wr.heap.size, i, none⟩ = (#[.int .i64 x0, .string x1, .int .i64 x2, .int .i64 x3, .int .i64 x4, .int .i64 x5] : Array Value)[i]? := by intro i; subst hW1; simp [go_sem]
        have HSW1 := Lib.hid hsW1; clear hW1 hsW1
        have hs1 := HSW1.out; clear HSW1
        have hs1' : wr.heap.size < W1.heap.size := by omega
        clear hs1 f0 f1 f2 f3 f4 f5
        refine (openAcc_b _ _ _ _ _ _ _ _ hc).mono ?_
        rintro e w2 ⟨rfl, hb2⟩
        replace cxW1_0 := fun i => (hb2.cell (p := ⟨wr.heap.size, i, none⟩) (by (try simp only); omega)).trans (cxW1_0 i)
        replace HO := Lib.hid (own_below (own_below HO.out hbW1) hb2)
        have hB2 := bt (bt hB hbW1) hb2
        have hsz2 := hB2.size
        go_wp2_with (first | (at_builtin; refine wpList_push _ rfl _ _ 30 rfl w.heap.size 2 i0 _ 1 8 Tryz.underlying30 hi hz0 hz1 hz2 rfl (by decide) _ _ _ rfl HO.out [.int .i64 x0] 2 rfl rfl (by simp [Value.oneCell']) (by unfold maxLen; omega) (by omega) (by omega) ?_; intro A3 c3 w3 hown3 hg3))
        go_roundw
        case measure => simp [intOf]; omega
        case rel => first
          | exact ⟨k + 1, R ++ [x0], A3, c3, by omega, by go_num, by rw [List.length_append]; rfl, by rw [List.length_append]; simp; omega, below_grown hB2 hg3 (Nat.le_refl _) (fun g h => (HO.out.lt g h).1), by rw [List.length_append, List.map_append]; exact hown3, by unfold Hid; rw [HS.out, ← HR.out, if_pos (by simp [openP, closedB, hc])]⟩
          | exact ⟨k + 1, R, A2, c2, by omega, by go_num, rfl, by omega, hB2, HO, by unfold Hid; rw [HS.out, ← HR.out, if_neg (by simp [openP, closedB, hc])]; simp⟩
    · obtain rfl : k = L.length := by omega
      go_wp2
      go_ret
      obtain rfl : R = selM openP L := by rw [HR.out, List.take_length]
      exact rowPost1_mk HO.out hB

set_option maxHeartbeats 2000000 in
theorem impl_OpenMotions (A : Option Addr) (c : Nat) (L : List MotionD) (w : World) (hr : Rd w w.heap.size A (L.length * 6) (L.flatMap motionC)) (hl : L.length ≤ 140737488355328) (hcap : L.length ≤ c) (hW : ∀ x ∈ L, MotionW x) :
    Calls Tryz.prog 106 #[.slice A L.length c] w (RowPost2 2 1 (openFor L).length ((openFor L).map (Value.int .i64)) (openCode L) w) := by
  cases hT : motsOk L
  · have e1 : openFor L = [] := by simp [openFor, hT]
    have e2 : openCode L = 1 := by simp [openCode, hT]
    rw [e1, e2]
    go_enter Tryz.func106, Tryz.ntmps106
    go_wp2_with fail
    refine (impl_AreMotions A c L _ w hr hl hcap hW hT).mono ?_
    rintro e w1 ⟨rfl, hb1⟩
    go_wp2
    go_ret2
    exact rowPost2_nil hb1
  · have e1 : openFor L = selM openP L := by simp [openFor, hT]
    have e2 : openCode L = 0 := by simp [openCode, hT]
    rw [e1, e2]
    go_enter Tryz.func106, Tryz.ntmps106
    go_wp2_with fail
    refine (impl_AreMotions A c L _ w hr hl hcap hW hT).mono ?_
    rintro e w1 ⟨rfl, hb1⟩
    go_wp2_with fail
    refine (withOpen_c A c L w1 (rdW hb1 hr) hl hcap hW hT).mono ?_
    rintro e w2 ⟨A2, c2, rfl, ho, hb2, hq1, hq2⟩
    go_wp2
    go_ret2
    exact rowPost2_mk (own_mono ho hb1.size) (bt hb1 hb2)

set_option maxRecDepth 100000 in
set_option maxHeartbeats 4000000 in
theorem spec_OpenMotions (A : Option Addr) (c : Nat) (L : List MotionD) (w : World) (hr : Rd w w.heap.size A (L.length * 6) (L.flatMap motionC)) (hl : L.length ≤ 140737488355328) (hcap : L.length ≤ c) (hW : ∀ x ∈ L, MotionW x) :
    Calls Tryz.prog 120 #[.slice A L.length c] w (RowPost2 2 1 (openFor L).length ((openFor L).map (Value.int .i64)) (openCode L) w) := by
  cases hT : motsOk L
  · have e1 : openFor L = [] := by simp [openFor, hT]
    have e2 : openCode L = 1 := by simp [openCode, hT]
    rw [e1, e2]
    go_enter Tryz.func120, Tryz.ntmps120
    go_wp2_with fail
    refine (spec_AreMotions A c L _ w hr hl hcap hW hT).mono ?_
    rintro e w1 ⟨rfl, hb1⟩
    go_wp2
    go_ret2
    exact rowPost2_nil hb1
  · have e1 : openFor L = selM openP L := by simp [openFor, hT]
    have e2 : openCode L = 0 := by simp [openCode, hT]
    rw [e1, e2]
    · obtain ⟨i0, hi, hz0, hz1, hz2⟩ := info_parts int_info
      have h12 := mots_len hT
      have HOK := Lib.hid hT
      go_enter Tryz.func120, Tryz.ntmps120
      go_wp2_with fail
      refine (spec_AreMotions A c L _ w hr hl hcap hW hT).mono ?_
      rintro e w1 ⟨rfl, hb1⟩
      clear hT
      go_wp2
      have hown0 := own_mono (World.ownsRow_lit (e := 2) (size := 1) w1 #[] 0 (Nat.le_refl _) (by unfold maxLen; omega) rfl) hb1.size
      go_loopw [4, 5] (fun v i wr => ∃ (k : Nat) (R : List Int) (A2 : Option Addr) (c2 : Nat), k ≤ L.length ∧ i = .int .i64 k ∧ v = .slice A2 R.length c2 ∧ R.length ≤ k ∧ Below w.heap.size w wr ∧ Hid (wr.ownsRow w.heap.size 2 1 (.slice A2 R.length c2) R.length (R.map (Value.int .i64))) ∧ Hid (R = selM openP (L.take k))) (fun _ i _ => L.length - (intOf i).toNat)
      case atStart => exact ⟨0, [], _, _, by omega, rfl, rfl, by simp, hb1.alloc hb1.size _, hown0, by simp [Hid, selM]⟩
      case round =>
        obtain ⟨k, R, A2, c2, hk, rfl, rfl, hRk, hB, HO, HR⟩ := hrel
        clear hown0
        by_cases hlt : k < L.length
        · obtain ⟨bf, offf, rfl, hbf, hcf⟩ := Rd.elem motionC 6 (fun _ => rfl) (rdW hB hr) (by omega) hlt
          have f0 : wr.cell? ⟨bf, offf + k * 6, none⟩ = some (.int .i64 L[k].number) := hcf k hlt 0 _ rfl
          have f1 : wr.cell? ⟨bf, offf + k * 6 + 1, none⟩ = some (.string L[k].party) := hcf k hlt 1 _ rfl
          have f2 : wr.cell? ⟨bf, offf + k * 6 + 2, none⟩ = some (.int .i64 L[k].filed) := hcf k hlt 2 _ rfl
          have f3 : wr.cell? ⟨bf, offf + k * 6 + 3, none⟩ = some (.int .i64 L[k].changed) := hcf k hlt 3 _ rfl
          have f4 : wr.cell? ⟨bf, offf + k * 6 + 4, none⟩ = some (.int .i64 L[k].state) := hcf k hlt 4 _ rfl
          have f5 : wr.cell? ⟨bf, offf + k * 6 + 5, none⟩ = some (.int .i64 L[k].after) := hcf k hlt 5 _ rfl
          have hk' : (k : Int) < L.length := by omega
          have HS := Lib.hid (selM_snoc (p := openP) hlt)
          have hfl := (mots_bds HOK.out hlt).2.1
          have hsw := hB.size
          clear hcf
          generalize L[k] = x at *
          obtain ⟨x0, x1, x2, x3, x4, x5⟩ := x
          have hfl' : 0 ≤ x2 ∧ x2 ≤ 20000 := hfl
          clear hfl; have hfl := hfl'; clear hfl'
          cases hc : decide (3 ≤ x4)
          all_goals
            go_wp2_with fail
            refine (l30Closed_b _ _ _ _ _ _ _ _ hc).mono ?_
            rintro e w2 ⟨rfl, hb2⟩
            replace f0 := (hb2.cell (by (try simp only); omega)).trans f0
            replace HO := Lib.hid (own_below HO.out hb2)
            have hB2 := bt hB hb2
            have hsz2 := hB2.size
            go_wp2_with (first | (at_builtin; refine wpList_push _ rfl _ _ 30 rfl w.heap.size 2 i0 _ 1 8 Tryz.underlying30 hi hz0 hz1 hz2 rfl (by decide) _ _ _ rfl HO.out [.int .i64 x0] 2 rfl rfl (by simp [Value.oneCell']) (by unfold maxLen; omega) (by omega) (by omega) ?_; intro A3 c3 w3 hown3 hg3))
            go_roundw
            case measure => simp [intOf]; omega
            case rel => first
              | exact ⟨k + 1, R ++ [x0], A3, c3, by omega, by go_num, by rw [List.length_append]; rfl, by rw [List.length_append]; simp; omega, below_grown hB2 hg3 (Nat.le_refl _) (fun g h => (HO.out.lt g h).1), by rw [List.length_append, List.map_append]; exact hown3, by unfold Hid; rw [HS.out, ← HR.out, if_pos (by simp [openP, closedB, hc])]⟩
              | exact ⟨k + 1, R, A2, c2, by omega, by go_num, rfl, by omega, hB2, HO, by unfold Hid; rw [HS.out, ← HR.out, if_neg (by simp [openP, closedB, hc])]; simp⟩
        · obtain rfl : k = L.length := by omega
          go_wp2
          go_ret2
          obtain rfl : R = selM openP L := by rw [HR.out, List.take_length]
          exact rowPost2_mk HO.out hB

end Go.Proofs.YtiamignopfhkfaaGreatDoor
end
section
namespace Go.Proofs.YtiamignopfhkfaaGreatDoor
open Go.RowKit
set_option linter.unusedVariables false
def codeM (L : List MotionD) (n day : Int) : Int := if motsOk L then (if inB day 0 20000 then (if findM n L 0 < 0 then 4 else 0) else 2) else 1
def getM (L : List MotionD) (i : Int) : MotionD := L.getD i.toNat default
def freeM (L : List MotionD) (q : Int) : Bool := q == 0 || closedB (getM L (findM q L 0))
def mayM (L : List MotionD) (m : MotionD) (s day : Int) : Bool :=
  if day < m.changed ∨ closedB m = true then false else
  if s = 1 then m.state == 0 && decide (day ≤ m.filed + 14) else
  if s = 2 then freeM L m.after && (m.state == 1 || m.state == 0 && decide (m.filed + 14 < day)) else
  if s = 3 ∨ s = 4 then m.state == 2 else s == 5
def stsL (f : Int → Bool) (k : Nat) : List Int := ((List.range k).filter fun (s : Nat) => f (s : Int)).map fun (s : Nat) => (s : Int)
theorem stsL_snoc (f : Int → Bool) (k : Nat) : stsL f (k + 1) = stsL f k ++ (if f (k : Int) then [(k : Int)] else []) := by
  unfold stsL
  rw [List.range_succ, List.filter_append, List.map_append]
  cases h : f (k : Int) <;> simp [h]
theorem stsL_len (f : Int → Bool) (k : Nat) : (stsL f k).length ≤ k := by
  unfold stsL
  rw [List.length_map]
  exact Nat.le_trans (List.length_filter_le _ _) (by simp)
def nextFor (L : List MotionD) (n day : Int) : List Int := if codeM L n day = 0 then stsL (fun s => mayM L (getM L (findM n L 0)) s day) 6 else []
theorem nextFor_len (L : List MotionD) (n day : Int) : (nextFor L n day).length ≤ 6 := by
  unfold nextFor; split
  · exact stsL_len _ _
  · simp
theorem findM_rng (q : Int) : ∀ (L : List MotionD) (i : Int), findM q L i = -1 ∨ (i ≤ findM q L i ∧ findM q L i < i + L.length)
  | [], i => Or.inl rfl
  | m :: L, i => by
    unfold findM
    split
    · right; simp only [List.length_cons]; omega
    · rcases findM_rng q L (i + 1) with h | h
      · left; exact h
      · right; simp only [List.length_cons]; omega
theorem findM_idx {q : Int} {L : List MotionD} (h : ¬ findM q L 0 < 0) : ∃ j : Nat, findM q L 0 = (j : Int) ∧ j < L.length := by
  rcases findM_rng q L 0 with h1 | h1
  · omega
  · exact ⟨(findM q L 0).toNat, by omega, by omega⟩
theorem findM_take {q : Int} : ∀ {L : List MotionD} {k : Nat} {i : Int}, 0 ≤ i → 0 ≤ findM q (L.take k) i → findM q L i = findM q (L.take k) i
  | [], k, i, _, h => by rw [List.take_nil]
  | m :: L, 0, i, _, h => by simp [findM] at h
  | m :: L, k + 1, i, hi, h => by
    rw [List.take_succ_cons] at h ⊢
    unfold findM at h ⊢
    split at h
    · rename_i e; rw [if_pos e, if_pos e]
    · rename_i e; rw [if_neg e, if_neg e]; exact findM_take (by omega) h
theorem mots_after {L : List MotionD} (h : motsOk L = true) {k : Nat} (hk : k < L.length) : L[k].after = 0 ∨ 0 ≤ findM L[k].after L 0 := by
  have := mots_ok h hk
  rw [motAt_eq hk, Bool.and_eq_true, Bool.or_eq_true, decide_eq_true_eq] at this
  rcases this.2 with e | e
  · left; simpa using e
  · right; rw [findM_take (Int.le_refl 0) e]; exact e
theorem getM_at {L : List MotionD} {q : Int} {j : Nat} (h : findM q L 0 = (j : Int)) (hj : j < L.length) : getM L (findM q L 0) = L[j] := by
  rw [h, getM, List.getD_eq_getElem?_getD, Int.toNat_natCast, List.getElem?_eq_getElem hj]; rfl


set_option maxHeartbeats 2000000 in
theorem motionCode_c (A : Option Addr) (c : Nat) (L : List MotionD) (n day : Int) (w : World) (hr : Rd w w.heap.size A (L.length * 6) (L.flatMap motionC)) (hl : L.length ≤ 140737488355328) (hcap : L.length ≤ c) (hW : ∀ x ∈ L, MotionW x) :
    Calls Tryz.prog 138 #[.slice A L.length c, .int .i64 n, .int .i64 day] w fun e w' => e = .returned (.tuple #[.int .i64 (if codeM L n day = 0 then findM n L 0 else 0), .int .i64 (codeM L n day)]) ∧ Below w.heap.size w w' := by
  cases hT : motsOk L
  · have e2 : codeM L n day = 1 := by simp [codeM, hT]
    rw [e2, if_neg (by decide)]
    go_enter Tryz.func138, Tryz.ntmps138
    go_wp2_with fail
    refine (impl_AreMotions A c L _ w hr hl hcap hW hT).mono ?_
    rintro e w1 ⟨rfl, hb1⟩
    go_wp2
    go_ret2
    exact ⟨rfl, hb1⟩
  · cases hS : inB day 0 20000
    · have e2 : codeM L n day = 2 := by simp [codeM, hT, hS]
      rw [e2, if_neg (by decide)]
      go_enter Tryz.func138, Tryz.ntmps138
      go_wp2_with fail
      refine (impl_AreMotions A c L _ w hr hl hcap hW hT).mono ?_
      rintro e w1 ⟨rfl, hb1⟩
      go_wp2_with fail
      refine (isDay_b _ _ w1 hS).mono ?_
      rintro e w' ⟨rfl, rfl⟩
      go_wp2
      go_ret2
      exact ⟨rfl, hb1⟩
    · by_cases hF : findM n L 0 < 0
      · have e2 : codeM L n day = 4 := by simp [codeM, hT, hS, hF]
        rw [e2, if_neg (by decide)]
        go_enter Tryz.func138, Tryz.ntmps138
        go_wp2_with fail
        refine (impl_AreMotions A c L _ w hr hl hcap hW hT).mono ?_
        rintro e w1 ⟨rfl, hb1⟩
        go_wp2_with fail
        refine (isDay_b _ _ w1 hS).mono ?_
        rintro e w' ⟨rfl, rfl⟩
        go_wp2_with fail
        refine (motionOf_c A L.length c L n w1 rfl (rdW hb1 hr) hl).mono ?_
        rintro e w2 ⟨rfl, hb2⟩
        go_wp2
        go_ret2
        exact ⟨rfl, bt hb1 hb2⟩
      · have e2 : codeM L n day = 0 := by simp [codeM, hT, hS, hF]
        rw [e2, if_pos rfl]
        have hrng := findM_rng n L 0
        go_enter Tryz.func138, Tryz.ntmps138
        go_wp2_with fail
        refine (impl_AreMotions A c L _ w hr hl hcap hW hT).mono ?_
        rintro e w1 ⟨rfl, hb1⟩
        go_wp2_with fail
        refine (isDay_b _ _ w1 hS).mono ?_
        rintro e w' ⟨rfl, rfl⟩
        go_wp2_with fail
        refine (motionOf_c A L.length c L n w1 rfl (rdW hb1 hr) hl).mono ?_
        rintro e w2 ⟨rfl, hb2⟩
        go_wp2
        go_ret2
        exact ⟨rfl, bt hb1 hb2⟩

set_option maxHeartbeats 2000000 in
theorem l30Code_c (A : Option Addr) (c : Nat) (L : List MotionD) (n day : Int) (w : World) (hr : Rd w w.heap.size A (L.length * 6) (L.flatMap motionC)) (hl : L.length ≤ 140737488355328) (hcap : L.length ≤ c) (hW : ∀ x ∈ L, MotionW x) :
    Calls Tryz.prog 124 #[.slice A L.length c, .int .i64 n, .int .i64 day] w fun e w' => e = .returned (.int .i64 (codeM L n day)) ∧ Below w.heap.size w w' := by
  cases hT : motsOk L
  · have e2 : codeM L n day = 1 := by simp [codeM, hT]
    rw [e2]
    go_enter Tryz.func124, Tryz.ntmps124
    go_wp2_with fail
    refine (spec_AreMotions A c L _ w hr hl hcap hW hT).mono ?_
    rintro e w1 ⟨rfl, hb1⟩
    go_wp2
    go_ret
    exact ⟨rfl, hb1⟩
  · cases hS : inB day 0 20000
    · have e2 : codeM L n day = 2 := by simp [codeM, hT, hS]
      rw [e2]
      go_enter Tryz.func124, Tryz.ntmps124
      go_wp2_with fail
      refine (spec_AreMotions A c L _ w hr hl hcap hW hT).mono ?_
      rintro e w1 ⟨rfl, hb1⟩
      go_wp2_with fail
      refine (l02Is_b _ _ w1 hS).mono ?_
      rintro e w' ⟨rfl, rfl⟩
      go_wp2
      go_ret
      exact ⟨rfl, hb1⟩
    · have e2 : codeM L n day = (if findM n L 0 < 0 then 4 else 0) := by simp [codeM, hT, hS]
      rw [e2]
      by_cases hF : findM n L 0 < 0
      · rw [if_pos hF]
        go_enter Tryz.func124, Tryz.ntmps124
        go_wp2_with fail
        refine (spec_AreMotions A c L _ w hr hl hcap hW hT).mono ?_
        rintro e w1 ⟨rfl, hb1⟩
        go_wp2_with fail
        refine (l02Is_b _ _ w1 hS).mono ?_
        rintro e w' ⟨rfl, rfl⟩
        go_wp2_with fail
        refine (l30Find_c A L.length c L n w1 rfl (rdW hb1 hr) hl).mono ?_
        rintro e w2 ⟨rfl, rfl⟩
        go_wp2
        go_ret
        exact ⟨rfl, hb1⟩
      · rw [if_neg hF]
        go_enter Tryz.func124, Tryz.ntmps124
        go_wp2_with fail
        refine (spec_AreMotions A c L _ w hr hl hcap hW hT).mono ?_
        rintro e w1 ⟨rfl, hb1⟩
        go_wp2_with fail
        refine (l02Is_b _ _ w1 hS).mono ?_
        rintro e w' ⟨rfl, rfl⟩
        go_wp2_with fail
        refine (l30Find_c A L.length c L n w1 rfl (rdW hb1 hr) hl).mono ?_
        rintro e w2 ⟨rfl, rfl⟩
        go_wp2
        go_ret
        exact ⟨rfl, hb1⟩


set_option maxHeartbeats 2000000 in
theorem l30Free_c (A : Option Addr) (c : Nat) (L : List MotionD) (a0 : Int) (a1 : ByteArray) (a2 a3 a4 a5 : Int) (b : Bool) (w : World) (hr : Rd w w.heap.size A (L.length * 6) (L.flatMap motionC)) (hl : L.length ≤ 140737488355328) (hcap : L.length ≤ c) (ha : a5 = 0 ∨ 0 ≤ findM a5 L 0) (h : freeM L a5 = b) :
    Calls Tryz.prog 172 #[.slice A L.length c, .agg #[.int .i64 a0, .string a1, .int .i64 a2, .int .i64 a3, .int .i64 a4, .int .i64 a5]] w fun e w' => e = .returned (.bool b) ∧ Below w.heap.size w w' := by
  by_cases e5 : a5 = 0
  · subst e5
    have : b = true := by rw [← h]; simp [freeM]
    subst this
    clear h
    go_enter Tryz.func172, Tryz.ntmps172
    go_wp2
    go_ret
    exact ⟨rfl, (Below.refl _ _).alloc (Nat.le_refl _) _⟩
  · obtain ⟨j, hj, hjl⟩ := findM_idx (Int.not_lt.2 (ha.resolve_left e5))
    have hc : decide (3 ≤ L[j].state) = b := by rw [← h, freeM, getM_at hj hjl]; simp [e5, closedB]
    have hj0 : (0 : Int) ≤ (j : Int) := by omega
    have hjL : (j : Int) < L.length := by omega
    have hjc : (j : Int) ≤ (c : Int) := by omega
    clear h
    go_enter Tryz.func172, Tryz.ntmps172
    go_wp2_with fail
    generalize hW0 : w.alloc _ = W0
    have hbW0 : Below w.heap.size w W0 := by subst hW0; exact (Below.refl _ _).alloc (Nat.le_refl _) _
    have hsW0 : W0.heap.size = w.heap.size + 1 := by subst hW0; simp
    have cxW0_0 : ∀ i, W0.cell? ⟨w.heap.size, i, none⟩ = (#[.int .i64 a0, .string a1, .int .i64 a2, .int .i64 a3, .int .i64 a4, .int .i64 a5] : Array Value)[i]? := by intro i; subst hW0; simp [go_sem]
    have HSW0 := Lib.hid hsW0; clear hW0 hsW0
    refine (l30Find_c A L.length c L a5 W0 rfl (rdW hbW0 hr) hl).mono ?_
    rintro e w2 ⟨rfl, rfl⟩
    rw [hj]
    obtain ⟨bf, offf, rfl, hbf, hcf⟩ := Rd.elem motionC 6 (fun _ => rfl) (rdW hbW0 hr) (by omega) hjl
    have f0 : W0.cell? ⟨bf, offf + j * 6, none⟩ = some (.int .i64 L[j].number) := hcf j hjl 0 _ rfl
    have f1 : W0.cell? ⟨bf, offf + j * 6 + 1, none⟩ = some (.string L[j].party) := hcf j hjl 1 _ rfl
    have f2 : W0.cell? ⟨bf, offf + j * 6 + 2, none⟩ = some (.int .i64 L[j].filed) := hcf j hjl 2 _ rfl
    have f3 : W0.cell? ⟨bf, offf + j * 6 + 3, none⟩ = some (.int .i64 L[j].changed) := hcf j hjl 3 _ rfl
    have f4 : W0.cell? ⟨bf, offf + j * 6 + 4, none⟩ = some (.int .i64 L[j].state) := hcf j hjl 4 _ rfl
    have f5 : W0.cell? ⟨bf, offf + j * 6 + 5, none⟩ = some (.int .i64 L[j].after) := hcf j hjl 5 _ rfl
    clear hcf
    generalize L[j] = x at *
    obtain ⟨x0, x1, x2, x3, x4, x5⟩ := x
    go_wp2_with fail
    refine (l30Closed_b _ _ _ _ _ _ _ W0 hc).mono ?_
    rintro e w2 ⟨rfl, hb2⟩
    go_wp2
    all_goals (go_ret; exact ⟨ret_bool (by simp_all), bt hbW0 hb2⟩)

end Go.Proofs.YtiamignopfhkfaaGreatDoor
end
section
namespace Go.Proofs.YtiamignopfhkfaaGreatDoor
open Go.RowKit
set_option linter.unusedVariables false
theorem run_append_none' {P : Program} {w : World} (base : Nat) (t ty e : TypeId) (i : TypeInfo) (size : Nat) (ht : P.underlying t = some (.slice e)) (hi : P.info? e = some i)
    (v : Value) (n : Nat) (xs : List Value) (hown : w.ownsRow base e size v n xs) (c : Nat) :
    (Builtin.append_ #[t, t] ty #[v, .slice none 0 c]).run P w = .ok v w := by
  rcases hown.2 with ⟨rfl, rfl⟩ | ⟨g, cap, cur, rfl, _, _, hnc, _⟩
  · simp [Builtin.append_, run_underlying ht, sizeOf, typeInfo, hi, Builtin.lenOf, Builtin.firstCells]
  · simp [Builtin.append_, run_underlying ht, sizeOf, typeInfo, hi, Builtin.lenOf, Builtin.firstCells, hnc, storeCells]

/-- 'append(out, src...)', out the call's own row, src a slice that reads as ys. -/
theorem wp_cat {P : Program} (w : World) {o : Oper} {a : Act} {K : Act → World → Prop} {Q : Exit → Act → World → Prop} (s x : Operand) (t : TypeId)
    (ho : o.op = .call { callee := .builtin .append, args := #[s, x], argTypes := #[t, t] })
    (base : Nat) (e : TypeId) (i : TypeInfo) (z : Value) (size bytes : Nat) (ht : P.underlying t = some (.slice e)) (hi : P.info? e = some i) (hz : i.zero = some z)
    (hsize : i.size = size) (hby : i.bytes = bytes) (hzs : z.cells.size = size) (hsz : 0 < size)
    (v : Value) (n : Nat) (xs : List Value) (hs : a.eval s = v) (hown : w.ownsRow base e size v n xs)
    (A : Option Addr) (m c B : Nat) (ys : List Value) (hx : a.eval x = .slice A m c) (hr : Rd w B A (m * size) ys) (h1 : ∀ u ∈ ys, u.oneCell' = true)
    (h63 : n + m ≤ maxLen) (hbytes : (n + m) * bytes ≤ 140737488355328) (hbase : base ≤ w.heap.size)
    (h : ∀ A' c' w', w'.ownsRow base e size (.slice A' (n + m) c') (n + m) (xs ++ ys) → w.grownBy w' v.ownBlock → K (a.put o.dst (.slice A' (n + m) c')) w') :
    Oper.wp P o a w K Q := by
  cases A with
  | none =>
    have hm : m = 0 := by
      by_cases h0 : m = 0
      · exact h0
      · obtain ⟨b, off, e0, _⟩ := hr.2 (Nat.mul_pos (by omega) hsz); cases e0
    subst hm
    have hys : ys = [] := List.eq_nil_of_length_eq_zero (by have := hr.1; simpa using this)
    subst hys
    obtain ⟨A0, c0, rfl, _, _⟩ := own_form hown
    have hrun := run_append_none' (P := P) (w := w) base t o.type e i size ht hi _ n xs hown c
    unfold Oper.wp
    simp [execOp, ho, resolve, invoke, builtin, hs, hx, hrun, Result.andThen]
    exact h A0 c0 w (by simpa using hown) (World.grownBy.refl _ _)
  | some ad =>
    refine wp_append_own w s x t ho base e i z size bytes ht hi hz hsize hby hzs hsz v n xs hs hown ad m c ys hx hr.1 ?_ h1 h63 hbytes hbase ?_
    · intro j u hj
      have hjl := (List.getElem?_eq_some_iff.1 hj).1
      obtain ⟨b, off, e0, _, hc⟩ := hr.2 (by have := hr.1; omega)
      injection e0 with e0
      subst e0
      have := hc j u hj
      have e : (⟨b, off, none⟩ : Addr).add j = ⟨b, off + j, none⟩ := by unfold Addr.add; split <;> simp_all
      rwa [e]
    · intro v' w' h2 h3 _
      obtain ⟨A', c', rfl, _, _⟩ := own_form h2
      exact h A' c' w' h2 h3
theorem wpList_cat {P : Program} (w : World) {ops : Array Oper} {rest : List Oper} {o : Oper} {a : Act} {Q : Exit → Act → World → Prop} (hgd : o.guard = none) (s x : Operand) (t : TypeId)
    (ho : o.op = .call { callee := .builtin .append, args := #[s, x], argTypes := #[t, t] })
    (base : Nat) (e : TypeId) (i : TypeInfo) (z : Value) (size bytes : Nat) (ht : P.underlying t = some (.slice e)) (hi : P.info? e = some i) (hz : i.zero = some z)
    (hsize : i.size = size) (hby : i.bytes = bytes) (hzs : z.cells.size = size) (hsz : 0 < size)
    (v : Value) (n : Nat) (xs : List Value) (hs : a.eval s = v) (hown : w.ownsRow base e size v n xs)
    (A : Option Addr) (m c B : Nat) (ys : List Value) (hx : a.eval x = .slice A m c) (hr : Rd w B A (m * size) ys) (h1 : ∀ u ∈ ys, u.oneCell' = true)
    (h63 : n + m ≤ maxLen) (hbytes : (n + m) * bytes ≤ 140737488355328) (hbase : base ≤ w.heap.size)
    (h : ∀ A' c' w', w'.ownsRow base e size (.slice A' (n + m) c') (n + m) (xs ++ ys) → w.grownBy w' v.ownBlock → wpList P ops Q rest (a.put o.dst (.slice A' (n + m) c')) w') :
    wpList P ops Q (o :: rest) a w :=
  wpList_plain hgd fun _ hK => wp_cat w s x t ho base e i z size bytes ht hi hz hsize hby hzs hsz v n xs hs hown A m c B ys hx hr h1 h63 hbytes hbase fun A' c' w' h2 h3 => hK _ _ (h A' c' w' h2 h3)
/-- The same at a step of a region that draws its order. -/
theorem step_cat {P : Program} (w : World) {ops : Array Oper} {o : Oper} {a : Act} {K : Act → World → Prop} {Q : Exit → Act → World → Prop} {E : Prop} (hgd : o.guard = none) (s x : Operand) (t : TypeId)
    (ho : o.op = .call { callee := .builtin .append, args := #[s, x], argTypes := #[t, t] })
    (base : Nat) (e : TypeId) (i : TypeInfo) (z : Value) (size bytes : Nat) (ht : P.underlying t = some (.slice e)) (hi : P.info? e = some i) (hz : i.zero = some z)
    (hsize : i.size = size) (hby : i.bytes = bytes) (hzs : z.cells.size = size) (hsz : 0 < size)
    (v : Value) (n : Nat) (xs : List Value) (hs : a.eval s = v) (hown : w.ownsRow base e size v n xs)
    (A : Option Addr) (m c B : Nat) (ys : List Value) (hx : a.eval x = .slice A m c) (hr : Rd w B A (m * size) ys) (h1 : ∀ u ∈ ys, u.oneCell' = true)
    (h63 : n + m ≤ maxLen) (hbytes : (n + m) * bytes ≤ 140737488355328) (hbase : base ≤ w.heap.size) (N : Nat) (hN : n + m = N)
    (h : ∀ A' c' w', w'.ownsRow base e size (.slice A' N c') N (xs ++ ys) → w.grownBy w' v.ownBlock → K (a.put o.dst (.slice A' N c')) w') :
    if Region.wanted o (yielded ops a.tmps) = true then Oper.wp P o a w K Q else E := by
  have hw : Region.wanted o (yielded ops a.tmps) = true := by simp [Region.wanted, hgd]
  rw [if_pos hw]
  subst hN
  exact wp_cat w s x t ho base e i z size bytes ht hi hz hsize hby hzs hsz v n xs hs hown A m c B ys hx hr h1 h63 hbytes hbase h
/-- 'append(out, src...)' within the capacity. -/
theorem wpList_fitsR {P : Program} (w : World) {ops : Array Oper} {rest : List Oper} {o : Oper} {a : Act} {Q : Exit → Act → World → Prop} (hgd : o.guard = none) (s x : Operand) (t : TypeId)
    (ho : o.op = .call { callee := .builtin .append, args := #[s, x], argTypes := #[t, t] })
    (base : Nat) (e : TypeId) (i : TypeInfo) (size : Nat) (ht : P.underlying t = some (.slice e)) (hi : P.info? e = some i) (hsize : i.size = size) (hsz : 0 < size)
    (g k cap : Nat) (xs : List Value) (hs : a.eval s = .slice (some ⟨g, 0, none⟩) k cap) (hown : w.ownsRow base e size (.slice (some ⟨g, 0, none⟩) k cap) k xs)
    (A : Option Addr) (m c B : Nat) (ys : List Value) (hx : a.eval x = .slice A m c) (hr : Rd w B A (m * size) ys) (h1 : ∀ u ∈ ys, u.oneCell' = true) (b1 : k + m ≤ cap)
    (h : ∀ w', w'.ownsRow base e size (.slice (some ⟨g, 0, none⟩) (k + m) cap) (k + m) (xs ++ ys) → w.grownBy w' (some g) → wpList P ops Q rest (a.put o.dst (.slice (some ⟨g, 0, none⟩) (k + m) cap)) w') :
    wpList P ops Q (o :: rest) a w := by
  cases A with
  | none =>
    have hm : m = 0 := by
      by_cases h0 : m = 0
      · exact h0
      · obtain ⟨b, off, e0, _⟩ := hr.2 (Nat.mul_pos (by omega) hsz); cases e0
    subst hm
    have hys : ys = [] := List.eq_nil_of_length_eq_zero (by have := hr.1; simpa using this)
    subst hys
    refine wpList_plain hgd fun K hK => ?_
    have hrun := run_append_none' (P := P) (w := w) base t o.type e i size ht hi _ k xs hown c
    unfold Oper.wp
    simp [execOp, ho, resolve, invoke, builtin, hs, hx, hrun, Result.andThen]
    exact hK _ _ (h w (by simpa using hown) (World.grownBy.refl _ _))
  | some ad =>
    exact wpList_append_fits w hgd s x t ho base e i size ht hi hsize g k cap xs hs hown ad m c ys hx hr.1 (fun j u hj => by
      have hjl := (List.getElem?_eq_some_iff.1 hj).1
      obtain ⟨b, off, e0, _, hc⟩ := hr.2 (by have := hr.1; omega)
      injection e0 with e0
      subst e0
      have := hc j u hj
      have e : (⟨b, off, none⟩ : Addr).add j = ⟨b, off + j, none⟩ := by unfold Addr.add; split <;> simp_all
      rwa [e]) h1 b1 h
theorem Rd.drop_ {α : Type} {w : World} {B b off : Nat} {L : List α} {f : α → List Value} {m : Nat} (hf : ∀ a, (f a).length = m) (h : Rd w B (some ⟨b, off, none⟩) (L.length * m) (L.flatMap f)) {k : Nat} (hk : k ≤ L.length) : Rd w B (some ⟨b, off + k * m, none⟩) ((L.length - k) * m) ((L.drop k).flatMap f) := by
  refine ⟨by rw [flat_len f m hf, List.length_drop], fun hn => ?_⟩
  have hpos : 0 < L.length * m := Nat.lt_of_lt_of_le hn (Nat.mul_le_mul_right _ (Nat.sub_le _ _))
  obtain ⟨b', off', e, hb, hc⟩ := h.2 hpos
  cases e
  refine ⟨b, off + k * m, rfl, hb, fun j u hu => ?_⟩
  rw [Nat.add_assoc]
  refine hc _ _ ?_
  have e2 : L.flatMap f = (L.take k).flatMap f ++ (L.drop k).flatMap f := by rw [← List.flatMap_append, List.take_append_drop]
  have hl : ((L.take k).flatMap f).length = k * m := by rw [flat_len f m hf, List.length_take, Nat.min_eq_left hk]
  rw [e2, List.getElem?_append_right (by omega), hl, Nat.add_sub_cancel_left]
  exact hu
/-- An empty literal's row, wherever it lies. -/
theorem own_empty {w : World} {base g : Nat} {e : TypeId} {size : Nat} (h : w.heap[g]? = some (.cells #[] e (0, 0))) (hb : base ≤ g) : w.ownsRow base e size (.slice (some ⟨g, 0, none⟩) 0 0) 0 [] :=
  ⟨by simp, .inr ⟨g, 0, #[], rfl, hb, h, Nat.le_refl _, Nat.zero_le _, by simp, by simp⟩⟩
/-- A block that is known whole, as something to be read. -/
theorem Rd.of_block {w : World} {g : Nat} {cs : Array Value} {t : TypeId} {fr : Nat × Nat} (h : w.heap[g]? = some (.cells cs t fr)) : Rd w w.heap.size (some ⟨g, 0, none⟩) cs.size cs.toList :=
  ⟨by simp, fun _ => ⟨g, 0, rfl, (Array.getElem?_eq_some_iff.1 h).1, fun j u hu => by rw [show (0 : Nat) + j = j from Nat.zero_add j, cell_of_row w g j cs t fr h]; simpa using hu⟩⟩
theorem heap_at1 (w : World) (o1 o2 : Obj) : ((w.alloc o1).alloc o2).heap[w.heap.size]? = some o1 := by
  rw [Below.heap_alloc _ _ _ (by simp), heap_alloc_new]
theorem one_flat {α : Type} {f : α → List Value} (hf : ∀ a, ∀ u ∈ f a, u.oneCell' = true) (L : List α) : ∀ u ∈ L.flatMap f, u.oneCell' = true := by
  intro u hu
  obtain ⟨a, _, ha⟩ := List.mem_flatMap.1 hu
  exact hf a u ha
theorem one_ints (k : IntKind) (L : List Int) : ∀ u ∈ L.map (Value.int k), u.oneCell' = true := by
  intro u hu
  obtain ⟨a, _, rfl⟩ := List.mem_map.1 hu
  rfl
theorem one_strs (L : List ByteArray) : ∀ u ∈ L.map Value.string, u.oneCell' = true := by
  intro u hu
  obtain ⟨a, _, rfl⟩ := List.mem_map.1 hu
  rfl
theorem Rd.elemS {α : Type} {w : World} {B b off : Nat} {L : List α} (f : α → List Value) (m : Nat) (hf : ∀ a, (f a).length = m) (h : Rd w B (some ⟨b, off, none⟩) (L.length * m) (L.flatMap f)) (hm : 0 < m) {k : Nat} (hk : k < L.length) :
    b < B ∧ ∀ i (hi : i < L.length) j u, (f L[i])[j]? = some u → w.cell? ⟨b, off + i * m + j, none⟩ = some u := by
  obtain ⟨b', off', e, hb, hc⟩ := Rd.elem f m hf h hm hk
  cases e
  exact ⟨hb, hc⟩
/-- The last element's cells in a row of the call's own. -/
theorem own_lastG {α : Type} [Inhabited α] {w : World} {base : Nat} {e : TypeId} {A : Option Addr} {c m : Nat} {L : List α} {f : α → List Value} (hf : ∀ a, (f a).length = m) (hm : 0 < m) (h : w.ownsRow base e m (.slice A L.length c) L.length (L.flatMap f)) (h0 : 0 < L.length) :
    ∃ g, A = some ⟨g, 0, none⟩ ∧ base ≤ g ∧ g < w.heap.size ∧ ∀ j u, (f (L.getD (L.length - 1) default))[j]? = some u → w.cell? ⟨g, (L.length - 1) * m + j, none⟩ = some u := by
  obtain ⟨g, rfl, hg1, hg2⟩ := own_head h h0
  have hlt : L.length - 1 < L.length := by omega
  obtain ⟨b, off, hA, _, hc⟩ := Rd.elem f m hf (Rd.of_own h) hm hlt
  cases hA
  refine ⟨g, rfl, hg1, hg2, fun j u hu => ?_⟩
  rw [List.getD_eq_getElem?_getD, List.getElem?_eq_getElem hlt] at hu
  have := hc (L.length - 1) hlt j u hu
  rwa [Nat.zero_add] at this
theorem snoc_ofG {α : Type} [Inhabited α] {L : List α} (h : 0 < L.length) : L = L.take (L.length - 1) ++ [L.getD (L.length - 1) default] := by
  have e : L.getD (L.length - 1) default = L[L.length - 1] := by rw [List.getD_eq_getElem?_getD, List.getElem?_eq_getElem (by omega)]; rfl
  rw [e]
  have := List.take_succ_eq_append_getElem (l := L) (i := L.length - 1) (by omega)
  rw [← this, show L.length - 1 + 1 = L.length by omega, List.take_length]
theorem flat_setG {α : Type} {f : α → List Value} {m : Nat} (hf : ∀ a, (f a).length = m) {M : List α} {x y : α} {j : Nat} {v : Value} (hj : j < m) (h : (f x).set j v = f y) : ((M ++ [x]).flatMap f).set (M.length * m + j) v = (M ++ [y]).flatMap f := by
  rw [List.flatMap_append, List.flatMap_append, List.set_append_right _ _ (by rw [flat_len f m hf]; omega), flat_len f m hf, Nat.add_sub_cancel_left]
  simp only [List.flatMap_cons, List.flatMap_nil, List.append_nil]
  rw [h]
end Go.Proofs.YtiamignopfhkfaaGreatDoor
end
