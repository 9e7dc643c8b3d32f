/- Contracts: services, fees, board and travel of both texts. -/
import Derived.Test.YthkobjadfeidmaaTariff
namespace Go.Proofs.Ythkobjadfeidmaa
open Go.RowKit


def srvOk (d ml ms : Int) : Bool := inB d 0 1000 && inB ml 0 3000 && inB ms 0 10000

theorem isServiceDays_b (n : Int) (b : Bool) (w : World) (h : inB n 0 1000 = b) : Calls Try.prog 45 #[.int .i64 n] w fun e w' => e = .returned (.bool b) ∧ w = w' := by
  go_enter Try.func45, Try.ntmps45
  go_wp2_with fail
  refine (within_b _ _ _ _ _ h).mono ?_
  rintro e w' ⟨rfl, rfl⟩
  go_wp2
  go_ret
  exact ⟨rfl, rfl⟩

theorem impl_IsService (d ml ms : Int) (b : Bool) (w : World) (h : srvOk d ml ms = b) :
    Calls Try.prog 41 #[.agg #[.int .i64 d, .int .i64 ml, .int .i64 ms]] w fun e w' => e = .returned (.bool b) ∧ Below w.heap.size w w' := by
  subst h
  go_enter Try.func41, Try.ntmps41
  go_wp2_with (first | (go_at_call 44; refine (within_b _ _ _ _ _ rfl).mono ?_; rintro e w' ⟨rfl, rfl⟩) | (go_at_call 45; refine (isServiceDays_b _ _ _ rfl).mono ?_; rintro e w' ⟨rfl, rfl⟩))
  all_goals (go_ret; exact ⟨ret_bool (by unfold srvOk; simp_all), (Below.refl _ _).alloc (Nat.le_refl _) _⟩)

theorem spec_IsService (d ml ms : Int) (b : Bool) (w : World) (h : srvOk d ml ms = b) :
    Calls Try.prog 42 #[.agg #[.int .i64 d, .int .i64 ml, .int .i64 ms]] w fun e w' => e = .returned (.bool b) ∧ Below w.heap.size w w' := by
  subst h
  go_enter Try.func42, Try.ntmps42
  go_wp2_with (first | (go_at_call 43; refine (l01In_b _ _ _ _ _ rfl).mono ?_; rintro e w' ⟨rfl, rfl⟩))
  all_goals (go_ret; exact ⟨ret_bool (by unfold srvOk; simp_all), (Below.refl _ _).alloc (Nat.le_refl _) _⟩)

def feeTo (L : List TierD) (n : Int) : Int := L.foldl (fun a t => if t.days ≤ n then t.cents else a) 0
theorem feeTo_snoc {L : List TierD} {k : Nat} (n : Int) (hk : k < L.length) : feeTo (L.take (k + 1)) n = if L[k].days ≤ n then L[k].cents else feeTo (L.take k) n := by
  rw [List.take_succ_eq_append_getElem hk, feeTo, List.foldl_append]; rfl
def feesN (L : List TierD) : Nat → Int
  | 0 => 0
  | k + 1 => feesN L k + feeTo L ((k : Int) + 1)

theorem tar_cents {L : List TierD} {me mi mo : Int} (h : tarOk L me mi mo = true) : ∀ t ∈ L, 0 ≤ t.cents ∧ t.cents ≤ 100000 := by
  intro t ht
  obtain ⟨k, hk, rfl⟩ := List.getElem_of_mem ht
  have h1 : tierOk L k = true := by
    rcases hh : tierOk L k with _ | _
    · rw [tar_false me mi mo hk hh] at h; cases h
    · rfl
  rw [tierOk_eq hk] at h1
  simp only [Bool.and_eq_true] at h1
  exact inB_iff.1 h1.1.2
theorem feeTo_bd {L : List TierD} (h : ∀ t ∈ L, 0 ≤ t.cents ∧ t.cents ≤ 100000) (n : Int) : 0 ≤ feeTo L n ∧ feeTo L n ≤ 100000 := by
  have : ∀ (M : List TierD) (a : Int), (∀ t ∈ M, 0 ≤ t.cents ∧ t.cents ≤ 100000) → 0 ≤ a ∧ a ≤ 100000 → 0 ≤ M.foldl (fun a t => if t.days ≤ n then t.cents else a) a ∧ M.foldl (fun a t => if t.days ≤ n then t.cents else a) a ≤ 100000 := by
    intro M
    induction M with
    | nil => intro a _ h; exact h
    | cons t M ih =>
      intro a hM ha
      rw [List.foldl_cons]
      refine ih _ (fun x hx => hM x (List.mem_cons_of_mem _ hx)) ?_
      split
      · exact hM t (List.mem_cons_self ..)
      · exact ha
  exact this L 0 h (by omega)
theorem feesN_bd {L : List TierD} (h : ∀ t ∈ L, 0 ≤ t.cents ∧ t.cents ≤ 100000) : ∀ k : Nat, 0 ≤ feesN L k ∧ feesN L k ≤ 100000 * k
  | 0 => by simp [feesN]
  | k + 1 => by
    have := feesN_bd h k
    have := feeTo_bd h ((k : Int) + 1)
    simp only [feesN]; omega

set_option maxHeartbeats 1000000 in
theorem spec_fee (A : Option Addr) (c : Nat) (L : List TierD) (me mi mo : Int) (n : Int) (w : World) (hr : Rd w w.heap.size A (L.length * 2) (L.flatMap tierC)) (hl : L.length ≤ 140737488355328) :
    Calls Try.prog 67 #[.agg #[.slice A L.length c, .int .i64 me, .int .i64 mi, .int .i64 mo], .int .i64 n] w fun e w' => e = .returned (.int .i64 (feeTo L n)) ∧ Below w.heap.size w w' := by
  go_enter Try.func67, Try.ntmps67
  go_wp2
  generalize hW0 : w.alloc _ = W0
  have hbW0 : Below w.heap.size w W0 := by subst hW0; exact (Below.refl _ _).alloc (Nat.le_refl _) _
  have hsW0 : W0.heap.size = w.heap.size + 1 := by subst hW0; simp
  have cxW0_0 : ∀ i, W0.cell? ⟨w.heap.size, i, none⟩ = (#[.slice A L.length c, .int .i64 me, .int .i64 mi, .int .i64 mo] : Array Value)[i]? := by intro i; subst hW0; simp [go_sem]
  have HSW0 := Lib.hid hsW0; clear hW0 hsW0
  have hr0 := rdW hbW0 hr
  go_loop [5, 6] (fun v i => ∃ k : Nat, k ≤ L.length ∧ i = .int .i64 k ∧ v = .int .i64 (feeTo (L.take k) n)) (fun _ i => L.length - (intOf i).toNat)
  case atStart => exact ⟨0, by omega, rfl, rfl⟩
  case round =>
    obtain ⟨k, hk, rfl, rfl⟩ := hrel
    by_cases hlt : k < L.length
    · obtain ⟨b', off, rfl, hb, hc⟩ := Rd.elem tierC 2 (fun _ => rfl) hr0 (by omega) hlt
      have hf0 : W0.cell? ⟨b', off + k * 2, none⟩ = some (.int .i64 L[k].days) := hc k hlt 0 _ rfl
      have hf1 : W0.cell? ⟨b', off + k * 2 + 1, none⟩ = some (.int .i64 L[k].cents) := hc k hlt 1 _ rfl
      have HS := Lib.hid (feeTo_snoc n hlt)
      clear hc
      by_cases hd : L[k].days ≤ n
      all_goals
        go_wp2
        go_round
        case rel => exact ⟨k + 1, by omega, by go_num, by rw [HS.out]; simp [hd]⟩
        case measure => simp [intOf]; omega
    · obtain rfl : k = L.length := by omega
      go_wp2
      go_ret
      exact ⟨ret_int (by first | rfl | simp), hbW0⟩

set_option maxHeartbeats 1000000 in
theorem impl_fee (A : Option Addr) (c : Nat) (L : List TierD) (me mi mo : Int) (n : Int) (w : World) (hr : Rd w w.heap.size A (L.length * 2) (L.flatMap tierC)) (hl : L.length ≤ 140737488355328) :
    Calls Try.prog 66 #[.agg #[.slice A L.length c, .int .i64 me, .int .i64 mi, .int .i64 mo], .int .i64 n] w fun e w' => e = .returned (.int .i64 (feeTo L n)) ∧ Below w.heap.size w w' := by
  go_enter Try.func66, Try.ntmps66
  go_wp2
  generalize hW0 : w.alloc _ = W0
  have hbW0 : Below w.heap.size w W0 := by subst hW0; exact (Below.refl _ _).alloc (Nat.le_refl _) _
  have hsW0 : W0.heap.size = w.heap.size + 1 := by subst hW0; simp
  have cxW0_0 : ∀ i, W0.cell? ⟨w.heap.size, i, none⟩ = (#[.slice A L.length c, .int .i64 me, .int .i64 mi, .int .i64 mo] : Array Value)[i]? := by intro i; subst hW0; simp [go_sem]
  have HSW0 := Lib.hid hsW0; clear hW0 hsW0
  go_loopw [5, 11] (fun v i wr => ∃ k : Nat, k ≤ L.length ∧ i = .int .i64 k ∧ v = .int .i64 (feeTo (L.take k) n) ∧ Below w.heap.size w wr) (fun _ i _ => L.length - (intOf i).toNat)
  case atStart => exact ⟨0, by omega, rfl, rfl, hbW0⟩
  case round =>
    obtain ⟨k, hk, rfl, rfl, hB⟩ := hrel
    by_cases hlt : k < L.length
    · obtain ⟨b', off, rfl, hb, hc⟩ := Rd.elem tierC 2 (fun _ => rfl) (hr.below hB) (by omega) hlt
      have hf0 : wr.cell? ⟨b', off + k * 2, none⟩ = some (.int .i64 L[k].days) := hc k hlt 0 _ rfl
      have hf1 : wr.cell? ⟨b', off + k * 2 + 1, none⟩ = some (.int .i64 L[k].cents) := hc k hlt 1 _ rfl
      have HS := Lib.hid (feeTo_snoc n hlt)
      have hk' : (k : Int) < L.length := by omega
      clear hc
      by_cases hd : L[k].days ≤ n
      all_goals
        go_wp2
        go_roundw
        case rel => exact ⟨k + 1, by omega, by go_num, by rw [HS.out]; simp [hd], hB.alloc hB.size _⟩
        case measure => simp [intOf]; omega
    · obtain rfl : k = L.length := by omega
      go_wp2
      go_ret
      exact ⟨ret_int (by first | rfl | simp), hB⟩

set_option maxHeartbeats 1000000 in
theorem spec_fees (A : Option Addr) (c : Nat) (L : List TierD) (me mi mo : Int) (n : Nat) (w : World) (hr : Rd w w.heap.size A (L.length * 2) (L.flatMap tierC)) (hl : L.length ≤ 140737488355328) (hn : n ≤ 1000) (hc : ∀ t ∈ L, 0 ≤ t.cents ∧ t.cents ≤ 100000) :
    Calls Try.prog 64 #[.agg #[.slice A L.length c, .int .i64 me, .int .i64 mi, .int .i64 mo], .int .i64 n] w fun e w' => e = .returned (.int .i64 (feesN L n)) ∧ Below w.heap.size w w' := by
  go_enter Try.func64, Try.ntmps64
  go_wp2
  generalize hW0 : w.alloc _ = W0
  have hbW0 : Below w.heap.size w W0 := by subst hW0; exact (Below.refl _ _).alloc (Nat.le_refl _) _
  have hsW0 : W0.heap.size = w.heap.size + 1 := by subst hW0; simp
  have cxW0_0 : ∀ i, W0.cell? ⟨w.heap.size, i, none⟩ = (#[.slice A L.length c, .int .i64 me, .int .i64 mi, .int .i64 mo] : Array Value)[i]? := by intro i; subst hW0; simp [go_sem]
  have HSW0 := Lib.hid hsW0; clear hW0 hsW0
  go_loopw [5, 6] (fun v i wr => ∃ k : Nat, k ≤ n ∧ i = .int .i64 ((k : Int) + 1) ∧ v = .int .i64 (feesN L k) ∧ Below W0.heap.size W0 wr) (fun _ i _ => n + 1 - (intOf i).toNat)
  case atStart => exact ⟨0, by omega, by go_num, rfl, Below.refl _ _⟩
  case round =>
    obtain ⟨k, hk, rfl, rfl, hB⟩ := hrel
    have hs := HSW0.out
    replace cxW0_0 := fun i => (hB.cell (by (try simp only); have := HSW0.out; omega)).trans (cxW0_0 i)
    have hbb := bt hbW0 hB
    have b1 := feesN_bd hc k
    by_cases hlt : k < n
    · have b2 := feeTo_bd hc ((k : Int) + 1)
      have HF := Lib.hid (show feesN L (k + 1) = feesN L k + feeTo L ((k : Int) + 1) from rfl)
      clear hs
      go_wp2_with fail
      refine (spec_fee A c L me mi mo _ wr (rdW hbb hr) hl).mono ?_
      rintro e w1 ⟨rfl, hb1⟩
      go_wp2
      go_roundw
      case rel => exact ⟨k + 1, by omega, by go_num, by rw [HF.out], bt hB hb1⟩
      case measure => simp [intOf]; omega
    · obtain rfl : k = n := by omega
      clear hs
      go_wp2
      go_ret
      exact ⟨rfl, hbb⟩

set_option maxHeartbeats 1000000 in
theorem impl_fees (A : Option Addr) (c : Nat) (L : List TierD) (me mi mo : Int) (n : Nat) (w : World) (hr : Rd w w.heap.size A (L.length * 2) (L.flatMap tierC)) (hl : L.length ≤ 140737488355328) (hn : n ≤ 1000) (hc : ∀ t ∈ L, 0 ≤ t.cents ∧ t.cents ≤ 100000) :
    Calls Try.prog 60 #[.agg #[.slice A L.length c, .int .i64 me, .int .i64 mi, .int .i64 mo], .int .i64 n] w fun e w' => e = .returned (.int .i64 (feesN L n)) ∧ Below w.heap.size w w' := by
  go_enter Try.func60, Try.ntmps60
  go_wp2
  generalize hW0 : w.alloc _ = W0
  have hbW0 : Below w.heap.size w W0 := by subst hW0; exact (Below.refl _ _).alloc (Nat.le_refl _) _
  have hsW0 : W0.heap.size = w.heap.size + 1 := by subst hW0; simp
  have cxW0_0 : ∀ i, W0.cell? ⟨w.heap.size, i, none⟩ = (#[.slice A L.length c, .int .i64 me, .int .i64 mi, .int .i64 mo] : Array Value)[i]? := by intro i; subst hW0; simp [go_sem]
  have HSW0 := Lib.hid hsW0; clear hW0 hsW0
  go_loopw [5, 8] (fun v i wr => ∃ k : Nat, k ≤ n ∧ i = .int .i64 k ∧ v = .int .i64 (feesN L k) ∧ Below W0.heap.size W0 wr) (fun _ i _ => n - (intOf i).toNat)
  case atStart => exact ⟨0, by omega, by go_num, rfl, Below.refl _ _⟩
  case round =>
    obtain ⟨k, hk, rfl, rfl, hB⟩ := hrel
    have hs := HSW0.out
    replace cxW0_0 := fun i => (hB.cell (by (try simp only); have := HSW0.out; omega)).trans (cxW0_0 i)
    have hbb := bt hbW0 hB
    have b1 := feesN_bd hc k
    by_cases hlt : k < n
    · have b2 := feeTo_bd hc ((k : Int) + 1)
      have HF := Lib.hid (show feesN L (k + 1) = feesN L k + feeTo L ((k : Int) + 1) from rfl)
      clear hs
      go_wp2_with fail
      refine (impl_fee A c L me mi mo _ wr (rdW hbb hr) hl).mono ?_
      rintro e w1 ⟨rfl, hb1⟩
      go_wp2
      go_roundw
      case rel => exact ⟨k + 1, by omega, by go_num, by rw [HF.out], bt hB hb1⟩
      case measure => simp [intOf]; omega
    · obtain rfl : k = n := by omega
      clear hs
      go_wp2
      go_ret
      exact ⟨rfl, hbb⟩
end Go.Proofs.Ythkobjadfeidmaa
