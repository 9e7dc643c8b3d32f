/- Contracts of the helpers of the laws for Tariff: sz, to, eq, mark, held. -/
import Derived.Test.YthkobjadfeidmaaTier
namespace Go.Proofs.Ythkobjadfeidmaa
open Go.RowKit

theorem szTariff_c (A : Option Addr) (n c : Nat) (me mi mo l : Int) (w : World) (hn : n ≤ 9223372036854775807) (h0 : 0 ≤ l) (h1 : l ≤ 1048576) :
    Calls Try.prog 13 #[.agg #[.slice A n c, .int .i64 me, .int .i64 mi, .int .i64 mo], .int .i64 l] w (SzPost n l w) := by
  go_enter Try.func13, Try.ntmps13
  go_wp2_with fail
  generalize hW0 : w.alloc _ = W0
  have hbW0 : Below w.heap.size w W0 := by subst hW0; exact (Below.refl _ _).alloc (Nat.le_refl _) _
  have hsW0 : W0.heap.size = w.heap.size + 1 := by subst hW0; simp
  have HSW0 := Lib.hid hsW0; clear hW0 hsW0
  refine (szTierS_c A n c l _ hn h0 h1).mono ?_
  rintro e w1 ⟨r, rfl, hr1, hr2, hr3, hb1⟩
  have hB := bt hbW0 hb1
  by_cases h : r < 0
  · go_wp2
    go_ret
    exact ⟨-1, rfl, by omega, by omega, fun h => by omega, hB⟩
  · go_wp2
    go_ret
    exact ⟨r, rfl, hr1, hr2, hr3, hB⟩

set_option maxHeartbeats 1000000 in
theorem toTariff_c (A : Option Addr) (c : Nat) (L : List TierD) (me mi mo : Int) (w : World) (hr : Rd w w.heap.size A (L.length * 2) (L.flatMap tierC)) (hl : L.length * 16 ≤ 140737488355328) :
    Calls Try.prog 15 #[.agg #[.slice A L.length c, .int .i64 me, .int .i64 mi, .int .i64 mo]] w fun e w' => ∃ g, e = .returned (.agg #[.slice (some ⟨g, 0, none⟩) L.length L.length, .int .i64 me, .int .i64 mi, .int .i64 mo]) ∧
      w'.ownsRow w.heap.size 63 2 (.slice (some ⟨g, 0, none⟩) L.length L.length) L.length (L.flatMap tierC) ∧ Below w.heap.size w w' := by
  go_enter Try.func15, Try.ntmps15
  go_wp2_with fail
  generalize hW0 : ((w.alloc _).alloc _).alloc _ = W0
  have hbW0 : Below w.heap.size w W0 := by subst hW0; exact (((Below.refl _ _).alloc (Nat.le_refl _) _).alloc (by (try simp) <;> (try omega)) _).alloc (by (try simp) <;> (try omega)) _
  have hsW0 : W0.heap.size = w.heap.size + 3 := by subst hW0; simp
  have cxW0_0 : ∀ i, W0.cell? ⟨w.heap.size, i, none⟩ = (#[.slice A L.length c, .int .i64 me, .int .i64 mi, .int .i64 mo] : Array Value)[i]? := by intro i; subst hW0; simp [go_sem]
  have fzW0_0 : ∀ i, W0.frozen? ⟨w.heap.size, i, none⟩ = false := by intro i; subst hW0; simp [go_sem]
  have cxW0_1 : ∀ i, W0.cell? ⟨w.heap.size + 1, i, none⟩ = (#[.slice none 0 0, .int .i64 0, .int .i64 0, .int .i64 0] : Array Value)[i]? := by intro i; subst hW0; simp [go_sem]
  have fzW0_1 : ∀ i, W0.frozen? ⟨w.heap.size + 1, i, none⟩ = false := by intro i; subst hW0; simp [go_sem]
  have cxW0_2 : ∀ i, W0.cell? ⟨w.heap.size + 1 + 1, i, none⟩ = (#[.slice none 0 0, .int .i64 0, .int .i64 0, .int .i64 0] : Array Value)[i]? := by intro i; subst hW0; simp [go_sem]
  have fzW0_2 : ∀ i, W0.frozen? ⟨w.heap.size + 1 + 1, i, none⟩ = false := by intro i; subst hW0; simp [go_sem]
  have HSW0 := Lib.hid hsW0; clear hW0 hsW0
  refine (toTierS_c A c L W0 (Rd.more (hr.below hbW0) hbW0.size) hl).mono ?_
  rintro e w2 ⟨g, rfl, hown, hb2⟩
  replace cxW0_0 := fun i => (hb2.cell (by (try simp only); have := HSW0.out; omega)).trans (cxW0_0 i)
  replace cxW0_1 := fun i => (hb2.cell (by (try simp only); have := HSW0.out; omega)).trans (cxW0_1 i)
  replace cxW0_2 := fun i => (hb2.cell (by (try simp only); have := HSW0.out; omega)).trans (cxW0_2 i)
  replace fzW0_1 := fun i => (hb2.frozen (by (try simp only); have := HSW0.out; omega)).trans (fzW0_1 i)
  replace fzW0_2 := fun i => (hb2.frozen (by (try simp only); have := HSW0.out; omega)).trans (fzW0_2 i)
  clear fzW0_0
  go_wp2
  have hs0 := HSW0.out
  have hbb := bt hbW0 hb2
  have hs2 := hb2.size
  refine bodyPost_ret (v := .agg #[.slice (some ⟨g, 0, none⟩) L.length L.length, .int .i64 me, .int .i64 mi, .int .i64 mo]) (by simp [results, Try.results15, go_sem, *]) rfl ⟨g, rfl, ?_, ?_⟩
  · refine own_mono (base := W0.heap.size) ?_ hbW0.size
    repeat (refine ownsRow_setCell_below ?_ (by simp only; omega) _)
    exact hown
  · repeat (refine Below.setCell ?_ (by simp only; omega) _)
    exact hbb

theorem eqTariff_c (A A' : Option Addr) (c c' : Nat) (L : List TierD) (me mi mo : Int) (w : World) (hr : Rd w w.heap.size A (L.length * 2) (L.flatMap tierC)) (hr' : Rd w w.heap.size A' (L.length * 2) (L.flatMap tierC)) (hl : L.length ≤ 140737488355328) :
    Calls Try.prog 17 #[.agg #[.slice A L.length c, .int .i64 me, .int .i64 mi, .int .i64 mo], .agg #[.slice A' L.length c', .int .i64 me, .int .i64 mi, .int .i64 mo]] w fun e w' => e = .returned (.bool true) ∧ Below w.heap.size w w' := by
  go_enter Try.func17, Try.ntmps17
  go_wp2_with fail
  generalize hW0 : (w.alloc _).alloc _ = W0
  have hbW0 : Below w.heap.size w W0 := by subst hW0; exact ((Below.refl _ _).alloc (Nat.le_refl _) _).alloc (by (try simp) <;> (try omega)) _
  have hsW0 : W0.heap.size = w.heap.size + 2 := by subst hW0; simp
  have cxW0_0 : ∀ i, W0.cell? ⟨w.heap.size, i, none⟩ = (#[.slice A L.length c, .int .i64 me, .int .i64 mi, .int .i64 mo] : Array Value)[i]? := by intro i; subst hW0; simp [go_sem]
  have cxW0_1 : ∀ i, W0.cell? ⟨w.heap.size + 1, i, none⟩ = (#[.slice A' L.length c', .int .i64 me, .int .i64 mi, .int .i64 mo] : Array Value)[i]? := by intro i; subst hW0; simp [go_sem]
  have HSW0 := Lib.hid hsW0; clear hW0 hsW0
  refine (eqTierS_c A A' c c' L W0 (Rd.more (hr.below hbW0) hbW0.size) (Rd.more (hr'.below hbW0) hbW0.size) hl).mono ?_
  rintro e w2 ⟨rfl, hb2⟩
  replace cxW0_0 := fun i => (hb2.cell (by (try simp only); have := HSW0.out; omega)).trans (cxW0_0 i)
  replace cxW0_1 := fun i => (hb2.cell (by (try simp only); have := HSW0.out; omega)).trans (cxW0_1 i)
  go_wp2
  go_ret
  exact ⟨rfl, bt hbW0 hb2⟩

theorem markTariff_c (A : Option Addr) (n c base : Nat) (xs : List Value) (me mi mo q : Int) (w : World) (hown : w.ownsRow base 63 2 (.slice A n c) n xs) (hn : n ≤ 140737488355328) (h0 : 0 ≤ q) (h1 : q ≤ 1000000) :
    Calls Try.prog 18 #[.agg #[.slice A n c, .int .i64 me, .int .i64 mi, .int .i64 mo], .int .i64 q] w fun e w' => e = .returned (.int .i64 (q + n * 2)) ∧
      w'.ownsRow base 63 2 (.slice A n c) n ((tierMarks q n).flatMap tierC) ∧ w.grownBy w' (Value.slice A n c).ownBlock := by
  go_enter Try.func18, Try.ntmps18
  go_wp2_with fail
  refine (markTierS_c A n c base xs q _ (hown.alloc _) hn h0 (by omega)).mono ?_
  rintro e w2 ⟨rfl, hown2, hg2⟩
  go_wp2
  go_ret
  exact ⟨rfl, hown2, grown_alloc hg2⟩

theorem heldTariff_c (A : Option Addr) (n c : Nat) (me mi mo q : Int) (w : World) (hr : Rd w w.heap.size A (n * 2) ((tierMarks q n).flatMap tierC)) (hn : n ≤ 140737488355328) (h0 : 0 ≤ q) (h1 : q ≤ 1000000) :
    Calls Try.prog 19 #[.agg #[.slice A n c, .int .i64 me, .int .i64 mi, .int .i64 mo], .int .i64 q] w fun e w' => e = .returned (.int .i64 (q + n * 2)) ∧ Below w.heap.size w w' := by
  have h2 : ¬ q + (n : Int) * 2 < 0 := by omega
  go_enter Try.func19, Try.ntmps19
  go_wp2_with fail
  refine (heldTierS_c A n c q _ (Rd.more (hr.alloc (Nat.le_refl _) _) (by simp)) hn h0 (by omega)).mono ?_
  rintro e w2 ⟨rfl, hb2⟩
  go_wp2
  go_ret
  exact ⟨rfl, bt ((Below.refl _ _).alloc (Nat.le_refl _) _) hb2⟩
end Go.Proofs.Ythkobjadfeidmaa
