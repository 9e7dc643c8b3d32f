/- Contract: l32Insert. -/
import Derived.Test.YtgckkocndhfbnaaMarkP1
namespace Go.Proofs.Ytgckkocndhfbnaa
open Go.RowKit
set_option linter.unusedVariables false
set_option maxRecDepth 100000 in
set_option maxHeartbeats 8000000 in
theorem l32Insert_c (A : Option Addr) (c : Nat) (L : List MarkD) (y0 y1 y2 : Int) (w : World) (hr : Rd w w.heap.size A (L.length * 3) (L.flatMap markC)) (hl : L.length ≤ 1000000) (hcap : L.length ≤ c) (hA : (A = none ∧ c = 0) ∨ ∃ b off, A = some ⟨b, off, none⟩) :
    Calls Try.prog 57 #[.slice A L.length c, .agg #[.int .i64 y0, .int .i64 y1, .int .i64 y2]] w (RowPost1 42 3 (L.length + 1) ((insAt (idxBy (befS ⟨y0, y1, y2⟩) L) L ⟨y0, y1, y2⟩).flatMap markC) w) := by
  obtain ⟨i0, hi, hz0, hz1, hz2⟩ := info_parts mark_info
  go_enter Try.func57, Try.ntmps57
  go_wp2_with fail
  generalize hW0 : w.alloc _ = W0
  have hbW0 : Below w.heap.size w W0 := by subst hW0; exact (Below.refl _ _).alloc (Nat.le_refl _) _
  have hsW0 : W0.heap.size = w.heap.size + 1 := by subst hW0; simp
  have cxW0_0 : ∀ i, W0.cell? ⟨w.heap.size, i, none⟩ = (#[.int .i64 y0, .int .i64 y1, .int .i64 y2] : Array Value)[i]? := by intro i; subst hW0; simp [go_sem]
  have fzW0_0 : ∀ i, W0.frozen? ⟨w.heap.size, i, none⟩ = false := by intro i; subst hW0; simp [go_sem]
  have HSW0 := Lib.hid hsW0; clear hW0 hsW0
  have HSZ := Lib.hid hbW0.size
  go_wp2
  go_loopw [5] (fun i wr => ∃ k : Nat, k ≤ L.length ∧ i = .int .i64 k ∧ Below W0.heap.size W0 wr ∧ Hid (∀ j (hj : j < L.length), j < k → befS ⟨y0, y1, y2⟩ L[j] = true)) (fun i _ => L.length - (intOf i).toNat)
  case atStart => exact ⟨0, by omega, rfl, Below.refl _ _, fun j _ hj => absurd hj (by omega)⟩
  case round =>
    obtain ⟨k, hk, rfl, hBx, HT⟩ := hrel
    have hB := bt hbW0 hBx
    have hk0 : (0 : Int) ≤ (k : Int) := by omega
    have hb0 : wr.cell? ⟨w.heap.size, 0, none⟩ = some (.int .i64 y0) := (hBx.cell (p := ⟨w.heap.size, 0, none⟩) (by have := HSW0.out; simp only; omega)).trans (cxW0_0 0)
    have hlw : w.heap.size < wr.heap.size := by have := HSW0.out; have := hBx.size; omega
    by_cases hlt : k < L.length
    · obtain ⟨bf, offf, hAf, hbf, hcf⟩ := Rd.elem markC 3 (fun _ => rfl) (rdW hB hr) (by omega) hlt
      have f0 : wr.cell? ⟨bf, offf + k * 3, none⟩ = some (.int .i64 L[k].from_) := hcf k hlt 0 _ rfl
      clear hcf
      subst hAf
      have hk1 : (k : Int) < (L.length : Int) := by omega
      by_cases hf : L[k].from_ ≤ y0
      · have HF := Lib.hid hf
        generalize hx0 : L[k].from_ = x0 at *
        have HFX := Lib.hid hx0
        clear hx0
        go_wp2_with fail
        have kf0 := cell_regrown f0
        have khb0 := cell_regrown hb0
        refine wp_region_bel mixed (by kernel_rfl) ?_
        repeat (any_goals (first | go_big_quiet_step ((fail)) | quiet_step ((fail)) | (refine wpQuiet_step (fun K hK => ?_); go_simp; (split <;> first | (refine hK _ ?_; clear hK K) | (apply Exists.intro; refine ⟨fun _ => ?_, hK _ ?_⟩; ((fail)); clear hK K)))))
        all_goals (refine wpQuiet_nil ?_; intro w1 hw1)
        all_goals (clear kf0 khb0; replace f0 := (hw1.cell (by (try simp only); omega)).trans f0; replace hb0 := (hw1.cell (by (try simp only); omega)).trans hb0)
        go_wp2
        go_roundw
        case rel => exact ⟨k + 1, by omega, by go_num, bt hBx hw1, fun j hj h => by
          by_cases e : j = k
          · subst e; exact decide_eq_true (by show L[j].from_ ≤ y0; rw [HFX.out]; exact HF.out)
          · exact HT.out j hj (by omega)⟩
        case measure => simp [intOf]; omega
      · have HIX : Hid (idxBy (befS ⟨y0, y1, y2⟩) L = k) := idxBy_eq hk HT.out (fun h => decide_eq_false hf)
        have hf2 : ¬ L[k].from_ ≤ y0 := hf
        clear hf
        generalize L[k].from_ = x0 at *
        go_wp2_with fail
        have kf0 := cell_regrown f0
        have khb0 := cell_regrown hb0
        refine wp_region_bel mixed (by kernel_rfl) ?_
        repeat (any_goals (first | go_big_quiet_step ((fail)) | quiet_step ((fail)) | (refine wpQuiet_step (fun K hK => ?_); go_simp; (split <;> first | (refine hK _ ?_; clear hK K) | (apply Exists.intro; refine ⟨fun _ => ?_, hK _ ?_⟩; ((fail)); clear hK K)))))
        all_goals (refine wpQuiet_nil ?_; intro w1 hw1)
        all_goals (clear kf0 khb0; replace f0 := (hw1.cell (by (try simp only); omega)).trans f0; replace hb0 := (hw1.cell (by (try simp only); omega)).trans hb0)
        have hBx1 := bt hBx hw1
        have hB1 := bt hB hw1
        clear f0 hb0
        go_wp2_with fail
        have hkI : (k : Int) ≤ (L.length : Int) := by omega
        have hkc : (k : Int) ≤ (c : Int) := by omega
        have hck : ¬ c = k := by omega
        obtain ⟨v1, rfl⟩ : ∃ x, x = w1 := ⟨_, rfl⟩
        have hBo := hB1
        have hBxo := hBx1
        clear hB1 hBx1
        have HBX := Lib.hid (fun i => (hBxo.cell (p := ⟨w.heap.size, i, none⟩) (by have := HSW0.out; simp only; omega)).trans (cxW0_0 i))
        have hlx : w.heap.size < v1.heap.size := by have := HSW0.out; have := hBxo.size; omega
        have HTK : Hid (∀ W1 : World, Below v1.heap.size v1 W1 → Rd W1 v1.heap.size (some ⟨bf, offf, none⟩) (k * 3) ((L.take k).flatMap markC)) := fun W1 h => (Rd.take_ (f := markC) (m := 3) (L := L) (fun _ => rfl) (rdW hBo hr) hk).below h
        have HTO : Hid (∀ u ∈ (L.take k).flatMap markC, u.oneCell' = true) := one_mark (L.take k)
        have HT3O : Hid (∀ u ∈ (L.drop k).flatMap markC, u.oneCell' = true) := one_mark (L.drop k)
        have hwk : IntKind.i64.wrap (k : Int) = (k : Int) := IntWalk.i64_in _ (by omega)
        have HT3 : Hid (∀ W1 : World, Below v1.heap.size v1 W1 → Rd W1 v1.heap.size (some ⟨bf, offf + k * 3, none⟩) ((L.length - k) * 3) ((L.drop k).flatMap markC)) := fun W1 h => (Rd.drop_ (f := markC) (m := 3) (L := L) (fun _ => rfl) (rdW hBo hr) hk).below h
        have HKd : Hid (∀ W1 : World, Below v1.heap.size v1 W1 → (∀ i, W1.cell? ⟨w.heap.size, i, none⟩ = (#[.int .i64 y0, .int .i64 y1, .int .i64 y2] : Array Value)[i]?) ∧ Below v1.heap.size v1 W1) := fun W1 h => ⟨fun i => (h.cell (p := ⟨w.heap.size, i, none⟩) (by simp only; omega)).trans (HBX.out i), h⟩
        go_region_held3 (fun W1 => (∀ i, W1.cell? ⟨w.heap.size, i, none⟩ = (#[.int .i64 y0, .int .i64 y1, .int .i64 y2] : Array Value)[i]?) ∧ Below v1.heap.size v1 W1) (first | exact HKd.out _ ((Below.refl _ _).drew) | exact HKd.out _ (((Below.refl _ _).alloc (Nat.le_refl _) _).drew) | exact HKd.out _ ((((Below.refl _ _).alloc (Nat.le_refl _) _).alloc (by simp) _).drew) | exact HKd.out _ (hB1) | exact HKd.out _ (hB1.alloc hB1.size _) | exact HKd.out _ (hB2) | exact HKd.out _ (hB3))
          ((first
            | (refine step_cat _ (by rfl) (.tmp 22) (.tmp 25) 24 (by rfl) v1.heap.size 42 i0 _ 3 24 Try.underlying24 hi hz0 hz1 hz2 rfl (by omega) (.slice (some ⟨v1.heap.size, 0, none⟩) 0 0) 0 [] (by rfl) (own_empty (heap_alloc_new v1 _) (Nat.le_refl _)) (some ⟨bf, offf, none⟩) (k) (c) (v1.heap.size) ((L.take k).flatMap markC) (by rfl) (HTK.out _ (((Below.refl _ _).alloc (Nat.le_refl _) _).drew)) HTO.out (by unfold maxLen; omega) (by omega) (by first | omega | (simp; done) | (simp; omega)) (k) (by omega) ?_; intro A2 c2 w1 ho1 hg1; have hB1 : Below v1.heap.size v1 w1 := below_grown (((Below.refl _ _).alloc (Nat.le_refl _) _).drew) hg1 (Nat.le_refl _) (fun k hk => by have h3 : v1.heap.size = k := Option.some.inj hk; omega); have hs1 := hB1.size; simp only [List.nil_append] at ho1)
            | (refine step_cat _ (by rfl) (.tmp 22) (.tmp 25) 24 (by rfl) v1.heap.size 42 i0 _ 3 24 Try.underlying24 hi hz0 hz1 hz2 rfl (by omega) (.slice (some ⟨v1.heap.size, 0, none⟩) 0 0) 0 [] (by rfl) (own_empty (heap_at1 v1 _ _) (Nat.le_refl _)) (some ⟨bf, offf, none⟩) (k) (c) (v1.heap.size) ((L.take k).flatMap markC) (by rfl) (HTK.out _ ((((Below.refl _ _).alloc (Nat.le_refl _) _).alloc (by simp) _).drew)) HTO.out (by unfold maxLen; omega) (by omega) (by first | omega | (simp; done) | (simp; omega)) (k) (by omega) ?_; intro A2 c2 w1 ho1 hg1; have hB1 : Below v1.heap.size v1 w1 := below_grown ((((Below.refl _ _).alloc (Nat.le_refl _) _).alloc (by simp) _).drew) hg1 (Nat.le_refl _) (fun k hk => by have h3 : v1.heap.size = k := Option.some.inj hk; omega); have hs1 := hB1.size; simp only [List.nil_append] at ho1; have hy1 : w1.heap[v1.heap.size + 1]? = some (.cells #[.int .i64 y0, .int .i64 y1, .int .i64 y2] 42) := (hg1.block _ (by simp <;> omega) (fun e => by have h3 : v1.heap.size + 1 = v1.heap.size := Option.some.inj e; omega)).trans (heap_alloc2_new v1 _ _))
            | (refine step_cat _ (by rfl) (.tmp 22) (.tmp 25) 24 (by rfl) v1.heap.size 42 i0 _ 3 24 Try.underlying24 hi hz0 hz1 hz2 rfl (by omega) (.slice (some ⟨v1.heap.size + 1, 0, none⟩) 0 0) 0 [] (by rfl) (own_empty (heap_alloc2_new v1 _ _) (Nat.le_succ _)) (some ⟨bf, offf, none⟩) (k) (c) (v1.heap.size) ((L.take k).flatMap markC) (by rfl) (HTK.out _ ((((Below.refl _ _).alloc (Nat.le_refl _) _).alloc (by simp) _).drew)) HTO.out (by unfold maxLen; omega) (by omega) (by first | omega | (simp; done) | (simp; omega)) (k) (by omega) ?_; intro A2 c2 w1 ho1 hg1; have hB1 : Below v1.heap.size v1 w1 := below_grown ((((Below.refl _ _).alloc (Nat.le_refl _) _).alloc (by simp) _).drew) hg1 (Nat.le_refl _) (fun k hk => by have h3 : v1.heap.size + 1 = k := Option.some.inj hk; omega); have hs1 := hB1.size; simp only [List.nil_append] at ho1; have hy1 : w1.heap[v1.heap.size]? = some (.cells #[.int .i64 y0, .int .i64 y1, .int .i64 y2] 42) := (hg1.block _ (by simp <;> omega) (fun e => by have h3 : v1.heap.size = v1.heap.size + 1 := Option.some.inj e; omega)).trans (heap_at1 v1 _ _))
            | (refine step_cat _ (by rfl) (.tmp 26) (.tmp 28) 24 (by rfl) v1.heap.size 42 i0 _ 3 24 Try.underlying24 hi hz0 hz1 hz2 rfl (by omega) (.slice A2 (k) c2) (k) ((L.take k).flatMap markC) (by rfl) (ho1.alloc _) (some ⟨w1.heap.size, 0, none⟩) 1 1 _ [.int .i64 y0, .int .i64 y1, .int .i64 y2] (by rfl) (Rd.of_block (heap_alloc_new w1 (.cells #[.int .i64 y0, .int .i64 y1, .int .i64 y2] 42))) (by simp [Value.oneCell']) (by unfold maxLen; omega) (by omega) (by first | omega | (simp; done) | (simp; omega)) (k + 1) (by omega) ?_; intro A3 c3 w2 ho2 hg2; have hB2 : Below v1.heap.size v1 w2 := below_grown (hB1.alloc hB1.size _) hg2 (Nat.le_refl _) (fun k hk => (World.ownsRow.lt ho1 k hk).1); have hs2 := hB2.size)
            | (refine step_cat _ (by rfl) (.tmp 26) (.tmp 28) 24 (by rfl) v1.heap.size 42 i0 _ 3 24 Try.underlying24 hi hz0 hz1 hz2 rfl (by omega) (.slice A2 (k) c2) (k) ((L.take k).flatMap markC) (by rfl) (ho1) (some ⟨v1.heap.size + 1, 0, none⟩) 1 1 _ [.int .i64 y0, .int .i64 y1, .int .i64 y2] (by rfl) (Rd.of_block (hy1)) (by simp [Value.oneCell']) (by unfold maxLen; omega) (by omega) (by first | omega | (simp; done) | (simp; omega)) (k + 1) (by omega) ?_; intro A3 c3 w2 ho2 hg2; have hB2 : Below v1.heap.size v1 w2 := below_grown (hB1) hg2 (Nat.le_refl _) (fun k hk => (World.ownsRow.lt ho1 k hk).1); have hs2 := hB2.size)
            | (refine step_cat _ (by rfl) (.tmp 26) (.tmp 28) 24 (by rfl) v1.heap.size 42 i0 _ 3 24 Try.underlying24 hi hz0 hz1 hz2 rfl (by omega) (.slice A2 (k) c2) (k) ((L.take k).flatMap markC) (by rfl) (ho1) (some ⟨v1.heap.size, 0, none⟩) 1 1 _ [.int .i64 y0, .int .i64 y1, .int .i64 y2] (by rfl) (Rd.of_block (hy1)) (by simp [Value.oneCell']) (by unfold maxLen; omega) (by omega) (by first | omega | (simp; done) | (simp; omega)) (k + 1) (by omega) ?_; intro A3 c3 w2 ho2 hg2; have hB2 : Below v1.heap.size v1 w2 := below_grown (hB1) hg2 (Nat.le_refl _) (fun k hk => (World.ownsRow.lt ho1 k hk).1); have hs2 := hB2.size)
            | (refine step_cat _ (by rfl) (.tmp 29) (.tmp 32) 24 (by rfl) v1.heap.size 42 i0 _ 3 24 Try.underlying24 hi hz0 hz1 hz2 rfl (by omega) (.slice A3 (k + 1) c3) (k + 1) ((L.take k).flatMap markC ++ [.int .i64 y0, .int .i64 y1, .int .i64 y2]) (by rfl) ho2 (some ⟨bf, offf + k * 3, none⟩) (L.length - k) (c - k) (v1.heap.size) ((L.drop k).flatMap markC) (by rfl) (HT3.out _ hB2) HT3O.out (by unfold maxLen; omega) (by omega) (by first | omega | (simp; done) | (simp; omega)) (L.length + 1) (by omega) ?_; intro A4 c4 w3 ho3 hg3; have hB3 : Below v1.heap.size v1 w3 := below_grown hB2 hg3 (Nat.le_refl _) (fun k hk => (World.ownsRow.lt ho2 k hk).1); have hs3 := hB3.size)))
        all_goals
          go_wp2
          go_ret
          have hI : insAt (idxBy (befS ⟨y0, y1, y2⟩) L) L ⟨y0, y1, y2⟩ = insAt k L ⟨y0, y1, y2⟩ := by rw [HIX.out]
          rw [hI]
          have e5 : (L.take k).flatMap markC ++ [.int .i64 y0, .int .i64 y1, .int .i64 y2] ++ (L.drop k).flatMap markC = (insAt k L ⟨y0, y1, y2⟩).flatMap markC := by simp [insAt, markC]
          rw [e5] at ho3
          exact rowPost1_mk (own_mono ho3 hBo.size) (bt hBo hB3)
    · have HIX : Hid (idxBy (befS ⟨y0, y1, y2⟩) L = k) := idxBy_eq hk HT.out (fun h => absurd h hlt)
      have hge : ¬ ((k : Int) < (L.length : Int)) := by omega
      go_wp2_with fail
      have khb0 := cell_regrown hb0
      refine wp_region_bel mixed (by kernel_rfl) ?_
      repeat (any_goals (first | go_big_quiet_step ((fail)) | quiet_step ((fail)) | (refine wpQuiet_step (fun K hK => ?_); go_simp; (split <;> first | (refine hK _ ?_; clear hK K) | (apply Exists.intro; refine ⟨fun _ => ?_, hK _ ?_⟩; ((fail)); clear hK K)))))
      all_goals (refine wpQuiet_nil ?_; intro w1 hw1)
      all_goals (clear khb0; replace hb0 := (hw1.cell (by (try simp only); omega)).trans hb0)
      have hBx1 := bt hBx hw1
      have hB1 := bt hB hw1
      clear hb0
      go_wp2_with fail
      rcases hA with ⟨hAn, hc0⟩ | ⟨b, off, hAs⟩
      · subst hAn
        subst hc0
        obtain rfl : k = 0 := by omega
        obtain rfl : L = [] := List.length_eq_zero_iff.1 (by omega)
        obtain ⟨v1, rfl⟩ : ∃ x, x = w1 := ⟨_, rfl⟩
        have hBo := hB1
        have hBxo := hBx1
        clear hB1 hBx1
        have HBX := Lib.hid (fun i => (hBxo.cell (p := ⟨w.heap.size, i, none⟩) (by have := HSW0.out; simp only; omega)).trans (cxW0_0 i))
        have hlx : w.heap.size < v1.heap.size := by have := HSW0.out; have := hBxo.size; omega
        have HTK : Hid (∀ W1 : World, Below v1.heap.size v1 W1 → Rd W1 v1.heap.size (none) (0 * 3) (([] : List Value))) := fun W1 h => Rd.nil_
        have HTO : Hid (∀ u ∈ ([] : List Value), u.oneCell' = true) := fun u hu => by simp at hu
        have HT3O : Hid (∀ u ∈ ([] : List Value), u.oneCell' = true) := fun u hu => by simp at hu
        have hwk : IntKind.i64.wrap (0 : Int) = (0 : Int) := IntWalk.i64_in _ (by omega)
        have HT3 : Hid (∀ W1 : World, Below v1.heap.size v1 W1 → Rd W1 v1.heap.size (none) ((0) * 3) (([] : List Value))) := fun W1 h => Rd.nil_
        have HKd : Hid (∀ W1 : World, Below v1.heap.size v1 W1 → (∀ i, W1.cell? ⟨w.heap.size, i, none⟩ = (#[.int .i64 y0, .int .i64 y1, .int .i64 y2] : Array Value)[i]?) ∧ Below v1.heap.size v1 W1) := fun W1 h => ⟨fun i => (h.cell (p := ⟨w.heap.size, i, none⟩) (by simp only; omega)).trans (HBX.out i), h⟩
        go_region_held3 (fun W1 => (∀ i, W1.cell? ⟨w.heap.size, i, none⟩ = (#[.int .i64 y0, .int .i64 y1, .int .i64 y2] : Array Value)[i]?) ∧ Below v1.heap.size v1 W1) (first | exact HKd.out _ ((Below.refl _ _).drew) | exact HKd.out _ (((Below.refl _ _).alloc (Nat.le_refl _) _).drew) | exact HKd.out _ ((((Below.refl _ _).alloc (Nat.le_refl _) _).alloc (by simp) _).drew) | exact HKd.out _ (hB1) | exact HKd.out _ (hB1.alloc hB1.size _) | exact HKd.out _ (hB2) | exact HKd.out _ (hB3))
          ((first
            | (refine step_cat _ (by rfl) (.tmp 22) (.tmp 25) 24 (by rfl) v1.heap.size 42 i0 _ 3 24 Try.underlying24 hi hz0 hz1 hz2 rfl (by omega) (.slice (some ⟨v1.heap.size, 0, none⟩) 0 0) 0 [] (by rfl) (own_empty (heap_alloc_new v1 _) (Nat.le_refl _)) (none) (0) (0) (v1.heap.size) (([] : List Value)) (by rfl) (HTK.out _ (((Below.refl _ _).alloc (Nat.le_refl _) _).drew)) HTO.out (by unfold maxLen; omega) (by omega) (by first | omega | (simp; done) | (simp; omega)) (0) (by omega) ?_; intro A2 c2 w1 ho1 hg1; have hB1 : Below v1.heap.size v1 w1 := below_grown (((Below.refl _ _).alloc (Nat.le_refl _) _).drew) hg1 (Nat.le_refl _) (fun k hk => by have h3 : v1.heap.size = k := Option.some.inj hk; omega); have hs1 := hB1.size; simp only [List.nil_append] at ho1)
            | (refine step_cat _ (by rfl) (.tmp 22) (.tmp 25) 24 (by rfl) v1.heap.size 42 i0 _ 3 24 Try.underlying24 hi hz0 hz1 hz2 rfl (by omega) (.slice (some ⟨v1.heap.size, 0, none⟩) 0 0) 0 [] (by rfl) (own_empty (heap_at1 v1 _ _) (Nat.le_refl _)) (none) (0) (0) (v1.heap.size) (([] : List Value)) (by rfl) (HTK.out _ ((((Below.refl _ _).alloc (Nat.le_refl _) _).alloc (by simp) _).drew)) HTO.out (by unfold maxLen; omega) (by omega) (by first | omega | (simp; done) | (simp; omega)) (0) (by omega) ?_; intro A2 c2 w1 ho1 hg1; have hB1 : Below v1.heap.size v1 w1 := below_grown ((((Below.refl _ _).alloc (Nat.le_refl _) _).alloc (by simp) _).drew) hg1 (Nat.le_refl _) (fun k hk => by have h3 : v1.heap.size = k := Option.some.inj hk; omega); have hs1 := hB1.size; simp only [List.nil_append] at ho1; have hy1 : w1.heap[v1.heap.size + 1]? = some (.cells #[.int .i64 y0, .int .i64 y1, .int .i64 y2] 42) := (hg1.block _ (by simp <;> omega) (fun e => by have h3 : v1.heap.size + 1 = v1.heap.size := Option.some.inj e; omega)).trans (heap_alloc2_new v1 _ _))
            | (refine step_cat _ (by rfl) (.tmp 22) (.tmp 25) 24 (by rfl) v1.heap.size 42 i0 _ 3 24 Try.underlying24 hi hz0 hz1 hz2 rfl (by omega) (.slice (some ⟨v1.heap.size + 1, 0, none⟩) 0 0) 0 [] (by rfl) (own_empty (heap_alloc2_new v1 _ _) (Nat.le_succ _)) (none) (0) (0) (v1.heap.size) (([] : List Value)) (by rfl) (HTK.out _ ((((Below.refl _ _).alloc (Nat.le_refl _) _).alloc (by simp) _).drew)) HTO.out (by unfold maxLen; omega) (by omega) (by first | omega | (simp; done) | (simp; omega)) (0) (by omega) ?_; intro A2 c2 w1 ho1 hg1; have hB1 : Below v1.heap.size v1 w1 := below_grown ((((Below.refl _ _).alloc (Nat.le_refl _) _).alloc (by simp) _).drew) hg1 (Nat.le_refl _) (fun k hk => by have h3 : v1.heap.size + 1 = k := Option.some.inj hk; omega); have hs1 := hB1.size; simp only [List.nil_append] at ho1; have hy1 : w1.heap[v1.heap.size]? = some (.cells #[.int .i64 y0, .int .i64 y1, .int .i64 y2] 42) := (hg1.block _ (by simp <;> omega) (fun e => by have h3 : v1.heap.size = v1.heap.size + 1 := Option.some.inj e; omega)).trans (heap_at1 v1 _ _))
            | (refine step_cat _ (by rfl) (.tmp 26) (.tmp 28) 24 (by rfl) v1.heap.size 42 i0 _ 3 24 Try.underlying24 hi hz0 hz1 hz2 rfl (by omega) (.slice A2 (0) c2) (0) (([] : List Value)) (by rfl) (ho1.alloc _) (some ⟨w1.heap.size, 0, none⟩) 1 1 _ [.int .i64 y0, .int .i64 y1, .int .i64 y2] (by rfl) (Rd.of_block (heap_alloc_new w1 (.cells #[.int .i64 y0, .int .i64 y1, .int .i64 y2] 42))) (by simp [Value.oneCell']) (by unfold maxLen; omega) (by omega) (by first | omega | (simp; done) | (simp; omega)) (1) (by omega) ?_; intro A3 c3 w2 ho2 hg2; have hB2 : Below v1.heap.size v1 w2 := below_grown (hB1.alloc hB1.size _) hg2 (Nat.le_refl _) (fun k hk => (World.ownsRow.lt ho1 k hk).1); have hs2 := hB2.size)
            | (refine step_cat _ (by rfl) (.tmp 26) (.tmp 28) 24 (by rfl) v1.heap.size 42 i0 _ 3 24 Try.underlying24 hi hz0 hz1 hz2 rfl (by omega) (.slice A2 (0) c2) (0) (([] : List Value)) (by rfl) (ho1) (some ⟨v1.heap.size + 1, 0, none⟩) 1 1 _ [.int .i64 y0, .int .i64 y1, .int .i64 y2] (by rfl) (Rd.of_block (hy1)) (by simp [Value.oneCell']) (by unfold maxLen; omega) (by omega) (by first | omega | (simp; done) | (simp; omega)) (1) (by omega) ?_; intro A3 c3 w2 ho2 hg2; have hB2 : Below v1.heap.size v1 w2 := below_grown (hB1) hg2 (Nat.le_refl _) (fun k hk => (World.ownsRow.lt ho1 k hk).1); have hs2 := hB2.size)
            | (refine step_cat _ (by rfl) (.tmp 26) (.tmp 28) 24 (by rfl) v1.heap.size 42 i0 _ 3 24 Try.underlying24 hi hz0 hz1 hz2 rfl (by omega) (.slice A2 (0) c2) (0) (([] : List Value)) (by rfl) (ho1) (some ⟨v1.heap.size, 0, none⟩) 1 1 _ [.int .i64 y0, .int .i64 y1, .int .i64 y2] (by rfl) (Rd.of_block (hy1)) (by simp [Value.oneCell']) (by unfold maxLen; omega) (by omega) (by first | omega | (simp; done) | (simp; omega)) (1) (by omega) ?_; intro A3 c3 w2 ho2 hg2; have hB2 : Below v1.heap.size v1 w2 := below_grown (hB1) hg2 (Nat.le_refl _) (fun k hk => (World.ownsRow.lt ho1 k hk).1); have hs2 := hB2.size)
            | (refine step_cat _ (by rfl) (.tmp 29) (.tmp 32) 24 (by rfl) v1.heap.size 42 i0 _ 3 24 Try.underlying24 hi hz0 hz1 hz2 rfl (by omega) (.slice A3 (1) c3) (1) (([] : List Value) ++ [.int .i64 y0, .int .i64 y1, .int .i64 y2]) (by rfl) ho2 (none) (0) (0) (v1.heap.size) (([] : List Value)) (by rfl) (HT3.out _ hB2) HT3O.out (by unfold maxLen; omega) (by omega) (by first | omega | (simp; done) | (simp; omega)) (1) (by omega) ?_; intro A4 c4 w3 ho3 hg3; have hB3 : Below v1.heap.size v1 w3 := below_grown hB2 hg3 (Nat.le_refl _) (fun k hk => (World.ownsRow.lt ho2 k hk).1); have hs3 := hB3.size)))
        all_goals
          go_wp2
          go_ret
          have hI : insAt (idxBy (befS ⟨y0, y1, y2⟩) ([] : List MarkD)) ([] : List MarkD) ⟨y0, y1, y2⟩ = insAt 0 ([] : List MarkD) ⟨y0, y1, y2⟩ := by rw [HIX.out]
          rw [hI]
          have e5 : ([] : List Value) ++ [.int .i64 y0, .int .i64 y1, .int .i64 y2] ++ ([] : List Value) = (insAt 0 ([] : List MarkD) ⟨y0, y1, y2⟩).flatMap markC := by simp [insAt, markC]
          rw [e5] at ho3
          exact rowPost1_mk (own_mono ho3 hBo.size) (bt hBo hB3)
      · subst hAs
        by_cases hck : c = k
        · have hck2 := hck.symm
          clear hck
          subst hck2
          have hkI : (k : Int) ≤ (L.length : Int) := by omega
          have HD0 : Hid (L.drop k = []) := List.drop_of_length_le (by omega)
          obtain ⟨v1, rfl⟩ : ∃ x, x = w1 := ⟨_, rfl⟩
          have hBo := hB1
          have hBxo := hBx1
          clear hB1 hBx1
          have HBX := Lib.hid (fun i => (hBxo.cell (p := ⟨w.heap.size, i, none⟩) (by have := HSW0.out; simp only; omega)).trans (cxW0_0 i))
          have hlx : w.heap.size < v1.heap.size := by have := HSW0.out; have := hBxo.size; omega
          have HTK : Hid (∀ W1 : World, Below v1.heap.size v1 W1 → Rd W1 v1.heap.size (some ⟨b, off, none⟩) (k * 3) ((L.take k).flatMap markC)) := fun W1 h => (Rd.take_ (f := markC) (m := 3) (L := L) (fun _ => rfl) (rdW hBo hr) hk).below h
          have HTO : Hid (∀ u ∈ (L.take k).flatMap markC, u.oneCell' = true) := one_mark (L.take k)
          have HT3O : Hid (∀ u ∈ (L.drop k).flatMap markC, u.oneCell' = true) := one_mark (L.drop k)
          have hwk : IntKind.i64.wrap (k : Int) = (k : Int) := IntWalk.i64_in _ (by omega)
          have HT3 : Hid (∀ W1 : World, Below v1.heap.size v1 W1 → Rd W1 v1.heap.size (some ⟨b, off, none⟩) ((0) * 3) ((L.drop k).flatMap markC)) := fun W1 h => (by rw [HD0.out]; simpa using (Rd.nil_ : Rd W1 v1.heap.size (some ⟨b, off, none⟩) 0 []))
          have HKd : Hid (∀ W1 : World, Below v1.heap.size v1 W1 → (∀ i, W1.cell? ⟨w.heap.size, i, none⟩ = (#[.int .i64 y0, .int .i64 y1, .int .i64 y2] : Array Value)[i]?) ∧ Below v1.heap.size v1 W1) := fun W1 h => ⟨fun i => (h.cell (p := ⟨w.heap.size, i, none⟩) (by simp only; omega)).trans (HBX.out i), h⟩
          go_region_held3 (fun W1 => (∀ i, W1.cell? ⟨w.heap.size, i, none⟩ = (#[.int .i64 y0, .int .i64 y1, .int .i64 y2] : Array Value)[i]?) ∧ Below v1.heap.size v1 W1) (first | exact HKd.out _ ((Below.refl _ _).drew) | exact HKd.out _ (((Below.refl _ _).alloc (Nat.le_refl _) _).drew) | exact HKd.out _ ((((Below.refl _ _).alloc (Nat.le_refl _) _).alloc (by simp) _).drew) | exact HKd.out _ (hB1) | exact HKd.out _ (hB1.alloc hB1.size _) | exact HKd.out _ (hB2) | exact HKd.out _ (hB3))
            ((first
              | (refine step_cat _ (by rfl) (.tmp 22) (.tmp 25) 24 (by rfl) v1.heap.size 42 i0 _ 3 24 Try.underlying24 hi hz0 hz1 hz2 rfl (by omega) (.slice (some ⟨v1.heap.size, 0, none⟩) 0 0) 0 [] (by rfl) (own_empty (heap_alloc_new v1 _) (Nat.le_refl _)) (some ⟨b, off, none⟩) (k) (k) (v1.heap.size) ((L.take k).flatMap markC) (by rfl) (HTK.out _ (((Below.refl _ _).alloc (Nat.le_refl _) _).drew)) HTO.out (by unfold maxLen; omega) (by omega) (by first | omega | (simp; done) | (simp; omega)) (k) (by omega) ?_; intro A2 c2 w1 ho1 hg1; have hB1 : Below v1.heap.size v1 w1 := below_grown (((Below.refl _ _).alloc (Nat.le_refl _) _).drew) hg1 (Nat.le_refl _) (fun k hk => by have h3 : v1.heap.size = k := Option.some.inj hk; omega); have hs1 := hB1.size; simp only [List.nil_append] at ho1)
              | (refine step_cat _ (by rfl) (.tmp 22) (.tmp 25) 24 (by rfl) v1.heap.size 42 i0 _ 3 24 Try.underlying24 hi hz0 hz1 hz2 rfl (by omega) (.slice (some ⟨v1.heap.size, 0, none⟩) 0 0) 0 [] (by rfl) (own_empty (heap_at1 v1 _ _) (Nat.le_refl _)) (some ⟨b, off, none⟩) (k) (k) (v1.heap.size) ((L.take k).flatMap markC) (by rfl) (HTK.out _ ((((Below.refl _ _).alloc (Nat.le_refl _) _).alloc (by simp) _).drew)) HTO.out (by unfold maxLen; omega) (by omega) (by first | omega | (simp; done) | (simp; omega)) (k) (by omega) ?_; intro A2 c2 w1 ho1 hg1; have hB1 : Below v1.heap.size v1 w1 := below_grown ((((Below.refl _ _).alloc (Nat.le_refl _) _).alloc (by simp) _).drew) hg1 (Nat.le_refl _) (fun k hk => by have h3 : v1.heap.size = k := Option.some.inj hk; omega); have hs1 := hB1.size; simp only [List.nil_append] at ho1; have hy1 : w1.heap[v1.heap.size + 1]? = some (.cells #[.int .i64 y0, .int .i64 y1, .int .i64 y2] 42) := (hg1.block _ (by simp <;> omega) (fun e => by have h3 : v1.heap.size + 1 = v1.heap.size := Option.some.inj e; omega)).trans (heap_alloc2_new v1 _ _))
              | (refine step_cat _ (by rfl) (.tmp 22) (.tmp 25) 24 (by rfl) v1.heap.size 42 i0 _ 3 24 Try.underlying24 hi hz0 hz1 hz2 rfl (by omega) (.slice (some ⟨v1.heap.size + 1, 0, none⟩) 0 0) 0 [] (by rfl) (own_empty (heap_alloc2_new v1 _ _) (Nat.le_succ _)) (some ⟨b, off, none⟩) (k) (k) (v1.heap.size) ((L.take k).flatMap markC) (by rfl) (HTK.out _ ((((Below.refl _ _).alloc (Nat.le_refl _) _).alloc (by simp) _).drew)) HTO.out (by unfold maxLen; omega) (by omega) (by first | omega | (simp; done) | (simp; omega)) (k) (by omega) ?_; intro A2 c2 w1 ho1 hg1; have hB1 : Below v1.heap.size v1 w1 := below_grown ((((Below.refl _ _).alloc (Nat.le_refl _) _).alloc (by simp) _).drew) hg1 (Nat.le_refl _) (fun k hk => by have h3 : v1.heap.size + 1 = k := Option.some.inj hk; omega); have hs1 := hB1.size; simp only [List.nil_append] at ho1; have hy1 : w1.heap[v1.heap.size]? = some (.cells #[.int .i64 y0, .int .i64 y1, .int .i64 y2] 42) := (hg1.block _ (by simp <;> omega) (fun e => by have h3 : v1.heap.size = v1.heap.size + 1 := Option.some.inj e; omega)).trans (heap_at1 v1 _ _))
              | (refine step_cat _ (by rfl) (.tmp 26) (.tmp 28) 24 (by rfl) v1.heap.size 42 i0 _ 3 24 Try.underlying24 hi hz0 hz1 hz2 rfl (by omega) (.slice A2 (k) c2) (k) ((L.take k).flatMap markC) (by rfl) (ho1.alloc _) (some ⟨w1.heap.size, 0, none⟩) 1 1 _ [.int .i64 y0, .int .i64 y1, .int .i64 y2] (by rfl) (Rd.of_block (heap_alloc_new w1 (.cells #[.int .i64 y0, .int .i64 y1, .int .i64 y2] 42))) (by simp [Value.oneCell']) (by unfold maxLen; omega) (by omega) (by first | omega | (simp; done) | (simp; omega)) (k + 1) (by omega) ?_; intro A3 c3 w2 ho2 hg2; have hB2 : Below v1.heap.size v1 w2 := below_grown (hB1.alloc hB1.size _) hg2 (Nat.le_refl _) (fun k hk => (World.ownsRow.lt ho1 k hk).1); have hs2 := hB2.size)
              | (refine step_cat _ (by rfl) (.tmp 26) (.tmp 28) 24 (by rfl) v1.heap.size 42 i0 _ 3 24 Try.underlying24 hi hz0 hz1 hz2 rfl (by omega) (.slice A2 (k) c2) (k) ((L.take k).flatMap markC) (by rfl) (ho1) (some ⟨v1.heap.size + 1, 0, none⟩) 1 1 _ [.int .i64 y0, .int .i64 y1, .int .i64 y2] (by rfl) (Rd.of_block (hy1)) (by simp [Value.oneCell']) (by unfold maxLen; omega) (by omega) (by first | omega | (simp; done) | (simp; omega)) (k + 1) (by omega) ?_; intro A3 c3 w2 ho2 hg2; have hB2 : Below v1.heap.size v1 w2 := below_grown (hB1) hg2 (Nat.le_refl _) (fun k hk => (World.ownsRow.lt ho1 k hk).1); have hs2 := hB2.size)
              | (refine step_cat _ (by rfl) (.tmp 26) (.tmp 28) 24 (by rfl) v1.heap.size 42 i0 _ 3 24 Try.underlying24 hi hz0 hz1 hz2 rfl (by omega) (.slice A2 (k) c2) (k) ((L.take k).flatMap markC) (by rfl) (ho1) (some ⟨v1.heap.size, 0, none⟩) 1 1 _ [.int .i64 y0, .int .i64 y1, .int .i64 y2] (by rfl) (Rd.of_block (hy1)) (by simp [Value.oneCell']) (by unfold maxLen; omega) (by omega) (by first | omega | (simp; done) | (simp; omega)) (k + 1) (by omega) ?_; intro A3 c3 w2 ho2 hg2; have hB2 : Below v1.heap.size v1 w2 := below_grown (hB1) hg2 (Nat.le_refl _) (fun k hk => (World.ownsRow.lt ho1 k hk).1); have hs2 := hB2.size)
              | (refine step_cat _ (by rfl) (.tmp 29) (.tmp 32) 24 (by rfl) v1.heap.size 42 i0 _ 3 24 Try.underlying24 hi hz0 hz1 hz2 rfl (by omega) (.slice A3 (k + 1) c3) (k + 1) ((L.take k).flatMap markC ++ [.int .i64 y0, .int .i64 y1, .int .i64 y2]) (by rfl) ho2 (some ⟨b, off, none⟩) (0) (0) (v1.heap.size) ((L.drop k).flatMap markC) (by rfl) (HT3.out _ hB2) HT3O.out (by unfold maxLen; omega) (by omega) (by first | omega | (simp; done) | (simp; omega)) (L.length + 1) (by omega) ?_; intro A4 c4 w3 ho3 hg3; have hB3 : Below v1.heap.size v1 w3 := below_grown hB2 hg3 (Nat.le_refl _) (fun k hk => (World.ownsRow.lt ho2 k hk).1); have hs3 := hB3.size)))
          all_goals
            go_wp2
            go_ret
            have hI : insAt (idxBy (befS ⟨y0, y1, y2⟩) L) L ⟨y0, y1, y2⟩ = insAt k L ⟨y0, y1, y2⟩ := by rw [HIX.out]
            rw [hI]
            have e5 : (L.take k).flatMap markC ++ [.int .i64 y0, .int .i64 y1, .int .i64 y2] ++ (L.drop k).flatMap markC = (insAt k L ⟨y0, y1, y2⟩).flatMap markC := by simp [insAt, markC]
            rw [e5] at ho3
            exact rowPost1_mk (own_mono ho3 hBo.size) (bt hBo hB3)
        · have hkI : (k : Int) ≤ (L.length : Int) := by omega
          have hkc : (k : Int) ≤ (c : Int) := by omega
          have HD0 : Hid (L.drop k = []) := List.drop_of_length_le (by omega)
          obtain ⟨v1, rfl⟩ : ∃ x, x = w1 := ⟨_, rfl⟩
          have hBo := hB1
          have hBxo := hBx1
          clear hB1 hBx1
          have HBX := Lib.hid (fun i => (hBxo.cell (p := ⟨w.heap.size, i, none⟩) (by have := HSW0.out; simp only; omega)).trans (cxW0_0 i))
          have hlx : w.heap.size < v1.heap.size := by have := HSW0.out; have := hBxo.size; omega
          have HTK : Hid (∀ W1 : World, Below v1.heap.size v1 W1 → Rd W1 v1.heap.size (some ⟨b, off, none⟩) (k * 3) ((L.take k).flatMap markC)) := fun W1 h => (Rd.take_ (f := markC) (m := 3) (L := L) (fun _ => rfl) (rdW hBo hr) hk).below h
          have HTO : Hid (∀ u ∈ (L.take k).flatMap markC, u.oneCell' = true) := one_mark (L.take k)
          have HT3O : Hid (∀ u ∈ (L.drop k).flatMap markC, u.oneCell' = true) := one_mark (L.drop k)
          have hwk : IntKind.i64.wrap (k : Int) = (k : Int) := IntWalk.i64_in _ (by omega)
          have HT3 : Hid (∀ W1 : World, Below v1.heap.size v1 W1 → Rd W1 v1.heap.size (some ⟨b, off + k * 3, none⟩) ((L.length - k) * 3) ((L.drop k).flatMap markC)) := fun W1 h => (by rw [show L.length - k = 0 from by omega, HD0.out]; simpa using (Rd.nil_ : Rd W1 v1.heap.size (some ⟨b, off + k * 3, none⟩) 0 []))
          have HKd : Hid (∀ W1 : World, Below v1.heap.size v1 W1 → (∀ i, W1.cell? ⟨w.heap.size, i, none⟩ = (#[.int .i64 y0, .int .i64 y1, .int .i64 y2] : Array Value)[i]?) ∧ Below v1.heap.size v1 W1) := fun W1 h => ⟨fun i => (h.cell (p := ⟨w.heap.size, i, none⟩) (by simp only; omega)).trans (HBX.out i), h⟩
          go_region_held3 (fun W1 => (∀ i, W1.cell? ⟨w.heap.size, i, none⟩ = (#[.int .i64 y0, .int .i64 y1, .int .i64 y2] : Array Value)[i]?) ∧ Below v1.heap.size v1 W1) (first | exact HKd.out _ ((Below.refl _ _).drew) | exact HKd.out _ (((Below.refl _ _).alloc (Nat.le_refl _) _).drew) | exact HKd.out _ ((((Below.refl _ _).alloc (Nat.le_refl _) _).alloc (by simp) _).drew) | exact HKd.out _ (hB1) | exact HKd.out _ (hB1.alloc hB1.size _) | exact HKd.out _ (hB2) | exact HKd.out _ (hB3))
            ((first
              | (refine step_cat _ (by rfl) (.tmp 22) (.tmp 25) 24 (by rfl) v1.heap.size 42 i0 _ 3 24 Try.underlying24 hi hz0 hz1 hz2 rfl (by omega) (.slice (some ⟨v1.heap.size, 0, none⟩) 0 0) 0 [] (by rfl) (own_empty (heap_alloc_new v1 _) (Nat.le_refl _)) (some ⟨b, off, none⟩) (k) (c) (v1.heap.size) ((L.take k).flatMap markC) (by rfl) (HTK.out _ (((Below.refl _ _).alloc (Nat.le_refl _) _).drew)) HTO.out (by unfold maxLen; omega) (by omega) (by first | omega | (simp; done) | (simp; omega)) (k) (by omega) ?_; intro A2 c2 w1 ho1 hg1; have hB1 : Below v1.heap.size v1 w1 := below_grown (((Below.refl _ _).alloc (Nat.le_refl _) _).drew) hg1 (Nat.le_refl _) (fun k hk => by have h3 : v1.heap.size = k := Option.some.inj hk; omega); have hs1 := hB1.size; simp only [List.nil_append] at ho1)
              | (refine step_cat _ (by rfl) (.tmp 22) (.tmp 25) 24 (by rfl) v1.heap.size 42 i0 _ 3 24 Try.underlying24 hi hz0 hz1 hz2 rfl (by omega) (.slice (some ⟨v1.heap.size, 0, none⟩) 0 0) 0 [] (by rfl) (own_empty (heap_at1 v1 _ _) (Nat.le_refl _)) (some ⟨b, off, none⟩) (k) (c) (v1.heap.size) ((L.take k).flatMap markC) (by rfl) (HTK.out _ ((((Below.refl _ _).alloc (Nat.le_refl _) _).alloc (by simp) _).drew)) HTO.out (by unfold maxLen; omega) (by omega) (by first | omega | (simp; done) | (simp; omega)) (k) (by omega) ?_; intro A2 c2 w1 ho1 hg1; have hB1 : Below v1.heap.size v1 w1 := below_grown ((((Below.refl _ _).alloc (Nat.le_refl _) _).alloc (by simp) _).drew) hg1 (Nat.le_refl _) (fun k hk => by have h3 : v1.heap.size = k := Option.some.inj hk; omega); have hs1 := hB1.size; simp only [List.nil_append] at ho1; have hy1 : w1.heap[v1.heap.size + 1]? = some (.cells #[.int .i64 y0, .int .i64 y1, .int .i64 y2] 42) := (hg1.block _ (by simp <;> omega) (fun e => by have h3 : v1.heap.size + 1 = v1.heap.size := Option.some.inj e; omega)).trans (heap_alloc2_new v1 _ _))
              | (refine step_cat _ (by rfl) (.tmp 22) (.tmp 25) 24 (by rfl) v1.heap.size 42 i0 _ 3 24 Try.underlying24 hi hz0 hz1 hz2 rfl (by omega) (.slice (some ⟨v1.heap.size + 1, 0, none⟩) 0 0) 0 [] (by rfl) (own_empty (heap_alloc2_new v1 _ _) (Nat.le_succ _)) (some ⟨b, off, none⟩) (k) (c) (v1.heap.size) ((L.take k).flatMap markC) (by rfl) (HTK.out _ ((((Below.refl _ _).alloc (Nat.le_refl _) _).alloc (by simp) _).drew)) HTO.out (by unfold maxLen; omega) (by omega) (by first | omega | (simp; done) | (simp; omega)) (k) (by omega) ?_; intro A2 c2 w1 ho1 hg1; have hB1 : Below v1.heap.size v1 w1 := below_grown ((((Below.refl _ _).alloc (Nat.le_refl _) _).alloc (by simp) _).drew) hg1 (Nat.le_refl _) (fun k hk => by have h3 : v1.heap.size + 1 = k := Option.some.inj hk; omega); have hs1 := hB1.size; simp only [List.nil_append] at ho1; have hy1 : w1.heap[v1.heap.size]? = some (.cells #[.int .i64 y0, .int .i64 y1, .int .i64 y2] 42) := (hg1.block _ (by simp <;> omega) (fun e => by have h3 : v1.heap.size = v1.heap.size + 1 := Option.some.inj e; omega)).trans (heap_at1 v1 _ _))
              | (refine step_cat _ (by rfl) (.tmp 26) (.tmp 28) 24 (by rfl) v1.heap.size 42 i0 _ 3 24 Try.underlying24 hi hz0 hz1 hz2 rfl (by omega) (.slice A2 (k) c2) (k) ((L.take k).flatMap markC) (by rfl) (ho1.alloc _) (some ⟨w1.heap.size, 0, none⟩) 1 1 _ [.int .i64 y0, .int .i64 y1, .int .i64 y2] (by rfl) (Rd.of_block (heap_alloc_new w1 (.cells #[.int .i64 y0, .int .i64 y1, .int .i64 y2] 42))) (by simp [Value.oneCell']) (by unfold maxLen; omega) (by omega) (by first | omega | (simp; done) | (simp; omega)) (k + 1) (by omega) ?_; intro A3 c3 w2 ho2 hg2; have hB2 : Below v1.heap.size v1 w2 := below_grown (hB1.alloc hB1.size _) hg2 (Nat.le_refl _) (fun k hk => (World.ownsRow.lt ho1 k hk).1); have hs2 := hB2.size)
              | (refine step_cat _ (by rfl) (.tmp 26) (.tmp 28) 24 (by rfl) v1.heap.size 42 i0 _ 3 24 Try.underlying24 hi hz0 hz1 hz2 rfl (by omega) (.slice A2 (k) c2) (k) ((L.take k).flatMap markC) (by rfl) (ho1) (some ⟨v1.heap.size + 1, 0, none⟩) 1 1 _ [.int .i64 y0, .int .i64 y1, .int .i64 y2] (by rfl) (Rd.of_block (hy1)) (by simp [Value.oneCell']) (by unfold maxLen; omega) (by omega) (by first | omega | (simp; done) | (simp; omega)) (k + 1) (by omega) ?_; intro A3 c3 w2 ho2 hg2; have hB2 : Below v1.heap.size v1 w2 := below_grown (hB1) hg2 (Nat.le_refl _) (fun k hk => (World.ownsRow.lt ho1 k hk).1); have hs2 := hB2.size)
              | (refine step_cat _ (by rfl) (.tmp 26) (.tmp 28) 24 (by rfl) v1.heap.size 42 i0 _ 3 24 Try.underlying24 hi hz0 hz1 hz2 rfl (by omega) (.slice A2 (k) c2) (k) ((L.take k).flatMap markC) (by rfl) (ho1) (some ⟨v1.heap.size, 0, none⟩) 1 1 _ [.int .i64 y0, .int .i64 y1, .int .i64 y2] (by rfl) (Rd.of_block (hy1)) (by simp [Value.oneCell']) (by unfold maxLen; omega) (by omega) (by first | omega | (simp; done) | (simp; omega)) (k + 1) (by omega) ?_; intro A3 c3 w2 ho2 hg2; have hB2 : Below v1.heap.size v1 w2 := below_grown (hB1) hg2 (Nat.le_refl _) (fun k hk => (World.ownsRow.lt ho1 k hk).1); have hs2 := hB2.size)
              | (refine step_cat _ (by rfl) (.tmp 29) (.tmp 32) 24 (by rfl) v1.heap.size 42 i0 _ 3 24 Try.underlying24 hi hz0 hz1 hz2 rfl (by omega) (.slice A3 (k + 1) c3) (k + 1) ((L.take k).flatMap markC ++ [.int .i64 y0, .int .i64 y1, .int .i64 y2]) (by rfl) ho2 (some ⟨b, off + k * 3, none⟩) (L.length - k) (c - k) (v1.heap.size) ((L.drop k).flatMap markC) (by rfl) (HT3.out _ hB2) HT3O.out (by unfold maxLen; omega) (by omega) (by first | omega | (simp; done) | (simp; omega)) (L.length + 1) (by omega) ?_; intro A4 c4 w3 ho3 hg3; have hB3 : Below v1.heap.size v1 w3 := below_grown hB2 hg3 (Nat.le_refl _) (fun k hk => (World.ownsRow.lt ho2 k hk).1); have hs3 := hB3.size)))
          all_goals
            go_wp2
            go_ret
            have hI : insAt (idxBy (befS ⟨y0, y1, y2⟩) L) L ⟨y0, y1, y2⟩ = insAt k L ⟨y0, y1, y2⟩ := by rw [HIX.out]
            rw [hI]
            have e5 : (L.take k).flatMap markC ++ [.int .i64 y0, .int .i64 y1, .int .i64 y2] ++ (L.drop k).flatMap markC = (insAt k L ⟨y0, y1, y2⟩).flatMap markC := by simp [insAt, markC]
            rw [e5] at ho3
            exact rowPost1_mk (own_mono ho3 hBo.size) (bt hBo hB3)

end Go.Proofs.Ytgckkocndhfbnaa
