/- Contracts: put, l32Insert; AddMark of both texts. -/
import Derived.Test.YtgckkocndhfbnaaIns
namespace Go.Proofs.Ytgckkocndhfbnaa
open Go.RowKit
set_option linter.unusedVariables false
set_option maxHeartbeats 1000000 in
theorem cloneMark_x (A : Option Addr) (c : Nat) (L : List MarkD) (w : World) (hr : Rd w w.heap.size A (L.length * 3) (L.flatMap markC)) (hl : L.length * 24 ≤ 140737488355328) :
    Calls Try.prog 65 #[.slice A L.length c] w fun e w' => ∃ g, e = .returned (.slice (some ⟨g, 0, none⟩) L.length L.length) ∧ w'.ownsRow w.heap.size 42 3 (.slice (some ⟨g, 0, none⟩) L.length L.length) L.length (L.flatMap markC) ∧ Below w.heap.size w w' := by
  obtain ⟨i0, hi, hz0, hz1, hz2⟩ := info_parts mark_info
  have HO := Lib.hid (one_flat (fun a u hu => by simp only [markC, List.mem_cons, List.not_mem_nil, or_false] at hu; rcases hu with rfl | rfl | rfl <;> rfl) L : ∀ u ∈ L.flatMap markC, u.oneCell' = true)
  go_enter Try.func65, Try.ntmps65
  go_wp2_with (first | (at_make; refine wpList_make_own _ rfl _ _ 24 rfl w.heap.size 42 i0 _ 3 Try.underlying24 hi hz0 hz1 _ _ _ L.length rfl rfl rfl (by rw [hz2]; omega) (by unfold maxLen; omega) (Nat.le_refl _) ?_; intro w1 hown1 hgrow1; have hb1 : Below w.heap.size w w1 := (Below.refl _ _).grown hgrow1 (Nat.le_refl _) (fun k hk => by cases hk); have HR := Lib.hid (hr.below hb1 : Rd w1 w.heap.size A (L.length * 3) (L.flatMap markC)); clear hgrow1) | (at_builtin; refine wpList_fitsR w1 rfl _ _ 24 rfl w.heap.size 42 i0 3 Try.underlying24 hi hz1 (by decide) w.heap.size 0 L.length [] (by rfl) hown1 A L.length c w.heap.size (L.flatMap markC) (by rfl) HR.out HO.out (by omega) ?_; intro w2 hown2 hgrow2))
  have hb2 : Below w.heap.size w w2 := below_grown hb1 hgrow2 (Nat.le_refl _) (fun g hg => by cases hg; exact Nat.le_refl _)
  simp only [Nat.zero_add, List.nil_append] at hown2
  clear hgrow2 hown1
  go_wp2
  go_ret
  exact ⟨_, rfl, hown2, hb2⟩

/-! ### Plain: an element put at its place -/
def idxBy (f : MarkD → Bool) (L : List MarkD) : Nat := (L.takeWhile f).length
theorem idxBy_le (f : MarkD → Bool) (L : List MarkD) : idxBy f L ≤ L.length := by
  induction L with
  | nil => simp [idxBy]
  | cons a L ih => by_cases h : f a = true <;> simp_all [idxBy]
theorem idxBy_eq {f : MarkD → Bool} : ∀ {L : List MarkD} {k : Nat}, k ≤ L.length → (∀ j (hj : j < L.length), j < k → f L[j] = true) → (∀ hk : k < L.length, f L[k] = false) → idxBy f L = k
  | [], k, hk, _, _ => by simp at hk; subst hk; rfl
  | a :: L, 0, _, _, E => by have := E (by simp); simp at this; simp [idxBy, this]
  | a :: L, k + 1, hk, T, E => by
    have h0 : f a = true := T 0 (by simp) (by omega)
    have ih := idxBy_eq (f := f) (L := L) (k := k) (by simpa using hk) (fun j hj hlt => by have := T (j + 1) (by simp; omega) (by omega); simpa using this) (fun h => by have := E (by simp; omega); simpa using this)
    unfold idxBy at ih ⊢
    rw [List.takeWhile_cons, h0]
    simp [ih]
def insAt (i : Nat) (L : List MarkD) (m : MarkD) : List MarkD := L.take i ++ m :: L.drop i
theorem insAt_len {i : Nat} {L : List MarkD} (h : i ≤ L.length) (m : MarkD) : (insAt i L m).length = L.length + 1 := by simp [insAt]; omega
theorem flat_take : ∀ (L : List MarkD) (k : Nat), (L.take k).flatMap markC = (L.flatMap markC).take (k * 3)
  | [], k => by simp
  | a :: L, 0 => by simp
  | a :: L, k + 1 => by
    rw [List.take_succ_cons, List.flatMap_cons, List.flatMap_cons, flat_take L k, show (k + 1) * 3 = (markC a).length + k * 3 by show _ = 3 + k * 3; omega, List.take_length_add_append]
theorem flat_drop : ∀ (L : List MarkD) (k : Nat), (L.drop k).flatMap markC = (L.flatMap markC).drop (k * 3)
  | [], k => by simp
  | a :: L, 0 => by simp
  | a :: L, k + 1 => by
    rw [List.drop_succ_cons, List.flatMap_cons, flat_drop L k, show (k + 1) * 3 = (markC a).length + k * 3 by show _ = 3 + k * 3; omega, List.drop_length_add_append]
theorem insAt_flat (i : Nat) (L : List MarkD) (m : MarkD) : (insAt i L m).flatMap markC = (L.flatMap markC).take (i * 3) ++ (markC m ++ (L.flatMap markC).drop (i * 3)) := by
  rw [insAt, List.flatMap_append, List.flatMap_cons, flat_take, flat_drop]
def befI (m x : MarkD) : Bool := decide (x.from_ < m.from_)
def befS (m x : MarkD) : Bool := decide (x.from_ ≤ m.from_)
theorem one_mark (L : List MarkD) : ∀ u ∈ L.flatMap markC, u.oneCell' = true := one_flat (fun a u hu => by simp only [markC, List.mem_cons, List.not_mem_nil, or_false] at hu; rcases hu with rfl | rfl | rfl <;> rfl) L


set_option maxRecDepth 100000 in
set_option maxHeartbeats 8000000 in
theorem put_c (A : Option Addr) (c : Nat) (L : List MarkD) (y0 y1 y2 : Int) (w : World) (hr : Rd w w.heap.size A (L.length * 3) (L.flatMap markC)) (hl : L.length ≤ 1000000) (hcap : L.length ≤ c) :
    Calls Try.prog 58 #[.slice A L.length c, .agg #[.int .i64 y0, .int .i64 y1, .int .i64 y2]] w (RowPost1 42 3 (L.length + 1) ((insAt (idxBy (befI ⟨y0, y1, y2⟩) L) L ⟨y0, y1, y2⟩).flatMap markC) w) := by
  obtain ⟨i0, hi, hz0, hz1, hz2⟩ := info_parts mark_info
  go_enter Try.func58, Try.ntmps58
  go_wp2_with fail
  generalize hW0 : w.alloc _ = W0
  have hbW0 : Below w.heap.size w W0 := by subst hW0; exact (Below.refl _ _).alloc (Nat.le_refl _) _
  have hsW0 : W0.heap.size = w.heap.size + 1 := by subst hW0; simp
  have cxW0_0 : ∀ i, W0.cell? ⟨w.heap.size, i, none⟩ = (#[.int .i64 y0, .int .i64 y1, .int .i64 y2] : Array Value)[i]? := by intro i; subst hW0; simp [go_sem]
  have fzW0_0 : ∀ i, W0.frozen? ⟨w.heap.size, i, none⟩ = false := by intro i; subst hW0; simp [go_sem]
  have HSW0 := Lib.hid hsW0; clear hW0 hsW0
  have HSZ := Lib.hid hbW0.size
  go_wp2
  go_loopw [5] (fun i wr => ∃ k : Nat, k ≤ L.length ∧ i = .int .i64 k ∧ Below W0.heap.size W0 wr ∧ Hid (∀ j (hj : j < L.length), j < k → befI ⟨y0, y1, y2⟩ L[j] = true)) (fun i _ => L.length - (intOf i).toNat)
  case atStart => exact ⟨0, by omega, rfl, Below.refl _ _, fun j _ hj => absurd hj (by omega)⟩
  case round =>
    obtain ⟨k, hk, rfl, hBx, HT⟩ := hrel
    have hB := bt hbW0 hBx
    have hk0 : (0 : Int) ≤ (k : Int) := by omega
    have hb0 : wr.cell? ⟨w.heap.size, 0, none⟩ = some (.int .i64 y0) := (hBx.cell (p := ⟨w.heap.size, 0, none⟩) (by have := HSW0.out; simp only; omega)).trans (cxW0_0 0)
    have hlw : w.heap.size < wr.heap.size := by have := HSW0.out; have := hBx.size; omega
    by_cases hlt : k < L.length
    · obtain ⟨bf, offf, hAf, hbf, hcf⟩ := Rd.elem markC 3 (fun _ => rfl) (rdW hB hr) (by omega) hlt
      have f0 : wr.cell? ⟨bf, offf + k * 3, none⟩ = some (.int .i64 L[k].from_) := hcf k hlt 0 _ rfl
      clear hcf
      subst hAf
      have hk1 : (k : Int) < (L.length : Int) := by omega
      by_cases hf : L[k].from_ < y0
      · have HF := Lib.hid hf
        generalize hx0 : L[k].from_ = x0 at *
        have HFX := Lib.hid hx0
        clear hx0
        go_wp2_with fail
        have kf0 := cell_regrown f0
        have khb0 := cell_regrown hb0
        refine wp_region_bel mixed (by kernel_rfl) ?_
        repeat (any_goals (first | go_big_quiet_step ((fail)) | quiet_step ((fail)) | (refine wpQuiet_step (fun K hK => ?_); go_simp; (split <;> first | (refine hK _ ?_; clear hK K) | (apply Exists.intro; refine ⟨fun _ => ?_, hK _ ?_⟩; ((fail)); clear hK K)))))
        all_goals (refine wpQuiet_nil ?_; intro w1 hw1)
        all_goals (clear kf0 khb0; replace f0 := (hw1.cell (by (try simp only); omega)).trans f0; replace hb0 := (hw1.cell (by (try simp only); omega)).trans hb0)
        go_wp2
        go_roundw
        case rel => exact ⟨k + 1, by omega, by go_num, bt hBx hw1, fun j hj h => by
          by_cases e : j = k
          · subst e; exact decide_eq_true (by show L[j].from_ < y0; rw [HFX.out]; exact HF.out)
          · exact HT.out j hj (by omega)⟩
        case measure => simp [intOf]; omega
      · have HIX : Hid (idxBy (befI ⟨y0, y1, y2⟩) L = k) := idxBy_eq hk HT.out (fun h => decide_eq_false hf)
        have hf2 : ¬ L[k].from_ < y0 := hf
        clear hf
        generalize L[k].from_ = x0 at *
        go_wp2_with fail
        have kf0 := cell_regrown f0
        have khb0 := cell_regrown hb0
        refine wp_region_bel mixed (by kernel_rfl) ?_
        repeat (any_goals (first | go_big_quiet_step ((fail)) | quiet_step ((fail)) | (refine wpQuiet_step (fun K hK => ?_); go_simp; (split <;> first | (refine hK _ ?_; clear hK K) | (apply Exists.intro; refine ⟨fun _ => ?_, hK _ ?_⟩; ((fail)); clear hK K)))))
        all_goals (refine wpQuiet_nil ?_; intro w1 hw1)
        all_goals (clear kf0 khb0; replace f0 := (hw1.cell (by (try simp only); omega)).trans f0; replace hb0 := (hw1.cell (by (try simp only); omega)).trans hb0)
        have hBx1 := bt hBx hw1
        have hB1 := bt hB hw1
        clear f0 hb0
        go_wp2_with fail
        have HBX := Lib.hid (fun i => (hBx1.cell (p := ⟨w.heap.size, i, none⟩) (by have := HSW0.out; simp only; omega)).trans (cxW0_0 i))
        have hlx : w.heap.size < w1.heap.size := by have := HSW0.out; have := hBx1.size; omega
        have HTR : Hid (∀ W1 : World, Below w1.heap.size w1 W1 → Rd W1 W1.heap.size (some ⟨bf, offf, none⟩) (L.length * 3) (L.flatMap markC)) := fun W1 h => rdW h (rdW hB1 hr)
        have HON := Lib.hid (one_mark L)
        have HKL := Lib.hid hk
        have HKd : Hid (∀ W1 : World, Below w1.heap.size w1 W1 → (∀ i, W1.cell? ⟨w.heap.size, i, none⟩ = (#[.int .i64 y0, .int .i64 y1, .int .i64 y2] : Array Value)[i]?) ∧ Below w1.heap.size w1 W1) := fun W1 h => ⟨fun i => (h.cell (p := ⟨w.heap.size, i, none⟩) (by simp only; omega)).trans (HBX.out i), h⟩
        have KAL : Hid (∀ (W1 : World) (o : Obj), ((∀ i, W1.cell? ⟨w.heap.size, i, none⟩ = (#[.int .i64 y0, .int .i64 y1, .int .i64 y2] : Array Value)[i]?) ∧ Below w1.heap.size w1 W1) → ((∀ i, (W1.alloc o).cell? ⟨w.heap.size, i, none⟩ = (#[.int .i64 y0, .int .i64 y1, .int .i64 y2] : Array Value)[i]?) ∧ Below w1.heap.size w1 (W1.alloc o))) := fun W1 o h => HKd.out _ (h.2.alloc h.2.size o)
        have KBL : Hid (∀ (W1 W3 : World), Below W1.heap.size W1 W3 → Below w1.heap.size w1 W1 → ((∀ i, W3.cell? ⟨w.heap.size, i, none⟩ = (#[.int .i64 y0, .int .i64 y1, .int .i64 y2] : Array Value)[i]?) ∧ Below w1.heap.size w1 W3)) := fun W1 W3 h3 h => HKd.out _ (below_then h h3 (Nat.le_refl _))
        go_region_held3 (fun W1 => (∀ i, W1.cell? ⟨w.heap.size, i, none⟩ = (#[.int .i64 y0, .int .i64 y1, .int .i64 y2] : Array Value)[i]?) ∧ Below w1.heap.size w1 W1) (first | exact HKd.out _ ((Below.refl _ _).drew) | exact KAL.out _ _ (by assumption) | exact KBL.out _ _ (by assumption) (by assumption) | exact HKd.out _ hB4 | assumption)
          ((first
            | (go_at_call 65; go_split_ands; refine Calls.mono (cloneMark_x _ c L _ (HTR.out _ (by assumption)) (by omega)) ?_; rintro e w3 ⟨g, rfl, ho3, hb3⟩; have hs3 := hb3.size; have hgl := own_lt ho3; (try (have hle3 : w1.heap.size ≤ w3.heap.size := (by have h := hb3.size; simp at h; omega))); (try (have hgw3 : w1.heap.size ≤ g := (by have h := hgl.1; simp at h; omega))); (try (have hy3 : w3.heap[w1.heap.size]? = some (.cells #[.int .i64 y0, .int .i64 y1, .int .i64 y2] 42) := (hb3.block _ (by simp)).trans (heap_alloc_new w1.drew _))))
            | (go_at_call 74; go_split_ands; refine Calls.mono (insertMark_c g L.length k _ w1.heap.size (L.flatMap markC) [.int .i64 y0, .int .i64 y1, .int .i64 y2] _ ?_ HKL.out (by omega) rfl (by simp [Value.oneCell']) HON.out ?_ ?_) ?_; (first | exact own_mono ho3 (by first | exact Nat.le_refl _ | (simp; done) | (simp; omega)) | exact (own_mono ho3 (by first | exact Nat.le_refl _ | (simp; done) | (simp; omega))).alloc _); (first | exact heap_alloc_new _ _ | exact hy3); (first | exact hle3 | (simp; omega)); rintro e w4 ⟨A4, c4, rfl, ho4, hg4⟩; have hB4 : Below w1.heap.size w1 w4 := below_grown (by assumption) hg4 (Nat.le_refl _) (fun q hq => by have h3 : g = q := Option.some.inj hq; omega))))
        all_goals
          go_wp2
          go_ret
          have hI : insAt (idxBy (befI ⟨y0, y1, y2⟩) L) L ⟨y0, y1, y2⟩ = insAt k L ⟨y0, y1, y2⟩ := by rw [HIX.out]
          rw [hI, insAt_flat]
          exact rowPost1_mk (own_mono ho4 hB1.size) (bt hB1 hB4)
    · have HIX : Hid (idxBy (befI ⟨y0, y1, y2⟩) L = k) := idxBy_eq hk HT.out (fun h => absurd h hlt)
      have hge : ¬ ((k : Int) < (L.length : Int)) := by omega
      go_wp2_with fail
      have khb0 := cell_regrown hb0
      refine wp_region_bel mixed (by kernel_rfl) ?_
      repeat (any_goals (first | go_big_quiet_step ((fail)) | quiet_step ((fail)) | (refine wpQuiet_step (fun K hK => ?_); go_simp; (split <;> first | (refine hK _ ?_; clear hK K) | (apply Exists.intro; refine ⟨fun _ => ?_, hK _ ?_⟩; ((fail)); clear hK K)))))
      all_goals (refine wpQuiet_nil ?_; intro w1 hw1)
      all_goals (clear khb0; replace hb0 := (hw1.cell (by (try simp only); omega)).trans hb0)
      have hBx1 := bt hBx hw1
      have hB1 := bt hB hw1
      clear hb0
      go_wp2_with fail
      have HBX := Lib.hid (fun i => (hBx1.cell (p := ⟨w.heap.size, i, none⟩) (by have := HSW0.out; simp only; omega)).trans (cxW0_0 i))
      have hlx : w.heap.size < w1.heap.size := by have := HSW0.out; have := hBx1.size; omega
      have HTR : Hid (∀ W1 : World, Below w1.heap.size w1 W1 → Rd W1 W1.heap.size (A) (L.length * 3) (L.flatMap markC)) := fun W1 h => rdW h (rdW hB1 hr)
      have HON := Lib.hid (one_mark L)
      have HKL := Lib.hid hk
      have HKd : Hid (∀ W1 : World, Below w1.heap.size w1 W1 → (∀ i, W1.cell? ⟨w.heap.size, i, none⟩ = (#[.int .i64 y0, .int .i64 y1, .int .i64 y2] : Array Value)[i]?) ∧ Below w1.heap.size w1 W1) := fun W1 h => ⟨fun i => (h.cell (p := ⟨w.heap.size, i, none⟩) (by simp only; omega)).trans (HBX.out i), h⟩
      have KAL : Hid (∀ (W1 : World) (o : Obj), ((∀ i, W1.cell? ⟨w.heap.size, i, none⟩ = (#[.int .i64 y0, .int .i64 y1, .int .i64 y2] : Array Value)[i]?) ∧ Below w1.heap.size w1 W1) → ((∀ i, (W1.alloc o).cell? ⟨w.heap.size, i, none⟩ = (#[.int .i64 y0, .int .i64 y1, .int .i64 y2] : Array Value)[i]?) ∧ Below w1.heap.size w1 (W1.alloc o))) := fun W1 o h => HKd.out _ (h.2.alloc h.2.size o)
      have KBL : Hid (∀ (W1 W3 : World), Below W1.heap.size W1 W3 → Below w1.heap.size w1 W1 → ((∀ i, W3.cell? ⟨w.heap.size, i, none⟩ = (#[.int .i64 y0, .int .i64 y1, .int .i64 y2] : Array Value)[i]?) ∧ Below w1.heap.size w1 W3)) := fun W1 W3 h3 h => HKd.out _ (below_then h h3 (Nat.le_refl _))
      go_region_held3 (fun W1 => (∀ i, W1.cell? ⟨w.heap.size, i, none⟩ = (#[.int .i64 y0, .int .i64 y1, .int .i64 y2] : Array Value)[i]?) ∧ Below w1.heap.size w1 W1) (first | exact HKd.out _ ((Below.refl _ _).drew) | exact KAL.out _ _ (by assumption) | exact KBL.out _ _ (by assumption) (by assumption) | exact HKd.out _ hB4 | assumption)
        ((first
          | (go_at_call 65; go_split_ands; refine Calls.mono (cloneMark_x _ c L _ (HTR.out _ (by assumption)) (by omega)) ?_; rintro e w3 ⟨g, rfl, ho3, hb3⟩; have hs3 := hb3.size; have hgl := own_lt ho3; (try (have hle3 : w1.heap.size ≤ w3.heap.size := (by have h := hb3.size; simp at h; omega))); (try (have hgw3 : w1.heap.size ≤ g := (by have h := hgl.1; simp at h; omega))); (try (have hy3 : w3.heap[w1.heap.size]? = some (.cells #[.int .i64 y0, .int .i64 y1, .int .i64 y2] 42) := (hb3.block _ (by simp)).trans (heap_alloc_new w1.drew _))))
          | (go_at_call 74; go_split_ands; refine Calls.mono (insertMark_c g L.length k _ w1.heap.size (L.flatMap markC) [.int .i64 y0, .int .i64 y1, .int .i64 y2] _ ?_ HKL.out (by omega) rfl (by simp [Value.oneCell']) HON.out ?_ ?_) ?_; (first | exact own_mono ho3 (by first | exact Nat.le_refl _ | (simp; done) | (simp; omega)) | exact (own_mono ho3 (by first | exact Nat.le_refl _ | (simp; done) | (simp; omega))).alloc _); (first | exact heap_alloc_new _ _ | exact hy3); (first | exact hle3 | (simp; omega)); rintro e w4 ⟨A4, c4, rfl, ho4, hg4⟩; have hB4 : Below w1.heap.size w1 w4 := below_grown (by assumption) hg4 (Nat.le_refl _) (fun q hq => by have h3 : g = q := Option.some.inj hq; omega))))
      all_goals
        go_wp2
        go_ret
        have hI : insAt (idxBy (befI ⟨y0, y1, y2⟩) L) L ⟨y0, y1, y2⟩ = insAt k L ⟨y0, y1, y2⟩ := by rw [HIX.out]
        rw [hI, insAt_flat]
        exact rowPost1_mk (own_mono ho4 hB1.size) (bt hB1 hB4)


end Go.Proofs.Ytgckkocndhfbnaa
