/- Contracts: l31Change, ReplyAppeal of the reference. -/
import Derived.Test.YtdohegpbdlcnjaaAppChg
namespace Go.Proofs.Ytdohegpbdlcnjaa
open Go.RowKit
set_option linter.unusedVariables false
def chgR (H : List Int) (J : Int) (L : List AppealD) (y : AppealD) : List AppealD × Int := if appsOk H J (chg L y) then (chg L y, 0) else ([], 5)
theorem chgR_t {H : List Int} {J : Int} {L : List AppealD} {y : AppealD} (h : appsOk H J (chg L y) = true) : chgR H J L y = (chg L y, 0) := by rw [chgR, if_pos h]
theorem chgR_f {H : List Int} {J : Int} {L : List AppealD} {y : AppealD} (h : appsOk H J (chg L y) = false) : chgR H J L y = ([], 5) := by rw [chgR, h]; rfl
theorem chg_flat (L : List AppealD) (y : AppealD) : (chg L y).flatMap appealC = (L.take (L.length - 1)).flatMap appealC ++ appealC y := by simp [chg]
set_option maxRecDepth 100000 in
set_option maxHeartbeats 4000000 in
theorem l31Change_c (AH : Option Addr) (cH : Nat) (H : List Int) (J : Int) (A : Option Addr) (c : Nat) (L : List AppealD) (y0 y1 y2 y3 y4 : Int) (w : World) (hrH : Rd w w.heap.size AH H.length (H.map (Value.int .i64))) (hlH : H.length ≤ 140737488355328) (hcapH : H.length ≤ cH) (hr : Rd w w.heap.size A (L.length * 5) (L.flatMap appealC)) (hl : L.length ≤ 140737488355328) (hcap : L.length ≤ c) (h0 : 0 < L.length) (h6 : L.length ≤ 6) :
    Calls Try.prog 90 #[.slice AH H.length cH, .int .i64 J, .slice A L.length c, .agg #[.int .i64 y0, .int .i64 y1, .int .i64 y2, .int .i64 y3, .int .i64 y4]] w
      (RowPost2 64 5 (chgR H J L ⟨y0, y1, y2, y3, y4⟩).1.length ((chgR H J L ⟨y0, y1, y2, y3, y4⟩).1.flatMap appealC) (chgR H J L ⟨y0, y1, y2, y3, y4⟩).2 w) := by
  obtain ⟨i0, hi, hz0, hz1, hz2⟩ := info_parts appeal_info
  obtain ⟨b, off, a0, a1, a2, a3, a4, rfl, hb, hx, f0, f1, f2, f3, f4⟩ := last_cells hr h0
  clear f0 f1 f2 f3 f4 hx a0 a1 a2 a3 a4
  have H0 := Lib.hid h0
  have h1 : (1 : Int) ≤ L.length := by omega
  have hi1 : (0 : Int) ≤ (L.length : Int) - 1 := by omega
  have hi2 : (L.length : Int) - 1 ≤ (c : Int) := by omega
  have hiw : IntKind.i64.wrap ((L.length : Int) - 1) = (L.length : Int) - 1 := IntWalk.i64_in _ (by omega)
  go_enter Try.func90, Try.ntmps90
  go_wp2_with fail
  generalize hW0 : w.alloc _ = W0
  have hbW0 : Below w.heap.size w W0 := by subst hW0; exact (Below.refl _ _).alloc (Nat.le_refl _) _
  have hsW0 : W0.heap.size = w.heap.size + 1 := by subst hW0; simp
  have cxW0_0 : ∀ i, W0.cell? ⟨w.heap.size, i, none⟩ = (#[.int .i64 y0, .int .i64 y1, .int .i64 y2, .int .i64 y3, .int .i64 y4] : Array Value)[i]? := by intro i; subst hW0; simp [go_sem]
  have fzW0_0 : ∀ i, W0.frozen? ⟨w.heap.size, i, none⟩ = false := by intro i; subst hW0; simp [go_sem]
  have HSW0 := Lib.hid hsW0; clear hW0 hsW0
  have HTK : Hid (∀ W1 : World, Below W0.heap.size W0 W1 → Rd W1 w.heap.size (some ⟨b, off, none⟩) ((L.length - 1) * 5) ((L.take (L.length - 1)).flatMap appealC)) := fun W1 h => (Rd.take_ (k := L.length - 1) (f := appealC) (m := 5) (L := L) (fun _ => rfl) hr (by omega)).below (hbW0.trans (h.mono hbW0.size))
  have HTO := Lib.hid (one_flat (f := appealC) (fun a u hu => by simp only [appealC, List.mem_cons, List.not_mem_nil, or_false] at hu; rcases hu with rfl | rfl | rfl | rfl | rfl <;> rfl) (L.take (L.length - 1)))
  have HKd : Hid (∀ W1 : World, Below W0.heap.size W0 W1 → (∀ i, W1.cell? ⟨w.heap.size, i, none⟩ = (#[.int .i64 y0, .int .i64 y1, .int .i64 y2, .int .i64 y3, .int .i64 y4] : Array Value)[i]?) ∧ Below W0.heap.size W0 W1) := fun W1 h => ⟨fun i => (h.cell (p := ⟨w.heap.size, i, none⟩) (by have := HSW0.out; simp only; omega)).trans (cxW0_0 i), h⟩
  go_region_held3 (fun W1 => (∀ i, W1.cell? ⟨w.heap.size, i, none⟩ = (#[.int .i64 y0, .int .i64 y1, .int .i64 y2, .int .i64 y3, .int .i64 y4] : Array Value)[i]?) ∧ Below W0.heap.size W0 W1) (first | exact HKd.out _ ((Below.refl _ _).drew) | exact HKd.out _ (((Below.refl _ _).alloc (Nat.le_refl _) _).drew) | exact HKd.out _ ((((Below.refl _ _).alloc (Nat.le_refl _) _).alloc (by simp) _).drew) | exact HKd.out _ (hB1) | exact HKd.out _ (hB1.alloc hB1.size _) | exact HKd.out _ (hB2))
    ((first
      | (refine step_cat _ (by rfl) (.tmp 11) (.tmp 16) 47 (by rfl) W0.heap.size 64 i0 _ 5 40 Try.underlying47 hi hz0 hz1 hz2 rfl (by omega) (.slice (some ⟨W0.heap.size, 0, none⟩) 0 0) 0 [] (by rfl) (own_empty (heap_alloc_new W0 _) (Nat.le_refl _)) (some ⟨b, off, none⟩) (L.length - 1) (c) (w.heap.size) ((L.take (L.length - 1)).flatMap appealC) (by rfl) (HTK.out _ (((Below.refl _ _).alloc (Nat.le_refl _) _).drew)) HTO.out (by unfold maxLen; omega) (by omega) (by first | omega | (simp; done) | (simp; omega)) (L.length - 1) (by omega) ?_; intro A2 c2 w1 ho1 hg1; have hB1 : Below W0.heap.size W0 w1 := below_grown (((Below.refl _ _).alloc (Nat.le_refl _) _).drew) hg1 (Nat.le_refl _) (fun k hk => by have h3 : W0.heap.size = k := Option.some.inj hk; omega); have hs1 := hB1.size; simp only [List.nil_append] at ho1)
      | (refine step_cat _ (by rfl) (.tmp 11) (.tmp 16) 47 (by rfl) W0.heap.size 64 i0 _ 5 40 Try.underlying47 hi hz0 hz1 hz2 rfl (by omega) (.slice (some ⟨W0.heap.size, 0, none⟩) 0 0) 0 [] (by rfl) (own_empty (heap_at1 W0 _ _) (Nat.le_refl _)) (some ⟨b, off, none⟩) (L.length - 1) (c) (w.heap.size) ((L.take (L.length - 1)).flatMap appealC) (by rfl) (HTK.out _ ((((Below.refl _ _).alloc (Nat.le_refl _) _).alloc (by simp) _).drew)) HTO.out (by unfold maxLen; omega) (by omega) (by first | omega | (simp; done) | (simp; omega)) (L.length - 1) (by omega) ?_; intro A2 c2 w1 ho1 hg1; have hB1 : Below W0.heap.size W0 w1 := below_grown ((((Below.refl _ _).alloc (Nat.le_refl _) _).alloc (by simp) _).drew) hg1 (Nat.le_refl _) (fun k hk => by have h3 : W0.heap.size = k := Option.some.inj hk; omega); have hs1 := hB1.size; simp only [List.nil_append] at ho1; have hy1 : w1.heap[W0.heap.size + 1]? = some (.cells #[.int .i64 y0, .int .i64 y1, .int .i64 y2, .int .i64 y3, .int .i64 y4] 64) := (hg1.block _ (by simp <;> omega) (fun e => by have h3 : W0.heap.size + 1 = W0.heap.size := Option.some.inj e; omega)).trans (heap_alloc2_new W0 _ _))
      | (refine step_cat _ (by rfl) (.tmp 11) (.tmp 16) 47 (by rfl) W0.heap.size 64 i0 _ 5 40 Try.underlying47 hi hz0 hz1 hz2 rfl (by omega) (.slice (some ⟨W0.heap.size + 1, 0, none⟩) 0 0) 0 [] (by rfl) (own_empty (heap_alloc2_new W0 _ _) (Nat.le_succ _)) (some ⟨b, off, none⟩) (L.length - 1) (c) (w.heap.size) ((L.take (L.length - 1)).flatMap appealC) (by rfl) (HTK.out _ ((((Below.refl _ _).alloc (Nat.le_refl _) _).alloc (by simp) _).drew)) HTO.out (by unfold maxLen; omega) (by omega) (by first | omega | (simp; done) | (simp; omega)) (L.length - 1) (by omega) ?_; intro A2 c2 w1 ho1 hg1; have hB1 : Below W0.heap.size W0 w1 := below_grown ((((Below.refl _ _).alloc (Nat.le_refl _) _).alloc (by simp) _).drew) hg1 (Nat.le_refl _) (fun k hk => by have h3 : W0.heap.size + 1 = k := Option.some.inj hk; omega); have hs1 := hB1.size; simp only [List.nil_append] at ho1; have hy1 : w1.heap[W0.heap.size]? = some (.cells #[.int .i64 y0, .int .i64 y1, .int .i64 y2, .int .i64 y3, .int .i64 y4] 64) := (hg1.block _ (by simp <;> omega) (fun e => by have h3 : W0.heap.size = W0.heap.size + 1 := Option.some.inj e; omega)).trans (heap_at1 W0 _ _))
      | (refine step_cat _ (by rfl) (.tmp 17) (.tmp 19) 47 (by rfl) W0.heap.size 64 i0 _ 5 40 Try.underlying47 hi hz0 hz1 hz2 rfl (by omega) (.slice A2 (L.length - 1) c2) (L.length - 1) ((L.take (L.length - 1)).flatMap appealC) (by rfl) (ho1.alloc _) (some ⟨w1.heap.size, 0, none⟩) 1 1 _ [.int .i64 y0, .int .i64 y1, .int .i64 y2, .int .i64 y3, .int .i64 y4] (by rfl) (Rd.of_block (heap_alloc_new w1 (.cells #[.int .i64 y0, .int .i64 y1, .int .i64 y2, .int .i64 y3, .int .i64 y4] 64))) (by simp [Value.oneCell']) (by unfold maxLen; omega) (by omega) (by first | omega | (simp; done) | (simp; omega)) (L.length) (by omega) ?_; intro A3 c3 w2 ho2 hg2; have hB2 : Below W0.heap.size W0 w2 := below_grown (hB1.alloc hB1.size _) hg2 (Nat.le_refl _) (fun k hk => (World.ownsRow.lt ho1 k hk).1); have hs2 := hB2.size)
      | (refine step_cat _ (by rfl) (.tmp 17) (.tmp 19) 47 (by rfl) W0.heap.size 64 i0 _ 5 40 Try.underlying47 hi hz0 hz1 hz2 rfl (by omega) (.slice A2 (L.length - 1) c2) (L.length - 1) ((L.take (L.length - 1)).flatMap appealC) (by rfl) (ho1) (some ⟨W0.heap.size + 1, 0, none⟩) 1 1 _ [.int .i64 y0, .int .i64 y1, .int .i64 y2, .int .i64 y3, .int .i64 y4] (by rfl) (Rd.of_block (hy1)) (by simp [Value.oneCell']) (by unfold maxLen; omega) (by omega) (by first | omega | (simp; done) | (simp; omega)) (L.length) (by omega) ?_; intro A3 c3 w2 ho2 hg2; have hB2 : Below W0.heap.size W0 w2 := below_grown (hB1) hg2 (Nat.le_refl _) (fun k hk => (World.ownsRow.lt ho1 k hk).1); have hs2 := hB2.size)
      | (refine step_cat _ (by rfl) (.tmp 17) (.tmp 19) 47 (by rfl) W0.heap.size 64 i0 _ 5 40 Try.underlying47 hi hz0 hz1 hz2 rfl (by omega) (.slice A2 (L.length - 1) c2) (L.length - 1) ((L.take (L.length - 1)).flatMap appealC) (by rfl) (ho1) (some ⟨W0.heap.size, 0, none⟩) 1 1 _ [.int .i64 y0, .int .i64 y1, .int .i64 y2, .int .i64 y3, .int .i64 y4] (by rfl) (Rd.of_block (hy1)) (by simp [Value.oneCell']) (by unfold maxLen; omega) (by omega) (by first | omega | (simp; done) | (simp; omega)) (L.length) (by omega) ?_; intro A3 c3 w2 ho2 hg2; have hB2 : Below W0.heap.size W0 w2 := below_grown (hB1) hg2 (Nat.le_refl _) (fun k hk => (World.ownsRow.lt ho1 k hk).1); have hs2 := hB2.size)))
  all_goals
    have hl5 := chg_len H0.out ⟨y0, y1, y2, y3, y4⟩
    have e5 : (L.take (L.length - 1)).flatMap appealC ++ [.int .i64 y0, .int .i64 y1, .int .i64 y2, .int .i64 y3, .int .i64 y4] = (chg L ⟨y0, y1, y2, y3, y4⟩).flatMap appealC := (chg_flat L ⟨y0, y1, y2, y3, y4⟩).symm
    rw [e5] at ho2
    have HL5 := Lib.hid hl5
    have HE := Lib.hid (Rd.of_own ho2)
    have HO := Lib.hid ho2
    have hBw := bt hbW0 hB2
    have HRH := Lib.hid (rdW hBw hrH)
    have hcc := Lib.hid (own_cap ho2).1
    clear hiw hl5 e5 ho1 hg1 hg2 hB1 HKd ho2
    cases hT : appsOk H J (chg L ⟨y0, y1, y2, y3, y4⟩)
    · have HT := Lib.hid hT
      have HA := Lib.hid (spec_AreAppeals AH cH H J A3 c3 (chg L ⟨y0, y1, y2, y3, y4⟩) _ w2 HRH.out hlH hcapH (by rw [HL5.out]; exact HE.out) (by rw [HL5.out]; exact hl) (by rw [HL5.out]; exact hcc.out) hT)
      clear hT
      go_wp2_with fail
      refine (by have := HA.out; rw [HL5.out] at this; exact this : Calls Try.prog 46 #[.slice AH H.length cH, .int .i64 J, .slice A3 L.length c3] w2 _).mono ?_
      rintro e w4 ⟨rfl, hb4⟩
      go_wp2
      go_ret2
      rw [chgR_f HT.out]
      exact rowPost2_nil (bt hBw hb4)
    · have HT := Lib.hid hT
      have HA := Lib.hid (spec_AreAppeals AH cH H J A3 c3 (chg L ⟨y0, y1, y2, y3, y4⟩) _ w2 HRH.out hlH hcapH (by rw [HL5.out]; exact HE.out) (by rw [HL5.out]; exact hl) (by rw [HL5.out]; exact hcc.out) hT)
      clear hT
      go_wp2_with fail
      refine (by have := HA.out; rw [HL5.out] at this; exact this : Calls Try.prog 46 #[.slice AH H.length cH, .int .i64 J, .slice A3 L.length c3] w2 _).mono ?_
      rintro e w4 ⟨rfl, hb4⟩
      have ho4 := own_below HO.out hb4
      go_wp2
      go_ret2
      rw [chgR_t HT.out]
      have hl6 := HL5.out
      rw [hl6]
      exact rowPost2_mk (own_mono ho4 hbW0.size) (bt hBw hb4)
end Go.Proofs.Ytdohegpbdlcnjaa
