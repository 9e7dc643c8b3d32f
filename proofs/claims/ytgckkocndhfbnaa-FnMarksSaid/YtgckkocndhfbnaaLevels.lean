/- Contracts: LevelsOf of both texts. -/
import Derived.Test.YtgckkocndhfbnaaSetLaw
import Derived.Test.YtgckkocndhfbnaaMarks
import Derived.Deep.CutRange
namespace Go.Proofs.Ytgckkocndhfbnaa
open Go.RowKit
set_option linter.unusedVariables false
def lvsOf (L : List MarkD) : List Int := L.map MarkD.level
def lvsR (s : ByteArray) (L : List MarkD) : List Int × Int := if codeK s L = 0 then (setS (lvsOf L), 0) else ([], codeK s L)
theorem lvsR_bad {s : ByteArray} {L : List MarkD} (h : codeK s L ≠ 0) : lvsR s L = ([], codeK s L) := by rw [lvsR, if_neg h]
theorem lvsR_ok {s : ByteArray} {L : List MarkD} (h : codeK s L = 0) : lvsR s L = (setS (lvsOf L), 0) := by rw [lvsR, if_pos h]
theorem lvsR_len (s : ByteArray) (L : List MarkD) : (lvsR s L).1.length ≤ 12 := by
  unfold lvsR
  split
  · rename_i h
    have h12 := (marks_parts (codeK_0 h).2).1
    have h1 := insAll_len (lvsOf L) []
    have h2 : (insAll (lvsOf L)).length ≤ (lvsOf L).length := by simpa [insAll] using h1
    rw [set_ins] at h2
    have h3 : (lvsOf L).length = L.length := by simp [lvsOf]
    show (setS (lvsOf L)).length ≤ 12
    omega
  · simp
theorem lvs_snoc {L : List MarkD} {k : Nat} (hk : k < L.length) : lvsOf (L.take (k + 1)) = lvsOf (L.take k) ++ [L[k].level] := by
  unfold lvsOf
  rw [List.take_succ_eq_append_getElem hk, List.map_append]; rfl
theorem lvs_len {L : List MarkD} {k : Nat} (hk : k ≤ L.length) : (lvsOf (L.take k)).length = k := by simp [lvsOf]; omega
theorem own_snocL {W : World} {base c : Nat} {e : TypeId} {A : Option Addr} {D : List Int} {x : Int} (h : W.ownsRow base e 1 (.slice A (D.length + 1) c) (D.length + 1) (D.map (Value.int .i64) ++ [.int .i64 x])) : W.ownsRow base e 1 (.slice A (D ++ [x]).length c) (D ++ [x]).length ((D ++ [x]).map (Value.int .i64)) := by
  simpa using h
set_option maxRecDepth 100000 in
set_option maxHeartbeats 4000000 in
theorem impl_LevelsOf (s : ByteArray) (A : Option Addr) (c : Nat) (L : List MarkD) (w : World) (hs : s.size ≤ 1048576) (hr : Rd w w.heap.size A (L.length * 3) (L.flatMap markC)) (hl : L.length ≤ 140737488355328) (hcap : L.length ≤ c) :
    Calls Try.prog 31 #[.string s, .slice A L.length c] w (RowPost2 2 1 (lvsR s L).1.length ((lvsR s L).1.map (Value.int .i64)) (lvsR s L).2 w) := by
  obtain ⟨i0, hi, hz0, hz1, hz2⟩ := info_parts int_info
  have hcode := fun (W : World) a => marksCode_c s A c L W hs a hl hcap
  by_cases h0 : codeK s L = 0
  · obtain ⟨hT, hM⟩ := codeK_0 h0
    have h12 := (marks_parts hM).1
    rw [lvsR_ok h0]
    rw [h0] at hcode
    have HC := Lib.hid hcode
    clear hcode h0 hT hM
    go_enter Try.func31, Try.ntmps31
    go_wp2_with fail
    refine (HC.out w hr).mono ?_
    rintro e w1 ⟨rfl, hb1⟩
    have ho := World.ownsRow_lit (base := w.heap.size) (e := 2) (size := 1) w1 #[] 0 hb1.size (by unfold maxLen; omega) rfl
    have hz1' := hb1.size
    have hbL : Below w.heap.size w (w1.alloc (.cells #[] 2)) := hb1.alloc hb1.size _
    have HO := Lib.hid ho
    clear ho
    go_wp2
    go_loopw [7, 19] (fun ov i wr => ∃ (g c' k : Nat) (D : List Int), i = .int .i64 k ∧ k ≤ L.length ∧ ov = .slice (some ⟨g, 0, none⟩) D.length c' ∧ Hid (D = lvsOf (L.take k)) ∧ D.length ≤ 12 ∧ Below w.heap.size w wr ∧ Hid (wr.ownsRow w.heap.size 2 1 (.slice (some ⟨g, 0, none⟩) D.length c') D.length (D.map (Value.int .i64)))) (fun _ i _ => L.length - (intOf i).toNat)
    case atStart => exact ⟨_, _, 0, [], rfl, by omega, rfl, Lib.hid (by simp [lvsOf]), by simp, hbL, HO⟩
    case round =>
      obtain ⟨g, c', k, D, rfl, hk, rfl, HD, hDl, hB, HOr⟩ := hrel
      clear HO
      have hzr := hB.size
      by_cases hlt : k < L.length
      · obtain ⟨bf, offf, rfl, hbf, hcf⟩ := Rd.elem markC 3 (fun _ => rfl) (rdW hB hr) (by omega) hlt
        have f0 : wr.cell? ⟨bf, offf + k * 3, none⟩ = some (.int .i64 L[k].from_) := hcf k hlt 0 _ rfl
        have f1 : wr.cell? ⟨bf, offf + k * 3 + 1, none⟩ = some (.int .i64 L[k].to) := hcf k hlt 1 _ rfl
        have f2 : wr.cell? ⟨bf, offf + k * 3 + 2, none⟩ = some (.int .i64 L[k].level) := hcf k hlt 2 _ rfl
        have HSN := Lib.hid (lvs_snoc hlt)
        have hk1 : (k : Int) < (L.length : Int) := by omega
        have hk0 : (0 : Int) ≤ (k : Int) := by omega
        have hD2 : Hid ((D ++ [L[k].level]) = lvsOf (L.take (k + 1))) := by show _ = _; rw [HSN.out, HD.out]
        have hDk : D.length = k := by rw [HD.out]; exact lvs_len (by omega)
        have hD12 : D.length + 1 ≤ 12 := by omega
        clear hcf HSN hDk
        generalize L[k].from_ = x0 at *
        generalize L[k].to = x1 at *
        generalize L[k].level = x2 at *
        go_upto_region 8 with fail
        generalize hW0 : wr.alloc _ = W0
        have hbW0 : Below wr.heap.size wr W0 := by subst hW0; exact (Below.refl _ _).alloc (Nat.le_refl _) _
        have hsW0 : W0.heap.size = wr.heap.size + 1 := by subst hW0; simp
        have cxW0_0 : ∀ i, W0.cell? ⟨wr.heap.size, i, none⟩ = (#[.int .i64 x0, .int .i64 x1, .int .i64 x2] : Array Value)[i]? := by intro i; subst hW0; simp [go_sem]
        have HSW0 := Lib.hid hsW0; clear hW0 hsW0
        have HOq := Lib.hid (own_below HOr.out hbW0)
        have hBq := bt hB hbW0
        have hzq := hBq.size
        go_wp2_with (first | (at_builtin; refine wpList_push W0 rfl _ _ 49 rfl w.heap.size 2 i0 _ 1 8 Try.underlying49 hi hz0 hz1 hz2 rfl (by decide) (.slice (some ⟨g, 0, none⟩) D.length c') (D.length) (D.map (Value.int .i64)) (by rfl) HOq.out [.int .i64 x2] 2 (by rfl) rfl (by simp [Value.oneCell']) (by unfold maxLen; omega) (by omega) (by omega) ?_; intro A5 c5 w5 ho5 hg5; have HO5 := Lib.hid (own_snocL ho5); have HB5 := Lib.hid (below_grown hBq hg5 (Nat.le_refl _) (fun q hq => by have := (HOq.out.lt q hq).1; omega)); clear ho5 hg5))
        obtain ⟨g5, rfl, _, _⟩ := own_head HO5.out (by simp)
        go_roundw
        case rel => exact ⟨g5, c5, k + 1, D ++ [x2], by go_num, by omega, by simp, hD2, by simp; omega, HB5.out, HO5⟩
        case measure => simp [intOf]; omega
      · obtain rfl : k = L.length := by omega
        have hDL : Hid (D = lvsOf L) := by show _ = _; rw [HD.out, List.take_of_length_le (Nat.le_refl _)]
        go_wp2_with fail
        refine (sortedSet_c w.heap.size g c' D wr HOr.out (by omega)).mono ?_
        rintro e w2 ⟨rfl, ho2, hg2⟩
        have HO2 := Lib.hid ho2
        have HB2 := Lib.hid (below_grown hB hg2 (Nat.le_refl _) (fun q hq => by have h3 : g = q := Option.some.inj hq; have := (own_lt HOr.out).1; omega))
        clear ho2 hg2
        go_wp2
        go_ret2
        rw [← hDL.out]
        exact rowPost2_mk HO2.out HB2.out
  · rw [lvsR_bad h0]
    have hne : (codeK s L != 0) = true := bne_iff_ne.2 h0
    generalize codeK s L = q at *
    have HC := Lib.hid hcode
    clear hcode
    go_enter Try.func31, Try.ntmps31
    go_wp2_with fail
    refine (HC.out w hr).mono ?_
    rintro e w1 ⟨rfl, hb1⟩
    go_wp2
    go_ret2
    exact rowPost2_nil hb1
set_option maxRecDepth 100000 in
set_option maxHeartbeats 4000000 in
theorem spec_LevelsOf (s : ByteArray) (A : Option Addr) (c : Nat) (L : List MarkD) (w : World) (hs : s.size ≤ 1048576) (hr : Rd w w.heap.size A (L.length * 3) (L.flatMap markC)) (hl : L.length ≤ 140737488355328) (hcap : L.length ≤ c) :
    Calls Try.prog 30 #[.string s, .slice A L.length c] w (RowPost2 2 1 (lvsR s L).1.length ((lvsR s L).1.map (Value.int .i64)) (lvsR s L).2 w) := by
  have hcode := fun (W : World) a => l32Code_c s A c L 0 W hs a hl hcap
  rw [codeL_in (show inB 0 0 9 = true by decide)] at hcode
  by_cases h0 : codeK s L = 0
  · obtain ⟨hT, hM⟩ := codeK_0 h0
    have h12 := (marks_parts hM).1
    rw [lvsR_ok h0, ← set_ins]
    rw [h0] at hcode
    have HC := Lib.hid hcode
    clear hcode h0 hT hM
    go_enter Try.func30, Try.ntmps30
    go_wp2_with fail
    refine (HC.out w hr).mono ?_
    rintro e w1 ⟨rfl, hb1⟩
    have ho := World.ownsRow_lit (base := w.heap.size) (e := 2) (size := 1) w1 #[] 0 hb1.size (by unfold maxLen; omega) rfl
    have hbL : Below w.heap.size w (w1.alloc (.cells #[] 2)) := hb1.alloc hb1.size _
    have HO := Lib.hid ho
    clear ho
    go_wp2
    go_loopw [7, 8] (fun ov i wr => ∃ (A' : Option Addr) (c' k : Nat) (D : List Int), i = .int .i64 k ∧ k ≤ L.length ∧ ov = .slice A' D.length c' ∧ Hid (D = insAll (lvsOf (L.take k))) ∧ D.length ≤ k ∧ Below w.heap.size w wr ∧ Hid (wr.ownsRow w.heap.size 2 1 (.slice A' D.length c') D.length (D.map (Value.int .i64)))) (fun _ i _ => L.length - (intOf i).toNat)
    case atStart => exact ⟨_, _, 0, [], rfl, by omega, rfl, Lib.hid (by simp [lvsOf, insAll]), by simp, hbL, HO⟩
    case round =>
      obtain ⟨A', c', k, D, rfl, hk, rfl, HD, hDl, hB, HOr⟩ := hrel
      clear HO
      have hzr := hB.size
      by_cases hlt : k < L.length
      · obtain ⟨bf, offf, rfl, hbf, hcf⟩ := Rd.elem markC 3 (fun _ => rfl) (rdW hB hr) (by omega) hlt
        have f0 : wr.cell? ⟨bf, offf + k * 3, none⟩ = some (.int .i64 L[k].from_) := hcf k hlt 0 _ rfl
        have f1 : wr.cell? ⟨bf, offf + k * 3 + 1, none⟩ = some (.int .i64 L[k].to) := hcf k hlt 1 _ rfl
        have f2 : wr.cell? ⟨bf, offf + k * 3 + 2, none⟩ = some (.int .i64 L[k].level) := hcf k hlt 2 _ rfl
        have hk1 : (k : Int) < (L.length : Int) := by omega
        have hk0 : (0 : Int) ≤ (k : Int) := by omega
        have hD2 : Hid (insN D L[k].level = insAll (lvsOf (L.take (k + 1)))) := by show _ = _; rw [lvs_snoc hlt, insAll_snoc, HD.out]
        clear hcf f0 f1
        generalize L[k].level = x2 at *
        go_wp2_with fail
        refine (l07Insert_c w.heap.size A' c' D x2 wr HOr.out hzr (by omega)).mono ?_
        rintro e w5 ⟨A5, c5, rfl, ho5, hb5⟩
        have HO5 := Lib.hid ho5
        have hln := insN_len D x2
        have hB5 := bt hB hb5
        clear ho5
        go_wp2
        go_roundw
        case rel => exact ⟨A5, c5, k + 1, insN D x2, by go_num, by omega, rfl, hD2, by omega, hB5, HO5⟩
        case measure => simp [intOf]; omega
      · obtain rfl : k = L.length := by omega
        have hDL : Hid (D = insAll (lvsOf L)) := by show _ = _; rw [HD.out, List.take_of_length_le (Nat.le_refl _)]
        go_wp2
        go_ret2
        rw [← hDL.out]
        exact rowPost2_mk HOr.out hB
  · rw [lvsR_bad h0]
    have hne : (codeK s L != 0) = true := bne_iff_ne.2 h0
    generalize codeK s L = q at *
    have HC := Lib.hid hcode
    clear hcode
    go_enter Try.func30, Try.ntmps30
    go_wp2_with fail
    refine (HC.out w hr).mono ?_
    rintro e w1 ⟨rfl, hb1⟩
    go_wp2
    go_ret2
    exact rowPost2_nil hb1
end Go.Proofs.Ytgckkocndhfbnaa
