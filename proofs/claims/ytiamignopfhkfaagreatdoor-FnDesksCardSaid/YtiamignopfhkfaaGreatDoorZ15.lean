/- Contracts: MoveCall of both texts. Contracts: FirstRoom of both texts. -/
import Derived.Test.YtiamignopfhkfaaGreatDoorZCallW3
import Derived.Test.YtiamignopfhkfaaGreatDoorZ6
import Derived.Test.YtiamignopfhkfaaGreatDoorZ13
section
namespace Go.Proofs.YtiamignopfhkfaaGreatDoor
open Go.RowKit
set_option linter.unusedVariables false
set_option linter.unusedSimpArgs false

theorem moveC_c {H : List Int} {K : List CallD} {n d : Int} (h : ¬ codeC H K n d = 0) : moveC H K n d = ([], codeC H K n d) := by unfold moveC; rw [if_neg h]
theorem moveC_5 {H : List Int} {K : List CallD} {n d : Int} (h : codeC H K n d = 0) (hm : mayV H (getC K (idxC n K)) d = false) : moveC H K n d = ([], 5) := by unfold moveC; rw [if_pos h, hm]; rfl
theorem moveC_0 {H : List Int} {K : List CallD} {n d : Int} (h : codeC H K n d = 0) (hm : mayV H (getC K (idxC n K)) d = true) : moveC H K n d = (K.set (idxC n K) (upC (getC K (idxC n K)) d), 0) := by unfold moveC; rw [if_pos h, hm]; rfl
theorem mcI_0 {i : Nat} : mcI 0 i = i := rfl
theorem moved_flat {K : List CallD} {j : Nat} {x0 x1 x2 x3 d : Int} (hj : j < K.length) (hx : K[j] = ⟨x0, x1, x2, x3⟩) :
    ((K.flatMap callC).set (j * 4 + 2) (.int .i64 d)).set (j * 4 + 3) (.int .i64 (x3 + 1)) = (K.set j (upC ⟨x0, x1, x2, x3⟩ d)).flatMap callC := by
  rw [flat_set_at (f := callC) (m := 4) (fun _ => rfl) (L := K) (j := j) (i := 2) (y := ⟨x0, x1, d, x3⟩) hj (by omega) (by rw [hx]; rfl)]
  rw [flat_set_at (f := callC) (m := 4) (fun _ => rfl) (L := K.set j ⟨x0, x1, d, x3⟩) (j := j) (i := 3) (y := ⟨x0, x1, d, x3 + 1⟩) (by simpa using hj) (by omega) (by simp [callC])]
  rw [List.set_set]; rfl
theorem own_call {W : World} {base g cap : Nat} {K : List CallD} {j i : Nat} {u : Value} (h : W.ownsRow base 68 4 (.slice (some ⟨g, 0, none⟩) K.length cap) K.length (K.flatMap callC)) (hj : j < K.length) (hi : i < 4) (hu : (callC K[j])[i]? = some u) : W.cell? ⟨g, j * 4 + i, none⟩ = some u := by
  have h2 := h.cellAt (j * 4 + i) (by omega)
  rw [h2, flat_get callC 4 (fun _ => rfl) K j i hj hi, hu]


set_option maxRecDepth 100000 in
set_option maxHeartbeats 4000000 in
theorem impl_MoveCall (AH : Option Addr) (cH : Nat) (H : List Int) (A : Option Addr) (c : Nat) (K : List CallD) (n d : Int) (w : World) (hr : Rd w w.heap.size A (K.length * 4) (K.flatMap callC)) (hl : K.length ≤ 140737488355328) (hcap : K.length ≤ c) (hrH : Rd w w.heap.size AH H.length (H.map (Value.int .i64))) (hlH : H.length ≤ 140737488355328) (hcH : H.length ≤ cH) : Calls Tryz.prog 151 #[.slice AH H.length cH, .slice A K.length c, .int .i64 n, .int .i64 d] w (RowPost2 68 4 (moveC H K n d).1.length ((moveC H K n d).1.flatMap callC) (moveC H K n d).2 w) := by
  have HCODE := Lib.hid (moveCode_c AH cH H A c K n d w hr hl hcap hrH hlH hcH)
  by_cases h0 : codeC H K n d = 0
  · obtain ⟨h12, hdd, hh⟩ := codeC_0 h0
    have h12b := h12
    simp only [Bool.and_eq_true] at h12b
    have hl20 := calls_len h12b.2
    obtain ⟨hj, -⟩ := hasC_idx hh
    have hgc := getC_at hj
    have hbd := calls_bds h12b.2 hj
    have hd := inB_iff.1 hdd
    have hj0 : (0 : Int) ≤ (idxC n K : Int) := by omega
    have hjL : (idxC n K : Int) < K.length := by omega
    have hjc : (idxC n K : Int) ≤ (c : Int) := by omega
    have hL0 : 0 < K.length := by omega
    obtain ⟨i0, hi, hz0, hz1, hz2⟩ := info_parts call_info
    have HON := Lib.hid (one_call K)
    rw [h0] at HCODE
    have HE5 := Lib.hid (fun h => moveC_5 h0 h)
    have HE0 := Lib.hid (fun h => moveC_0 h0 h)
    clear h0 hdd h12 hh
    rw [hgc] at HE5 HE0
    cases hm : mayV H K[idxC n K] d
    · have HRES := Lib.hid (HE5.out hm)
      rw [HRES.out]
      generalize idxC n K = j at *
      obtain ⟨bf, offf, rfl, hbf, hcf⟩ := Rd.elem callC 4 (fun _ => rfl) (hr) (by omega) hj
      have f0 : w.cell? ⟨bf, offf + j * 4, none⟩ = some (.int .i64 K[j].number) := hcf j hj 0 _ rfl
      have f1 : w.cell? ⟨bf, offf + j * 4 + 1, none⟩ = some (.int .i64 K[j].first) := hcf j hj 1 _ rfl
      have f2 : w.cell? ⟨bf, offf + j * 4 + 2, none⟩ = some (.int .i64 K[j].day) := hcf j hj 2 _ rfl
      have f3 : w.cell? ⟨bf, offf + j * 4 + 3, none⟩ = some (.int .i64 K[j].moves) := hcf j hj 3 _ rfl
      clear hcf HE5 HE0 HRES
      generalize hx : K[j] = x at *
      obtain ⟨x0, x1, x2, x3⟩ := x
      have HX := Lib.hid hx
      clear hx hgc
      have hxb : (0 ≤ x1 ∧ x1 ≤ 20000) ∧ (0 ≤ x2 ∧ x2 ≤ 20000) := by
        obtain ⟨-, b2, b3, -⟩ := hbd
        simp only at b2 b3
        omega
      have hx3 : 0 ≤ x3 ∧ x3 ≤ 2 := hbd.2.2.2
      clear hbd
      go_enter Tryz.func151, Tryz.ntmps151
      go_wp2_with fail
      refine HCODE.out.mono ?_
      rintro e w1 ⟨rfl, hb1⟩
      replace f0 := (hb1.cell (by (try simp only); omega)).trans f0
      replace f1 := (hb1.cell (by (try simp only); omega)).trans f1
      replace f2 := (hb1.cell (by (try simp only); omega)).trans f2
      replace f3 := (hb1.cell (by (try simp only); omega)).trans f3
      (try rw [mcI_0])
      go_wp2_with fail
      refine (mayMove_c AH cH H x0 x1 x2 x3 d _ w1 (rdW hb1 hrH) hlH hcH hd.1 hxb hm).mono ?_
      rintro e w2 ⟨rfl, hb2⟩
      have hB2 := bt hb1 hb2
      go_wp2
      go_ret2
      exact rowPost2_nil hB2
    · have HRES := Lib.hid (HE0.out hm)
      rw [HRES.out]
      generalize idxC n K = j at *
      obtain ⟨bf, offf, rfl, hbf, hcf⟩ := Rd.elem callC 4 (fun _ => rfl) (hr) (by omega) hj
      have f0 : w.cell? ⟨bf, offf + j * 4, none⟩ = some (.int .i64 K[j].number) := hcf j hj 0 _ rfl
      have f1 : w.cell? ⟨bf, offf + j * 4 + 1, none⟩ = some (.int .i64 K[j].first) := hcf j hj 1 _ rfl
      have f2 : w.cell? ⟨bf, offf + j * 4 + 2, none⟩ = some (.int .i64 K[j].day) := hcf j hj 2 _ rfl
      have f3 : w.cell? ⟨bf, offf + j * 4 + 3, none⟩ = some (.int .i64 K[j].moves) := hcf j hj 3 _ rfl
      clear hcf HE5 HE0 HRES
      generalize hx : K[j] = x at *
      obtain ⟨x0, x1, x2, x3⟩ := x
      have HX := Lib.hid hx
      clear hx hgc
      have hxb : (0 ≤ x1 ∧ x1 ≤ 20000) ∧ (0 ≤ x2 ∧ x2 ≤ 20000) := by
        obtain ⟨-, b2, b3, -⟩ := hbd
        simp only at b2 b3
        omega
      have hx3 : 0 ≤ x3 ∧ x3 ≤ 2 := hbd.2.2.2
      clear hbd
      go_enter Tryz.func151, Tryz.ntmps151
      go_wp2_with fail
      refine HCODE.out.mono ?_
      rintro e w1 ⟨rfl, hb1⟩
      replace f0 := (hb1.cell (by (try simp only); omega)).trans f0
      replace f1 := (hb1.cell (by (try simp only); omega)).trans f1
      replace f2 := (hb1.cell (by (try simp only); omega)).trans f2
      replace f3 := (hb1.cell (by (try simp only); omega)).trans f3
      (try rw [mcI_0])
      go_wp2_with fail
      refine (mayMove_c AH cH H x0 x1 x2 x3 d _ w1 (rdW hb1 hrH) hlH hcH hd.1 hxb hm).mono ?_
      rintro e w2 ⟨rfl, hb2⟩
      have hB2 := bt hb1 hb2
      clear f0 f1 f2 f3
      go_wp2_with fail
      refine (cloneCall_x _ c K w2 (rdW hB2 hr) (by omega)).mono ?_
      rintro e w3 ⟨g, rfl, ho3, hb3⟩
      have hB3 := bt hB2 hb3
      obtain ⟨u2, f2⟩ := own_cell ho3 (j := j * 4 + 2) (by omega)
      have f3 : w3.cell? ⟨g, j * 4 + 3, none⟩ = some (.int .i64 x3) := own_call ho3 hj (by omega) (by rw [HX.out]; rfl)
      have hz2 := ho3.frozenAt (j * 4 + 2)
      have hz3 := ho3.frozenAt (j * 4 + 3)
      have hs1 := ho3.stored (j * 4 + 2) (.int .i64 d)
      have hs2 := hs1.1.stored (j * 4 + 3) (.int .i64 (x3 + 1))
      have HS1 := Lib.hid hs1.2
      have HS2 := Lib.hid hs2
      have HGL := Lib.hid (own_lt ho3)
      clear hs1 hs2 ho3
      go_wp2
      go_ret2
      have hfin := (HS2.out).1
      rw [moved_flat hj HX.out] at hfin
      have el : (K.set j (upC ⟨x0, x1, x2, x3⟩ d)).length = K.length := by simp
      rw [el]
      exact rowPost2_mk (own_mono hfin hB2.size) (below_grown (below_grown hB3 HS1.out (Nat.le_refl _) (fun k hk => by cases hk; have := hB2.size; have := HGL.out.1; omega)) (HS2.out).2 (Nat.le_refl _) (fun k hk => by cases hk; have := hB2.size; have := HGL.out.1; omega))
  · rw [moveC_c h0]
    generalize codeC H K n d = q at *
    have hne : (q != 0) = true := by rw [bne_iff_ne]; exact h0
    have hne2 : (q == 0) = false := by rw [beq_eq_false_iff_ne]; exact h0
    clear h0
    go_enter Tryz.func151, Tryz.ntmps151
    go_wp2_with fail
    refine HCODE.out.mono ?_
    rintro e w1 ⟨rfl, hb1⟩
    go_wp2
    go_ret2
    exact rowPost2_nil hb1


set_option maxRecDepth 100000 in
set_option maxHeartbeats 4000000 in
theorem spec_MoveCall (AH : Option Addr) (cH : Nat) (H : List Int) (A : Option Addr) (c : Nat) (K : List CallD) (n d : Int) (w : World) (hr : Rd w w.heap.size A (K.length * 4) (K.flatMap callC)) (hl : K.length ≤ 140737488355328) (hcap : K.length ≤ c) (hrH : Rd w w.heap.size AH H.length (H.map (Value.int .i64))) (hlH : H.length ≤ 140737488355328) (hcH : H.length ≤ cH) : Calls Tryz.prog 113 #[.slice AH H.length cH, .slice A K.length c, .int .i64 n, .int .i64 d] w (RowPost2 68 4 (moveC H K n d).1.length ((moveC H K n d).1.flatMap callC) (moveC H K n d).2 w) := by
  have HCODE := Lib.hid (l10Code_c AH cH H A c K n d w hr hl hcap hrH hlH hcH)
  by_cases h0 : codeC H K n d = 0
  · obtain ⟨h12, hdd, hh⟩ := codeC_0 h0
    have h12b := h12
    simp only [Bool.and_eq_true] at h12b
    have hl20 := calls_len h12b.2
    obtain ⟨hj, -⟩ := hasC_idx hh
    have hgc := getC_at hj
    have hbd := calls_bds h12b.2 hj
    have hd := inB_iff.1 hdd
    have hj0 : (0 : Int) ≤ (idxC n K : Int) := by omega
    have hjL : (idxC n K : Int) < K.length := by omega
    have hjc : (idxC n K : Int) ≤ (c : Int) := by omega
    have hL0 : 0 < K.length := by omega
    obtain ⟨i0, hi, hz0, hz1, hz2⟩ := info_parts call_info
    have HON := Lib.hid (one_call K)
    rw [h0] at HCODE
    have HFI : Hid (∀ (W : World), Below w.heap.size w W → Calls Tryz.prog 157 #[.slice A K.length c, .int .i64 n] W fun e w' => e = .returned (.int .i64 (idxC n K : Nat)) ∧ W = w') := fun W hb => by
      have h9 := l10Find_c A c K n W (rdW hb hr) hl hcap
      rw [findC_eq h12b.2, hh, if_pos rfl] at h9
      exact h9
    have HE5 := Lib.hid (fun h => moveC_5 h0 h)
    have HE0 := Lib.hid (fun h => moveC_0 h0 h)
    clear h0 hdd h12 hh
    rw [hgc] at HE5 HE0
    cases hm : mayV H K[idxC n K] d
    · have HRES := Lib.hid (HE5.out hm)
      rw [HRES.out]
      generalize idxC n K = j at *
      obtain ⟨bf, offf, rfl, hbf, hcf⟩ := Rd.elem callC 4 (fun _ => rfl) (hr) (by omega) hj
      have f0 : w.cell? ⟨bf, offf + j * 4, none⟩ = some (.int .i64 K[j].number) := hcf j hj 0 _ rfl
      have f1 : w.cell? ⟨bf, offf + j * 4 + 1, none⟩ = some (.int .i64 K[j].first) := hcf j hj 1 _ rfl
      have f2 : w.cell? ⟨bf, offf + j * 4 + 2, none⟩ = some (.int .i64 K[j].day) := hcf j hj 2 _ rfl
      have f3 : w.cell? ⟨bf, offf + j * 4 + 3, none⟩ = some (.int .i64 K[j].moves) := hcf j hj 3 _ rfl
      clear hcf HE5 HE0 HRES
      generalize hx : K[j] = x at *
      obtain ⟨x0, x1, x2, x3⟩ := x
      have HX := Lib.hid hx
      clear hx hgc
      have hxb : (0 ≤ x1 ∧ x1 ≤ 20000) ∧ (0 ≤ x2 ∧ x2 ≤ 20000) := by
        obtain ⟨-, b2, b3, -⟩ := hbd
        simp only at b2 b3
        omega
      have hx3 : 0 ≤ x3 ∧ x3 ≤ 2 := hbd.2.2.2
      clear hbd
      go_enter Tryz.func113, Tryz.ntmps113
      go_wp2_with fail
      refine HCODE.out.mono ?_
      rintro e w1 ⟨rfl, hb1⟩
      replace f0 := (hb1.cell (by (try simp only); omega)).trans f0
      replace f1 := (hb1.cell (by (try simp only); omega)).trans f1
      replace f2 := (hb1.cell (by (try simp only); omega)).trans f2
      replace f3 := (hb1.cell (by (try simp only); omega)).trans f3
      have hz1s := hb1.size
      go_wp2_with fail
      refine (HFI.out w1 hb1).mono ?_
      rintro e w' ⟨rfl, rfl⟩
      go_wp2_with fail
      refine (l10May_c AH cH H x0 x1 x2 x3 d _ w1 (rdW hb1 hrH) hlH hcH hd.1 hxb hm).mono ?_
      rintro e w2 ⟨rfl, hb2⟩
      have hB2 := bt hb1 hb2
      go_wp2
      go_ret2
      exact rowPost2_nil hB2
    · have HRES := Lib.hid (HE0.out hm)
      rw [HRES.out]
      generalize idxC n K = j at *
      obtain ⟨bf, offf, rfl, hbf, hcf⟩ := Rd.elem callC 4 (fun _ => rfl) (hr) (by omega) hj
      have f0 : w.cell? ⟨bf, offf + j * 4, none⟩ = some (.int .i64 K[j].number) := hcf j hj 0 _ rfl
      have f1 : w.cell? ⟨bf, offf + j * 4 + 1, none⟩ = some (.int .i64 K[j].first) := hcf j hj 1 _ rfl
      have f2 : w.cell? ⟨bf, offf + j * 4 + 2, none⟩ = some (.int .i64 K[j].day) := hcf j hj 2 _ rfl
      have f3 : w.cell? ⟨bf, offf + j * 4 + 3, none⟩ = some (.int .i64 K[j].moves) := hcf j hj 3 _ rfl
      clear hcf HE5 HE0 HRES
      generalize hx : K[j] = x at *
      obtain ⟨x0, x1, x2, x3⟩ := x
      have HX := Lib.hid hx
      clear hx hgc
      have hxb : (0 ≤ x1 ∧ x1 ≤ 20000) ∧ (0 ≤ x2 ∧ x2 ≤ 20000) := by
        obtain ⟨-, b2, b3, -⟩ := hbd
        simp only at b2 b3
        omega
      have hx3 : 0 ≤ x3 ∧ x3 ≤ 2 := hbd.2.2.2
      clear hbd
      go_enter Tryz.func113, Tryz.ntmps113
      go_wp2_with fail
      refine HCODE.out.mono ?_
      rintro e w1 ⟨rfl, hb1⟩
      replace f0 := (hb1.cell (by (try simp only); omega)).trans f0
      replace f1 := (hb1.cell (by (try simp only); omega)).trans f1
      replace f2 := (hb1.cell (by (try simp only); omega)).trans f2
      replace f3 := (hb1.cell (by (try simp only); omega)).trans f3
      have hz1s := hb1.size
      go_wp2_with fail
      refine (HFI.out w1 hb1).mono ?_
      rintro e w' ⟨rfl, rfl⟩
      go_wp2_with fail
      refine (l10May_c AH cH H x0 x1 x2 x3 d _ w1 (rdW hb1 hrH) hlH hcH hd.1 hxb hm).mono ?_
      rintro e w2 ⟨rfl, hb2⟩
      have hB2 := bt hb1 hb2
      have HLI := Lib.hid (World.ownsRow_lit (base := w2.heap.size) (size := 4) (e := 68) w2 #[] 0 (Nat.le_refl _) (by unfold maxLen; omega) rfl)
      have HR := Lib.hid ((rdW hB2 hr).alloc (Nat.le_refl _) (.cells #[] 68))
      have hBx : Below w.heap.size w (w2.alloc (.cells #[] 68)) := hB2.alloc hB2.size _
      have F3 := Lib.hid (show w2.cell? ⟨bf, offf + j * 4 + 3, none⟩ = some (.int .i64 x3) from (hb2.cell (p := ⟨bf, offf + j * 4 + 3, none⟩) (by simp only; omega)).trans f3)
      clear f0 f1 f2 f3
      have hbfl : bf < w2.heap.size := by have := hB2.size; omega
      have F3F : Hid (∀ (w3 : World), (w2.alloc (.cells #[] 68)).grownBy w3 (some w2.heap.size) → w3.cell? ⟨bf, offf + j * 4 + 3, none⟩ = some (.int .i64 x3)) := fun w3 hg => ((below_grown ((Below.refl w2.heap.size w2).alloc (Nat.le_refl _) _) hg (Nat.le_refl _) (fun k hk => by cases hk; exact Nat.le_refl _)).cell (p := ⟨bf, offf + j * 4 + 3, none⟩) hbfl).trans F3.out
      have HFIX : Hid (∀ (A2 : Option Addr) (c2 : Nat) (w3 : World), w3.ownsRow w2.heap.size 68 4 (.slice A2 K.length c2) K.length (K.flatMap callC) → ∃ g u2 u3, A2 = some ⟨g, 0, none⟩ ∧ w2.heap.size ≤ g ∧ g < w3.heap.size ∧ w3.cell? ⟨g, j * 4 + 2, none⟩ = some u2 ∧ w3.cell? ⟨g, j * 4 + 3, none⟩ = some u3 ∧ w3.frozen? ⟨g, j * 4 + 2, none⟩ = false ∧ w3.frozen? ⟨g, j * 4 + 3, none⟩ = false ∧ K.length ≤ c2) := fun A2 c2 w3 ho => by
        obtain ⟨g, rfl, hg1, hg2⟩ := own_head ho hL0
        obtain ⟨u2, q2⟩ := own_cell ho (j := j * 4 + 2) (by omega)
        obtain ⟨u3, q3⟩ := own_cell ho (j := j * 4 + 3) (by omega)
        exact ⟨g, u2, u3, rfl, hg1, hg2, q2, q3, ho.frozenAt _, ho.frozenAt _, (own_cap ho).1⟩
      go_wp2_with (first | (at_builtin; refine wpList_cat _ rfl (.tmp 32) (.tmp 33) 31 rfl w2.heap.size 68 i0 _ 4 32 Tryz.underlying31 hi hz0 hz1 hz2 rfl (by decide) (.slice (some ⟨w2.heap.size, 0, none⟩) 0 0) (0) ([]) (by rfl) HLI.out _ (K.length) c w2.heap.size (K.flatMap callC) (by rfl) HR.out HON.out (by unfold maxLen; omega) (by omega) (by simp) ?_; intro A2 c2 w3 ho3 hg3; simp only [Nat.zero_add, List.nil_append] at ho3; obtain ⟨g, u2, u3, rfl, hg1, hg2, f2, q3, hz2, hz3, hcc⟩ := HFIX.out A2 c2 w3 ho3; have HO3 := Lib.hid ho3; have f3 := F3F.out _ hg3; have hbg : bf ≠ g := (by omega); clear ho3))
      have hB3' : Below w.heap.size w w3 := below_grown hBx hg3 (Nat.le_refl _) (fun k hk => by cases hk; exact hB2.size)
      have hs1 := HO3.out.stored (j * 4 + 2) (.int .i64 d)
      have hs2 := hs1.1.stored (j * 4 + 3) (.int .i64 (x3 + 1))
      have HS1 := Lib.hid hs1.2
      have HS2 := Lib.hid hs2
      have HGL := Lib.hid (own_lt HO3.out)
      go_ret2
      have hfin := (HS2.out).1
      rw [moved_flat hj HX.out] at hfin
      have el : (K.set j (upC ⟨x0, x1, x2, x3⟩ d)).length = K.length := by simp
      rw [el]
      exact rowPost2_mk (own_mono hfin hB2.size) (below_grown (below_grown hB3' HS1.out (Nat.le_refl _) (fun k hk => by cases hk; have := hB2.size; have := HGL.out.1; omega)) (HS2.out).2 (Nat.le_refl _) (fun k hk => by cases hk; have := hB2.size; have := HGL.out.1; omega))
  · rw [moveC_c h0]
    generalize codeC H K n d = q at *
    have hne : (q != 0) = true := by rw [bne_iff_ne]; exact h0
    have hne2 : (q == 0) = false := by rw [beq_eq_false_iff_ne]; exact h0
    clear h0
    go_enter Tryz.func113, Tryz.ntmps113
    go_wp2_with fail
    refine HCODE.out.mono ?_
    rintro e w1 ⟨rfl, hb1⟩
    go_wp2
    go_ret2
    exact rowPost2_nil hb1

end Go.Proofs.YtiamignopfhkfaaGreatDoor
end
section
namespace Go.Proofs.YtiamignopfhkfaaGreatDoor
open Go.RowKit
set_option linter.unusedVariables false
set_option linter.unusedSimpArgs false

def optR : Option Int → Int × Int
  | some d => (d, 0)
  | none => (0, 5)
def rday (room : Int) : Int := if inB room 0 20 then 0 else -1
theorem roomP_c {H : List Int} {K : List CallD} {n room : Int} (h : ¬ codeC H K n (rday room) = 0) : roomP H K n room = (0, codeC H K n (rday room)) := by
  unfold roomP; unfold rday at h; rw [if_neg h]; rfl
theorem roomP_0 {H : List Int} {K : List CallD} {n room : Int} (h : codeC H K n (rday room) = 0) : roomP H K n room = optR (roomS H K (getC K (idxC n K)) room (lastD (getC K (idxC n K)) - (getC K (idxC n K)).day).toNat ((getC K (idxC n K)).day + 1)) := by
  unfold roomP; unfold rday at h; rw [if_pos h]
  cases roomS H K (getC K (idxC n K)) room (lastD (getC K (idxC n K)) - (getC K (idxC n K)).day).toNat ((getC K (idxC n K)).day + 1) <;> rfl

theorem isRoom_b (x : Int) (b : Bool) (w : World) (h : inB x 0 20 = b) : Calls Tryz.prog 134 #[.int .i64 x] w fun e w' => e = .returned (.bool b) ∧ w = w' := by
  go_enter Tryz.func134, Tryz.ntmps134
  go_wp2_with (first | (go_at_call 92; refine (within_b _ _ _ _ _ h).mono ?_; rintro e w' ⟨rfl, rfl⟩))
  go_ret
  exact ⟨rfl, rfl⟩


set_option maxRecDepth 100000 in
set_option maxHeartbeats 4000000 in
theorem impl_FirstRoom (AH : Option Addr) (cH : Nat) (H : List Int) (A : Option Addr) (c : Nat) (K : List CallD) (n room : Int) (w : World) (hr : Rd w w.heap.size A (K.length * 4) (K.flatMap callC)) (hl : K.length ≤ 140737488355328) (hcap : K.length ≤ c) (hrH : Rd w w.heap.size AH H.length (H.map (Value.int .i64))) (hlH : H.length ≤ 140737488355328) (hcH : H.length ≤ cH) : Calls Tryz.prog 102 #[.slice AH H.length cH, .slice A K.length c, .int .i64 n, .int .i64 room] w fun e w' => e = .returned (.tuple #[.int .i64 (roomP H K n room).1, .int .i64 (roomP H K n room).2]) ∧ Below w.heap.size w w' := by
  have HO := Lib.hid (callOf_c A c K n w hr hl hcap)
  have H1 := Lib.hid (fun h => codeC_1 (H := H) (K := K) (n := n) (d := rday room) h)
  cases e1 : holOk H
  · have hq : codeC H K n (rday room) = 1 := H1.out (by rw [e1]; rfl)
    rw [roomP_c (by rw [hq]; decide), hq]
    have HHO := Lib.hid (fun (W : World) hb => impl_AreHolidays AH cH H _ W (rdW hb hrH) hlH hcH e1)
    generalize idxC n K = I at *
    generalize hasC n K = f at *
    clear hq
    go_enter Tryz.func102, Tryz.ntmps102
    go_wp2_with fail
    refine HO.out.mono ?_
    rintro e w1 ⟨rfl, hb1⟩
    have hz1s := hb1.size
    go_wp2_with fail
    refine (HHO.out w1 hb1).mono ?_
    rintro e w' ⟨rfl, rfl⟩
    go_wp2
    go_ret2
    exact ⟨rfl, hb1⟩
  have HHO := Lib.hid (fun (W : World) hb => impl_AreHolidays AH cH H _ W (rdW hb hrH) hlH hcH e1)
  cases e2 : callsOk K
  · have hq : codeC H K n (rday room) = 1 := H1.out (by rw [e1, e2]; rfl)
    rw [roomP_c (by rw [hq]; decide), hq]
    have HCO := Lib.hid (fun (W : World) hb => impl_AreCalls A c K _ W (rdW hb hr) hl hcap e2)
    generalize idxC n K = I at *
    generalize hasC n K = f at *
    clear hq
    go_enter Tryz.func102, Tryz.ntmps102
    go_wp2_with fail
    refine HO.out.mono ?_
    rintro e w1 ⟨rfl, hb1⟩
    have hz1s := hb1.size
    go_wp2_with fail
    refine (HHO.out w1 hb1).mono ?_
    rintro e w' ⟨rfl, rfl⟩
    go_wp2_with fail
    refine (HCO.out w1 hb1).mono ?_
    rintro e w2 ⟨rfl, hb2⟩
    have hB2 := bt hb1 hb2
    have hz2s := hB2.size
    go_wp2
    go_ret2
    exact ⟨rfl, hB2⟩
  have HCO := Lib.hid (fun (W : World) hb => impl_AreCalls A c K _ W (rdW hb hr) hl hcap e2)
  have e12 : (holOk H && callsOk K) = true := by rw [e1, e2]; rfl
  cases e3 : inB room 0 20
  · have hq : codeC H K n (rday room) = 2 := codeC_2 e12 (by unfold rday; rw [e3]; rfl)
    rw [roomP_c (by rw [hq]; decide), hq]
    generalize idxC n K = I at *
    generalize hasC n K = f at *
    clear hq
    go_enter Tryz.func102, Tryz.ntmps102
    go_wp2_with fail
    refine HO.out.mono ?_
    rintro e w1 ⟨rfl, hb1⟩
    have hz1s := hb1.size
    go_wp2_with fail
    refine (HHO.out w1 hb1).mono ?_
    rintro e w' ⟨rfl, rfl⟩
    go_wp2_with fail
    refine (HCO.out w1 hb1).mono ?_
    rintro e w2 ⟨rfl, hb2⟩
    have hB2 := bt hb1 hb2
    have hz2s := hB2.size
    go_wp2_with (first | (go_at_call 134; refine (isRoom_b _ _ _ e3).mono ?_; rintro e w' ⟨rfl, rfl⟩))
    go_ret2
    exact ⟨rfl, hB2⟩
  have hdd : inB (rday room) 0 20000 = true := by unfold rday; rw [e3]; rfl
  cases e6 : hasC n K
  · have hq : codeC H K n (rday room) = 4 := codeC_4 e12 hdd e6
    rw [roomP_c (by rw [hq]; decide), hq]
    rw [e6] at HO
    generalize idxC n K = I at *
    clear hq
    go_enter Tryz.func102, Tryz.ntmps102
    go_wp2_with fail
    refine HO.out.mono ?_
    rintro e w1 ⟨rfl, hb1⟩
    have hz1s := hb1.size
    go_wp2_with fail
    refine (HHO.out w1 hb1).mono ?_
    rintro e w' ⟨rfl, rfl⟩
    go_wp2_with fail
    refine (HCO.out w1 hb1).mono ?_
    rintro e w2 ⟨rfl, hb2⟩
    have hB2 := bt hb1 hb2
    have hz2s := hB2.size
    go_wp2_with (first | (go_at_call 134; refine (isRoom_b _ _ _ e3).mono ?_; rintro e w' ⟨rfl, rfl⟩))
    go_ret2
    exact ⟨rfl, hB2⟩
  · have h0 := codeC_00 e12 hdd e6
    have hl20 := calls_len e2
    obtain ⟨hj, -⟩ := hasC_idx e6
    have hbd := calls_bds e2 hj
    rw [e6] at HO
    have HGC := Lib.hid (getC_at hj)
    have HRS := Lib.hid (roomP_0 h0)
    rw [HGC.out] at HRS
    rw [HRS.out]
    generalize hR : roomS H K K[idxC n K] room (lastD K[idxC n K] - K[idxC n K].day).toNat (K[idxC n K].day + 1) = R
    have HR := Lib.hid hR
    clear hR HRS HGC
    have HJ0 : (0 : Int) ≤ (idxC n K : Int) := by omega
    have HJL : (idxC n K : Int) < K.length := by omega
    have HJC : (idxC n K : Int) ≤ (c : Int) := by omega
    generalize idxC n K = j at *
    obtain ⟨bf, offf, rfl, hbf, hcf⟩ := Rd.elem callC 4 (fun _ => rfl) (hr) (by omega) hj
    have f0 : w.cell? ⟨bf, offf + j * 4, none⟩ = some (.int .i64 K[j].number) := hcf j hj 0 _ rfl
    have f1 : w.cell? ⟨bf, offf + j * 4 + 1, none⟩ = some (.int .i64 K[j].first) := hcf j hj 1 _ rfl
    have f2 : w.cell? ⟨bf, offf + j * 4 + 2, none⟩ = some (.int .i64 K[j].day) := hcf j hj 2 _ rfl
    have f3 : w.cell? ⟨bf, offf + j * 4 + 3, none⟩ = some (.int .i64 K[j].moves) := hcf j hj 3 _ rfl
    clear hcf
    generalize K[j] = x at *
    obtain ⟨x0, x1, x2, x3⟩ := x
    obtain ⟨-, b2, b3, b4⟩ := hbd
    simp only at b2 b3 b4
    have HRX : Hid (roomS H K ⟨x0, x1, x2, x3⟩ room (min (x1 + 180) 20000 - x2).toNat (x2 + 1) = R) := HR.out
    clear HR
    obtain ⟨m, hm⟩ : ∃ m, min (x1 + 180) 20000 = m := ⟨_, rfl⟩
    have hm1 : m ≤ 20000 := by omega
    have hm2 : 0 ≤ m := by omega
    rw [hm] at HRX
    have hm3 : min 20000 (x1 + 180) = m := by omega
    clear h0 hdd e12 e6 H1
    go_enter Tryz.func102, Tryz.ntmps102
    go_wp2_with fail
    refine HO.out.mono ?_
    rintro e w1 ⟨rfl, hb1⟩
    have hz1s := hb1.size
    go_wp2_with fail
    refine (HHO.out w1 hb1).mono ?_
    rintro e w' ⟨rfl, rfl⟩
    go_wp2_with fail
    refine (HCO.out w1 hb1).mono ?_
    rintro e w2 ⟨rfl, hb2⟩
    have hB2 := bt hb1 hb2
    have hz2s := hB2.size
    replace f0 := (hb1.cell (by (try simp only); omega)).trans f0
    replace f1 := (hb1.cell (by (try simp only); omega)).trans f1
    replace f2 := (hb1.cell (by (try simp only); omega)).trans f2
    replace f3 := (hb1.cell (by (try simp only); omega)).trans f3
    replace f0 := (hb2.cell (by (try simp only); omega)).trans f0
    replace f1 := (hb2.cell (by (try simp only); omega)).trans f1
    replace f2 := (hb2.cell (by (try simp only); omega)).trans f2
    replace f3 := (hb2.cell (by (try simp only); omega)).trans f3
    have HBP := hB2
    go_upto_region 9 with (first | (go_at_call 134; refine (isRoom_b _ _ _ e3).mono ?_; rintro e w' ⟨rfl, rfl⟩))
    generalize hW1 : w2.alloc _ = W1
    have hbW1 : Below w2.heap.size w2 W1 := by subst hW1; exact (Below.refl _ _).alloc (Nat.le_refl _) _
    have hsW1 : W1.heap.size = w2.heap.size + 1 := by subst hW1; simp
    have cxW1_0 : ∀ i, W1.cell? ⟨w2.heap.size, i, none⟩ = (#[.int .i64 x0, .int .i64 x1, .int .i64 x2, .int .i64 x3] : Array Value)[i]? := by intro i; subst hW1; simp [go_sem]
    have fzW1_0 : ∀ i, W1.frozen? ⟨w2.heap.size, i, none⟩ = false := by intro i; subst hW1; simp [go_sem]
    have HSW1 := Lib.hid hsW1; clear hW1 hsW1
    have HBX := Lib.hid (bt HBP hbW1)
    have HZB := Lib.hid (show w.heap.size ≤ w2.heap.size from HBP.size)
    have hbx : w2.heap.size < W1.heap.size := by have := HSW1.out; omega
    clear HSW1 fzW1_0
    obtain ⟨b, hb⟩ : ∃ b, w2.heap.size = b := ⟨_, rfl⟩
    rw [hb] at cxW1_0 hbx HZB ⊢
    have HCX := Lib.hid cxW1_0
    have g2 := cxW1_0 2
    simp only [List.getElem?_toArray, List.getElem?_cons_succ, List.getElem?_cons_zero] at g2
    clear cxW1_0 hb hbW1 HBP f0 f1 f2 f3
    go_wp2
    go_loopw [13] (fun iv wr => ∃ q : Int, iv = .int .i64 q ∧ x2 + 1 ≤ q ∧ (q ≤ m + 1 ∨ q = x2 + 1) ∧ Hid (R = roomS H K ⟨x0, x1, x2, x3⟩ room (m + 1 - q).toNat q) ∧ Below w.heap.size w wr ∧ Hid (∀ i, wr.cell? ⟨b, i, none⟩ = (#[.int .i64 x0, .int .i64 x1, .int .i64 x2, .int .i64 x3] : Array Value)[i]?) ∧ b < wr.heap.size) (fun iv _ => (m + 1 - intOf iv).toNat)
    case atStart => exact ⟨x2 + 1, by go_num, by omega, .inr rfl, by unfold Hid; rw [← HRX.out]; congr 1; omega, HBX.out, HCX, hbx⟩
    case round =>
      obtain ⟨q, rfl, hq0, hq1, HT, hB, HC, hbl⟩ := hrel
      clear HCX g2 HBX
      have g1 := HC.out 1
      have g2 := HC.out 2
      have g0 := HC.out 0
      have g3 := HC.out 3
      simp only [List.getElem?_toArray, List.getElem?_cons_succ, List.getElem?_cons_zero] at g0 g1 g2 g3
      by_cases hlt : q ≤ m
      · have HF : Hid ((m + 1 - q).toNat = (m + 1 - (q + 1)).toNat + 1) := by unfold Hid; omega
        have HHIT := Lib.hid (fun h => roomS_hit (H := H) (K := K) (x := ⟨x0, x1, x2, x3⟩) (room := room) (d := q) (f := (m + 1 - (q + 1)).toNat) h)
        have HMISS := Lib.hid (fun h => roomS_miss (H := H) (K := K) (x := ⟨x0, x1, x2, x3⟩) (room := room) (d := q) (f := (m + 1 - (q + 1)).toNat) h)
        cases hmv : mayV H ⟨x0, x1, x2, x3⟩ q
        · have HN : Hid (R = roomS H K ⟨x0, x1, x2, x3⟩ room (m + 1 - (q + 1)).toNat (q + 1)) := by unfold Hid; rw [HT.out, HF.out, HMISS.out (by simp [roomB, hmv])]
          have hcov : ∀ u, wr.cell? ⟨b, u, none⟩ = (#[.int .i64 x0, .int .i64 x1, .int .i64 x2, .int .i64 x3] : Array Value)[u]? := HC.out
          go_wp2_with (first | (go_at_call 135; refine (mayMove_c AH cH H x0 x1 x2 x3 q _ wr (rdW hB hrH) hlH hcH (by omega) ⟨by omega, by omega⟩ hmv).mono ?_; rintro e w5 ⟨rfl, hb5⟩))
          all_goals
           have hs5 := hb5.size
           go_roundw
           case rel => exact ⟨q + 1, by go_num, by omega, .inl (by omega), HN, bt hB hb5, fun i => (hb5.cell (p := ⟨b, i, none⟩) hbl).trans (HC.out i), by omega⟩
           case measure => simp [intOf]; omega
        · have HON := Lib.hid (fun (W : World) hb => calledOn_c _ c K q W (rdW hb hr) hl hcap (by omega))
          have HLN := Lib.hid (onC_len K q)
          have hol := onC_len K q
          have HRB : Hid (roomB H K ⟨x0, x1, x2, x3⟩ room q = decide (((onC K q).length : Int) < room)) := by unfold Hid; simp [roomB, hmv]
          generalize onC K q = D at *
          by_cases hr5 : (D.length : Int) < room
          · have HN : Hid (R = some q) := by unfold Hid; rw [HT.out, HF.out, HHIT.out (by rw [HRB.out]; simpa using hr5)]
            go_wp2_with (first | (go_at_call 135; refine (mayMove_c AH cH H x0 x1 x2 x3 q _ wr (rdW hB hrH) hlH hcH (by omega) ⟨by omega, by omega⟩ hmv).mono ?_; rintro e w5 ⟨rfl, hb5⟩) | (go_at_call 136; refine (HON.out w5 (bt hB hb5)).mono ?_; rintro e w6 ⟨A6, c6, rfl, ho6, hb6, hc6, hc7⟩))
            all_goals (go_ret2; exact ⟨by rw [HN.out]; rfl, bt (bt hB hb5) hb6⟩)
          · have HN : Hid (R = roomS H K ⟨x0, x1, x2, x3⟩ room (m + 1 - (q + 1)).toNat (q + 1)) := by unfold Hid; rw [HT.out, HF.out, HMISS.out (by rw [HRB.out]; simpa using hr5)]
            go_wp2_with (first | (go_at_call 135; refine (mayMove_c AH cH H x0 x1 x2 x3 q _ wr (rdW hB hrH) hlH hcH (by omega) ⟨by omega, by omega⟩ hmv).mono ?_; rintro e w5 ⟨rfl, hb5⟩) | (go_at_call 136; refine (HON.out w5 (bt hB hb5)).mono ?_; rintro e w6 ⟨A6, c6, rfl, ho6, hb6, hc6, hc7⟩))
            all_goals
             have hs5 := hb5.size
             have hs6 := hb6.size
             go_roundw
             case rel => exact ⟨q + 1, by go_num, by omega, .inl (by omega), HN, bt (bt hB hb5) hb6, fun i => ((hb6.cell (p := ⟨b, i, none⟩) (by simp only; omega)).trans (hb5.cell (p := ⟨b, i, none⟩) hbl)).trans (HC.out i), by omega⟩
             case measure => simp [intOf]; omega
      · have HN : Hid (R = none) := by unfold Hid; rw [HT.out, show (m + 1 - q).toNat = 0 by omega]; rfl
        go_wp2
        all_goals (go_ret2; exact ⟨by rw [HN.out]; rfl, hB⟩)


set_option maxRecDepth 100000 in
set_option maxHeartbeats 4000000 in
theorem spec_FirstRoom (AH : Option Addr) (cH : Nat) (H : List Int) (A : Option Addr) (c : Nat) (K : List CallD) (n room : Int) (w : World) (hr : Rd w w.heap.size A (K.length * 4) (K.flatMap callC)) (hl : K.length ≤ 140737488355328) (hcap : K.length ≤ c) (hrH : Rd w w.heap.size AH H.length (H.map (Value.int .i64))) (hlH : H.length ≤ 140737488355328) (hcH : H.length ≤ cH) : Calls Tryz.prog 116 #[.slice AH H.length cH, .slice A K.length c, .int .i64 n, .int .i64 room] w fun e w' => e = .returned (.tuple #[.int .i64 (roomP H K n room).1, .int .i64 (roomP H K n room).2]) ∧ Below w.heap.size w w' := by
  have HCODE := Lib.hid (l10Code_c AH cH H A c K n (rday room) w hr hl hcap hrH hlH hcH)
  by_cases h0 : codeC H K n (rday room) = 0
  · obtain ⟨h12, hdd, hh⟩ := codeC_0 h0
    have h12b := h12
    simp only [Bool.and_eq_true] at h12b
    have hl20 := calls_len h12b.2
    obtain ⟨hj, -⟩ := hasC_idx hh
    have hbd := calls_bds h12b.2 hj
    have HFI : Hid (∀ (W : World), Below w.heap.size w W → Calls Tryz.prog 157 #[.slice A K.length c, .int .i64 n] W fun e w' => e = .returned (.int .i64 (idxC n K : Nat)) ∧ W = w') := fun W hb => by
      have h9 := l10Find_c A c K n W (rdW hb hr) hl hcap
      rw [findC_eq h12b.2, hh, if_pos rfl] at h9
      exact h9
    have e3 : inB room 0 20 = true := by
      unfold rday at hdd
      cases e3 : inB room 0 20
      · rw [e3] at hdd; exact absurd hdd (by decide)
      · rfl
    rw [h0] at HCODE
    have hrd : rday room = 0 := by unfold rday; rw [e3]; rfl
    rw [hrd] at HCODE
    have HGC := Lib.hid (getC_at hj)
    have HRS := Lib.hid (roomP_0 h0)
    rw [HGC.out] at HRS
    rw [HRS.out]
    generalize hR : roomS H K K[idxC n K] room (lastD K[idxC n K] - K[idxC n K].day).toNat (K[idxC n K].day + 1) = R
    have HR := Lib.hid hR
    clear hR HRS HGC
    have HJ0 : (0 : Int) ≤ (idxC n K : Int) := by omega
    have HJL : (idxC n K : Int) < K.length := by omega
    have HJC : (idxC n K : Int) ≤ (c : Int) := by omega
    generalize idxC n K = j at *
    obtain ⟨bf, offf, rfl, hbf, hcf⟩ := Rd.elem callC 4 (fun _ => rfl) (hr) (by omega) hj
    have f0 : w.cell? ⟨bf, offf + j * 4, none⟩ = some (.int .i64 K[j].number) := hcf j hj 0 _ rfl
    have f1 : w.cell? ⟨bf, offf + j * 4 + 1, none⟩ = some (.int .i64 K[j].first) := hcf j hj 1 _ rfl
    have f2 : w.cell? ⟨bf, offf + j * 4 + 2, none⟩ = some (.int .i64 K[j].day) := hcf j hj 2 _ rfl
    have f3 : w.cell? ⟨bf, offf + j * 4 + 3, none⟩ = some (.int .i64 K[j].moves) := hcf j hj 3 _ rfl
    clear hcf
    generalize K[j] = x at *
    obtain ⟨x0, x1, x2, x3⟩ := x
    obtain ⟨-, b2, b3, b4⟩ := hbd
    simp only at b2 b3 b4
    have HRX : Hid (roomS H K ⟨x0, x1, x2, x3⟩ room (min (x1 + 180) 20000 - x2).toNat (x2 + 1) = R) := HR.out
    clear HR
    obtain ⟨m, hm⟩ : ∃ m, min (x1 + 180) 20000 = m := ⟨_, rfl⟩
    have hm1 : m ≤ 20000 := by omega
    have hm2 : 0 ≤ m := by omega
    rw [hm] at HRX
    have hm3 : min 20000 (x1 + 180) = m := by omega
    clear h0 hdd h12 hh hrd
    go_enter Tryz.func116, Tryz.ntmps116
    go_wp2_with (first | (go_at_call 81; refine (l01In_b _ _ _ _ _ e3).mono ?_; rintro e w' ⟨rfl, rfl⟩))
    refine HCODE.out.mono ?_
    rintro e w1 ⟨rfl, hb1⟩
    have hz1s := hb1.size
    replace f0 := (hb1.cell (by (try simp only); omega)).trans f0
    replace f1 := (hb1.cell (by (try simp only); omega)).trans f1
    replace f2 := (hb1.cell (by (try simp only); omega)).trans f2
    replace f3 := (hb1.cell (by (try simp only); omega)).trans f3
    have HBP := hb1
    go_upto_region 8 with (first | (go_at_call 157; refine (HFI.out w1 hb1).mono ?_; rintro e w' ⟨rfl, rfl⟩))
    generalize hW1 : w1.alloc _ = W1
    have hbW1 : Below w1.heap.size w1 W1 := by subst hW1; exact (Below.refl _ _).alloc (Nat.le_refl _) _
    have hsW1 : W1.heap.size = w1.heap.size + 1 := by subst hW1; simp
    have cxW1_0 : ∀ i, W1.cell? ⟨w1.heap.size, i, none⟩ = (#[.int .i64 x0, .int .i64 x1, .int .i64 x2, .int .i64 x3] : Array Value)[i]? := by intro i; subst hW1; simp [go_sem]
    have fzW1_0 : ∀ i, W1.frozen? ⟨w1.heap.size, i, none⟩ = false := by intro i; subst hW1; simp [go_sem]
    have HSW1 := Lib.hid hsW1; clear hW1 hsW1
    have HBX := Lib.hid (bt HBP hbW1)
    have HZB := Lib.hid (show w.heap.size ≤ w1.heap.size from HBP.size)
    have hbx : w1.heap.size < W1.heap.size := by have := HSW1.out; omega
    clear HSW1 fzW1_0
    obtain ⟨b, hb⟩ : ∃ b, w1.heap.size = b := ⟨_, rfl⟩
    rw [hb] at cxW1_0 hbx HZB ⊢
    have HCX := Lib.hid cxW1_0
    have g2 := cxW1_0 2
    simp only [List.getElem?_toArray, List.getElem?_cons_succ, List.getElem?_cons_zero] at g2
    clear cxW1_0 hb hbW1 HBP f0 f1 f2 f3
    go_wp2
    go_loopw [10] (fun iv wr => ∃ q : Int, iv = .int .i64 q ∧ x2 + 1 ≤ q ∧ (q ≤ m + 1 ∨ q = x2 + 1) ∧ Hid (R = roomS H K ⟨x0, x1, x2, x3⟩ room (m + 1 - q).toNat q) ∧ Below w.heap.size w wr ∧ Hid (∀ i, wr.cell? ⟨b, i, none⟩ = (#[.int .i64 x0, .int .i64 x1, .int .i64 x2, .int .i64 x3] : Array Value)[i]?) ∧ b < wr.heap.size) (fun iv _ => (m + 1 - intOf iv).toNat)
    case atStart => exact ⟨x2 + 1, by go_num, by omega, .inr rfl, by unfold Hid; rw [← HRX.out]; congr 1; omega, HBX.out, HCX, hbx⟩
    case round =>
      obtain ⟨q, rfl, hq0, hq1, HT, hB, HC, hbl⟩ := hrel
      clear HCX g2 HBX
      have g1 := HC.out 1
      have g2 := HC.out 2
      have g0 := HC.out 0
      have g3 := HC.out 3
      simp only [List.getElem?_toArray, List.getElem?_cons_succ, List.getElem?_cons_zero] at g0 g1 g2 g3
      by_cases hlt : q ≤ m
      · have HF : Hid ((m + 1 - q).toNat = (m + 1 - (q + 1)).toNat + 1) := by unfold Hid; omega
        have HHIT := Lib.hid (fun h => roomS_hit (H := H) (K := K) (x := ⟨x0, x1, x2, x3⟩) (room := room) (d := q) (f := (m + 1 - (q + 1)).toNat) h)
        have HMISS := Lib.hid (fun h => roomS_miss (H := H) (K := K) (x := ⟨x0, x1, x2, x3⟩) (room := room) (d := q) (f := (m + 1 - (q + 1)).toNat) h)
        cases hmv : mayV H ⟨x0, x1, x2, x3⟩ q
        · have HN : Hid (R = roomS H K ⟨x0, x1, x2, x3⟩ room (m + 1 - (q + 1)).toNat (q + 1)) := by unfold Hid; rw [HT.out, HF.out, HMISS.out (by simp [roomB, hmv])]
          have hcov : ∀ u, wr.cell? ⟨b, u, none⟩ = (#[.int .i64 x0, .int .i64 x1, .int .i64 x2, .int .i64 x3] : Array Value)[u]? := HC.out
          go_wp2_with (first | (go_at_call 158; refine (l10May_c AH cH H x0 x1 x2 x3 q _ wr (rdW hB hrH) hlH hcH (by omega) ⟨by omega, by omega⟩ hmv).mono ?_; rintro e w5 ⟨rfl, hb5⟩))
          all_goals
           have hs5 := hb5.size
           go_roundw
           case rel => exact ⟨q + 1, by go_num, by omega, .inl (by omega), HN, bt hB hb5, fun i => (hb5.cell (p := ⟨b, i, none⟩) hbl).trans (HC.out i), by omega⟩
           case measure => simp [intOf]; omega
        · have HON := Lib.hid (fun (W : World) hb => l10On_c _ c K q W (rdW hb hr) hl hcap (by omega))
          have HLN := Lib.hid (onC_len K q)
          have hol := onC_len K q
          have HRB : Hid (roomB H K ⟨x0, x1, x2, x3⟩ room q = decide (((onC K q).length : Int) < room)) := by unfold Hid; simp [roomB, hmv]
          generalize onC K q = D at *
          by_cases hr5 : (D.length : Int) < room
          · have HN : Hid (R = some q) := by unfold Hid; rw [HT.out, HF.out, HHIT.out (by rw [HRB.out]; simpa using hr5)]
            go_wp2_with (first | (go_at_call 158; refine (l10May_c AH cH H x0 x1 x2 x3 q _ wr (rdW hB hrH) hlH hcH (by omega) ⟨by omega, by omega⟩ hmv).mono ?_; rintro e w5 ⟨rfl, hb5⟩) | (go_at_call 163; refine (HON.out w5 (bt hB hb5)).mono ?_; rintro e w6 ⟨A6, c6, rfl, ho6, hb6, hc6, hc7⟩))
            all_goals (go_ret2; exact ⟨by rw [HN.out]; rfl, bt (bt hB hb5) hb6⟩)
          · have HN : Hid (R = roomS H K ⟨x0, x1, x2, x3⟩ room (m + 1 - (q + 1)).toNat (q + 1)) := by unfold Hid; rw [HT.out, HF.out, HMISS.out (by rw [HRB.out]; simpa using hr5)]
            go_wp2_with (first | (go_at_call 158; refine (l10May_c AH cH H x0 x1 x2 x3 q _ wr (rdW hB hrH) hlH hcH (by omega) ⟨by omega, by omega⟩ hmv).mono ?_; rintro e w5 ⟨rfl, hb5⟩) | (go_at_call 163; refine (HON.out w5 (bt hB hb5)).mono ?_; rintro e w6 ⟨A6, c6, rfl, ho6, hb6, hc6, hc7⟩))
            all_goals
             have hs5 := hb5.size
             have hs6 := hb6.size
             go_roundw
             case rel => exact ⟨q + 1, by go_num, by omega, .inl (by omega), HN, bt (bt hB hb5) hb6, fun i => ((hb6.cell (p := ⟨b, i, none⟩) (by simp only; omega)).trans (hb5.cell (p := ⟨b, i, none⟩) hbl)).trans (HC.out i), by omega⟩
             case measure => simp [intOf]; omega
      · have HN : Hid (R = none) := by unfold Hid; rw [HT.out, show (m + 1 - q).toNat = 0 by omega]; rfl
        go_wp2
        all_goals (go_ret2; exact ⟨by rw [HN.out]; rfl, hB⟩)
  · rw [roomP_c h0]
    cases e3 : inB room 0 20
    all_goals
      have hrd : rday room = if inB room 0 20 then 0 else -1 := rfl
      rw [e3] at hrd
      simp only [Bool.false_eq_true, if_false, if_true] at hrd
      rw [hrd] at h0 HCODE ⊢
      clear hrd
      generalize codeC H K n _ = q at *
      have hne : (q != 0) = true := by rw [bne_iff_ne]; exact h0
      have hne2 : (q == 0) = false := by rw [beq_eq_false_iff_ne]; exact h0
      clear h0
      go_enter Tryz.func116, Tryz.ntmps116
      go_wp2_with (first | (go_at_call 81; refine (l01In_b _ _ _ _ _ e3).mono ?_; rintro e w' ⟨rfl, rfl⟩))
      refine HCODE.out.mono ?_
      rintro e w1 ⟨rfl, hb1⟩
      go_wp2
      go_ret2
      exact ⟨rfl, hb1⟩

end Go.Proofs.YtiamignopfhkfaaGreatDoor
end
