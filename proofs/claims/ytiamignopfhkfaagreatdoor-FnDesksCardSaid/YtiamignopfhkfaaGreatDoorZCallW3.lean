/- Contracts: AddCall of both texts. -/
import Derived.Test.YtiamignopfhkfaaGreatDoorZ13
import Derived.Test.YtiamignopfhkfaaGreatDoorZInsC
namespace Go.Proofs.YtiamignopfhkfaaGreatDoor
open Go.RowKit
set_option linter.unusedVariables false
set_option linter.unusedSimpArgs false
set_option maxHeartbeats 1000000 in
theorem cloneCall_x (A : Option Addr) (c : Nat) (L : List CallD) (w : World) (hr : Rd w w.heap.size A (L.length * 4) (L.flatMap callC)) (hl : L.length * 32 ≤ 140737488355328) :
    Calls Tryz.prog 188 #[.slice A L.length c] w fun e w' => ∃ g, e = .returned (.slice (some ⟨g, 0, none⟩) L.length L.length) ∧ w'.ownsRow w.heap.size 68 4 (.slice (some ⟨g, 0, none⟩) L.length L.length) L.length (L.flatMap callC) ∧ Below w.heap.size w w' := by
  obtain ⟨i0, hi, hz0, hz1, hz2⟩ := info_parts call_info
  have HO := Lib.hid (one_flat (fun a u hu => by simp only [callC, List.mem_cons, List.not_mem_nil, or_false] at hu; rcases hu with rfl | rfl | rfl | rfl <;> rfl) L : ∀ u ∈ L.flatMap callC, u.oneCell' = true)
  go_enter Tryz.func188, Tryz.ntmps188
  go_wp2_with (first | (at_make; refine wpList_make_own _ rfl _ _ 31 rfl w.heap.size 68 i0 _ 4 Tryz.underlying31 hi hz0 hz1 _ _ _ L.length rfl rfl rfl (by rw [hz2]; omega) (by unfold maxLen; omega) (Nat.le_refl _) ?_; intro w1 hown1 hgrow1; have hb1 : Below w.heap.size w w1 := (Below.refl _ _).grown hgrow1 (Nat.le_refl _) (fun k hk => by cases hk); have HR := Lib.hid (hr.below hb1 : Rd w1 w.heap.size A (L.length * 4) (L.flatMap callC)); clear hgrow1) | (at_builtin; refine wpList_fitsR w1 rfl _ _ 31 rfl w.heap.size 68 i0 4 Tryz.underlying31 hi hz1 (by decide) w.heap.size 0 L.length [] (by rfl) hown1 A L.length c w.heap.size (L.flatMap callC) (by rfl) HR.out HO.out (by omega) ?_; intro w2 hown2 hgrow2))
  have hb2 : Below w.heap.size w w2 := below_grown hb1 hgrow2 (Nat.le_refl _) (fun g hg => by cases hg; exact Nat.le_refl _)
  simp only [Nat.zero_add, List.nil_append] at hown2
  clear hgrow2 hown1
  go_wp2
  go_ret
  exact ⟨_, rfl, hown2, hb2⟩

theorem flatC_take : ∀ (L : List CallD) (k : Nat), (L.take k).flatMap callC = (L.flatMap callC).take (k * 4)
  | [], k => by simp
  | a :: L, 0 => by simp
  | a :: L, k + 1 => by
    rw [List.take_succ_cons, List.flatMap_cons, List.flatMap_cons, flatC_take L k, show (k + 1) * 4 = (callC a).length + k * 4 by show _ = 4 + k * 4; omega, List.take_length_add_append]
theorem flatC_drop : ∀ (L : List CallD) (k : Nat), (L.drop k).flatMap callC = (L.flatMap callC).drop (k * 4)
  | [], k => by simp
  | a :: L, 0 => by simp
  | a :: L, k + 1 => by
    rw [List.drop_succ_cons, List.flatMap_cons, flatC_drop L k, show (k + 1) * 4 = (callC a).length + k * 4 by show _ = 4 + k * 4; omega, List.drop_length_add_append]
theorem insC_flat (i : Nat) (L : List CallD) (m : CallD) : (insC i L m).flatMap callC = (L.flatMap callC).take (i * 4) ++ (callC m ++ (L.flatMap callC).drop (i * 4)) := by
  rw [insC, List.flatMap_append, List.flatMap_cons, flatC_take, flatC_drop]
theorem one_call (L : List CallD) : ∀ u ∈ L.flatMap callC, u.oneCell' = true := one_flat (fun a u hu => by simp only [callC, List.mem_cons, List.not_mem_nil, or_false] at hu; rcases hu with rfl | rfl | rfl | rfl <;> rfl) L
theorem own_addr {W : World} {base : Nat} {e : TypeId} {size m c : Nat} {A : Option Addr} {xs : List Value} (h : W.ownsRow base e size (.slice A m c) m xs) : (A = none ∧ c = 0) ∨ ∃ b off, A = some ⟨b, off, none⟩ := by
  rcases h.2 with ⟨h0, hv⟩ | ⟨g, cap, cur, hv, _⟩
  · injection h0 with h1 _ h3; exact .inl ⟨h1, h3⟩
  · injection hv with h1; exact .inr ⟨g, 0, h1⟩
theorem addC_1 {H : List Int} {K : List CallD} {n d : Int} (h : (holOk H && callsOk K) = false) : addC H K n d = ([], 1) := by unfold addC; rw [h]; rfl
theorem addC_2 {H : List Int} {K : List CallD} {n d : Int} (h : (holOk H && callsOk K) = true) (hd : (inB n 1 1000000 && inB d 0 20000) = false) : addC H K n d = ([], 2) := by unfold addC; rw [h, hd]; rfl
theorem addC_5 {H : List Int} {K : List CallD} {n d : Int} (h : (holOk H && callsOk K) = true) (hd : (inB n 1 1000000 && inB d 0 20000) = true) (hx : (courtB H d && (!hasC n K && decide (K.length ≠ 20))) = false) : addC H K n d = ([], 5) := by unfold addC; rw [h, hd, hx]; rfl
theorem addC_0 {H : List Int} {K : List CallD} {n d : Int} (h : (holOk H && callsOk K) = true) (hd : (inB n 1 1000000 && inB d 0 20000) = true) (hx : (courtB H d && (!hasC n K && decide (K.length ≠ 20))) = true) : addC H K n d = (insC (idxC n K) K ⟨n, d, d, 0⟩, 0) := by unfold addC; rw [h, hd, hx]; rfl


set_option maxRecDepth 100000 in
set_option maxHeartbeats 4000000 in
theorem impl_AddCall (AH : Option Addr) (cH : Nat) (H : List Int) (A : Option Addr) (c : Nat) (K : List CallD) (n d : Int) (w : World) (hr : Rd w w.heap.size A (K.length * 4) (K.flatMap callC)) (hl : K.length ≤ 140737488355328) (hcap : K.length ≤ c) (hrH : Rd w w.heap.size AH H.length (H.map (Value.int .i64))) (hlH : H.length ≤ 140737488355328) (hcH : H.length ≤ cH) : Calls Tryz.prog 150 #[.slice AH H.length cH, .slice A K.length c, .int .i64 n, .int .i64 d] w (RowPost2 68 4 (addC H K n d).1.length ((addC H K n d).1.flatMap callC) (addC H K n d).2 w) := by
  have HO := Lib.hid (callOf_c A c K n w hr hl hcap)
  cases e1 : holOk H
  · rw [addC_1 (by rw [e1]; rfl)]
    have HHO := Lib.hid (fun (W : World) hb => impl_AreHolidays AH cH H _ W (rdW hb hrH) hlH hcH e1)
    generalize idxC n K = I at *
    generalize hasC n K = f at *
    go_enter Tryz.func150, Tryz.ntmps150
    go_wp2_with fail
    refine HO.out.mono ?_
    rintro e w1 ⟨rfl, hb1⟩
    go_wp2_with fail
    refine (HHO.out w1 hb1).mono ?_
    rintro e w' ⟨rfl, rfl⟩
    go_wp2
    go_ret2
    exact rowPost2_nil hb1
  have HHO := Lib.hid (fun (W : World) hb => impl_AreHolidays AH cH H _ W (rdW hb hrH) hlH hcH e1)
  cases e2 : callsOk K
  · rw [addC_1 (by rw [e1, e2]; rfl)]
    have HCO := Lib.hid (fun (W : World) hb => impl_AreCalls A c K _ W (rdW hb hr) hl hcap e2)
    generalize idxC n K = I at *
    generalize hasC n K = f at *
    go_enter Tryz.func150, Tryz.ntmps150
    go_wp2_with fail
    refine HO.out.mono ?_
    rintro e w1 ⟨rfl, hb1⟩
    go_wp2_with fail
    refine (HHO.out w1 hb1).mono ?_
    rintro e w' ⟨rfl, rfl⟩
    go_wp2_with fail
    refine (HCO.out w1 hb1).mono ?_
    rintro e w2 ⟨rfl, hb2⟩
    have hB2 := bt hb1 hb2
    go_wp2
    go_ret2
    exact rowPost2_nil hB2
  have HCO := Lib.hid (fun (W : World) hb => impl_AreCalls A c K _ W (rdW hb hr) hl hcap e2)
  have e12 : (holOk H && callsOk K) = true := by rw [e1, e2]; rfl
  cases e3 : inB d 0 20000
  · rw [addC_2 e12 (by rw [e3]; simp)]
    generalize idxC n K = I at *
    generalize hasC n K = f at *
    go_enter Tryz.func150, Tryz.ntmps150
    go_wp2_with fail
    refine HO.out.mono ?_
    rintro e w1 ⟨rfl, hb1⟩
    go_wp2_with fail
    refine (HHO.out w1 hb1).mono ?_
    rintro e w' ⟨rfl, rfl⟩
    go_wp2_with fail
    refine (HCO.out w1 hb1).mono ?_
    rintro e w2 ⟨rfl, hb2⟩
    have hB2 := bt hb1 hb2
    go_wp2_with (first | (go_at_call 94; refine (isDay_b _ _ _ e3).mono ?_; rintro e w' ⟨rfl, rfl⟩) | (go_at_call 93; refine (isNumber_b _ _ _ e4).mono ?_; rintro e w' ⟨rfl, rfl⟩) | (go_at_call 178; refine (HXO.out w2 hB2).mono ?_; rintro e w' ⟨rfl, rfl⟩))
    go_ret2
    exact rowPost2_nil hB2
  cases e4 : inB n 1 1000000
  · rw [addC_2 e12 (by rw [e4]; rfl)]
    generalize idxC n K = I at *
    generalize hasC n K = f at *
    go_enter Tryz.func150, Tryz.ntmps150
    go_wp2_with fail
    refine HO.out.mono ?_
    rintro e w1 ⟨rfl, hb1⟩
    go_wp2_with fail
    refine (HHO.out w1 hb1).mono ?_
    rintro e w' ⟨rfl, rfl⟩
    go_wp2_with fail
    refine (HCO.out w1 hb1).mono ?_
    rintro e w2 ⟨rfl, hb2⟩
    have hB2 := bt hb1 hb2
    go_wp2_with (first | (go_at_call 94; refine (isDay_b _ _ _ e3).mono ?_; rintro e w' ⟨rfl, rfl⟩) | (go_at_call 93; refine (isNumber_b _ _ _ e4).mono ?_; rintro e w' ⟨rfl, rfl⟩) | (go_at_call 178; refine (HXO.out w2 hB2).mono ?_; rintro e w' ⟨rfl, rfl⟩))
    go_ret2
    exact rowPost2_nil hB2
  have e34 : (inB n 1 1000000 && inB d 0 20000) = true := by rw [e3, e4]; rfl
  have hd := inB_iff.1 e3
  cases e5 : courtB H d
  · rw [addC_5 e12 e34 (by rw [e5]; rfl)]
    have HXO := Lib.hid (fun (W : World) hb => isCourtDay_b AH cH H d _ W (rdW hb hrH) hlH hcH hd.1 e5)
    generalize idxC n K = I at *
    generalize hasC n K = f at *
    go_enter Tryz.func150, Tryz.ntmps150
    go_wp2_with fail
    refine HO.out.mono ?_
    rintro e w1 ⟨rfl, hb1⟩
    go_wp2_with fail
    refine (HHO.out w1 hb1).mono ?_
    rintro e w' ⟨rfl, rfl⟩
    go_wp2_with fail
    refine (HCO.out w1 hb1).mono ?_
    rintro e w2 ⟨rfl, hb2⟩
    have hB2 := bt hb1 hb2
    go_wp2_with (first | (go_at_call 94; refine (isDay_b _ _ _ e3).mono ?_; rintro e w' ⟨rfl, rfl⟩) | (go_at_call 93; refine (isNumber_b _ _ _ e4).mono ?_; rintro e w' ⟨rfl, rfl⟩) | (go_at_call 178; refine (HXO.out w2 hB2).mono ?_; rintro e w' ⟨rfl, rfl⟩))
    go_ret2
    exact rowPost2_nil hB2
  have HXO := Lib.hid (fun (W : World) hb => isCourtDay_b AH cH H d _ W (rdW hb hrH) hlH hcH hd.1 e5)
  cases e6 : hasC n K
  case true =>
    rw [addC_5 e12 e34 (by rw [e6]; simp)]
    rw [e6] at HO
    generalize idxC n K = I at *
    go_enter Tryz.func150, Tryz.ntmps150
    go_wp2_with fail
    refine HO.out.mono ?_
    rintro e w1 ⟨rfl, hb1⟩
    go_wp2_with fail
    refine (HHO.out w1 hb1).mono ?_
    rintro e w' ⟨rfl, rfl⟩
    go_wp2_with fail
    refine (HCO.out w1 hb1).mono ?_
    rintro e w2 ⟨rfl, hb2⟩
    have hB2 := bt hb1 hb2
    go_wp2_with (first | (go_at_call 94; refine (isDay_b _ _ _ e3).mono ?_; rintro e w' ⟨rfl, rfl⟩) | (go_at_call 93; refine (isNumber_b _ _ _ e4).mono ?_; rintro e w' ⟨rfl, rfl⟩) | (go_at_call 178; refine (HXO.out w2 hB2).mono ?_; rintro e w' ⟨rfl, rfl⟩))
    go_ret2
    exact rowPost2_nil hB2
  have hl20 := calls_len e2
  by_cases h20 : K.length = 20
  · rw [addC_5 e12 e34 (by rw [h20]; simp)]
    rw [e6] at HO
    generalize idxC n K = I at *
    have h20i : ((K.length : Int) == 20) = true := by rw [h20]; rfl
    have H20 := Lib.hid h20; clear h20
    go_enter Tryz.func150, Tryz.ntmps150
    go_wp2_with fail
    refine HO.out.mono ?_
    rintro e w1 ⟨rfl, hb1⟩
    go_wp2_with fail
    refine (HHO.out w1 hb1).mono ?_
    rintro e w' ⟨rfl, rfl⟩
    go_wp2_with fail
    refine (HCO.out w1 hb1).mono ?_
    rintro e w2 ⟨rfl, hb2⟩
    have hB2 := bt hb1 hb2
    go_wp2_with (first | (go_at_call 94; refine (isDay_b _ _ _ e3).mono ?_; rintro e w' ⟨rfl, rfl⟩) | (go_at_call 93; refine (isNumber_b _ _ _ e4).mono ?_; rintro e w' ⟨rfl, rfl⟩) | (go_at_call 178; refine (HXO.out w2 hB2).mono ?_; rintro e w' ⟨rfl, rfl⟩))
    go_ret2
    exact rowPost2_nil hB2
  · have hle := idxC_le n K
    rw [addC_0 e12 e34 (by rw [e5, e6]; simp [h20])]
    have h20i : ((K.length : Int) == 20) = false := beq_eq_false_iff_ne.2 (by omega)
    have HEL := Lib.hid (insC_len hle ⟨n, d, d, 0⟩)
    have HEF := Lib.hid (insC_flat (idxC n K) K ⟨n, d, d, 0⟩)
    have HON := Lib.hid (one_call K)
    rw [e6] at HO
    generalize idxC n K = I at *
    have H20 := Lib.hid h20; clear h20
    go_enter Tryz.func150, Tryz.ntmps150
    go_wp2_with fail
    refine HO.out.mono ?_
    rintro e w1 ⟨rfl, hb1⟩
    go_wp2_with fail
    refine (HHO.out w1 hb1).mono ?_
    rintro e w' ⟨rfl, rfl⟩
    go_wp2_with fail
    refine (HCO.out w1 hb1).mono ?_
    rintro e w2 ⟨rfl, hb2⟩
    have hB2 := bt hb1 hb2
    go_wp2_with (first | (go_at_call 94; refine (isDay_b _ _ _ e3).mono ?_; rintro e w' ⟨rfl, rfl⟩) | (go_at_call 93; refine (isNumber_b _ _ _ e4).mono ?_; rintro e w' ⟨rfl, rfl⟩) | (go_at_call 178; refine (HXO.out w2 hB2).mono ?_; rintro e w' ⟨rfl, rfl⟩))
    refine (cloneCall_x _ c K w2 (rdW hB2 hr) (by omega)).mono ?_
    rintro e w3 ⟨g, rfl, ho3, hb3⟩
    have hB3 := bt hB2 hb3
    have HZ3 := Lib.hid hb3.size
    have HZ2 := Lib.hid hB2.size
    go_wp2_with fail
    refine (insertCall_c g K.length I w3.heap.size w2.heap.size (K.flatMap callC) [.int .i64 n, .int .i64 d, .int .i64 d, .int .i64 0] _ (ho3.alloc _) hle (by omega) rfl (by simp [Value.oneCell']) HON.out (heap_alloc_new w3 _) (by have := HZ3.out; simp; omega)).mono ?_
    rintro e w4 ⟨A4, c4, rfl, ho4, hg4⟩
    have hgl := (own_lt ho3)
    go_wp2
    go_ret2
    rw [HEL.out, HEF.out]
    exact rowPost2_mk (own_mono ho4 HZ2.out) (below_grown (hB3.alloc hB3.size _) hg4 (Nat.le_refl _) (fun k hk => by cases hk; have := HZ2.out; omega))


set_option maxRecDepth 100000 in
set_option maxHeartbeats 8000000 in
theorem spec_AddCall (AH : Option Addr) (cH : Nat) (H : List Int) (A : Option Addr) (c : Nat) (K : List CallD) (n d : Int) (w : World) (hr : Rd w w.heap.size A (K.length * 4) (K.flatMap callC)) (hl : K.length ≤ 140737488355328) (hcap : K.length ≤ c) (hrH : Rd w w.heap.size AH H.length (H.map (Value.int .i64))) (hlH : H.length ≤ 140737488355328) (hcH : H.length ≤ cH) (hA : (A = none ∧ c = 0) ∨ ∃ b off, A = some ⟨b, off, none⟩) : Calls Tryz.prog 112 #[.slice AH H.length cH, .slice A K.length c, .int .i64 n, .int .i64 d] w (RowPost2 68 4 (addC H K n d).1.length ((addC H K n d).1.flatMap callC) (addC H K n d).2 w) := by
  obtain ⟨i0, hi, hz0, hz1, hz2⟩ := info_parts call_info
  cases e1 : holOk H
  · rw [addC_1 (by rw [e1]; rfl)]
    have HHO := Lib.hid (spec_AreHolidays AH cH H _ w hrH hlH hcH e1)
    go_enter Tryz.func112, Tryz.ntmps112
    go_wp2_with fail
    refine HHO.out.mono ?_
    rintro e w1 ⟨rfl, hb1⟩
    go_wp2
    go_ret2
    exact rowPost2_nil hb1
  have HHO := Lib.hid (spec_AreHolidays AH cH H _ w hrH hlH hcH e1)
  cases e2 : callsOk K
  · rw [addC_1 (by rw [e1, e2]; rfl)]
    have HCO := Lib.hid (fun (W : World) hb => spec_AreCalls A c K _ W (rdW hb hr) hl hcap e2)
    go_enter Tryz.func112, Tryz.ntmps112
    go_wp2_with fail
    refine HHO.out.mono ?_
    rintro e w1 ⟨rfl, hb1⟩
    go_wp2_with fail
    refine (HCO.out w1 hb1).mono ?_
    rintro e w2 ⟨rfl, hb2⟩
    have hB2 := bt hb1 hb2
    go_wp2
    go_ret2
    exact rowPost2_nil hB2
  have HCO := Lib.hid (fun (W : World) hb => spec_AreCalls A c K _ W (rdW hb hr) hl hcap e2)
  have e12 : (holOk H && callsOk K) = true := by rw [e1, e2]; rfl
  cases e4 : inB n 1 1000000
  · rw [addC_2 e12 (by rw [e4]; rfl)]
    go_enter Tryz.func112, Tryz.ntmps112
    go_wp2_with fail
    refine HHO.out.mono ?_
    rintro e w1 ⟨rfl, hb1⟩
    go_wp2_with fail
    refine (HCO.out w1 hb1).mono ?_
    rintro e w2 ⟨rfl, hb2⟩
    have hB2 := bt hb1 hb2
    go_wp2_with (first | (go_at_call 81; refine (l01In_b _ _ _ _ _ e4).mono ?_; rintro e w' ⟨rfl, rfl⟩))
    go_ret2
    exact rowPost2_nil hB2
  cases e3 : inB d 0 20000
  · rw [addC_2 e12 (by rw [e3]; simp)]
    go_enter Tryz.func112, Tryz.ntmps112
    go_wp2_with fail
    refine HHO.out.mono ?_
    rintro e w1 ⟨rfl, hb1⟩
    go_wp2_with fail
    refine (HCO.out w1 hb1).mono ?_
    rintro e w2 ⟨rfl, hb2⟩
    have hB2 := bt hb1 hb2
    go_wp2_with (first | (go_at_call 80; refine (l02Is_b _ _ _ e3).mono ?_; rintro e w' ⟨rfl, rfl⟩) | (go_at_call 81; refine (l01In_b _ _ _ _ _ e4).mono ?_; rintro e w' ⟨rfl, rfl⟩))
    go_ret2
    exact rowPost2_nil hB2
  have e34 : (inB n 1 1000000 && inB d 0 20000) = true := by rw [e3, e4]; rfl
  have hd := inB_iff.1 e3
  have hl20 := calls_len e2
  cases e5 : courtB H d
  · rw [addC_5 e12 e34 (by rw [e5]; rfl)]
    have HXO := Lib.hid (fun (W : World) hb => l02Court_b AH cH H d _ W (rdW hb hrH) hlH hcH hd.1 e5)
    have HIO := Lib.hid (insC_ok (n := n) (d := d) e2 e4 e3)
    clear e5 e12 e34
    go_enter Tryz.func112, Tryz.ntmps112
    go_wp2_with fail
    refine HHO.out.mono ?_
    rintro e w1 ⟨rfl, hb1⟩
    go_wp2_with fail
    refine (HCO.out w1 hb1).mono ?_
    rintro e w2 ⟨rfl, hb2⟩
    have hB2 := bt hb1 hb2
    go_wp2_with (first | (go_at_call 80; refine (l02Is_b _ _ _ e3).mono ?_; rintro e w' ⟨rfl, rfl⟩) | (go_at_call 81; refine (l01In_b _ _ _ _ _ e4).mono ?_; rintro e w' ⟨rfl, rfl⟩))
    go_loopw [10] (fun i wr => ∃ k : Nat, k ≤ K.length ∧ i = .int .i64 k ∧ Below w.heap.size w wr ∧ Hid (∀ j (hj : j < K.length), j < k → K[j].number < n)) (fun i _ => K.length - (intOf i).toNat)
    case atStart => exact ⟨0, by omega, rfl, hB2, fun j _ hj => absurd hj (by omega)⟩
    case round =>
      obtain ⟨k, hk, rfl, hB, HT⟩ := hrel
      clear hb1 hb2 hB2
      have hk0 : (0 : Int) ≤ (k : Int) := by omega
      by_cases hlt : k < K.length
      · obtain ⟨bf, offf, hAf, hbf, hcf⟩ := Rd.elem callC 4 (fun _ => rfl) (rdW hB hr) (by omega) hlt
        have f0 : wr.cell? ⟨bf, offf + k * 4, none⟩ = some (.int .i64 K[k].number) := hcf k hlt 0 _ rfl
        clear hcf
        subst hAf
        have hk1 : (k : Int) < (K.length : Int) := by omega
        have hkc1 : (k : Int) ≤ (c : Int) := by omega
        have HG := Lib.hid (idxC_go (n := n) hlt HT)
        have HS := Lib.hid (fun h => (idxC_stop (n := n) hlt HT h).1)
        generalize K[k].number = x0 at *
        by_cases hf : x0 < n
        · have HX := Lib.hid (HG.out hf)
          go_wp2
          go_roundw
          case rel => exact ⟨k + 1, by omega, by go_num, hB, HX⟩
          case measure => simp [intOf]; omega
        · have HLK := Lib.hid (HS.out hf)
          go_wp2_with fail
          clear f0 hf
          have hkI : (k : Int) ≤ (K.length : Int) := by omega
          have hkc : (k : Int) ≤ (c : Int) := by omega
          have hck : ¬ c = k := by omega
          obtain ⟨v1, rfl⟩ : ∃ x, x = wr := ⟨_, rfl⟩
          have hBo := hB
          clear hB
          have HTK : Hid (∀ W1 : World, Below v1.heap.size v1 W1 → Rd W1 v1.heap.size (some ⟨bf, offf, none⟩) (k * 4) ((K.take k).flatMap callC)) := fun W1 h => (Rd.take_ (f := callC) (m := 4) (L := K) (fun _ => rfl) (rdW hBo hr) hk).below h
          have HTO : Hid (∀ u ∈ (K.take k).flatMap callC, u.oneCell' = true) := one_call (K.take k)
          have HT3O : Hid (∀ u ∈ (K.drop k).flatMap callC, u.oneCell' = true) := one_call (K.drop k)
          have hwk : IntKind.i64.wrap (k : Int) = (k : Int) := IntWalk.i64_in _ (by omega)
          have HT3 : Hid (∀ W1 : World, Below v1.heap.size v1 W1 → Rd W1 v1.heap.size (some ⟨bf, offf + k * 4, none⟩) ((K.length - k) * 4) ((K.drop k).flatMap callC)) := fun W1 h => (Rd.drop_ (f := callC) (m := 4) (L := K) (fun _ => rfl) (rdW hBo hr) hk).below h
          have HKd : Hid (∀ W1 : World, Below v1.heap.size v1 W1 → Below v1.heap.size v1 W1) := fun W1 h => h
          go_region_held3 (fun W1 => Below v1.heap.size v1 W1) (first | exact HKd.out _ ((Below.refl _ _).drew) | exact HKd.out _ (((Below.refl _ _).alloc (Nat.le_refl _) _).drew) | exact HKd.out _ ((((Below.refl _ _).alloc (Nat.le_refl _) _).alloc (by simp) _).drew) | exact HKd.out _ (hB1) | exact HKd.out _ (hB1.alloc hB1.size _) | exact HKd.out _ (hB2) | exact HKd.out _ (hB3))
            ((first
              | (refine step_cat _ (by rfl) (.tmp 43) (.tmp 46) 31 (by rfl) v1.heap.size 68 i0 _ 4 32 Tryz.underlying31 hi hz0 hz1 hz2 rfl (by omega) (.slice (some ⟨v1.heap.size, 0, none⟩) 0 0) 0 [] (by rfl) (own_empty (heap_alloc_new v1 _) (Nat.le_refl _)) (some ⟨bf, offf, none⟩) (k) (c) (v1.heap.size) ((K.take k).flatMap callC) (by rfl) (HTK.out _ (((Below.refl _ _).alloc (Nat.le_refl _) _).drew)) HTO.out (by unfold maxLen; omega) (by omega) (by first | omega | (simp; done) | (simp; omega)) (k) (by omega) ?_; intro A2 c2 w1 ho1 hg1; have hB1 : Below v1.heap.size v1 w1 := below_grown (((Below.refl _ _).alloc (Nat.le_refl _) _).drew) hg1 (Nat.le_refl _) (fun k hk => by have h3 : v1.heap.size = k := Option.some.inj hk; omega); have hs1 := hB1.size; simp only [List.nil_append] at ho1)
              | (refine step_cat _ (by rfl) (.tmp 43) (.tmp 46) 31 (by rfl) v1.heap.size 68 i0 _ 4 32 Tryz.underlying31 hi hz0 hz1 hz2 rfl (by omega) (.slice (some ⟨v1.heap.size, 0, none⟩) 0 0) 0 [] (by rfl) (own_empty (heap_at1 v1 _ _) (Nat.le_refl _)) (some ⟨bf, offf, none⟩) (k) (c) (v1.heap.size) ((K.take k).flatMap callC) (by rfl) (HTK.out _ ((((Below.refl _ _).alloc (Nat.le_refl _) _).alloc (by simp) _).drew)) HTO.out (by unfold maxLen; omega) (by omega) (by first | omega | (simp; done) | (simp; omega)) (k) (by omega) ?_; intro A2 c2 w1 ho1 hg1; have hB1 : Below v1.heap.size v1 w1 := below_grown ((((Below.refl _ _).alloc (Nat.le_refl _) _).alloc (by simp) _).drew) hg1 (Nat.le_refl _) (fun k hk => by have h3 : v1.heap.size = k := Option.some.inj hk; omega); have hs1 := hB1.size; simp only [List.nil_append] at ho1; have hy1 : w1.heap[v1.heap.size + 1]? = some (.cells #[.int .i64 n, .int .i64 d, .int .i64 d, .int .i64 0] 68) := (hg1.block _ (by simp <;> omega) (fun e => by have h3 : v1.heap.size + 1 = v1.heap.size := Option.some.inj e; omega)).trans (heap_alloc2_new v1 _ _))
              | (refine step_cat _ (by rfl) (.tmp 43) (.tmp 46) 31 (by rfl) v1.heap.size 68 i0 _ 4 32 Tryz.underlying31 hi hz0 hz1 hz2 rfl (by omega) (.slice (some ⟨v1.heap.size + 1, 0, none⟩) 0 0) 0 [] (by rfl) (own_empty (heap_alloc2_new v1 _ _) (Nat.le_succ _)) (some ⟨bf, offf, none⟩) (k) (c) (v1.heap.size) ((K.take k).flatMap callC) (by rfl) (HTK.out _ ((((Below.refl _ _).alloc (Nat.le_refl _) _).alloc (by simp) _).drew)) HTO.out (by unfold maxLen; omega) (by omega) (by first | omega | (simp; done) | (simp; omega)) (k) (by omega) ?_; intro A2 c2 w1 ho1 hg1; have hB1 : Below v1.heap.size v1 w1 := below_grown ((((Below.refl _ _).alloc (Nat.le_refl _) _).alloc (by simp) _).drew) hg1 (Nat.le_refl _) (fun k hk => by have h3 : v1.heap.size + 1 = k := Option.some.inj hk; omega); have hs1 := hB1.size; simp only [List.nil_append] at ho1; have hy1 : w1.heap[v1.heap.size]? = some (.cells #[.int .i64 n, .int .i64 d, .int .i64 d, .int .i64 0] 68) := (hg1.block _ (by simp <;> omega) (fun e => by have h3 : v1.heap.size = v1.heap.size + 1 := Option.some.inj e; omega)).trans (heap_at1 v1 _ _))
              | (refine step_cat _ (by rfl) (.tmp 47) (.tmp 52) 31 (by rfl) v1.heap.size 68 i0 _ 4 32 Tryz.underlying31 hi hz0 hz1 hz2 rfl (by omega) (.slice A2 (k) c2) (k) ((K.take k).flatMap callC) (by rfl) (ho1.alloc _) (some ⟨w1.heap.size, 0, none⟩) 1 1 _ [.int .i64 n, .int .i64 d, .int .i64 d, .int .i64 0] (by rfl) (Rd.of_block (heap_alloc_new w1 (.cells #[.int .i64 n, .int .i64 d, .int .i64 d, .int .i64 0] 68))) (by simp [Value.oneCell']) (by unfold maxLen; omega) (by omega) (by first | omega | (simp; done) | (simp; omega)) (k + 1) (by omega) ?_; intro A3 c3 w2 ho2 hg2; have hB2 : Below v1.heap.size v1 w2 := below_grown (hB1.alloc hB1.size _) hg2 (Nat.le_refl _) (fun k hk => (World.ownsRow.lt ho1 k hk).1); have hs2 := hB2.size)
              | (refine step_cat _ (by rfl) (.tmp 47) (.tmp 52) 31 (by rfl) v1.heap.size 68 i0 _ 4 32 Tryz.underlying31 hi hz0 hz1 hz2 rfl (by omega) (.slice A2 (k) c2) (k) ((K.take k).flatMap callC) (by rfl) (ho1) (some ⟨v1.heap.size + 1, 0, none⟩) 1 1 _ [.int .i64 n, .int .i64 d, .int .i64 d, .int .i64 0] (by rfl) (Rd.of_block (hy1)) (by simp [Value.oneCell']) (by unfold maxLen; omega) (by omega) (by first | omega | (simp; done) | (simp; omega)) (k + 1) (by omega) ?_; intro A3 c3 w2 ho2 hg2; have hB2 : Below v1.heap.size v1 w2 := below_grown (hB1) hg2 (Nat.le_refl _) (fun k hk => (World.ownsRow.lt ho1 k hk).1); have hs2 := hB2.size)
              | (refine step_cat _ (by rfl) (.tmp 47) (.tmp 52) 31 (by rfl) v1.heap.size 68 i0 _ 4 32 Tryz.underlying31 hi hz0 hz1 hz2 rfl (by omega) (.slice A2 (k) c2) (k) ((K.take k).flatMap callC) (by rfl) (ho1) (some ⟨v1.heap.size, 0, none⟩) 1 1 _ [.int .i64 n, .int .i64 d, .int .i64 d, .int .i64 0] (by rfl) (Rd.of_block (hy1)) (by simp [Value.oneCell']) (by unfold maxLen; omega) (by omega) (by first | omega | (simp; done) | (simp; omega)) (k + 1) (by omega) ?_; intro A3 c3 w2 ho2 hg2; have hB2 : Below v1.heap.size v1 w2 := below_grown (hB1) hg2 (Nat.le_refl _) (fun k hk => (World.ownsRow.lt ho1 k hk).1); have hs2 := hB2.size)
              | (refine step_cat _ (by rfl) (.tmp 53) (.tmp 56) 31 (by rfl) v1.heap.size 68 i0 _ 4 32 Tryz.underlying31 hi hz0 hz1 hz2 rfl (by omega) (.slice A3 (k + 1) c3) (k + 1) ((K.take k).flatMap callC ++ [.int .i64 n, .int .i64 d, .int .i64 d, .int .i64 0]) (by rfl) ho2 (some ⟨bf, offf + k * 4, none⟩) (K.length - k) (c - k) (v1.heap.size) ((K.drop k).flatMap callC) (by rfl) (HT3.out _ hB2) HT3O.out (by unfold maxLen; omega) (by omega) (by first | omega | (simp; done) | (simp; omega)) (K.length + 1) (by omega) ?_; intro A4 c4 w3 ho3 hg3; have hB3 : Below v1.heap.size v1 w3 := below_grown hB2 hg3 (Nat.le_refl _) (fun k hk => (World.ownsRow.lt ho2 k hk).1); have hs3 := hB3.size)))
          all_goals
            have e5 : (K.take k).flatMap callC ++ [.int .i64 n, .int .i64 d, .int .i64 d, .int .i64 0] ++ (K.drop k).flatMap callC = (insC k K ⟨n, d, d, 0⟩).flatMap callC := by simp [insC, callC]
            have e6 : (insC k K ⟨n, d, d, 0⟩).length = K.length + 1 := by rw [insC_len hk]
            rw [e5, ← e6] at ho3
            have HO3 := Lib.hid ho3
            rw [← HLK.out] at HO3
            have HRO := Lib.hid (fun (W : World) hb => spec_AreCalls A4 c4 (insC (idxC n K) K ⟨n, d, d, 0⟩) _ W (rdW hb (Rd.of_own HO3.out)) (by have h9 := insC_len (idxC_le n K) ⟨n, d, d, 0⟩; omega) (by exact (own_cap HO3.out).1) HIO.out)
            have HE6 := Lib.hid (show (insC (idxC n K) K ⟨n, d, d, 0⟩).length = K.length + 1 by rw [HLK.out]; exact e6)
            rw [HE6.out] at HRO
            clear e5 e6 ho3
            go_wp2_with fail
            refine (HXO.out w3 (bt hBo hB3)).mono ?_
            rintro e w' ⟨rfl, rfl⟩
            go_wp2
            go_ret2
            exact rowPost2_nil (bt hBo hB3)
      · have hge : ¬ ((k : Int) < (K.length : Int)) := by omega
        have HLK : Hid (idxC n K = k) := by
          obtain rfl : k = K.length := by omega
          exact (idxC_last HT).1
        go_wp2_with fail
        rcases hA with ⟨hAn, hc0⟩ | ⟨b, off, hAs⟩
        · subst hAn
          subst hc0
          obtain rfl : k = 0 := by omega
          obtain rfl : K = [] := List.length_eq_zero_iff.1 (by omega)
          obtain ⟨v1, rfl⟩ : ∃ x, x = wr := ⟨_, rfl⟩
          have hBo := hB
          clear hB
          have HTK : Hid (∀ W1 : World, Below v1.heap.size v1 W1 → Rd W1 v1.heap.size (none) (0 * 4) (([] : List Value))) := fun W1 h => Rd.nil_
          have HTO : Hid (∀ u ∈ ([] : List Value), u.oneCell' = true) := fun u hu => by simp at hu
          have HT3O : Hid (∀ u ∈ ([] : List Value), u.oneCell' = true) := fun u hu => by simp at hu
          have hwk : IntKind.i64.wrap (0 : Int) = (0 : Int) := IntWalk.i64_in _ (by omega)
          have HT3 : Hid (∀ W1 : World, Below v1.heap.size v1 W1 → Rd W1 v1.heap.size (none) ((0) * 4) (([] : List Value))) := fun W1 h => Rd.nil_
          have HKd : Hid (∀ W1 : World, Below v1.heap.size v1 W1 → Below v1.heap.size v1 W1) := fun W1 h => h
          go_region_held3 (fun W1 => Below v1.heap.size v1 W1) (first | exact HKd.out _ ((Below.refl _ _).drew) | exact HKd.out _ (((Below.refl _ _).alloc (Nat.le_refl _) _).drew) | exact HKd.out _ ((((Below.refl _ _).alloc (Nat.le_refl _) _).alloc (by simp) _).drew) | exact HKd.out _ (hB1) | exact HKd.out _ (hB1.alloc hB1.size _) | exact HKd.out _ (hB2) | exact HKd.out _ (hB3))
            ((first
              | (refine step_cat _ (by rfl) (.tmp 43) (.tmp 46) 31 (by rfl) v1.heap.size 68 i0 _ 4 32 Tryz.underlying31 hi hz0 hz1 hz2 rfl (by omega) (.slice (some ⟨v1.heap.size, 0, none⟩) 0 0) 0 [] (by rfl) (own_empty (heap_alloc_new v1 _) (Nat.le_refl _)) (none) (0) (0) (v1.heap.size) (([] : List Value)) (by rfl) (HTK.out _ (((Below.refl _ _).alloc (Nat.le_refl _) _).drew)) HTO.out (by unfold maxLen; omega) (by omega) (by first | omega | (simp; done) | (simp; omega)) (0) (by omega) ?_; intro A2 c2 w1 ho1 hg1; have hB1 : Below v1.heap.size v1 w1 := below_grown (((Below.refl _ _).alloc (Nat.le_refl _) _).drew) hg1 (Nat.le_refl _) (fun k hk => by have h3 : v1.heap.size = k := Option.some.inj hk; omega); have hs1 := hB1.size; simp only [List.nil_append] at ho1)
              | (refine step_cat _ (by rfl) (.tmp 43) (.tmp 46) 31 (by rfl) v1.heap.size 68 i0 _ 4 32 Tryz.underlying31 hi hz0 hz1 hz2 rfl (by omega) (.slice (some ⟨v1.heap.size, 0, none⟩) 0 0) 0 [] (by rfl) (own_empty (heap_at1 v1 _ _) (Nat.le_refl _)) (none) (0) (0) (v1.heap.size) (([] : List Value)) (by rfl) (HTK.out _ ((((Below.refl _ _).alloc (Nat.le_refl _) _).alloc (by simp) _).drew)) HTO.out (by unfold maxLen; omega) (by omega) (by first | omega | (simp; done) | (simp; omega)) (0) (by omega) ?_; intro A2 c2 w1 ho1 hg1; have hB1 : Below v1.heap.size v1 w1 := below_grown ((((Below.refl _ _).alloc (Nat.le_refl _) _).alloc (by simp) _).drew) hg1 (Nat.le_refl _) (fun k hk => by have h3 : v1.heap.size = k := Option.some.inj hk; omega); have hs1 := hB1.size; simp only [List.nil_append] at ho1; have hy1 : w1.heap[v1.heap.size + 1]? = some (.cells #[.int .i64 n, .int .i64 d, .int .i64 d, .int .i64 0] 68) := (hg1.block _ (by simp <;> omega) (fun e => by have h3 : v1.heap.size + 1 = v1.heap.size := Option.some.inj e; omega)).trans (heap_alloc2_new v1 _ _))
              | (refine step_cat _ (by rfl) (.tmp 43) (.tmp 46) 31 (by rfl) v1.heap.size 68 i0 _ 4 32 Tryz.underlying31 hi hz0 hz1 hz2 rfl (by omega) (.slice (some ⟨v1.heap.size + 1, 0, none⟩) 0 0) 0 [] (by rfl) (own_empty (heap_alloc2_new v1 _ _) (Nat.le_succ _)) (none) (0) (0) (v1.heap.size) (([] : List Value)) (by rfl) (HTK.out _ ((((Below.refl _ _).alloc (Nat.le_refl _) _).alloc (by simp) _).drew)) HTO.out (by unfold maxLen; omega) (by omega) (by first | omega | (simp; done) | (simp; omega)) (0) (by omega) ?_; intro A2 c2 w1 ho1 hg1; have hB1 : Below v1.heap.size v1 w1 := below_grown ((((Below.refl _ _).alloc (Nat.le_refl _) _).alloc (by simp) _).drew) hg1 (Nat.le_refl _) (fun k hk => by have h3 : v1.heap.size + 1 = k := Option.some.inj hk; omega); have hs1 := hB1.size; simp only [List.nil_append] at ho1; have hy1 : w1.heap[v1.heap.size]? = some (.cells #[.int .i64 n, .int .i64 d, .int .i64 d, .int .i64 0] 68) := (hg1.block _ (by simp <;> omega) (fun e => by have h3 : v1.heap.size = v1.heap.size + 1 := Option.some.inj e; omega)).trans (heap_at1 v1 _ _))
              | (refine step_cat _ (by rfl) (.tmp 47) (.tmp 52) 31 (by rfl) v1.heap.size 68 i0 _ 4 32 Tryz.underlying31 hi hz0 hz1 hz2 rfl (by omega) (.slice A2 (0) c2) (0) (([] : List Value)) (by rfl) (ho1.alloc _) (some ⟨w1.heap.size, 0, none⟩) 1 1 _ [.int .i64 n, .int .i64 d, .int .i64 d, .int .i64 0] (by rfl) (Rd.of_block (heap_alloc_new w1 (.cells #[.int .i64 n, .int .i64 d, .int .i64 d, .int .i64 0] 68))) (by simp [Value.oneCell']) (by unfold maxLen; omega) (by omega) (by first | omega | (simp; done) | (simp; omega)) (1) (by omega) ?_; intro A3 c3 w2 ho2 hg2; have hB2 : Below v1.heap.size v1 w2 := below_grown (hB1.alloc hB1.size _) hg2 (Nat.le_refl _) (fun k hk => (World.ownsRow.lt ho1 k hk).1); have hs2 := hB2.size)
              | (refine step_cat _ (by rfl) (.tmp 47) (.tmp 52) 31 (by rfl) v1.heap.size 68 i0 _ 4 32 Tryz.underlying31 hi hz0 hz1 hz2 rfl (by omega) (.slice A2 (0) c2) (0) (([] : List Value)) (by rfl) (ho1) (some ⟨v1.heap.size + 1, 0, none⟩) 1 1 _ [.int .i64 n, .int .i64 d, .int .i64 d, .int .i64 0] (by rfl) (Rd.of_block (hy1)) (by simp [Value.oneCell']) (by unfold maxLen; omega) (by omega) (by first | omega | (simp; done) | (simp; omega)) (1) (by omega) ?_; intro A3 c3 w2 ho2 hg2; have hB2 : Below v1.heap.size v1 w2 := below_grown (hB1) hg2 (Nat.le_refl _) (fun k hk => (World.ownsRow.lt ho1 k hk).1); have hs2 := hB2.size)
              | (refine step_cat _ (by rfl) (.tmp 47) (.tmp 52) 31 (by rfl) v1.heap.size 68 i0 _ 4 32 Tryz.underlying31 hi hz0 hz1 hz2 rfl (by omega) (.slice A2 (0) c2) (0) (([] : List Value)) (by rfl) (ho1) (some ⟨v1.heap.size, 0, none⟩) 1 1 _ [.int .i64 n, .int .i64 d, .int .i64 d, .int .i64 0] (by rfl) (Rd.of_block (hy1)) (by simp [Value.oneCell']) (by unfold maxLen; omega) (by omega) (by first | omega | (simp; done) | (simp; omega)) (1) (by omega) ?_; intro A3 c3 w2 ho2 hg2; have hB2 : Below v1.heap.size v1 w2 := below_grown (hB1) hg2 (Nat.le_refl _) (fun k hk => (World.ownsRow.lt ho1 k hk).1); have hs2 := hB2.size)
              | (refine step_cat _ (by rfl) (.tmp 53) (.tmp 56) 31 (by rfl) v1.heap.size 68 i0 _ 4 32 Tryz.underlying31 hi hz0 hz1 hz2 rfl (by omega) (.slice A3 (1) c3) (1) (([] : List Value) ++ [.int .i64 n, .int .i64 d, .int .i64 d, .int .i64 0]) (by rfl) ho2 (none) (0) (0) (v1.heap.size) (([] : List Value)) (by rfl) (HT3.out _ hB2) HT3O.out (by unfold maxLen; omega) (by omega) (by first | omega | (simp; done) | (simp; omega)) (1) (by omega) ?_; intro A4 c4 w3 ho3 hg3; have hB3 : Below v1.heap.size v1 w3 := below_grown hB2 hg3 (Nat.le_refl _) (fun k hk => (World.ownsRow.lt ho2 k hk).1); have hs3 := hB3.size)))
          all_goals
            have e5 : ([] : List Value) ++ [.int .i64 n, .int .i64 d, .int .i64 d, .int .i64 0] ++ ([] : List Value) = (insC 0 ([] : List CallD) ⟨n, d, d, 0⟩).flatMap callC := by simp [insC, callC]
            have e6 : (insC 0 ([] : List CallD) ⟨n, d, d, 0⟩).length = 1 := by rfl
            rw [e5, ← e6] at ho3
            have HO3 := Lib.hid ho3
            rw [← HLK.out] at HO3
            have HRO := Lib.hid (fun (W : World) hb => spec_AreCalls A4 c4 (insC (idxC n ([] : List CallD)) ([] : List CallD) ⟨n, d, d, 0⟩) _ W (rdW hb (Rd.of_own HO3.out)) (by have h9 := insC_len (idxC_le n ([] : List CallD)) ⟨n, d, d, 0⟩; simp at h9; omega) (by exact (own_cap HO3.out).1) HIO.out)
            have HE6 := Lib.hid (show (insC (idxC n ([] : List CallD)) ([] : List CallD) ⟨n, d, d, 0⟩).length = 1 by rw [HLK.out]; exact e6)
            rw [HE6.out] at HRO
            clear e5 e6 ho3
            go_wp2_with fail
            refine (HXO.out w3 (bt hBo hB3)).mono ?_
            rintro e w' ⟨rfl, rfl⟩
            go_wp2
            go_ret2
            exact rowPost2_nil (bt hBo hB3)
        · subst hAs
          by_cases hck : c = k
          · have hck2 := hck.symm
            clear hck
            subst hck2
            have hkI : (k : Int) ≤ (K.length : Int) := by omega
            have HD0 : Hid (K.drop k = []) := List.drop_of_length_le (by omega)
            obtain ⟨v1, rfl⟩ : ∃ x, x = wr := ⟨_, rfl⟩
            have hBo := hB
            clear hB
            have HTK : Hid (∀ W1 : World, Below v1.heap.size v1 W1 → Rd W1 v1.heap.size (some ⟨b, off, none⟩) (k * 4) ((K.take k).flatMap callC)) := fun W1 h => (Rd.take_ (f := callC) (m := 4) (L := K) (fun _ => rfl) (rdW hBo hr) hk).below h
            have HTO : Hid (∀ u ∈ (K.take k).flatMap callC, u.oneCell' = true) := one_call (K.take k)
            have HT3O : Hid (∀ u ∈ (K.drop k).flatMap callC, u.oneCell' = true) := one_call (K.drop k)
            have hwk : IntKind.i64.wrap (k : Int) = (k : Int) := IntWalk.i64_in _ (by omega)
            have HT3 : Hid (∀ W1 : World, Below v1.heap.size v1 W1 → Rd W1 v1.heap.size (some ⟨b, off, none⟩) ((0) * 4) ((K.drop k).flatMap callC)) := fun W1 h => (by rw [HD0.out]; simpa using (Rd.nil_ : Rd W1 v1.heap.size (some ⟨b, off, none⟩) 0 []))
            have HKd : Hid (∀ W1 : World, Below v1.heap.size v1 W1 → Below v1.heap.size v1 W1) := fun W1 h => h
            go_region_held3 (fun W1 => Below v1.heap.size v1 W1) (first | exact HKd.out _ ((Below.refl _ _).drew) | exact HKd.out _ (((Below.refl _ _).alloc (Nat.le_refl _) _).drew) | exact HKd.out _ ((((Below.refl _ _).alloc (Nat.le_refl _) _).alloc (by simp) _).drew) | exact HKd.out _ (hB1) | exact HKd.out _ (hB1.alloc hB1.size _) | exact HKd.out _ (hB2) | exact HKd.out _ (hB3))
              ((first
                | (refine step_cat _ (by rfl) (.tmp 43) (.tmp 46) 31 (by rfl) v1.heap.size 68 i0 _ 4 32 Tryz.underlying31 hi hz0 hz1 hz2 rfl (by omega) (.slice (some ⟨v1.heap.size, 0, none⟩) 0 0) 0 [] (by rfl) (own_empty (heap_alloc_new v1 _) (Nat.le_refl _)) (some ⟨b, off, none⟩) (k) (k) (v1.heap.size) ((K.take k).flatMap callC) (by rfl) (HTK.out _ (((Below.refl _ _).alloc (Nat.le_refl _) _).drew)) HTO.out (by unfold maxLen; omega) (by omega) (by first | omega | (simp; done) | (simp; omega)) (k) (by omega) ?_; intro A2 c2 w1 ho1 hg1; have hB1 : Below v1.heap.size v1 w1 := below_grown (((Below.refl _ _).alloc (Nat.le_refl _) _).drew) hg1 (Nat.le_refl _) (fun k hk => by have h3 : v1.heap.size = k := Option.some.inj hk; omega); have hs1 := hB1.size; simp only [List.nil_append] at ho1)
                | (refine step_cat _ (by rfl) (.tmp 43) (.tmp 46) 31 (by rfl) v1.heap.size 68 i0 _ 4 32 Tryz.underlying31 hi hz0 hz1 hz2 rfl (by omega) (.slice (some ⟨v1.heap.size, 0, none⟩) 0 0) 0 [] (by rfl) (own_empty (heap_at1 v1 _ _) (Nat.le_refl _)) (some ⟨b, off, none⟩) (k) (k) (v1.heap.size) ((K.take k).flatMap callC) (by rfl) (HTK.out _ ((((Below.refl _ _).alloc (Nat.le_refl _) _).alloc (by simp) _).drew)) HTO.out (by unfold maxLen; omega) (by omega) (by first | omega | (simp; done) | (simp; omega)) (k) (by omega) ?_; intro A2 c2 w1 ho1 hg1; have hB1 : Below v1.heap.size v1 w1 := below_grown ((((Below.refl _ _).alloc (Nat.le_refl _) _).alloc (by simp) _).drew) hg1 (Nat.le_refl _) (fun k hk => by have h3 : v1.heap.size = k := Option.some.inj hk; omega); have hs1 := hB1.size; simp only [List.nil_append] at ho1; have hy1 : w1.heap[v1.heap.size + 1]? = some (.cells #[.int .i64 n, .int .i64 d, .int .i64 d, .int .i64 0] 68) := (hg1.block _ (by simp <;> omega) (fun e => by have h3 : v1.heap.size + 1 = v1.heap.size := Option.some.inj e; omega)).trans (heap_alloc2_new v1 _ _))
                | (refine step_cat _ (by rfl) (.tmp 43) (.tmp 46) 31 (by rfl) v1.heap.size 68 i0 _ 4 32 Tryz.underlying31 hi hz0 hz1 hz2 rfl (by omega) (.slice (some ⟨v1.heap.size + 1, 0, none⟩) 0 0) 0 [] (by rfl) (own_empty (heap_alloc2_new v1 _ _) (Nat.le_succ _)) (some ⟨b, off, none⟩) (k) (k) (v1.heap.size) ((K.take k).flatMap callC) (by rfl) (HTK.out _ ((((Below.refl _ _).alloc (Nat.le_refl _) _).alloc (by simp) _).drew)) HTO.out (by unfold maxLen; omega) (by omega) (by first | omega | (simp; done) | (simp; omega)) (k) (by omega) ?_; intro A2 c2 w1 ho1 hg1; have hB1 : Below v1.heap.size v1 w1 := below_grown ((((Below.refl _ _).alloc (Nat.le_refl _) _).alloc (by simp) _).drew) hg1 (Nat.le_refl _) (fun k hk => by have h3 : v1.heap.size + 1 = k := Option.some.inj hk; omega); have hs1 := hB1.size; simp only [List.nil_append] at ho1; have hy1 : w1.heap[v1.heap.size]? = some (.cells #[.int .i64 n, .int .i64 d, .int .i64 d, .int .i64 0] 68) := (hg1.block _ (by simp <;> omega) (fun e => by have h3 : v1.heap.size = v1.heap.size + 1 := Option.some.inj e; omega)).trans (heap_at1 v1 _ _))
                | (refine step_cat _ (by rfl) (.tmp 47) (.tmp 52) 31 (by rfl) v1.heap.size 68 i0 _ 4 32 Tryz.underlying31 hi hz0 hz1 hz2 rfl (by omega) (.slice A2 (k) c2) (k) ((K.take k).flatMap callC) (by rfl) (ho1.alloc _) (some ⟨w1.heap.size, 0, none⟩) 1 1 _ [.int .i64 n, .int .i64 d, .int .i64 d, .int .i64 0] (by rfl) (Rd.of_block (heap_alloc_new w1 (.cells #[.int .i64 n, .int .i64 d, .int .i64 d, .int .i64 0] 68))) (by simp [Value.oneCell']) (by unfold maxLen; omega) (by omega) (by first | omega | (simp; done) | (simp; omega)) (k + 1) (by omega) ?_; intro A3 c3 w2 ho2 hg2; have hB2 : Below v1.heap.size v1 w2 := below_grown (hB1.alloc hB1.size _) hg2 (Nat.le_refl _) (fun k hk => (World.ownsRow.lt ho1 k hk).1); have hs2 := hB2.size)
                | (refine step_cat _ (by rfl) (.tmp 47) (.tmp 52) 31 (by rfl) v1.heap.size 68 i0 _ 4 32 Tryz.underlying31 hi hz0 hz1 hz2 rfl (by omega) (.slice A2 (k) c2) (k) ((K.take k).flatMap callC) (by rfl) (ho1) (some ⟨v1.heap.size + 1, 0, none⟩) 1 1 _ [.int .i64 n, .int .i64 d, .int .i64 d, .int .i64 0] (by rfl) (Rd.of_block (hy1)) (by simp [Value.oneCell']) (by unfold maxLen; omega) (by omega) (by first | omega | (simp; done) | (simp; omega)) (k + 1) (by omega) ?_; intro A3 c3 w2 ho2 hg2; have hB2 : Below v1.heap.size v1 w2 := below_grown (hB1) hg2 (Nat.le_refl _) (fun k hk => (World.ownsRow.lt ho1 k hk).1); have hs2 := hB2.size)
                | (refine step_cat _ (by rfl) (.tmp 47) (.tmp 52) 31 (by rfl) v1.heap.size 68 i0 _ 4 32 Tryz.underlying31 hi hz0 hz1 hz2 rfl (by omega) (.slice A2 (k) c2) (k) ((K.take k).flatMap callC) (by rfl) (ho1) (some ⟨v1.heap.size, 0, none⟩) 1 1 _ [.int .i64 n, .int .i64 d, .int .i64 d, .int .i64 0] (by rfl) (Rd.of_block (hy1)) (by simp [Value.oneCell']) (by unfold maxLen; omega) (by omega) (by first | omega | (simp; done) | (simp; omega)) (k + 1) (by omega) ?_; intro A3 c3 w2 ho2 hg2; have hB2 : Below v1.heap.size v1 w2 := below_grown (hB1) hg2 (Nat.le_refl _) (fun k hk => (World.ownsRow.lt ho1 k hk).1); have hs2 := hB2.size)
                | (refine step_cat _ (by rfl) (.tmp 53) (.tmp 56) 31 (by rfl) v1.heap.size 68 i0 _ 4 32 Tryz.underlying31 hi hz0 hz1 hz2 rfl (by omega) (.slice A3 (k + 1) c3) (k + 1) ((K.take k).flatMap callC ++ [.int .i64 n, .int .i64 d, .int .i64 d, .int .i64 0]) (by rfl) ho2 (some ⟨b, off, none⟩) (0) (0) (v1.heap.size) ((K.drop k).flatMap callC) (by rfl) (HT3.out _ hB2) HT3O.out (by unfold maxLen; omega) (by omega) (by first | omega | (simp; done) | (simp; omega)) (K.length + 1) (by omega) ?_; intro A4 c4 w3 ho3 hg3; have hB3 : Below v1.heap.size v1 w3 := below_grown hB2 hg3 (Nat.le_refl _) (fun k hk => (World.ownsRow.lt ho2 k hk).1); have hs3 := hB3.size)))
            all_goals
              have e5 : (K.take k).flatMap callC ++ [.int .i64 n, .int .i64 d, .int .i64 d, .int .i64 0] ++ (K.drop k).flatMap callC = (insC k K ⟨n, d, d, 0⟩).flatMap callC := by simp [insC, callC]
              have e6 : (insC k K ⟨n, d, d, 0⟩).length = K.length + 1 := by rw [insC_len hk]
              rw [e5, ← e6] at ho3
              have HO3 := Lib.hid ho3
              rw [← HLK.out] at HO3
              have HRO := Lib.hid (fun (W : World) hb => spec_AreCalls A4 c4 (insC (idxC n K) K ⟨n, d, d, 0⟩) _ W (rdW hb (Rd.of_own HO3.out)) (by have h9 := insC_len (idxC_le n K) ⟨n, d, d, 0⟩; omega) (by exact (own_cap HO3.out).1) HIO.out)
              have HE6 := Lib.hid (show (insC (idxC n K) K ⟨n, d, d, 0⟩).length = K.length + 1 by rw [HLK.out]; exact e6)
              rw [HE6.out] at HRO
              clear e5 e6 ho3
              go_wp2_with fail
              refine (HXO.out w3 (bt hBo hB3)).mono ?_
              rintro e w' ⟨rfl, rfl⟩
              go_wp2
              go_ret2
              exact rowPost2_nil (bt hBo hB3)
          · have hkI : (k : Int) ≤ (K.length : Int) := by omega
            have hkc : (k : Int) ≤ (c : Int) := by omega
            have HD0 : Hid (K.drop k = []) := List.drop_of_length_le (by omega)
            obtain ⟨v1, rfl⟩ : ∃ x, x = wr := ⟨_, rfl⟩
            have hBo := hB
            clear hB
            have HTK : Hid (∀ W1 : World, Below v1.heap.size v1 W1 → Rd W1 v1.heap.size (some ⟨b, off, none⟩) (k * 4) ((K.take k).flatMap callC)) := fun W1 h => (Rd.take_ (f := callC) (m := 4) (L := K) (fun _ => rfl) (rdW hBo hr) hk).below h
            have HTO : Hid (∀ u ∈ (K.take k).flatMap callC, u.oneCell' = true) := one_call (K.take k)
            have HT3O : Hid (∀ u ∈ (K.drop k).flatMap callC, u.oneCell' = true) := one_call (K.drop k)
            have hwk : IntKind.i64.wrap (k : Int) = (k : Int) := IntWalk.i64_in _ (by omega)
            have HT3 : Hid (∀ W1 : World, Below v1.heap.size v1 W1 → Rd W1 v1.heap.size (some ⟨b, off + k * 4, none⟩) ((K.length - k) * 4) ((K.drop k).flatMap callC)) := fun W1 h => (by rw [show K.length - k = 0 from by omega, HD0.out]; simpa using (Rd.nil_ : Rd W1 v1.heap.size (some ⟨b, off + k * 4, none⟩) 0 []))
            have HKd : Hid (∀ W1 : World, Below v1.heap.size v1 W1 → Below v1.heap.size v1 W1) := fun W1 h => h
            go_region_held3 (fun W1 => Below v1.heap.size v1 W1) (first | exact HKd.out _ ((Below.refl _ _).drew) | exact HKd.out _ (((Below.refl _ _).alloc (Nat.le_refl _) _).drew) | exact HKd.out _ ((((Below.refl _ _).alloc (Nat.le_refl _) _).alloc (by simp) _).drew) | exact HKd.out _ (hB1) | exact HKd.out _ (hB1.alloc hB1.size _) | exact HKd.out _ (hB2) | exact HKd.out _ (hB3))
              ((first
                | (refine step_cat _ (by rfl) (.tmp 43) (.tmp 46) 31 (by rfl) v1.heap.size 68 i0 _ 4 32 Tryz.underlying31 hi hz0 hz1 hz2 rfl (by omega) (.slice (some ⟨v1.heap.size, 0, none⟩) 0 0) 0 [] (by rfl) (own_empty (heap_alloc_new v1 _) (Nat.le_refl _)) (some ⟨b, off, none⟩) (k) (c) (v1.heap.size) ((K.take k).flatMap callC) (by rfl) (HTK.out _ (((Below.refl _ _).alloc (Nat.le_refl _) _).drew)) HTO.out (by unfold maxLen; omega) (by omega) (by first | omega | (simp; done) | (simp; omega)) (k) (by omega) ?_; intro A2 c2 w1 ho1 hg1; have hB1 : Below v1.heap.size v1 w1 := below_grown (((Below.refl _ _).alloc (Nat.le_refl _) _).drew) hg1 (Nat.le_refl _) (fun k hk => by have h3 : v1.heap.size = k := Option.some.inj hk; omega); have hs1 := hB1.size; simp only [List.nil_append] at ho1)
                | (refine step_cat _ (by rfl) (.tmp 43) (.tmp 46) 31 (by rfl) v1.heap.size 68 i0 _ 4 32 Tryz.underlying31 hi hz0 hz1 hz2 rfl (by omega) (.slice (some ⟨v1.heap.size, 0, none⟩) 0 0) 0 [] (by rfl) (own_empty (heap_at1 v1 _ _) (Nat.le_refl _)) (some ⟨b, off, none⟩) (k) (c) (v1.heap.size) ((K.take k).flatMap callC) (by rfl) (HTK.out _ ((((Below.refl _ _).alloc (Nat.le_refl _) _).alloc (by simp) _).drew)) HTO.out (by unfold maxLen; omega) (by omega) (by first | omega | (simp; done) | (simp; omega)) (k) (by omega) ?_; intro A2 c2 w1 ho1 hg1; have hB1 : Below v1.heap.size v1 w1 := below_grown ((((Below.refl _ _).alloc (Nat.le_refl _) _).alloc (by simp) _).drew) hg1 (Nat.le_refl _) (fun k hk => by have h3 : v1.heap.size = k := Option.some.inj hk; omega); have hs1 := hB1.size; simp only [List.nil_append] at ho1; have hy1 : w1.heap[v1.heap.size + 1]? = some (.cells #[.int .i64 n, .int .i64 d, .int .i64 d, .int .i64 0] 68) := (hg1.block _ (by simp <;> omega) (fun e => by have h3 : v1.heap.size + 1 = v1.heap.size := Option.some.inj e; omega)).trans (heap_alloc2_new v1 _ _))
                | (refine step_cat _ (by rfl) (.tmp 43) (.tmp 46) 31 (by rfl) v1.heap.size 68 i0 _ 4 32 Tryz.underlying31 hi hz0 hz1 hz2 rfl (by omega) (.slice (some ⟨v1.heap.size + 1, 0, none⟩) 0 0) 0 [] (by rfl) (own_empty (heap_alloc2_new v1 _ _) (Nat.le_succ _)) (some ⟨b, off, none⟩) (k) (c) (v1.heap.size) ((K.take k).flatMap callC) (by rfl) (HTK.out _ ((((Below.refl _ _).alloc (Nat.le_refl _) _).alloc (by simp) _).drew)) HTO.out (by unfold maxLen; omega) (by omega) (by first | omega | (simp; done) | (simp; omega)) (k) (by omega) ?_; intro A2 c2 w1 ho1 hg1; have hB1 : Below v1.heap.size v1 w1 := below_grown ((((Below.refl _ _).alloc (Nat.le_refl _) _).alloc (by simp) _).drew) hg1 (Nat.le_refl _) (fun k hk => by have h3 : v1.heap.size + 1 = k := Option.some.inj hk; omega); have hs1 := hB1.size; simp only [List.nil_append] at ho1; have hy1 : w1.heap[v1.heap.size]? = some (.cells #[.int .i64 n, .int .i64 d, .int .i64 d, .int .i64 0] 68) := (hg1.block _ (by simp <;> omega) (fun e => by have h3 : v1.heap.size = v1.heap.size + 1 := Option.some.inj e; omega)).trans (heap_at1 v1 _ _))
                | (refine step_cat _ (by rfl) (.tmp 47) (.tmp 52) 31 (by rfl) v1.heap.size 68 i0 _ 4 32 Tryz.underlying31 hi hz0 hz1 hz2 rfl (by omega) (.slice A2 (k) c2) (k) ((K.take k).flatMap callC) (by rfl) (ho1.alloc _) (some ⟨w1.heap.size, 0, none⟩) 1 1 _ [.int .i64 n, .int .i64 d, .int .i64 d, .int .i64 0] (by rfl) (Rd.of_block (heap_alloc_new w1 (.cells #[.int .i64 n, .int .i64 d, .int .i64 d, .int .i64 0] 68))) (by simp [Value.oneCell']) (by unfold maxLen; omega) (by omega) (by first | omega | (simp; done) | (simp; omega)) (k + 1) (by omega) ?_; intro A3 c3 w2 ho2 hg2; have hB2 : Below v1.heap.size v1 w2 := below_grown (hB1.alloc hB1.size _) hg2 (Nat.le_refl _) (fun k hk => (World.ownsRow.lt ho1 k hk).1); have hs2 := hB2.size)
                | (refine step_cat _ (by rfl) (.tmp 47) (.tmp 52) 31 (by rfl) v1.heap.size 68 i0 _ 4 32 Tryz.underlying31 hi hz0 hz1 hz2 rfl (by omega) (.slice A2 (k) c2) (k) ((K.take k).flatMap callC) (by rfl) (ho1) (some ⟨v1.heap.size + 1, 0, none⟩) 1 1 _ [.int .i64 n, .int .i64 d, .int .i64 d, .int .i64 0] (by rfl) (Rd.of_block (hy1)) (by simp [Value.oneCell']) (by unfold maxLen; omega) (by omega) (by first | omega | (simp; done) | (simp; omega)) (k + 1) (by omega) ?_; intro A3 c3 w2 ho2 hg2; have hB2 : Below v1.heap.size v1 w2 := below_grown (hB1) hg2 (Nat.le_refl _) (fun k hk => (World.ownsRow.lt ho1 k hk).1); have hs2 := hB2.size)
                | (refine step_cat _ (by rfl) (.tmp 47) (.tmp 52) 31 (by rfl) v1.heap.size 68 i0 _ 4 32 Tryz.underlying31 hi hz0 hz1 hz2 rfl (by omega) (.slice A2 (k) c2) (k) ((K.take k).flatMap callC) (by rfl) (ho1) (some ⟨v1.heap.size, 0, none⟩) 1 1 _ [.int .i64 n, .int .i64 d, .int .i64 d, .int .i64 0] (by rfl) (Rd.of_block (hy1)) (by simp [Value.oneCell']) (by unfold maxLen; omega) (by omega) (by first | omega | (simp; done) | (simp; omega)) (k + 1) (by omega) ?_; intro A3 c3 w2 ho2 hg2; have hB2 : Below v1.heap.size v1 w2 := below_grown (hB1) hg2 (Nat.le_refl _) (fun k hk => (World.ownsRow.lt ho1 k hk).1); have hs2 := hB2.size)
                | (refine step_cat _ (by rfl) (.tmp 53) (.tmp 56) 31 (by rfl) v1.heap.size 68 i0 _ 4 32 Tryz.underlying31 hi hz0 hz1 hz2 rfl (by omega) (.slice A3 (k + 1) c3) (k + 1) ((K.take k).flatMap callC ++ [.int .i64 n, .int .i64 d, .int .i64 d, .int .i64 0]) (by rfl) ho2 (some ⟨b, off + k * 4, none⟩) (K.length - k) (c - k) (v1.heap.size) ((K.drop k).flatMap callC) (by rfl) (HT3.out _ hB2) HT3O.out (by unfold maxLen; omega) (by omega) (by first | omega | (simp; done) | (simp; omega)) (K.length + 1) (by omega) ?_; intro A4 c4 w3 ho3 hg3; have hB3 : Below v1.heap.size v1 w3 := below_grown hB2 hg3 (Nat.le_refl _) (fun k hk => (World.ownsRow.lt ho2 k hk).1); have hs3 := hB3.size)))
            all_goals
              have e5 : (K.take k).flatMap callC ++ [.int .i64 n, .int .i64 d, .int .i64 d, .int .i64 0] ++ (K.drop k).flatMap callC = (insC k K ⟨n, d, d, 0⟩).flatMap callC := by simp [insC, callC]
              have e6 : (insC k K ⟨n, d, d, 0⟩).length = K.length + 1 := by rw [insC_len hk]
              rw [e5, ← e6] at ho3
              have HO3 := Lib.hid ho3
              rw [← HLK.out] at HO3
              have HRO := Lib.hid (fun (W : World) hb => spec_AreCalls A4 c4 (insC (idxC n K) K ⟨n, d, d, 0⟩) _ W (rdW hb (Rd.of_own HO3.out)) (by have h9 := insC_len (idxC_le n K) ⟨n, d, d, 0⟩; omega) (by exact (own_cap HO3.out).1) HIO.out)
              have HE6 := Lib.hid (show (insC (idxC n K) K ⟨n, d, d, 0⟩).length = K.length + 1 by rw [HLK.out]; exact e6)
              rw [HE6.out] at HRO
              clear e5 e6 ho3
              go_wp2_with fail
              refine (HXO.out w3 (bt hBo hB3)).mono ?_
              rintro e w' ⟨rfl, rfl⟩
              go_wp2
              go_ret2
              exact rowPost2_nil (bt hBo hB3)
  have HXO := Lib.hid (fun (W : World) hb => l02Court_b AH cH H d _ W (rdW hb hrH) hlH hcH hd.1 e5)
  have HIO := insC_ok (n := n) (d := d) e2 e4 e3
  cases e7 : (!hasC n K && decide (K.length ≠ 20))
  · rw [addC_5 e12 e34 (by rw [e5, e7]; rfl)]
    rw [e7] at HIO
    have HIO := Lib.hid HIO
    clear e5 e7 e12 e34
    go_enter Tryz.func112, Tryz.ntmps112
    go_wp2_with fail
    refine HHO.out.mono ?_
    rintro e w1 ⟨rfl, hb1⟩
    go_wp2_with fail
    refine (HCO.out w1 hb1).mono ?_
    rintro e w2 ⟨rfl, hb2⟩
    have hB2 := bt hb1 hb2
    go_wp2_with (first | (go_at_call 80; refine (l02Is_b _ _ _ e3).mono ?_; rintro e w' ⟨rfl, rfl⟩) | (go_at_call 81; refine (l01In_b _ _ _ _ _ e4).mono ?_; rintro e w' ⟨rfl, rfl⟩))
    go_loopw [10] (fun i wr => ∃ k : Nat, k ≤ K.length ∧ i = .int .i64 k ∧ Below w.heap.size w wr ∧ Hid (∀ j (hj : j < K.length), j < k → K[j].number < n)) (fun i _ => K.length - (intOf i).toNat)
    case atStart => exact ⟨0, by omega, rfl, hB2, fun j _ hj => absurd hj (by omega)⟩
    case round =>
      obtain ⟨k, hk, rfl, hB, HT⟩ := hrel
      clear hb1 hb2 hB2
      have hk0 : (0 : Int) ≤ (k : Int) := by omega
      by_cases hlt : k < K.length
      · obtain ⟨bf, offf, hAf, hbf, hcf⟩ := Rd.elem callC 4 (fun _ => rfl) (rdW hB hr) (by omega) hlt
        have f0 : wr.cell? ⟨bf, offf + k * 4, none⟩ = some (.int .i64 K[k].number) := hcf k hlt 0 _ rfl
        clear hcf
        subst hAf
        have hk1 : (k : Int) < (K.length : Int) := by omega
        have hkc1 : (k : Int) ≤ (c : Int) := by omega
        have HG := Lib.hid (idxC_go (n := n) hlt HT)
        have HS := Lib.hid (fun h => (idxC_stop (n := n) hlt HT h).1)
        generalize K[k].number = x0 at *
        by_cases hf : x0 < n
        · have HX := Lib.hid (HG.out hf)
          go_wp2
          go_roundw
          case rel => exact ⟨k + 1, by omega, by go_num, hB, HX⟩
          case measure => simp [intOf]; omega
        · have HLK := Lib.hid (HS.out hf)
          go_wp2_with fail
          clear f0 hf
          have hkI : (k : Int) ≤ (K.length : Int) := by omega
          have hkc : (k : Int) ≤ (c : Int) := by omega
          have hck : ¬ c = k := by omega
          obtain ⟨v1, rfl⟩ : ∃ x, x = wr := ⟨_, rfl⟩
          have hBo := hB
          clear hB
          have HTK : Hid (∀ W1 : World, Below v1.heap.size v1 W1 → Rd W1 v1.heap.size (some ⟨bf, offf, none⟩) (k * 4) ((K.take k).flatMap callC)) := fun W1 h => (Rd.take_ (f := callC) (m := 4) (L := K) (fun _ => rfl) (rdW hBo hr) hk).below h
          have HTO : Hid (∀ u ∈ (K.take k).flatMap callC, u.oneCell' = true) := one_call (K.take k)
          have HT3O : Hid (∀ u ∈ (K.drop k).flatMap callC, u.oneCell' = true) := one_call (K.drop k)
          have hwk : IntKind.i64.wrap (k : Int) = (k : Int) := IntWalk.i64_in _ (by omega)
          have HT3 : Hid (∀ W1 : World, Below v1.heap.size v1 W1 → Rd W1 v1.heap.size (some ⟨bf, offf + k * 4, none⟩) ((K.length - k) * 4) ((K.drop k).flatMap callC)) := fun W1 h => (Rd.drop_ (f := callC) (m := 4) (L := K) (fun _ => rfl) (rdW hBo hr) hk).below h
          have HKd : Hid (∀ W1 : World, Below v1.heap.size v1 W1 → Below v1.heap.size v1 W1) := fun W1 h => h
          go_region_held3 (fun W1 => Below v1.heap.size v1 W1) (first | exact HKd.out _ ((Below.refl _ _).drew) | exact HKd.out _ (((Below.refl _ _).alloc (Nat.le_refl _) _).drew) | exact HKd.out _ ((((Below.refl _ _).alloc (Nat.le_refl _) _).alloc (by simp) _).drew) | exact HKd.out _ (hB1) | exact HKd.out _ (hB1.alloc hB1.size _) | exact HKd.out _ (hB2) | exact HKd.out _ (hB3))
            ((first
              | (refine step_cat _ (by rfl) (.tmp 43) (.tmp 46) 31 (by rfl) v1.heap.size 68 i0 _ 4 32 Tryz.underlying31 hi hz0 hz1 hz2 rfl (by omega) (.slice (some ⟨v1.heap.size, 0, none⟩) 0 0) 0 [] (by rfl) (own_empty (heap_alloc_new v1 _) (Nat.le_refl _)) (some ⟨bf, offf, none⟩) (k) (c) (v1.heap.size) ((K.take k).flatMap callC) (by rfl) (HTK.out _ (((Below.refl _ _).alloc (Nat.le_refl _) _).drew)) HTO.out (by unfold maxLen; omega) (by omega) (by first | omega | (simp; done) | (simp; omega)) (k) (by omega) ?_; intro A2 c2 w1 ho1 hg1; have hB1 : Below v1.heap.size v1 w1 := below_grown (((Below.refl _ _).alloc (Nat.le_refl _) _).drew) hg1 (Nat.le_refl _) (fun k hk => by have h3 : v1.heap.size = k := Option.some.inj hk; omega); have hs1 := hB1.size; simp only [List.nil_append] at ho1)
              | (refine step_cat _ (by rfl) (.tmp 43) (.tmp 46) 31 (by rfl) v1.heap.size 68 i0 _ 4 32 Tryz.underlying31 hi hz0 hz1 hz2 rfl (by omega) (.slice (some ⟨v1.heap.size, 0, none⟩) 0 0) 0 [] (by rfl) (own_empty (heap_at1 v1 _ _) (Nat.le_refl _)) (some ⟨bf, offf, none⟩) (k) (c) (v1.heap.size) ((K.take k).flatMap callC) (by rfl) (HTK.out _ ((((Below.refl _ _).alloc (Nat.le_refl _) _).alloc (by simp) _).drew)) HTO.out (by unfold maxLen; omega) (by omega) (by first | omega | (simp; done) | (simp; omega)) (k) (by omega) ?_; intro A2 c2 w1 ho1 hg1; have hB1 : Below v1.heap.size v1 w1 := below_grown ((((Below.refl _ _).alloc (Nat.le_refl _) _).alloc (by simp) _).drew) hg1 (Nat.le_refl _) (fun k hk => by have h3 : v1.heap.size = k := Option.some.inj hk; omega); have hs1 := hB1.size; simp only [List.nil_append] at ho1; have hy1 : w1.heap[v1.heap.size + 1]? = some (.cells #[.int .i64 n, .int .i64 d, .int .i64 d, .int .i64 0] 68) := (hg1.block _ (by simp <;> omega) (fun e => by have h3 : v1.heap.size + 1 = v1.heap.size := Option.some.inj e; omega)).trans (heap_alloc2_new v1 _ _))
              | (refine step_cat _ (by rfl) (.tmp 43) (.tmp 46) 31 (by rfl) v1.heap.size 68 i0 _ 4 32 Tryz.underlying31 hi hz0 hz1 hz2 rfl (by omega) (.slice (some ⟨v1.heap.size + 1, 0, none⟩) 0 0) 0 [] (by rfl) (own_empty (heap_alloc2_new v1 _ _) (Nat.le_succ _)) (some ⟨bf, offf, none⟩) (k) (c) (v1.heap.size) ((K.take k).flatMap callC) (by rfl) (HTK.out _ ((((Below.refl _ _).alloc (Nat.le_refl _) _).alloc (by simp) _).drew)) HTO.out (by unfold maxLen; omega) (by omega) (by first | omega | (simp; done) | (simp; omega)) (k) (by omega) ?_; intro A2 c2 w1 ho1 hg1; have hB1 : Below v1.heap.size v1 w1 := below_grown ((((Below.refl _ _).alloc (Nat.le_refl _) _).alloc (by simp) _).drew) hg1 (Nat.le_refl _) (fun k hk => by have h3 : v1.heap.size + 1 = k := Option.some.inj hk; omega); have hs1 := hB1.size; simp only [List.nil_append] at ho1; have hy1 : w1.heap[v1.heap.size]? = some (.cells #[.int .i64 n, .int .i64 d, .int .i64 d, .int .i64 0] 68) := (hg1.block _ (by simp <;> omega) (fun e => by have h3 : v1.heap.size = v1.heap.size + 1 := Option.some.inj e; omega)).trans (heap_at1 v1 _ _))
              | (refine step_cat _ (by rfl) (.tmp 47) (.tmp 52) 31 (by rfl) v1.heap.size 68 i0 _ 4 32 Tryz.underlying31 hi hz0 hz1 hz2 rfl (by omega) (.slice A2 (k) c2) (k) ((K.take k).flatMap callC) (by rfl) (ho1.alloc _) (some ⟨w1.heap.size, 0, none⟩) 1 1 _ [.int .i64 n, .int .i64 d, .int .i64 d, .int .i64 0] (by rfl) (Rd.of_block (heap_alloc_new w1 (.cells #[.int .i64 n, .int .i64 d, .int .i64 d, .int .i64 0] 68))) (by simp [Value.oneCell']) (by unfold maxLen; omega) (by omega) (by first | omega | (simp; done) | (simp; omega)) (k + 1) (by omega) ?_; intro A3 c3 w2 ho2 hg2; have hB2 : Below v1.heap.size v1 w2 := below_grown (hB1.alloc hB1.size _) hg2 (Nat.le_refl _) (fun k hk => (World.ownsRow.lt ho1 k hk).1); have hs2 := hB2.size)
              | (refine step_cat _ (by rfl) (.tmp 47) (.tmp 52) 31 (by rfl) v1.heap.size 68 i0 _ 4 32 Tryz.underlying31 hi hz0 hz1 hz2 rfl (by omega) (.slice A2 (k) c2) (k) ((K.take k).flatMap callC) (by rfl) (ho1) (some ⟨v1.heap.size + 1, 0, none⟩) 1 1 _ [.int .i64 n, .int .i64 d, .int .i64 d, .int .i64 0] (by rfl) (Rd.of_block (hy1)) (by simp [Value.oneCell']) (by unfold maxLen; omega) (by omega) (by first | omega | (simp; done) | (simp; omega)) (k + 1) (by omega) ?_; intro A3 c3 w2 ho2 hg2; have hB2 : Below v1.heap.size v1 w2 := below_grown (hB1) hg2 (Nat.le_refl _) (fun k hk => (World.ownsRow.lt ho1 k hk).1); have hs2 := hB2.size)
              | (refine step_cat _ (by rfl) (.tmp 47) (.tmp 52) 31 (by rfl) v1.heap.size 68 i0 _ 4 32 Tryz.underlying31 hi hz0 hz1 hz2 rfl (by omega) (.slice A2 (k) c2) (k) ((K.take k).flatMap callC) (by rfl) (ho1) (some ⟨v1.heap.size, 0, none⟩) 1 1 _ [.int .i64 n, .int .i64 d, .int .i64 d, .int .i64 0] (by rfl) (Rd.of_block (hy1)) (by simp [Value.oneCell']) (by unfold maxLen; omega) (by omega) (by first | omega | (simp; done) | (simp; omega)) (k + 1) (by omega) ?_; intro A3 c3 w2 ho2 hg2; have hB2 : Below v1.heap.size v1 w2 := below_grown (hB1) hg2 (Nat.le_refl _) (fun k hk => (World.ownsRow.lt ho1 k hk).1); have hs2 := hB2.size)
              | (refine step_cat _ (by rfl) (.tmp 53) (.tmp 56) 31 (by rfl) v1.heap.size 68 i0 _ 4 32 Tryz.underlying31 hi hz0 hz1 hz2 rfl (by omega) (.slice A3 (k + 1) c3) (k + 1) ((K.take k).flatMap callC ++ [.int .i64 n, .int .i64 d, .int .i64 d, .int .i64 0]) (by rfl) ho2 (some ⟨bf, offf + k * 4, none⟩) (K.length - k) (c - k) (v1.heap.size) ((K.drop k).flatMap callC) (by rfl) (HT3.out _ hB2) HT3O.out (by unfold maxLen; omega) (by omega) (by first | omega | (simp; done) | (simp; omega)) (K.length + 1) (by omega) ?_; intro A4 c4 w3 ho3 hg3; have hB3 : Below v1.heap.size v1 w3 := below_grown hB2 hg3 (Nat.le_refl _) (fun k hk => (World.ownsRow.lt ho2 k hk).1); have hs3 := hB3.size)))
          all_goals
            have e5 : (K.take k).flatMap callC ++ [.int .i64 n, .int .i64 d, .int .i64 d, .int .i64 0] ++ (K.drop k).flatMap callC = (insC k K ⟨n, d, d, 0⟩).flatMap callC := by simp [insC, callC]
            have e6 : (insC k K ⟨n, d, d, 0⟩).length = K.length + 1 := by rw [insC_len hk]
            rw [e5, ← e6] at ho3
            have HO3 := Lib.hid ho3
            rw [← HLK.out] at HO3
            have HRO := Lib.hid (fun (W : World) hb => spec_AreCalls A4 c4 (insC (idxC n K) K ⟨n, d, d, 0⟩) _ W (rdW hb (Rd.of_own HO3.out)) (by have h9 := insC_len (idxC_le n K) ⟨n, d, d, 0⟩; omega) (by exact (own_cap HO3.out).1) HIO.out)
            have HE6 := Lib.hid (show (insC (idxC n K) K ⟨n, d, d, 0⟩).length = K.length + 1 by rw [HLK.out]; exact e6)
            rw [HE6.out] at HRO
            clear e5 e6 ho3
            go_wp2_with fail
            refine (HXO.out w3 (bt hBo hB3)).mono ?_
            rintro e w' ⟨rfl, rfl⟩
            go_wp2_with fail
            refine (HRO.out w3 (Below.refl _ _)).mono ?_
            rintro e w5 ⟨rfl, hb5⟩
            go_wp2
            go_ret2
            exact rowPost2_nil (bt (bt hBo hB3) hb5)
      · have hge : ¬ ((k : Int) < (K.length : Int)) := by omega
        have HLK : Hid (idxC n K = k) := by
          obtain rfl : k = K.length := by omega
          exact (idxC_last HT).1
        go_wp2_with fail
        rcases hA with ⟨hAn, hc0⟩ | ⟨b, off, hAs⟩
        · subst hAn
          subst hc0
          obtain rfl : k = 0 := by omega
          obtain rfl : K = [] := List.length_eq_zero_iff.1 (by omega)
          obtain ⟨v1, rfl⟩ : ∃ x, x = wr := ⟨_, rfl⟩
          have hBo := hB
          clear hB
          have HTK : Hid (∀ W1 : World, Below v1.heap.size v1 W1 → Rd W1 v1.heap.size (none) (0 * 4) (([] : List Value))) := fun W1 h => Rd.nil_
          have HTO : Hid (∀ u ∈ ([] : List Value), u.oneCell' = true) := fun u hu => by simp at hu
          have HT3O : Hid (∀ u ∈ ([] : List Value), u.oneCell' = true) := fun u hu => by simp at hu
          have hwk : IntKind.i64.wrap (0 : Int) = (0 : Int) := IntWalk.i64_in _ (by omega)
          have HT3 : Hid (∀ W1 : World, Below v1.heap.size v1 W1 → Rd W1 v1.heap.size (none) ((0) * 4) (([] : List Value))) := fun W1 h => Rd.nil_
          have HKd : Hid (∀ W1 : World, Below v1.heap.size v1 W1 → Below v1.heap.size v1 W1) := fun W1 h => h
          go_region_held3 (fun W1 => Below v1.heap.size v1 W1) (first | exact HKd.out _ ((Below.refl _ _).drew) | exact HKd.out _ (((Below.refl _ _).alloc (Nat.le_refl _) _).drew) | exact HKd.out _ ((((Below.refl _ _).alloc (Nat.le_refl _) _).alloc (by simp) _).drew) | exact HKd.out _ (hB1) | exact HKd.out _ (hB1.alloc hB1.size _) | exact HKd.out _ (hB2) | exact HKd.out _ (hB3))
            ((first
              | (refine step_cat _ (by rfl) (.tmp 43) (.tmp 46) 31 (by rfl) v1.heap.size 68 i0 _ 4 32 Tryz.underlying31 hi hz0 hz1 hz2 rfl (by omega) (.slice (some ⟨v1.heap.size, 0, none⟩) 0 0) 0 [] (by rfl) (own_empty (heap_alloc_new v1 _) (Nat.le_refl _)) (none) (0) (0) (v1.heap.size) (([] : List Value)) (by rfl) (HTK.out _ (((Below.refl _ _).alloc (Nat.le_refl _) _).drew)) HTO.out (by unfold maxLen; omega) (by omega) (by first | omega | (simp; done) | (simp; omega)) (0) (by omega) ?_; intro A2 c2 w1 ho1 hg1; have hB1 : Below v1.heap.size v1 w1 := below_grown (((Below.refl _ _).alloc (Nat.le_refl _) _).drew) hg1 (Nat.le_refl _) (fun k hk => by have h3 : v1.heap.size = k := Option.some.inj hk; omega); have hs1 := hB1.size; simp only [List.nil_append] at ho1)
              | (refine step_cat _ (by rfl) (.tmp 43) (.tmp 46) 31 (by rfl) v1.heap.size 68 i0 _ 4 32 Tryz.underlying31 hi hz0 hz1 hz2 rfl (by omega) (.slice (some ⟨v1.heap.size, 0, none⟩) 0 0) 0 [] (by rfl) (own_empty (heap_at1 v1 _ _) (Nat.le_refl _)) (none) (0) (0) (v1.heap.size) (([] : List Value)) (by rfl) (HTK.out _ ((((Below.refl _ _).alloc (Nat.le_refl _) _).alloc (by simp) _).drew)) HTO.out (by unfold maxLen; omega) (by omega) (by first | omega | (simp; done) | (simp; omega)) (0) (by omega) ?_; intro A2 c2 w1 ho1 hg1; have hB1 : Below v1.heap.size v1 w1 := below_grown ((((Below.refl _ _).alloc (Nat.le_refl _) _).alloc (by simp) _).drew) hg1 (Nat.le_refl _) (fun k hk => by have h3 : v1.heap.size = k := Option.some.inj hk; omega); have hs1 := hB1.size; simp only [List.nil_append] at ho1; have hy1 : w1.heap[v1.heap.size + 1]? = some (.cells #[.int .i64 n, .int .i64 d, .int .i64 d, .int .i64 0] 68) := (hg1.block _ (by simp <;> omega) (fun e => by have h3 : v1.heap.size + 1 = v1.heap.size := Option.some.inj e; omega)).trans (heap_alloc2_new v1 _ _))
              | (refine step_cat _ (by rfl) (.tmp 43) (.tmp 46) 31 (by rfl) v1.heap.size 68 i0 _ 4 32 Tryz.underlying31 hi hz0 hz1 hz2 rfl (by omega) (.slice (some ⟨v1.heap.size + 1, 0, none⟩) 0 0) 0 [] (by rfl) (own_empty (heap_alloc2_new v1 _ _) (Nat.le_succ _)) (none) (0) (0) (v1.heap.size) (([] : List Value)) (by rfl) (HTK.out _ ((((Below.refl _ _).alloc (Nat.le_refl _) _).alloc (by simp) _).drew)) HTO.out (by unfold maxLen; omega) (by omega) (by first | omega | (simp; done) | (simp; omega)) (0) (by omega) ?_; intro A2 c2 w1 ho1 hg1; have hB1 : Below v1.heap.size v1 w1 := below_grown ((((Below.refl _ _).alloc (Nat.le_refl _) _).alloc (by simp) _).drew) hg1 (Nat.le_refl _) (fun k hk => by have h3 : v1.heap.size + 1 = k := Option.some.inj hk; omega); have hs1 := hB1.size; simp only [List.nil_append] at ho1; have hy1 : w1.heap[v1.heap.size]? = some (.cells #[.int .i64 n, .int .i64 d, .int .i64 d, .int .i64 0] 68) := (hg1.block _ (by simp <;> omega) (fun e => by have h3 : v1.heap.size = v1.heap.size + 1 := Option.some.inj e; omega)).trans (heap_at1 v1 _ _))
              | (refine step_cat _ (by rfl) (.tmp 47) (.tmp 52) 31 (by rfl) v1.heap.size 68 i0 _ 4 32 Tryz.underlying31 hi hz0 hz1 hz2 rfl (by omega) (.slice A2 (0) c2) (0) (([] : List Value)) (by rfl) (ho1.alloc _) (some ⟨w1.heap.size, 0, none⟩) 1 1 _ [.int .i64 n, .int .i64 d, .int .i64 d, .int .i64 0] (by rfl) (Rd.of_block (heap_alloc_new w1 (.cells #[.int .i64 n, .int .i64 d, .int .i64 d, .int .i64 0] 68))) (by simp [Value.oneCell']) (by unfold maxLen; omega) (by omega) (by first | omega | (simp; done) | (simp; omega)) (1) (by omega) ?_; intro A3 c3 w2 ho2 hg2; have hB2 : Below v1.heap.size v1 w2 := below_grown (hB1.alloc hB1.size _) hg2 (Nat.le_refl _) (fun k hk => (World.ownsRow.lt ho1 k hk).1); have hs2 := hB2.size)
              | (refine step_cat _ (by rfl) (.tmp 47) (.tmp 52) 31 (by rfl) v1.heap.size 68 i0 _ 4 32 Tryz.underlying31 hi hz0 hz1 hz2 rfl (by omega) (.slice A2 (0) c2) (0) (([] : List Value)) (by rfl) (ho1) (some ⟨v1.heap.size + 1, 0, none⟩) 1 1 _ [.int .i64 n, .int .i64 d, .int .i64 d, .int .i64 0] (by rfl) (Rd.of_block (hy1)) (by simp [Value.oneCell']) (by unfold maxLen; omega) (by omega) (by first | omega | (simp; done) | (simp; omega)) (1) (by omega) ?_; intro A3 c3 w2 ho2 hg2; have hB2 : Below v1.heap.size v1 w2 := below_grown (hB1) hg2 (Nat.le_refl _) (fun k hk => (World.ownsRow.lt ho1 k hk).1); have hs2 := hB2.size)
              | (refine step_cat _ (by rfl) (.tmp 47) (.tmp 52) 31 (by rfl) v1.heap.size 68 i0 _ 4 32 Tryz.underlying31 hi hz0 hz1 hz2 rfl (by omega) (.slice A2 (0) c2) (0) (([] : List Value)) (by rfl) (ho1) (some ⟨v1.heap.size, 0, none⟩) 1 1 _ [.int .i64 n, .int .i64 d, .int .i64 d, .int .i64 0] (by rfl) (Rd.of_block (hy1)) (by simp [Value.oneCell']) (by unfold maxLen; omega) (by omega) (by first | omega | (simp; done) | (simp; omega)) (1) (by omega) ?_; intro A3 c3 w2 ho2 hg2; have hB2 : Below v1.heap.size v1 w2 := below_grown (hB1) hg2 (Nat.le_refl _) (fun k hk => (World.ownsRow.lt ho1 k hk).1); have hs2 := hB2.size)
              | (refine step_cat _ (by rfl) (.tmp 53) (.tmp 56) 31 (by rfl) v1.heap.size 68 i0 _ 4 32 Tryz.underlying31 hi hz0 hz1 hz2 rfl (by omega) (.slice A3 (1) c3) (1) (([] : List Value) ++ [.int .i64 n, .int .i64 d, .int .i64 d, .int .i64 0]) (by rfl) ho2 (none) (0) (0) (v1.heap.size) (([] : List Value)) (by rfl) (HT3.out _ hB2) HT3O.out (by unfold maxLen; omega) (by omega) (by first | omega | (simp; done) | (simp; omega)) (1) (by omega) ?_; intro A4 c4 w3 ho3 hg3; have hB3 : Below v1.heap.size v1 w3 := below_grown hB2 hg3 (Nat.le_refl _) (fun k hk => (World.ownsRow.lt ho2 k hk).1); have hs3 := hB3.size)))
          all_goals
            have e5 : ([] : List Value) ++ [.int .i64 n, .int .i64 d, .int .i64 d, .int .i64 0] ++ ([] : List Value) = (insC 0 ([] : List CallD) ⟨n, d, d, 0⟩).flatMap callC := by simp [insC, callC]
            have e6 : (insC 0 ([] : List CallD) ⟨n, d, d, 0⟩).length = 1 := by rfl
            rw [e5, ← e6] at ho3
            have HO3 := Lib.hid ho3
            rw [← HLK.out] at HO3
            have HRO := Lib.hid (fun (W : World) hb => spec_AreCalls A4 c4 (insC (idxC n ([] : List CallD)) ([] : List CallD) ⟨n, d, d, 0⟩) _ W (rdW hb (Rd.of_own HO3.out)) (by have h9 := insC_len (idxC_le n ([] : List CallD)) ⟨n, d, d, 0⟩; simp at h9; omega) (by exact (own_cap HO3.out).1) HIO.out)
            have HE6 := Lib.hid (show (insC (idxC n ([] : List CallD)) ([] : List CallD) ⟨n, d, d, 0⟩).length = 1 by rw [HLK.out]; exact e6)
            rw [HE6.out] at HRO
            clear e5 e6 ho3
            go_wp2_with fail
            refine (HXO.out w3 (bt hBo hB3)).mono ?_
            rintro e w' ⟨rfl, rfl⟩
            go_wp2_with fail
            refine (HRO.out w3 (Below.refl _ _)).mono ?_
            rintro e w5 ⟨rfl, hb5⟩
            go_wp2
            go_ret2
            exact rowPost2_nil (bt (bt hBo hB3) hb5)
        · subst hAs
          by_cases hck : c = k
          · have hck2 := hck.symm
            clear hck
            subst hck2
            have hkI : (k : Int) ≤ (K.length : Int) := by omega
            have HD0 : Hid (K.drop k = []) := List.drop_of_length_le (by omega)
            obtain ⟨v1, rfl⟩ : ∃ x, x = wr := ⟨_, rfl⟩
            have hBo := hB
            clear hB
            have HTK : Hid (∀ W1 : World, Below v1.heap.size v1 W1 → Rd W1 v1.heap.size (some ⟨b, off, none⟩) (k * 4) ((K.take k).flatMap callC)) := fun W1 h => (Rd.take_ (f := callC) (m := 4) (L := K) (fun _ => rfl) (rdW hBo hr) hk).below h
            have HTO : Hid (∀ u ∈ (K.take k).flatMap callC, u.oneCell' = true) := one_call (K.take k)
            have HT3O : Hid (∀ u ∈ (K.drop k).flatMap callC, u.oneCell' = true) := one_call (K.drop k)
            have hwk : IntKind.i64.wrap (k : Int) = (k : Int) := IntWalk.i64_in _ (by omega)
            have HT3 : Hid (∀ W1 : World, Below v1.heap.size v1 W1 → Rd W1 v1.heap.size (some ⟨b, off, none⟩) ((0) * 4) ((K.drop k).flatMap callC)) := fun W1 h => (by rw [HD0.out]; simpa using (Rd.nil_ : Rd W1 v1.heap.size (some ⟨b, off, none⟩) 0 []))
            have HKd : Hid (∀ W1 : World, Below v1.heap.size v1 W1 → Below v1.heap.size v1 W1) := fun W1 h => h
            go_region_held3 (fun W1 => Below v1.heap.size v1 W1) (first | exact HKd.out _ ((Below.refl _ _).drew) | exact HKd.out _ (((Below.refl _ _).alloc (Nat.le_refl _) _).drew) | exact HKd.out _ ((((Below.refl _ _).alloc (Nat.le_refl _) _).alloc (by simp) _).drew) | exact HKd.out _ (hB1) | exact HKd.out _ (hB1.alloc hB1.size _) | exact HKd.out _ (hB2) | exact HKd.out _ (hB3))
              ((first
                | (refine step_cat _ (by rfl) (.tmp 43) (.tmp 46) 31 (by rfl) v1.heap.size 68 i0 _ 4 32 Tryz.underlying31 hi hz0 hz1 hz2 rfl (by omega) (.slice (some ⟨v1.heap.size, 0, none⟩) 0 0) 0 [] (by rfl) (own_empty (heap_alloc_new v1 _) (Nat.le_refl _)) (some ⟨b, off, none⟩) (k) (k) (v1.heap.size) ((K.take k).flatMap callC) (by rfl) (HTK.out _ (((Below.refl _ _).alloc (Nat.le_refl _) _).drew)) HTO.out (by unfold maxLen; omega) (by omega) (by first | omega | (simp; done) | (simp; omega)) (k) (by omega) ?_; intro A2 c2 w1 ho1 hg1; have hB1 : Below v1.heap.size v1 w1 := below_grown (((Below.refl _ _).alloc (Nat.le_refl _) _).drew) hg1 (Nat.le_refl _) (fun k hk => by have h3 : v1.heap.size = k := Option.some.inj hk; omega); have hs1 := hB1.size; simp only [List.nil_append] at ho1)
                | (refine step_cat _ (by rfl) (.tmp 43) (.tmp 46) 31 (by rfl) v1.heap.size 68 i0 _ 4 32 Tryz.underlying31 hi hz0 hz1 hz2 rfl (by omega) (.slice (some ⟨v1.heap.size, 0, none⟩) 0 0) 0 [] (by rfl) (own_empty (heap_at1 v1 _ _) (Nat.le_refl _)) (some ⟨b, off, none⟩) (k) (k) (v1.heap.size) ((K.take k).flatMap callC) (by rfl) (HTK.out _ ((((Below.refl _ _).alloc (Nat.le_refl _) _).alloc (by simp) _).drew)) HTO.out (by unfold maxLen; omega) (by omega) (by first | omega | (simp; done) | (simp; omega)) (k) (by omega) ?_; intro A2 c2 w1 ho1 hg1; have hB1 : Below v1.heap.size v1 w1 := below_grown ((((Below.refl _ _).alloc (Nat.le_refl _) _).alloc (by simp) _).drew) hg1 (Nat.le_refl _) (fun k hk => by have h3 : v1.heap.size = k := Option.some.inj hk; omega); have hs1 := hB1.size; simp only [List.nil_append] at ho1; have hy1 : w1.heap[v1.heap.size + 1]? = some (.cells #[.int .i64 n, .int .i64 d, .int .i64 d, .int .i64 0] 68) := (hg1.block _ (by simp <;> omega) (fun e => by have h3 : v1.heap.size + 1 = v1.heap.size := Option.some.inj e; omega)).trans (heap_alloc2_new v1 _ _))
                | (refine step_cat _ (by rfl) (.tmp 43) (.tmp 46) 31 (by rfl) v1.heap.size 68 i0 _ 4 32 Tryz.underlying31 hi hz0 hz1 hz2 rfl (by omega) (.slice (some ⟨v1.heap.size + 1, 0, none⟩) 0 0) 0 [] (by rfl) (own_empty (heap_alloc2_new v1 _ _) (Nat.le_succ _)) (some ⟨b, off, none⟩) (k) (k) (v1.heap.size) ((K.take k).flatMap callC) (by rfl) (HTK.out _ ((((Below.refl _ _).alloc (Nat.le_refl _) _).alloc (by simp) _).drew)) HTO.out (by unfold maxLen; omega) (by omega) (by first | omega | (simp; done) | (simp; omega)) (k) (by omega) ?_; intro A2 c2 w1 ho1 hg1; have hB1 : Below v1.heap.size v1 w1 := below_grown ((((Below.refl _ _).alloc (Nat.le_refl _) _).alloc (by simp) _).drew) hg1 (Nat.le_refl _) (fun k hk => by have h3 : v1.heap.size + 1 = k := Option.some.inj hk; omega); have hs1 := hB1.size; simp only [List.nil_append] at ho1; have hy1 : w1.heap[v1.heap.size]? = some (.cells #[.int .i64 n, .int .i64 d, .int .i64 d, .int .i64 0] 68) := (hg1.block _ (by simp <;> omega) (fun e => by have h3 : v1.heap.size = v1.heap.size + 1 := Option.some.inj e; omega)).trans (heap_at1 v1 _ _))
                | (refine step_cat _ (by rfl) (.tmp 47) (.tmp 52) 31 (by rfl) v1.heap.size 68 i0 _ 4 32 Tryz.underlying31 hi hz0 hz1 hz2 rfl (by omega) (.slice A2 (k) c2) (k) ((K.take k).flatMap callC) (by rfl) (ho1.alloc _) (some ⟨w1.heap.size, 0, none⟩) 1 1 _ [.int .i64 n, .int .i64 d, .int .i64 d, .int .i64 0] (by rfl) (Rd.of_block (heap_alloc_new w1 (.cells #[.int .i64 n, .int .i64 d, .int .i64 d, .int .i64 0] 68))) (by simp [Value.oneCell']) (by unfold maxLen; omega) (by omega) (by first | omega | (simp; done) | (simp; omega)) (k + 1) (by omega) ?_; intro A3 c3 w2 ho2 hg2; have hB2 : Below v1.heap.size v1 w2 := below_grown (hB1.alloc hB1.size _) hg2 (Nat.le_refl _) (fun k hk => (World.ownsRow.lt ho1 k hk).1); have hs2 := hB2.size)
                | (refine step_cat _ (by rfl) (.tmp 47) (.tmp 52) 31 (by rfl) v1.heap.size 68 i0 _ 4 32 Tryz.underlying31 hi hz0 hz1 hz2 rfl (by omega) (.slice A2 (k) c2) (k) ((K.take k).flatMap callC) (by rfl) (ho1) (some ⟨v1.heap.size + 1, 0, none⟩) 1 1 _ [.int .i64 n, .int .i64 d, .int .i64 d, .int .i64 0] (by rfl) (Rd.of_block (hy1)) (by simp [Value.oneCell']) (by unfold maxLen; omega) (by omega) (by first | omega | (simp; done) | (simp; omega)) (k + 1) (by omega) ?_; intro A3 c3 w2 ho2 hg2; have hB2 : Below v1.heap.size v1 w2 := below_grown (hB1) hg2 (Nat.le_refl _) (fun k hk => (World.ownsRow.lt ho1 k hk).1); have hs2 := hB2.size)
                | (refine step_cat _ (by rfl) (.tmp 47) (.tmp 52) 31 (by rfl) v1.heap.size 68 i0 _ 4 32 Tryz.underlying31 hi hz0 hz1 hz2 rfl (by omega) (.slice A2 (k) c2) (k) ((K.take k).flatMap callC) (by rfl) (ho1) (some ⟨v1.heap.size, 0, none⟩) 1 1 _ [.int .i64 n, .int .i64 d, .int .i64 d, .int .i64 0] (by rfl) (Rd.of_block (hy1)) (by simp [Value.oneCell']) (by unfold maxLen; omega) (by omega) (by first | omega | (simp; done) | (simp; omega)) (k + 1) (by omega) ?_; intro A3 c3 w2 ho2 hg2; have hB2 : Below v1.heap.size v1 w2 := below_grown (hB1) hg2 (Nat.le_refl _) (fun k hk => (World.ownsRow.lt ho1 k hk).1); have hs2 := hB2.size)
                | (refine step_cat _ (by rfl) (.tmp 53) (.tmp 56) 31 (by rfl) v1.heap.size 68 i0 _ 4 32 Tryz.underlying31 hi hz0 hz1 hz2 rfl (by omega) (.slice A3 (k + 1) c3) (k + 1) ((K.take k).flatMap callC ++ [.int .i64 n, .int .i64 d, .int .i64 d, .int .i64 0]) (by rfl) ho2 (some ⟨b, off, none⟩) (0) (0) (v1.heap.size) ((K.drop k).flatMap callC) (by rfl) (HT3.out _ hB2) HT3O.out (by unfold maxLen; omega) (by omega) (by first | omega | (simp; done) | (simp; omega)) (K.length + 1) (by omega) ?_; intro A4 c4 w3 ho3 hg3; have hB3 : Below v1.heap.size v1 w3 := below_grown hB2 hg3 (Nat.le_refl _) (fun k hk => (World.ownsRow.lt ho2 k hk).1); have hs3 := hB3.size)))
            all_goals
              have e5 : (K.take k).flatMap callC ++ [.int .i64 n, .int .i64 d, .int .i64 d, .int .i64 0] ++ (K.drop k).flatMap callC = (insC k K ⟨n, d, d, 0⟩).flatMap callC := by simp [insC, callC]
              have e6 : (insC k K ⟨n, d, d, 0⟩).length = K.length + 1 := by rw [insC_len hk]
              rw [e5, ← e6] at ho3
              have HO3 := Lib.hid ho3
              rw [← HLK.out] at HO3
              have HRO := Lib.hid (fun (W : World) hb => spec_AreCalls A4 c4 (insC (idxC n K) K ⟨n, d, d, 0⟩) _ W (rdW hb (Rd.of_own HO3.out)) (by have h9 := insC_len (idxC_le n K) ⟨n, d, d, 0⟩; omega) (by exact (own_cap HO3.out).1) HIO.out)
              have HE6 := Lib.hid (show (insC (idxC n K) K ⟨n, d, d, 0⟩).length = K.length + 1 by rw [HLK.out]; exact e6)
              rw [HE6.out] at HRO
              clear e5 e6 ho3
              go_wp2_with fail
              refine (HXO.out w3 (bt hBo hB3)).mono ?_
              rintro e w' ⟨rfl, rfl⟩
              go_wp2_with fail
              refine (HRO.out w3 (Below.refl _ _)).mono ?_
              rintro e w5 ⟨rfl, hb5⟩
              go_wp2
              go_ret2
              exact rowPost2_nil (bt (bt hBo hB3) hb5)
          · have hkI : (k : Int) ≤ (K.length : Int) := by omega
            have hkc : (k : Int) ≤ (c : Int) := by omega
            have HD0 : Hid (K.drop k = []) := List.drop_of_length_le (by omega)
            obtain ⟨v1, rfl⟩ : ∃ x, x = wr := ⟨_, rfl⟩
            have hBo := hB
            clear hB
            have HTK : Hid (∀ W1 : World, Below v1.heap.size v1 W1 → Rd W1 v1.heap.size (some ⟨b, off, none⟩) (k * 4) ((K.take k).flatMap callC)) := fun W1 h => (Rd.take_ (f := callC) (m := 4) (L := K) (fun _ => rfl) (rdW hBo hr) hk).below h
            have HTO : Hid (∀ u ∈ (K.take k).flatMap callC, u.oneCell' = true) := one_call (K.take k)
            have HT3O : Hid (∀ u ∈ (K.drop k).flatMap callC, u.oneCell' = true) := one_call (K.drop k)
            have hwk : IntKind.i64.wrap (k : Int) = (k : Int) := IntWalk.i64_in _ (by omega)
            have HT3 : Hid (∀ W1 : World, Below v1.heap.size v1 W1 → Rd W1 v1.heap.size (some ⟨b, off + k * 4, none⟩) ((K.length - k) * 4) ((K.drop k).flatMap callC)) := fun W1 h => (by rw [show K.length - k = 0 from by omega, HD0.out]; simpa using (Rd.nil_ : Rd W1 v1.heap.size (some ⟨b, off + k * 4, none⟩) 0 []))
            have HKd : Hid (∀ W1 : World, Below v1.heap.size v1 W1 → Below v1.heap.size v1 W1) := fun W1 h => h
            go_region_held3 (fun W1 => Below v1.heap.size v1 W1) (first | exact HKd.out _ ((Below.refl _ _).drew) | exact HKd.out _ (((Below.refl _ _).alloc (Nat.le_refl _) _).drew) | exact HKd.out _ ((((Below.refl _ _).alloc (Nat.le_refl _) _).alloc (by simp) _).drew) | exact HKd.out _ (hB1) | exact HKd.out _ (hB1.alloc hB1.size _) | exact HKd.out _ (hB2) | exact HKd.out _ (hB3))
              ((first
                | (refine step_cat _ (by rfl) (.tmp 43) (.tmp 46) 31 (by rfl) v1.heap.size 68 i0 _ 4 32 Tryz.underlying31 hi hz0 hz1 hz2 rfl (by omega) (.slice (some ⟨v1.heap.size, 0, none⟩) 0 0) 0 [] (by rfl) (own_empty (heap_alloc_new v1 _) (Nat.le_refl _)) (some ⟨b, off, none⟩) (k) (c) (v1.heap.size) ((K.take k).flatMap callC) (by rfl) (HTK.out _ (((Below.refl _ _).alloc (Nat.le_refl _) _).drew)) HTO.out (by unfold maxLen; omega) (by omega) (by first | omega | (simp; done) | (simp; omega)) (k) (by omega) ?_; intro A2 c2 w1 ho1 hg1; have hB1 : Below v1.heap.size v1 w1 := below_grown (((Below.refl _ _).alloc (Nat.le_refl _) _).drew) hg1 (Nat.le_refl _) (fun k hk => by have h3 : v1.heap.size = k := Option.some.inj hk; omega); have hs1 := hB1.size; simp only [List.nil_append] at ho1)
                | (refine step_cat _ (by rfl) (.tmp 43) (.tmp 46) 31 (by rfl) v1.heap.size 68 i0 _ 4 32 Tryz.underlying31 hi hz0 hz1 hz2 rfl (by omega) (.slice (some ⟨v1.heap.size, 0, none⟩) 0 0) 0 [] (by rfl) (own_empty (heap_at1 v1 _ _) (Nat.le_refl _)) (some ⟨b, off, none⟩) (k) (c) (v1.heap.size) ((K.take k).flatMap callC) (by rfl) (HTK.out _ ((((Below.refl _ _).alloc (Nat.le_refl _) _).alloc (by simp) _).drew)) HTO.out (by unfold maxLen; omega) (by omega) (by first | omega | (simp; done) | (simp; omega)) (k) (by omega) ?_; intro A2 c2 w1 ho1 hg1; have hB1 : Below v1.heap.size v1 w1 := below_grown ((((Below.refl _ _).alloc (Nat.le_refl _) _).alloc (by simp) _).drew) hg1 (Nat.le_refl _) (fun k hk => by have h3 : v1.heap.size = k := Option.some.inj hk; omega); have hs1 := hB1.size; simp only [List.nil_append] at ho1; have hy1 : w1.heap[v1.heap.size + 1]? = some (.cells #[.int .i64 n, .int .i64 d, .int .i64 d, .int .i64 0] 68) := (hg1.block _ (by simp <;> omega) (fun e => by have h3 : v1.heap.size + 1 = v1.heap.size := Option.some.inj e; omega)).trans (heap_alloc2_new v1 _ _))
                | (refine step_cat _ (by rfl) (.tmp 43) (.tmp 46) 31 (by rfl) v1.heap.size 68 i0 _ 4 32 Tryz.underlying31 hi hz0 hz1 hz2 rfl (by omega) (.slice (some ⟨v1.heap.size + 1, 0, none⟩) 0 0) 0 [] (by rfl) (own_empty (heap_alloc2_new v1 _ _) (Nat.le_succ _)) (some ⟨b, off, none⟩) (k) (c) (v1.heap.size) ((K.take k).flatMap callC) (by rfl) (HTK.out _ ((((Below.refl _ _).alloc (Nat.le_refl _) _).alloc (by simp) _).drew)) HTO.out (by unfold maxLen; omega) (by omega) (by first | omega | (simp; done) | (simp; omega)) (k) (by omega) ?_; intro A2 c2 w1 ho1 hg1; have hB1 : Below v1.heap.size v1 w1 := below_grown ((((Below.refl _ _).alloc (Nat.le_refl _) _).alloc (by simp) _).drew) hg1 (Nat.le_refl _) (fun k hk => by have h3 : v1.heap.size + 1 = k := Option.some.inj hk; omega); have hs1 := hB1.size; simp only [List.nil_append] at ho1; have hy1 : w1.heap[v1.heap.size]? = some (.cells #[.int .i64 n, .int .i64 d, .int .i64 d, .int .i64 0] 68) := (hg1.block _ (by simp <;> omega) (fun e => by have h3 : v1.heap.size = v1.heap.size + 1 := Option.some.inj e; omega)).trans (heap_at1 v1 _ _))
                | (refine step_cat _ (by rfl) (.tmp 47) (.tmp 52) 31 (by rfl) v1.heap.size 68 i0 _ 4 32 Tryz.underlying31 hi hz0 hz1 hz2 rfl (by omega) (.slice A2 (k) c2) (k) ((K.take k).flatMap callC) (by rfl) (ho1.alloc _) (some ⟨w1.heap.size, 0, none⟩) 1 1 _ [.int .i64 n, .int .i64 d, .int .i64 d, .int .i64 0] (by rfl) (Rd.of_block (heap_alloc_new w1 (.cells #[.int .i64 n, .int .i64 d, .int .i64 d, .int .i64 0] 68))) (by simp [Value.oneCell']) (by unfold maxLen; omega) (by omega) (by first | omega | (simp; done) | (simp; omega)) (k + 1) (by omega) ?_; intro A3 c3 w2 ho2 hg2; have hB2 : Below v1.heap.size v1 w2 := below_grown (hB1.alloc hB1.size _) hg2 (Nat.le_refl _) (fun k hk => (World.ownsRow.lt ho1 k hk).1); have hs2 := hB2.size)
                | (refine step_cat _ (by rfl) (.tmp 47) (.tmp 52) 31 (by rfl) v1.heap.size 68 i0 _ 4 32 Tryz.underlying31 hi hz0 hz1 hz2 rfl (by omega) (.slice A2 (k) c2) (k) ((K.take k).flatMap callC) (by rfl) (ho1) (some ⟨v1.heap.size + 1, 0, none⟩) 1 1 _ [.int .i64 n, .int .i64 d, .int .i64 d, .int .i64 0] (by rfl) (Rd.of_block (hy1)) (by simp [Value.oneCell']) (by unfold maxLen; omega) (by omega) (by first | omega | (simp; done) | (simp; omega)) (k + 1) (by omega) ?_; intro A3 c3 w2 ho2 hg2; have hB2 : Below v1.heap.size v1 w2 := below_grown (hB1) hg2 (Nat.le_refl _) (fun k hk => (World.ownsRow.lt ho1 k hk).1); have hs2 := hB2.size)
                | (refine step_cat _ (by rfl) (.tmp 47) (.tmp 52) 31 (by rfl) v1.heap.size 68 i0 _ 4 32 Tryz.underlying31 hi hz0 hz1 hz2 rfl (by omega) (.slice A2 (k) c2) (k) ((K.take k).flatMap callC) (by rfl) (ho1) (some ⟨v1.heap.size, 0, none⟩) 1 1 _ [.int .i64 n, .int .i64 d, .int .i64 d, .int .i64 0] (by rfl) (Rd.of_block (hy1)) (by simp [Value.oneCell']) (by unfold maxLen; omega) (by omega) (by first | omega | (simp; done) | (simp; omega)) (k + 1) (by omega) ?_; intro A3 c3 w2 ho2 hg2; have hB2 : Below v1.heap.size v1 w2 := below_grown (hB1) hg2 (Nat.le_refl _) (fun k hk => (World.ownsRow.lt ho1 k hk).1); have hs2 := hB2.size)
                | (refine step_cat _ (by rfl) (.tmp 53) (.tmp 56) 31 (by rfl) v1.heap.size 68 i0 _ 4 32 Tryz.underlying31 hi hz0 hz1 hz2 rfl (by omega) (.slice A3 (k + 1) c3) (k + 1) ((K.take k).flatMap callC ++ [.int .i64 n, .int .i64 d, .int .i64 d, .int .i64 0]) (by rfl) ho2 (some ⟨b, off + k * 4, none⟩) (K.length - k) (c - k) (v1.heap.size) ((K.drop k).flatMap callC) (by rfl) (HT3.out _ hB2) HT3O.out (by unfold maxLen; omega) (by omega) (by first | omega | (simp; done) | (simp; omega)) (K.length + 1) (by omega) ?_; intro A4 c4 w3 ho3 hg3; have hB3 : Below v1.heap.size v1 w3 := below_grown hB2 hg3 (Nat.le_refl _) (fun k hk => (World.ownsRow.lt ho2 k hk).1); have hs3 := hB3.size)))
            all_goals
              have e5 : (K.take k).flatMap callC ++ [.int .i64 n, .int .i64 d, .int .i64 d, .int .i64 0] ++ (K.drop k).flatMap callC = (insC k K ⟨n, d, d, 0⟩).flatMap callC := by simp [insC, callC]
              have e6 : (insC k K ⟨n, d, d, 0⟩).length = K.length + 1 := by rw [insC_len hk]
              rw [e5, ← e6] at ho3
              have HO3 := Lib.hid ho3
              rw [← HLK.out] at HO3
              have HRO := Lib.hid (fun (W : World) hb => spec_AreCalls A4 c4 (insC (idxC n K) K ⟨n, d, d, 0⟩) _ W (rdW hb (Rd.of_own HO3.out)) (by have h9 := insC_len (idxC_le n K) ⟨n, d, d, 0⟩; omega) (by exact (own_cap HO3.out).1) HIO.out)
              have HE6 := Lib.hid (show (insC (idxC n K) K ⟨n, d, d, 0⟩).length = K.length + 1 by rw [HLK.out]; exact e6)
              rw [HE6.out] at HRO
              clear e5 e6 ho3
              go_wp2_with fail
              refine (HXO.out w3 (bt hBo hB3)).mono ?_
              rintro e w' ⟨rfl, rfl⟩
              go_wp2_with fail
              refine (HRO.out w3 (Below.refl _ _)).mono ?_
              rintro e w5 ⟨rfl, hb5⟩
              go_wp2
              go_ret2
              exact rowPost2_nil (bt (bt hBo hB3) hb5)
  · rw [addC_0 e12 e34 (by rw [e5, e7]; rfl)]
    rw [e7] at HIO
    have HIO := Lib.hid HIO
    clear e5 e7 e12 e34
    go_enter Tryz.func112, Tryz.ntmps112
    go_wp2_with fail
    refine HHO.out.mono ?_
    rintro e w1 ⟨rfl, hb1⟩
    go_wp2_with fail
    refine (HCO.out w1 hb1).mono ?_
    rintro e w2 ⟨rfl, hb2⟩
    have hB2 := bt hb1 hb2
    go_wp2_with (first | (go_at_call 80; refine (l02Is_b _ _ _ e3).mono ?_; rintro e w' ⟨rfl, rfl⟩) | (go_at_call 81; refine (l01In_b _ _ _ _ _ e4).mono ?_; rintro e w' ⟨rfl, rfl⟩))
    go_loopw [10] (fun i wr => ∃ k : Nat, k ≤ K.length ∧ i = .int .i64 k ∧ Below w.heap.size w wr ∧ Hid (∀ j (hj : j < K.length), j < k → K[j].number < n)) (fun i _ => K.length - (intOf i).toNat)
    case atStart => exact ⟨0, by omega, rfl, hB2, fun j _ hj => absurd hj (by omega)⟩
    case round =>
      obtain ⟨k, hk, rfl, hB, HT⟩ := hrel
      clear hb1 hb2 hB2
      have hk0 : (0 : Int) ≤ (k : Int) := by omega
      by_cases hlt : k < K.length
      · obtain ⟨bf, offf, hAf, hbf, hcf⟩ := Rd.elem callC 4 (fun _ => rfl) (rdW hB hr) (by omega) hlt
        have f0 : wr.cell? ⟨bf, offf + k * 4, none⟩ = some (.int .i64 K[k].number) := hcf k hlt 0 _ rfl
        clear hcf
        subst hAf
        have hk1 : (k : Int) < (K.length : Int) := by omega
        have hkc1 : (k : Int) ≤ (c : Int) := by omega
        have HG := Lib.hid (idxC_go (n := n) hlt HT)
        have HS := Lib.hid (fun h => (idxC_stop (n := n) hlt HT h).1)
        generalize K[k].number = x0 at *
        by_cases hf : x0 < n
        · have HX := Lib.hid (HG.out hf)
          go_wp2
          go_roundw
          case rel => exact ⟨k + 1, by omega, by go_num, hB, HX⟩
          case measure => simp [intOf]; omega
        · have HLK := Lib.hid (HS.out hf)
          go_wp2_with fail
          clear f0 hf
          have hkI : (k : Int) ≤ (K.length : Int) := by omega
          have hkc : (k : Int) ≤ (c : Int) := by omega
          have hck : ¬ c = k := by omega
          obtain ⟨v1, rfl⟩ : ∃ x, x = wr := ⟨_, rfl⟩
          have hBo := hB
          clear hB
          have HTK : Hid (∀ W1 : World, Below v1.heap.size v1 W1 → Rd W1 v1.heap.size (some ⟨bf, offf, none⟩) (k * 4) ((K.take k).flatMap callC)) := fun W1 h => (Rd.take_ (f := callC) (m := 4) (L := K) (fun _ => rfl) (rdW hBo hr) hk).below h
          have HTO : Hid (∀ u ∈ (K.take k).flatMap callC, u.oneCell' = true) := one_call (K.take k)
          have HT3O : Hid (∀ u ∈ (K.drop k).flatMap callC, u.oneCell' = true) := one_call (K.drop k)
          have hwk : IntKind.i64.wrap (k : Int) = (k : Int) := IntWalk.i64_in _ (by omega)
          have HT3 : Hid (∀ W1 : World, Below v1.heap.size v1 W1 → Rd W1 v1.heap.size (some ⟨bf, offf + k * 4, none⟩) ((K.length - k) * 4) ((K.drop k).flatMap callC)) := fun W1 h => (Rd.drop_ (f := callC) (m := 4) (L := K) (fun _ => rfl) (rdW hBo hr) hk).below h
          have HKd : Hid (∀ W1 : World, Below v1.heap.size v1 W1 → Below v1.heap.size v1 W1) := fun W1 h => h
          go_region_held3 (fun W1 => Below v1.heap.size v1 W1) (first | exact HKd.out _ ((Below.refl _ _).drew) | exact HKd.out _ (((Below.refl _ _).alloc (Nat.le_refl _) _).drew) | exact HKd.out _ ((((Below.refl _ _).alloc (Nat.le_refl _) _).alloc (by simp) _).drew) | exact HKd.out _ (hB1) | exact HKd.out _ (hB1.alloc hB1.size _) | exact HKd.out _ (hB2) | exact HKd.out _ (hB3))
            ((first
              | (refine step_cat _ (by rfl) (.tmp 43) (.tmp 46) 31 (by rfl) v1.heap.size 68 i0 _ 4 32 Tryz.underlying31 hi hz0 hz1 hz2 rfl (by omega) (.slice (some ⟨v1.heap.size, 0, none⟩) 0 0) 0 [] (by rfl) (own_empty (heap_alloc_new v1 _) (Nat.le_refl _)) (some ⟨bf, offf, none⟩) (k) (c) (v1.heap.size) ((K.take k).flatMap callC) (by rfl) (HTK.out _ (((Below.refl _ _).alloc (Nat.le_refl _) _).drew)) HTO.out (by unfold maxLen; omega) (by omega) (by first | omega | (simp; done) | (simp; omega)) (k) (by omega) ?_; intro A2 c2 w1 ho1 hg1; have hB1 : Below v1.heap.size v1 w1 := below_grown (((Below.refl _ _).alloc (Nat.le_refl _) _).drew) hg1 (Nat.le_refl _) (fun k hk => by have h3 : v1.heap.size = k := Option.some.inj hk; omega); have hs1 := hB1.size; simp only [List.nil_append] at ho1)
              | (refine step_cat _ (by rfl) (.tmp 43) (.tmp 46) 31 (by rfl) v1.heap.size 68 i0 _ 4 32 Tryz.underlying31 hi hz0 hz1 hz2 rfl (by omega) (.slice (some ⟨v1.heap.size, 0, none⟩) 0 0) 0 [] (by rfl) (own_empty (heap_at1 v1 _ _) (Nat.le_refl _)) (some ⟨bf, offf, none⟩) (k) (c) (v1.heap.size) ((K.take k).flatMap callC) (by rfl) (HTK.out _ ((((Below.refl _ _).alloc (Nat.le_refl _) _).alloc (by simp) _).drew)) HTO.out (by unfold maxLen; omega) (by omega) (by first | omega | (simp; done) | (simp; omega)) (k) (by omega) ?_; intro A2 c2 w1 ho1 hg1; have hB1 : Below v1.heap.size v1 w1 := below_grown ((((Below.refl _ _).alloc (Nat.le_refl _) _).alloc (by simp) _).drew) hg1 (Nat.le_refl _) (fun k hk => by have h3 : v1.heap.size = k := Option.some.inj hk; omega); have hs1 := hB1.size; simp only [List.nil_append] at ho1; have hy1 : w1.heap[v1.heap.size + 1]? = some (.cells #[.int .i64 n, .int .i64 d, .int .i64 d, .int .i64 0] 68) := (hg1.block _ (by simp <;> omega) (fun e => by have h3 : v1.heap.size + 1 = v1.heap.size := Option.some.inj e; omega)).trans (heap_alloc2_new v1 _ _))
              | (refine step_cat _ (by rfl) (.tmp 43) (.tmp 46) 31 (by rfl) v1.heap.size 68 i0 _ 4 32 Tryz.underlying31 hi hz0 hz1 hz2 rfl (by omega) (.slice (some ⟨v1.heap.size + 1, 0, none⟩) 0 0) 0 [] (by rfl) (own_empty (heap_alloc2_new v1 _ _) (Nat.le_succ _)) (some ⟨bf, offf, none⟩) (k) (c) (v1.heap.size) ((K.take k).flatMap callC) (by rfl) (HTK.out _ ((((Below.refl _ _).alloc (Nat.le_refl _) _).alloc (by simp) _).drew)) HTO.out (by unfold maxLen; omega) (by omega) (by first | omega | (simp; done) | (simp; omega)) (k) (by omega) ?_; intro A2 c2 w1 ho1 hg1; have hB1 : Below v1.heap.size v1 w1 := below_grown ((((Below.refl _ _).alloc (Nat.le_refl _) _).alloc (by simp) _).drew) hg1 (Nat.le_refl _) (fun k hk => by have h3 : v1.heap.size + 1 = k := Option.some.inj hk; omega); have hs1 := hB1.size; simp only [List.nil_append] at ho1; have hy1 : w1.heap[v1.heap.size]? = some (.cells #[.int .i64 n, .int .i64 d, .int .i64 d, .int .i64 0] 68) := (hg1.block _ (by simp <;> omega) (fun e => by have h3 : v1.heap.size = v1.heap.size + 1 := Option.some.inj e; omega)).trans (heap_at1 v1 _ _))
              | (refine step_cat _ (by rfl) (.tmp 47) (.tmp 52) 31 (by rfl) v1.heap.size 68 i0 _ 4 32 Tryz.underlying31 hi hz0 hz1 hz2 rfl (by omega) (.slice A2 (k) c2) (k) ((K.take k).flatMap callC) (by rfl) (ho1.alloc _) (some ⟨w1.heap.size, 0, none⟩) 1 1 _ [.int .i64 n, .int .i64 d, .int .i64 d, .int .i64 0] (by rfl) (Rd.of_block (heap_alloc_new w1 (.cells #[.int .i64 n, .int .i64 d, .int .i64 d, .int .i64 0] 68))) (by simp [Value.oneCell']) (by unfold maxLen; omega) (by omega) (by first | omega | (simp; done) | (simp; omega)) (k + 1) (by omega) ?_; intro A3 c3 w2 ho2 hg2; have hB2 : Below v1.heap.size v1 w2 := below_grown (hB1.alloc hB1.size _) hg2 (Nat.le_refl _) (fun k hk => (World.ownsRow.lt ho1 k hk).1); have hs2 := hB2.size)
              | (refine step_cat _ (by rfl) (.tmp 47) (.tmp 52) 31 (by rfl) v1.heap.size 68 i0 _ 4 32 Tryz.underlying31 hi hz0 hz1 hz2 rfl (by omega) (.slice A2 (k) c2) (k) ((K.take k).flatMap callC) (by rfl) (ho1) (some ⟨v1.heap.size + 1, 0, none⟩) 1 1 _ [.int .i64 n, .int .i64 d, .int .i64 d, .int .i64 0] (by rfl) (Rd.of_block (hy1)) (by simp [Value.oneCell']) (by unfold maxLen; omega) (by omega) (by first | omega | (simp; done) | (simp; omega)) (k + 1) (by omega) ?_; intro A3 c3 w2 ho2 hg2; have hB2 : Below v1.heap.size v1 w2 := below_grown (hB1) hg2 (Nat.le_refl _) (fun k hk => (World.ownsRow.lt ho1 k hk).1); have hs2 := hB2.size)
              | (refine step_cat _ (by rfl) (.tmp 47) (.tmp 52) 31 (by rfl) v1.heap.size 68 i0 _ 4 32 Tryz.underlying31 hi hz0 hz1 hz2 rfl (by omega) (.slice A2 (k) c2) (k) ((K.take k).flatMap callC) (by rfl) (ho1) (some ⟨v1.heap.size, 0, none⟩) 1 1 _ [.int .i64 n, .int .i64 d, .int .i64 d, .int .i64 0] (by rfl) (Rd.of_block (hy1)) (by simp [Value.oneCell']) (by unfold maxLen; omega) (by omega) (by first | omega | (simp; done) | (simp; omega)) (k + 1) (by omega) ?_; intro A3 c3 w2 ho2 hg2; have hB2 : Below v1.heap.size v1 w2 := below_grown (hB1) hg2 (Nat.le_refl _) (fun k hk => (World.ownsRow.lt ho1 k hk).1); have hs2 := hB2.size)
              | (refine step_cat _ (by rfl) (.tmp 53) (.tmp 56) 31 (by rfl) v1.heap.size 68 i0 _ 4 32 Tryz.underlying31 hi hz0 hz1 hz2 rfl (by omega) (.slice A3 (k + 1) c3) (k + 1) ((K.take k).flatMap callC ++ [.int .i64 n, .int .i64 d, .int .i64 d, .int .i64 0]) (by rfl) ho2 (some ⟨bf, offf + k * 4, none⟩) (K.length - k) (c - k) (v1.heap.size) ((K.drop k).flatMap callC) (by rfl) (HT3.out _ hB2) HT3O.out (by unfold maxLen; omega) (by omega) (by first | omega | (simp; done) | (simp; omega)) (K.length + 1) (by omega) ?_; intro A4 c4 w3 ho3 hg3; have hB3 : Below v1.heap.size v1 w3 := below_grown hB2 hg3 (Nat.le_refl _) (fun k hk => (World.ownsRow.lt ho2 k hk).1); have hs3 := hB3.size)))
          all_goals
            have e5 : (K.take k).flatMap callC ++ [.int .i64 n, .int .i64 d, .int .i64 d, .int .i64 0] ++ (K.drop k).flatMap callC = (insC k K ⟨n, d, d, 0⟩).flatMap callC := by simp [insC, callC]
            have e6 : (insC k K ⟨n, d, d, 0⟩).length = K.length + 1 := by rw [insC_len hk]
            rw [e5, ← e6] at ho3
            have HO3 := Lib.hid ho3
            rw [← HLK.out] at HO3
            have HRO := Lib.hid (fun (W : World) hb => spec_AreCalls A4 c4 (insC (idxC n K) K ⟨n, d, d, 0⟩) _ W (rdW hb (Rd.of_own HO3.out)) (by have h9 := insC_len (idxC_le n K) ⟨n, d, d, 0⟩; omega) (by exact (own_cap HO3.out).1) HIO.out)
            have HE6 := Lib.hid (show (insC (idxC n K) K ⟨n, d, d, 0⟩).length = K.length + 1 by rw [HLK.out]; exact e6)
            rw [HE6.out] at HRO
            clear e5 e6 ho3
            go_wp2_with fail
            refine (HXO.out w3 (bt hBo hB3)).mono ?_
            rintro e w' ⟨rfl, rfl⟩
            go_wp2_with fail
            refine (HRO.out w3 (Below.refl _ _)).mono ?_
            rintro e w5 ⟨rfl, hb5⟩
            go_wp2
            go_ret2
            have ho9 := own_below (own_mono HO3.out hBo.size) hb5
            rw [HE6.out] at ho9 ⊢
            exact rowPost2_mk ho9 (bt (bt hBo hB3) hb5)
      · have hge : ¬ ((k : Int) < (K.length : Int)) := by omega
        have HLK : Hid (idxC n K = k) := by
          obtain rfl : k = K.length := by omega
          exact (idxC_last HT).1
        go_wp2_with fail
        rcases hA with ⟨hAn, hc0⟩ | ⟨b, off, hAs⟩
        · subst hAn
          subst hc0
          obtain rfl : k = 0 := by omega
          obtain rfl : K = [] := List.length_eq_zero_iff.1 (by omega)
          obtain ⟨v1, rfl⟩ : ∃ x, x = wr := ⟨_, rfl⟩
          have hBo := hB
          clear hB
          have HTK : Hid (∀ W1 : World, Below v1.heap.size v1 W1 → Rd W1 v1.heap.size (none) (0 * 4) (([] : List Value))) := fun W1 h => Rd.nil_
          have HTO : Hid (∀ u ∈ ([] : List Value), u.oneCell' = true) := fun u hu => by simp at hu
          have HT3O : Hid (∀ u ∈ ([] : List Value), u.oneCell' = true) := fun u hu => by simp at hu
          have hwk : IntKind.i64.wrap (0 : Int) = (0 : Int) := IntWalk.i64_in _ (by omega)
          have HT3 : Hid (∀ W1 : World, Below v1.heap.size v1 W1 → Rd W1 v1.heap.size (none) ((0) * 4) (([] : List Value))) := fun W1 h => Rd.nil_
          have HKd : Hid (∀ W1 : World, Below v1.heap.size v1 W1 → Below v1.heap.size v1 W1) := fun W1 h => h
          go_region_held3 (fun W1 => Below v1.heap.size v1 W1) (first | exact HKd.out _ ((Below.refl _ _).drew) | exact HKd.out _ (((Below.refl _ _).alloc (Nat.le_refl _) _).drew) | exact HKd.out _ ((((Below.refl _ _).alloc (Nat.le_refl _) _).alloc (by simp) _).drew) | exact HKd.out _ (hB1) | exact HKd.out _ (hB1.alloc hB1.size _) | exact HKd.out _ (hB2) | exact HKd.out _ (hB3))
            ((first
              | (refine step_cat _ (by rfl) (.tmp 43) (.tmp 46) 31 (by rfl) v1.heap.size 68 i0 _ 4 32 Tryz.underlying31 hi hz0 hz1 hz2 rfl (by omega) (.slice (some ⟨v1.heap.size, 0, none⟩) 0 0) 0 [] (by rfl) (own_empty (heap_alloc_new v1 _) (Nat.le_refl _)) (none) (0) (0) (v1.heap.size) (([] : List Value)) (by rfl) (HTK.out _ (((Below.refl _ _).alloc (Nat.le_refl _) _).drew)) HTO.out (by unfold maxLen; omega) (by omega) (by first | omega | (simp; done) | (simp; omega)) (0) (by omega) ?_; intro A2 c2 w1 ho1 hg1; have hB1 : Below v1.heap.size v1 w1 := below_grown (((Below.refl _ _).alloc (Nat.le_refl _) _).drew) hg1 (Nat.le_refl _) (fun k hk => by have h3 : v1.heap.size = k := Option.some.inj hk; omega); have hs1 := hB1.size; simp only [List.nil_append] at ho1)
              | (refine step_cat _ (by rfl) (.tmp 43) (.tmp 46) 31 (by rfl) v1.heap.size 68 i0 _ 4 32 Tryz.underlying31 hi hz0 hz1 hz2 rfl (by omega) (.slice (some ⟨v1.heap.size, 0, none⟩) 0 0) 0 [] (by rfl) (own_empty (heap_at1 v1 _ _) (Nat.le_refl _)) (none) (0) (0) (v1.heap.size) (([] : List Value)) (by rfl) (HTK.out _ ((((Below.refl _ _).alloc (Nat.le_refl _) _).alloc (by simp) _).drew)) HTO.out (by unfold maxLen; omega) (by omega) (by first | omega | (simp; done) | (simp; omega)) (0) (by omega) ?_; intro A2 c2 w1 ho1 hg1; have hB1 : Below v1.heap.size v1 w1 := below_grown ((((Below.refl _ _).alloc (Nat.le_refl _) _).alloc (by simp) _).drew) hg1 (Nat.le_refl _) (fun k hk => by have h3 : v1.heap.size = k := Option.some.inj hk; omega); have hs1 := hB1.size; simp only [List.nil_append] at ho1; have hy1 : w1.heap[v1.heap.size + 1]? = some (.cells #[.int .i64 n, .int .i64 d, .int .i64 d, .int .i64 0] 68) := (hg1.block _ (by simp <;> omega) (fun e => by have h3 : v1.heap.size + 1 = v1.heap.size := Option.some.inj e; omega)).trans (heap_alloc2_new v1 _ _))
              | (refine step_cat _ (by rfl) (.tmp 43) (.tmp 46) 31 (by rfl) v1.heap.size 68 i0 _ 4 32 Tryz.underlying31 hi hz0 hz1 hz2 rfl (by omega) (.slice (some ⟨v1.heap.size + 1, 0, none⟩) 0 0) 0 [] (by rfl) (own_empty (heap_alloc2_new v1 _ _) (Nat.le_succ _)) (none) (0) (0) (v1.heap.size) (([] : List Value)) (by rfl) (HTK.out _ ((((Below.refl _ _).alloc (Nat.le_refl _) _).alloc (by simp) _).drew)) HTO.out (by unfold maxLen; omega) (by omega) (by first | omega | (simp; done) | (simp; omega)) (0) (by omega) ?_; intro A2 c2 w1 ho1 hg1; have hB1 : Below v1.heap.size v1 w1 := below_grown ((((Below.refl _ _).alloc (Nat.le_refl _) _).alloc (by simp) _).drew) hg1 (Nat.le_refl _) (fun k hk => by have h3 : v1.heap.size + 1 = k := Option.some.inj hk; omega); have hs1 := hB1.size; simp only [List.nil_append] at ho1; have hy1 : w1.heap[v1.heap.size]? = some (.cells #[.int .i64 n, .int .i64 d, .int .i64 d, .int .i64 0] 68) := (hg1.block _ (by simp <;> omega) (fun e => by have h3 : v1.heap.size = v1.heap.size + 1 := Option.some.inj e; omega)).trans (heap_at1 v1 _ _))
              | (refine step_cat _ (by rfl) (.tmp 47) (.tmp 52) 31 (by rfl) v1.heap.size 68 i0 _ 4 32 Tryz.underlying31 hi hz0 hz1 hz2 rfl (by omega) (.slice A2 (0) c2) (0) (([] : List Value)) (by rfl) (ho1.alloc _) (some ⟨w1.heap.size, 0, none⟩) 1 1 _ [.int .i64 n, .int .i64 d, .int .i64 d, .int .i64 0] (by rfl) (Rd.of_block (heap_alloc_new w1 (.cells #[.int .i64 n, .int .i64 d, .int .i64 d, .int .i64 0] 68))) (by simp [Value.oneCell']) (by unfold maxLen; omega) (by omega) (by first | omega | (simp; done) | (simp; omega)) (1) (by omega) ?_; intro A3 c3 w2 ho2 hg2; have hB2 : Below v1.heap.size v1 w2 := below_grown (hB1.alloc hB1.size _) hg2 (Nat.le_refl _) (fun k hk => (World.ownsRow.lt ho1 k hk).1); have hs2 := hB2.size)
              | (refine step_cat _ (by rfl) (.tmp 47) (.tmp 52) 31 (by rfl) v1.heap.size 68 i0 _ 4 32 Tryz.underlying31 hi hz0 hz1 hz2 rfl (by omega) (.slice A2 (0) c2) (0) (([] : List Value)) (by rfl) (ho1) (some ⟨v1.heap.size + 1, 0, none⟩) 1 1 _ [.int .i64 n, .int .i64 d, .int .i64 d, .int .i64 0] (by rfl) (Rd.of_block (hy1)) (by simp [Value.oneCell']) (by unfold maxLen; omega) (by omega) (by first | omega | (simp; done) | (simp; omega)) (1) (by omega) ?_; intro A3 c3 w2 ho2 hg2; have hB2 : Below v1.heap.size v1 w2 := below_grown (hB1) hg2 (Nat.le_refl _) (fun k hk => (World.ownsRow.lt ho1 k hk).1); have hs2 := hB2.size)
              | (refine step_cat _ (by rfl) (.tmp 47) (.tmp 52) 31 (by rfl) v1.heap.size 68 i0 _ 4 32 Tryz.underlying31 hi hz0 hz1 hz2 rfl (by omega) (.slice A2 (0) c2) (0) (([] : List Value)) (by rfl) (ho1) (some ⟨v1.heap.size, 0, none⟩) 1 1 _ [.int .i64 n, .int .i64 d, .int .i64 d, .int .i64 0] (by rfl) (Rd.of_block (hy1)) (by simp [Value.oneCell']) (by unfold maxLen; omega) (by omega) (by first | omega | (simp; done) | (simp; omega)) (1) (by omega) ?_; intro A3 c3 w2 ho2 hg2; have hB2 : Below v1.heap.size v1 w2 := below_grown (hB1) hg2 (Nat.le_refl _) (fun k hk => (World.ownsRow.lt ho1 k hk).1); have hs2 := hB2.size)
              | (refine step_cat _ (by rfl) (.tmp 53) (.tmp 56) 31 (by rfl) v1.heap.size 68 i0 _ 4 32 Tryz.underlying31 hi hz0 hz1 hz2 rfl (by omega) (.slice A3 (1) c3) (1) (([] : List Value) ++ [.int .i64 n, .int .i64 d, .int .i64 d, .int .i64 0]) (by rfl) ho2 (none) (0) (0) (v1.heap.size) (([] : List Value)) (by rfl) (HT3.out _ hB2) HT3O.out (by unfold maxLen; omega) (by omega) (by first | omega | (simp; done) | (simp; omega)) (1) (by omega) ?_; intro A4 c4 w3 ho3 hg3; have hB3 : Below v1.heap.size v1 w3 := below_grown hB2 hg3 (Nat.le_refl _) (fun k hk => (World.ownsRow.lt ho2 k hk).1); have hs3 := hB3.size)))
          all_goals
            have e5 : ([] : List Value) ++ [.int .i64 n, .int .i64 d, .int .i64 d, .int .i64 0] ++ ([] : List Value) = (insC 0 ([] : List CallD) ⟨n, d, d, 0⟩).flatMap callC := by simp [insC, callC]
            have e6 : (insC 0 ([] : List CallD) ⟨n, d, d, 0⟩).length = 1 := by rfl
            rw [e5, ← e6] at ho3
            have HO3 := Lib.hid ho3
            rw [← HLK.out] at HO3
            have HRO := Lib.hid (fun (W : World) hb => spec_AreCalls A4 c4 (insC (idxC n ([] : List CallD)) ([] : List CallD) ⟨n, d, d, 0⟩) _ W (rdW hb (Rd.of_own HO3.out)) (by have h9 := insC_len (idxC_le n ([] : List CallD)) ⟨n, d, d, 0⟩; simp at h9; omega) (by exact (own_cap HO3.out).1) HIO.out)
            have HE6 := Lib.hid (show (insC (idxC n ([] : List CallD)) ([] : List CallD) ⟨n, d, d, 0⟩).length = 1 by rw [HLK.out]; exact e6)
            rw [HE6.out] at HRO
            clear e5 e6 ho3
            go_wp2_with fail
            refine (HXO.out w3 (bt hBo hB3)).mono ?_
            rintro e w' ⟨rfl, rfl⟩
            go_wp2_with fail
            refine (HRO.out w3 (Below.refl _ _)).mono ?_
            rintro e w5 ⟨rfl, hb5⟩
            go_wp2
            go_ret2
            have ho9 := own_below (own_mono HO3.out hBo.size) hb5
            rw [HE6.out] at ho9 ⊢
            exact rowPost2_mk ho9 (bt (bt hBo hB3) hb5)
        · subst hAs
          by_cases hck : c = k
          · have hck2 := hck.symm
            clear hck
            subst hck2
            have hkI : (k : Int) ≤ (K.length : Int) := by omega
            have HD0 : Hid (K.drop k = []) := List.drop_of_length_le (by omega)
            obtain ⟨v1, rfl⟩ : ∃ x, x = wr := ⟨_, rfl⟩
            have hBo := hB
            clear hB
            have HTK : Hid (∀ W1 : World, Below v1.heap.size v1 W1 → Rd W1 v1.heap.size (some ⟨b, off, none⟩) (k * 4) ((K.take k).flatMap callC)) := fun W1 h => (Rd.take_ (f := callC) (m := 4) (L := K) (fun _ => rfl) (rdW hBo hr) hk).below h
            have HTO : Hid (∀ u ∈ (K.take k).flatMap callC, u.oneCell' = true) := one_call (K.take k)
            have HT3O : Hid (∀ u ∈ (K.drop k).flatMap callC, u.oneCell' = true) := one_call (K.drop k)
            have hwk : IntKind.i64.wrap (k : Int) = (k : Int) := IntWalk.i64_in _ (by omega)
            have HT3 : Hid (∀ W1 : World, Below v1.heap.size v1 W1 → Rd W1 v1.heap.size (some ⟨b, off, none⟩) ((0) * 4) ((K.drop k).flatMap callC)) := fun W1 h => (by rw [HD0.out]; simpa using (Rd.nil_ : Rd W1 v1.heap.size (some ⟨b, off, none⟩) 0 []))
            have HKd : Hid (∀ W1 : World, Below v1.heap.size v1 W1 → Below v1.heap.size v1 W1) := fun W1 h => h
            go_region_held3 (fun W1 => Below v1.heap.size v1 W1) (first | exact HKd.out _ ((Below.refl _ _).drew) | exact HKd.out _ (((Below.refl _ _).alloc (Nat.le_refl _) _).drew) | exact HKd.out _ ((((Below.refl _ _).alloc (Nat.le_refl _) _).alloc (by simp) _).drew) | exact HKd.out _ (hB1) | exact HKd.out _ (hB1.alloc hB1.size _) | exact HKd.out _ (hB2) | exact HKd.out _ (hB3))
              ((first
                | (refine step_cat _ (by rfl) (.tmp 43) (.tmp 46) 31 (by rfl) v1.heap.size 68 i0 _ 4 32 Tryz.underlying31 hi hz0 hz1 hz2 rfl (by omega) (.slice (some ⟨v1.heap.size, 0, none⟩) 0 0) 0 [] (by rfl) (own_empty (heap_alloc_new v1 _) (Nat.le_refl _)) (some ⟨b, off, none⟩) (k) (k) (v1.heap.size) ((K.take k).flatMap callC) (by rfl) (HTK.out _ (((Below.refl _ _).alloc (Nat.le_refl _) _).drew)) HTO.out (by unfold maxLen; omega) (by omega) (by first | omega | (simp; done) | (simp; omega)) (k) (by omega) ?_; intro A2 c2 w1 ho1 hg1; have hB1 : Below v1.heap.size v1 w1 := below_grown (((Below.refl _ _).alloc (Nat.le_refl _) _).drew) hg1 (Nat.le_refl _) (fun k hk => by have h3 : v1.heap.size = k := Option.some.inj hk; omega); have hs1 := hB1.size; simp only [List.nil_append] at ho1)
                | (refine step_cat _ (by rfl) (.tmp 43) (.tmp 46) 31 (by rfl) v1.heap.size 68 i0 _ 4 32 Tryz.underlying31 hi hz0 hz1 hz2 rfl (by omega) (.slice (some ⟨v1.heap.size, 0, none⟩) 0 0) 0 [] (by rfl) (own_empty (heap_at1 v1 _ _) (Nat.le_refl _)) (some ⟨b, off, none⟩) (k) (k) (v1.heap.size) ((K.take k).flatMap callC) (by rfl) (HTK.out _ ((((Below.refl _ _).alloc (Nat.le_refl _) _).alloc (by simp) _).drew)) HTO.out (by unfold maxLen; omega) (by omega) (by first | omega | (simp; done) | (simp; omega)) (k) (by omega) ?_; intro A2 c2 w1 ho1 hg1; have hB1 : Below v1.heap.size v1 w1 := below_grown ((((Below.refl _ _).alloc (Nat.le_refl _) _).alloc (by simp) _).drew) hg1 (Nat.le_refl _) (fun k hk => by have h3 : v1.heap.size = k := Option.some.inj hk; omega); have hs1 := hB1.size; simp only [List.nil_append] at ho1; have hy1 : w1.heap[v1.heap.size + 1]? = some (.cells #[.int .i64 n, .int .i64 d, .int .i64 d, .int .i64 0] 68) := (hg1.block _ (by simp <;> omega) (fun e => by have h3 : v1.heap.size + 1 = v1.heap.size := Option.some.inj e; omega)).trans (heap_alloc2_new v1 _ _))
                | (refine step_cat _ (by rfl) (.tmp 43) (.tmp 46) 31 (by rfl) v1.heap.size 68 i0 _ 4 32 Tryz.underlying31 hi hz0 hz1 hz2 rfl (by omega) (.slice (some ⟨v1.heap.size + 1, 0, none⟩) 0 0) 0 [] (by rfl) (own_empty (heap_alloc2_new v1 _ _) (Nat.le_succ _)) (some ⟨b, off, none⟩) (k) (k) (v1.heap.size) ((K.take k).flatMap callC) (by rfl) (HTK.out _ ((((Below.refl _ _).alloc (Nat.le_refl _) _).alloc (by simp) _).drew)) HTO.out (by unfold maxLen; omega) (by omega) (by first | omega | (simp; done) | (simp; omega)) (k) (by omega) ?_; intro A2 c2 w1 ho1 hg1; have hB1 : Below v1.heap.size v1 w1 := below_grown ((((Below.refl _ _).alloc (Nat.le_refl _) _).alloc (by simp) _).drew) hg1 (Nat.le_refl _) (fun k hk => by have h3 : v1.heap.size + 1 = k := Option.some.inj hk; omega); have hs1 := hB1.size; simp only [List.nil_append] at ho1; have hy1 : w1.heap[v1.heap.size]? = some (.cells #[.int .i64 n, .int .i64 d, .int .i64 d, .int .i64 0] 68) := (hg1.block _ (by simp <;> omega) (fun e => by have h3 : v1.heap.size = v1.heap.size + 1 := Option.some.inj e; omega)).trans (heap_at1 v1 _ _))
                | (refine step_cat _ (by rfl) (.tmp 47) (.tmp 52) 31 (by rfl) v1.heap.size 68 i0 _ 4 32 Tryz.underlying31 hi hz0 hz1 hz2 rfl (by omega) (.slice A2 (k) c2) (k) ((K.take k).flatMap callC) (by rfl) (ho1.alloc _) (some ⟨w1.heap.size, 0, none⟩) 1 1 _ [.int .i64 n, .int .i64 d, .int .i64 d, .int .i64 0] (by rfl) (Rd.of_block (heap_alloc_new w1 (.cells #[.int .i64 n, .int .i64 d, .int .i64 d, .int .i64 0] 68))) (by simp [Value.oneCell']) (by unfold maxLen; omega) (by omega) (by first | omega | (simp; done) | (simp; omega)) (k + 1) (by omega) ?_; intro A3 c3 w2 ho2 hg2; have hB2 : Below v1.heap.size v1 w2 := below_grown (hB1.alloc hB1.size _) hg2 (Nat.le_refl _) (fun k hk => (World.ownsRow.lt ho1 k hk).1); have hs2 := hB2.size)
                | (refine step_cat _ (by rfl) (.tmp 47) (.tmp 52) 31 (by rfl) v1.heap.size 68 i0 _ 4 32 Tryz.underlying31 hi hz0 hz1 hz2 rfl (by omega) (.slice A2 (k) c2) (k) ((K.take k).flatMap callC) (by rfl) (ho1) (some ⟨v1.heap.size + 1, 0, none⟩) 1 1 _ [.int .i64 n, .int .i64 d, .int .i64 d, .int .i64 0] (by rfl) (Rd.of_block (hy1)) (by simp [Value.oneCell']) (by unfold maxLen; omega) (by omega) (by first | omega | (simp; done) | (simp; omega)) (k + 1) (by omega) ?_; intro A3 c3 w2 ho2 hg2; have hB2 : Below v1.heap.size v1 w2 := below_grown (hB1) hg2 (Nat.le_refl _) (fun k hk => (World.ownsRow.lt ho1 k hk).1); have hs2 := hB2.size)
                | (refine step_cat _ (by rfl) (.tmp 47) (.tmp 52) 31 (by rfl) v1.heap.size 68 i0 _ 4 32 Tryz.underlying31 hi hz0 hz1 hz2 rfl (by omega) (.slice A2 (k) c2) (k) ((K.take k).flatMap callC) (by rfl) (ho1) (some ⟨v1.heap.size, 0, none⟩) 1 1 _ [.int .i64 n, .int .i64 d, .int .i64 d, .int .i64 0] (by rfl) (Rd.of_block (hy1)) (by simp [Value.oneCell']) (by unfold maxLen; omega) (by omega) (by first | omega | (simp; done) | (simp; omega)) (k + 1) (by omega) ?_; intro A3 c3 w2 ho2 hg2; have hB2 : Below v1.heap.size v1 w2 := below_grown (hB1) hg2 (Nat.le_refl _) (fun k hk => (World.ownsRow.lt ho1 k hk).1); have hs2 := hB2.size)
                | (refine step_cat _ (by rfl) (.tmp 53) (.tmp 56) 31 (by rfl) v1.heap.size 68 i0 _ 4 32 Tryz.underlying31 hi hz0 hz1 hz2 rfl (by omega) (.slice A3 (k + 1) c3) (k + 1) ((K.take k).flatMap callC ++ [.int .i64 n, .int .i64 d, .int .i64 d, .int .i64 0]) (by rfl) ho2 (some ⟨b, off, none⟩) (0) (0) (v1.heap.size) ((K.drop k).flatMap callC) (by rfl) (HT3.out _ hB2) HT3O.out (by unfold maxLen; omega) (by omega) (by first | omega | (simp; done) | (simp; omega)) (K.length + 1) (by omega) ?_; intro A4 c4 w3 ho3 hg3; have hB3 : Below v1.heap.size v1 w3 := below_grown hB2 hg3 (Nat.le_refl _) (fun k hk => (World.ownsRow.lt ho2 k hk).1); have hs3 := hB3.size)))
            all_goals
              have e5 : (K.take k).flatMap callC ++ [.int .i64 n, .int .i64 d, .int .i64 d, .int .i64 0] ++ (K.drop k).flatMap callC = (insC k K ⟨n, d, d, 0⟩).flatMap callC := by simp [insC, callC]
              have e6 : (insC k K ⟨n, d, d, 0⟩).length = K.length + 1 := by rw [insC_len hk]
              rw [e5, ← e6] at ho3
              have HO3 := Lib.hid ho3
              rw [← HLK.out] at HO3
              have HRO := Lib.hid (fun (W : World) hb => spec_AreCalls A4 c4 (insC (idxC n K) K ⟨n, d, d, 0⟩) _ W (rdW hb (Rd.of_own HO3.out)) (by have h9 := insC_len (idxC_le n K) ⟨n, d, d, 0⟩; omega) (by exact (own_cap HO3.out).1) HIO.out)
              have HE6 := Lib.hid (show (insC (idxC n K) K ⟨n, d, d, 0⟩).length = K.length + 1 by rw [HLK.out]; exact e6)
              rw [HE6.out] at HRO
              clear e5 e6 ho3
              go_wp2_with fail
              refine (HXO.out w3 (bt hBo hB3)).mono ?_
              rintro e w' ⟨rfl, rfl⟩
              go_wp2_with fail
              refine (HRO.out w3 (Below.refl _ _)).mono ?_
              rintro e w5 ⟨rfl, hb5⟩
              go_wp2
              go_ret2
              have ho9 := own_below (own_mono HO3.out hBo.size) hb5
              rw [HE6.out] at ho9 ⊢
              exact rowPost2_mk ho9 (bt (bt hBo hB3) hb5)
          · have hkI : (k : Int) ≤ (K.length : Int) := by omega
            have hkc : (k : Int) ≤ (c : Int) := by omega
            have HD0 : Hid (K.drop k = []) := List.drop_of_length_le (by omega)
            obtain ⟨v1, rfl⟩ : ∃ x, x = wr := ⟨_, rfl⟩
            have hBo := hB
            clear hB
            have HTK : Hid (∀ W1 : World, Below v1.heap.size v1 W1 → Rd W1 v1.heap.size (some ⟨b, off, none⟩) (k * 4) ((K.take k).flatMap callC)) := fun W1 h => (Rd.take_ (f := callC) (m := 4) (L := K) (fun _ => rfl) (rdW hBo hr) hk).below h
            have HTO : Hid (∀ u ∈ (K.take k).flatMap callC, u.oneCell' = true) := one_call (K.take k)
            have HT3O : Hid (∀ u ∈ (K.drop k).flatMap callC, u.oneCell' = true) := one_call (K.drop k)
            have hwk : IntKind.i64.wrap (k : Int) = (k : Int) := IntWalk.i64_in _ (by omega)
            have HT3 : Hid (∀ W1 : World, Below v1.heap.size v1 W1 → Rd W1 v1.heap.size (some ⟨b, off + k * 4, none⟩) ((K.length - k) * 4) ((K.drop k).flatMap callC)) := fun W1 h => (by rw [show K.length - k = 0 from by omega, HD0.out]; simpa using (Rd.nil_ : Rd W1 v1.heap.size (some ⟨b, off + k * 4, none⟩) 0 []))
            have HKd : Hid (∀ W1 : World, Below v1.heap.size v1 W1 → Below v1.heap.size v1 W1) := fun W1 h => h
            go_region_held3 (fun W1 => Below v1.heap.size v1 W1) (first | exact HKd.out _ ((Below.refl _ _).drew) | exact HKd.out _ (((Below.refl _ _).alloc (Nat.le_refl _) _).drew) | exact HKd.out _ ((((Below.refl _ _).alloc (Nat.le_refl _) _).alloc (by simp) _).drew) | exact HKd.out _ (hB1) | exact HKd.out _ (hB1.alloc hB1.size _) | exact HKd.out _ (hB2) | exact HKd.out _ (hB3))
              ((first
                | (refine step_cat _ (by rfl) (.tmp 43) (.tmp 46) 31 (by rfl) v1.heap.size 68 i0 _ 4 32 Tryz.underlying31 hi hz0 hz1 hz2 rfl (by omega) (.slice (some ⟨v1.heap.size, 0, none⟩) 0 0) 0 [] (by rfl) (own_empty (heap_alloc_new v1 _) (Nat.le_refl _)) (some ⟨b, off, none⟩) (k) (c) (v1.heap.size) ((K.take k).flatMap callC) (by rfl) (HTK.out _ (((Below.refl _ _).alloc (Nat.le_refl _) _).drew)) HTO.out (by unfold maxLen; omega) (by omega) (by first | omega | (simp; done) | (simp; omega)) (k) (by omega) ?_; intro A2 c2 w1 ho1 hg1; have hB1 : Below v1.heap.size v1 w1 := below_grown (((Below.refl _ _).alloc (Nat.le_refl _) _).drew) hg1 (Nat.le_refl _) (fun k hk => by have h3 : v1.heap.size = k := Option.some.inj hk; omega); have hs1 := hB1.size; simp only [List.nil_append] at ho1)
                | (refine step_cat _ (by rfl) (.tmp 43) (.tmp 46) 31 (by rfl) v1.heap.size 68 i0 _ 4 32 Tryz.underlying31 hi hz0 hz1 hz2 rfl (by omega) (.slice (some ⟨v1.heap.size, 0, none⟩) 0 0) 0 [] (by rfl) (own_empty (heap_at1 v1 _ _) (Nat.le_refl _)) (some ⟨b, off, none⟩) (k) (c) (v1.heap.size) ((K.take k).flatMap callC) (by rfl) (HTK.out _ ((((Below.refl _ _).alloc (Nat.le_refl _) _).alloc (by simp) _).drew)) HTO.out (by unfold maxLen; omega) (by omega) (by first | omega | (simp; done) | (simp; omega)) (k) (by omega) ?_; intro A2 c2 w1 ho1 hg1; have hB1 : Below v1.heap.size v1 w1 := below_grown ((((Below.refl _ _).alloc (Nat.le_refl _) _).alloc (by simp) _).drew) hg1 (Nat.le_refl _) (fun k hk => by have h3 : v1.heap.size = k := Option.some.inj hk; omega); have hs1 := hB1.size; simp only [List.nil_append] at ho1; have hy1 : w1.heap[v1.heap.size + 1]? = some (.cells #[.int .i64 n, .int .i64 d, .int .i64 d, .int .i64 0] 68) := (hg1.block _ (by simp <;> omega) (fun e => by have h3 : v1.heap.size + 1 = v1.heap.size := Option.some.inj e; omega)).trans (heap_alloc2_new v1 _ _))
                | (refine step_cat _ (by rfl) (.tmp 43) (.tmp 46) 31 (by rfl) v1.heap.size 68 i0 _ 4 32 Tryz.underlying31 hi hz0 hz1 hz2 rfl (by omega) (.slice (some ⟨v1.heap.size + 1, 0, none⟩) 0 0) 0 [] (by rfl) (own_empty (heap_alloc2_new v1 _ _) (Nat.le_succ _)) (some ⟨b, off, none⟩) (k) (c) (v1.heap.size) ((K.take k).flatMap callC) (by rfl) (HTK.out _ ((((Below.refl _ _).alloc (Nat.le_refl _) _).alloc (by simp) _).drew)) HTO.out (by unfold maxLen; omega) (by omega) (by first | omega | (simp; done) | (simp; omega)) (k) (by omega) ?_; intro A2 c2 w1 ho1 hg1; have hB1 : Below v1.heap.size v1 w1 := below_grown ((((Below.refl _ _).alloc (Nat.le_refl _) _).alloc (by simp) _).drew) hg1 (Nat.le_refl _) (fun k hk => by have h3 : v1.heap.size + 1 = k := Option.some.inj hk; omega); have hs1 := hB1.size; simp only [List.nil_append] at ho1; have hy1 : w1.heap[v1.heap.size]? = some (.cells #[.int .i64 n, .int .i64 d, .int .i64 d, .int .i64 0] 68) := (hg1.block _ (by simp <;> omega) (fun e => by have h3 : v1.heap.size = v1.heap.size + 1 := Option.some.inj e; omega)).trans (heap_at1 v1 _ _))
                | (refine step_cat _ (by rfl) (.tmp 47) (.tmp 52) 31 (by rfl) v1.heap.size 68 i0 _ 4 32 Tryz.underlying31 hi hz0 hz1 hz2 rfl (by omega) (.slice A2 (k) c2) (k) ((K.take k).flatMap callC) (by rfl) (ho1.alloc _) (some ⟨w1.heap.size, 0, none⟩) 1 1 _ [.int .i64 n, .int .i64 d, .int .i64 d, .int .i64 0] (by rfl) (Rd.of_block (heap_alloc_new w1 (.cells #[.int .i64 n, .int .i64 d, .int .i64 d, .int .i64 0] 68))) (by simp [Value.oneCell']) (by unfold maxLen; omega) (by omega) (by first | omega | (simp; done) | (simp; omega)) (k + 1) (by omega) ?_; intro A3 c3 w2 ho2 hg2; have hB2 : Below v1.heap.size v1 w2 := below_grown (hB1.alloc hB1.size _) hg2 (Nat.le_refl _) (fun k hk => (World.ownsRow.lt ho1 k hk).1); have hs2 := hB2.size)
                | (refine step_cat _ (by rfl) (.tmp 47) (.tmp 52) 31 (by rfl) v1.heap.size 68 i0 _ 4 32 Tryz.underlying31 hi hz0 hz1 hz2 rfl (by omega) (.slice A2 (k) c2) (k) ((K.take k).flatMap callC) (by rfl) (ho1) (some ⟨v1.heap.size + 1, 0, none⟩) 1 1 _ [.int .i64 n, .int .i64 d, .int .i64 d, .int .i64 0] (by rfl) (Rd.of_block (hy1)) (by simp [Value.oneCell']) (by unfold maxLen; omega) (by omega) (by first | omega | (simp; done) | (simp; omega)) (k + 1) (by omega) ?_; intro A3 c3 w2 ho2 hg2; have hB2 : Below v1.heap.size v1 w2 := below_grown (hB1) hg2 (Nat.le_refl _) (fun k hk => (World.ownsRow.lt ho1 k hk).1); have hs2 := hB2.size)
                | (refine step_cat _ (by rfl) (.tmp 47) (.tmp 52) 31 (by rfl) v1.heap.size 68 i0 _ 4 32 Tryz.underlying31 hi hz0 hz1 hz2 rfl (by omega) (.slice A2 (k) c2) (k) ((K.take k).flatMap callC) (by rfl) (ho1) (some ⟨v1.heap.size, 0, none⟩) 1 1 _ [.int .i64 n, .int .i64 d, .int .i64 d, .int .i64 0] (by rfl) (Rd.of_block (hy1)) (by simp [Value.oneCell']) (by unfold maxLen; omega) (by omega) (by first | omega | (simp; done) | (simp; omega)) (k + 1) (by omega) ?_; intro A3 c3 w2 ho2 hg2; have hB2 : Below v1.heap.size v1 w2 := below_grown (hB1) hg2 (Nat.le_refl _) (fun k hk => (World.ownsRow.lt ho1 k hk).1); have hs2 := hB2.size)
                | (refine step_cat _ (by rfl) (.tmp 53) (.tmp 56) 31 (by rfl) v1.heap.size 68 i0 _ 4 32 Tryz.underlying31 hi hz0 hz1 hz2 rfl (by omega) (.slice A3 (k + 1) c3) (k + 1) ((K.take k).flatMap callC ++ [.int .i64 n, .int .i64 d, .int .i64 d, .int .i64 0]) (by rfl) ho2 (some ⟨b, off + k * 4, none⟩) (K.length - k) (c - k) (v1.heap.size) ((K.drop k).flatMap callC) (by rfl) (HT3.out _ hB2) HT3O.out (by unfold maxLen; omega) (by omega) (by first | omega | (simp; done) | (simp; omega)) (K.length + 1) (by omega) ?_; intro A4 c4 w3 ho3 hg3; have hB3 : Below v1.heap.size v1 w3 := below_grown hB2 hg3 (Nat.le_refl _) (fun k hk => (World.ownsRow.lt ho2 k hk).1); have hs3 := hB3.size)))
            all_goals
              have e5 : (K.take k).flatMap callC ++ [.int .i64 n, .int .i64 d, .int .i64 d, .int .i64 0] ++ (K.drop k).flatMap callC = (insC k K ⟨n, d, d, 0⟩).flatMap callC := by simp [insC, callC]
              have e6 : (insC k K ⟨n, d, d, 0⟩).length = K.length + 1 := by rw [insC_len hk]
              rw [e5, ← e6] at ho3
              have HO3 := Lib.hid ho3
              rw [← HLK.out] at HO3
              have HRO := Lib.hid (fun (W : World) hb => spec_AreCalls A4 c4 (insC (idxC n K) K ⟨n, d, d, 0⟩) _ W (rdW hb (Rd.of_own HO3.out)) (by have h9 := insC_len (idxC_le n K) ⟨n, d, d, 0⟩; omega) (by exact (own_cap HO3.out).1) HIO.out)
              have HE6 := Lib.hid (show (insC (idxC n K) K ⟨n, d, d, 0⟩).length = K.length + 1 by rw [HLK.out]; exact e6)
              rw [HE6.out] at HRO
              clear e5 e6 ho3
              go_wp2_with fail
              refine (HXO.out w3 (bt hBo hB3)).mono ?_
              rintro e w' ⟨rfl, rfl⟩
              go_wp2_with fail
              refine (HRO.out w3 (Below.refl _ _)).mono ?_
              rintro e w5 ⟨rfl, hb5⟩
              go_wp2
              go_ret2
              have ho9 := own_below (own_mono HO3.out hBo.size) hb5
              rw [HE6.out] at ho9 ⊢
              exact rowPost2_mk ho9 (bt (bt hBo hB3) hb5)

end Go.Proofs.YtiamignopfhkfaaGreatDoor
