/- The walk of the law FnMarks: it returns true, and nothing that was there is changed. -/
import Derived.Test.YtgckkocndhfbnaaMarksLaw
import Derived.Test.YtgckkocndhfbnaaMarkWord2
import Derived.Test.YtgckkocndhfbnaaAddM
import Derived.Test.YtgckkocndhfbnaaLevels
import Derived.Test.YtgckkocndhfbnaaDrawR4
import Derived.Test.YtgckkocndhfbnaaLikeMk
import Derived.Test.YtgckkocndhfbnaaLikeI
import Derived.Deep.DeepCutAuto
namespace Go.Proofs.Ytgckkocndhfbnaa
open Go.RowKit
set_option linter.unusedVariables false
theorem big_c (A : Option Addr) (n c : Nat) (b : Bool) (w : World) (hn : n ≤ 9223372036854775807) (h : decide (4096 < n) = b) : Calls Try.prog 8 #[.slice A n c] w fun e w' => e = .returned (.bool b) ∧ w = w' := by
  subst h
  by_cases h : 4096 < n
  · have h2 : (4096 : Int) < (n : Int) := by omega
    go_enter Try.func8, Try.ntmps8
    go_wp2
    go_ret
    exact ⟨by simp [h], rfl⟩
  · have h2 : ¬ (4096 : Int) < (n : Int) := by omega
    go_enter Try.func8, Try.ntmps8
    go_wp2
    go_ret
    exact ⟨by simp, rfl⟩
theorem own_A {w : World} {base : Nat} {e : TypeId} {size n c : Nat} {A : Option Addr} {xs : List Value} (h : w.ownsRow base e size (.slice A n c) n xs) : (A = none ∧ c = 0) ∨ ∃ b off, A = some ⟨b, off, none⟩ := by
  rcases h.2 with ⟨hv, h0⟩ | ⟨g, cap, cur, hv, _⟩
  · injection hv with hA _ hc
    exact .inl ⟨hA, hc⟩
  · injection hv with hA
    exact .inr ⟨g, 0, hA⟩
set_option maxRecDepth 100000 in
set_option maxHeartbeats 8000000 in
theorem law_FnMarks (A : Option Addr) (c : Nat) (L : List Int) (w : World) (hr : Rd w w.heap.size A L.length (L.map (Value.int .u8))) (hl : L.length ≤ maxLen) (hx : ∀ x ∈ L, 0 ≤ x ∧ x ≤ 255) (hc : L.length ≤ c) :
    Calls Try.prog 7 #[.slice A L.length c] w fun e w' => e = .returned (.bool true) ∧ Below w.heap.size w w' := by
  unfold maxLen at hl
  have HRB := Lib.hid hr; have HXB := Lib.hid hx; clear hr hx
  by_cases hbig : 4096 < L.length
  · go_enter Try.func7, Try.ntmps7
    go_wp2_with fail
    refine (big_c A L.length c true w (by omega) (by simp [hbig])).mono ?_
    rintro e w' ⟨rfl, rfl⟩
    go_wp2
    go_ret
    exact ⟨rfl, Below.refl _ _⟩
  go_enter Try.func7, Try.ntmps7
  go_wp2_with fail
  refine (big_c A L.length c false w (by omega) (by simp; omega)).mono ?_
  rintro e w0 ⟨rfl, rfl⟩
  have HB := Lib.hid (Below.refl w.heap.size w)
  go_wp2_with fail
  refine (DrawMarkWord_c A c L w HRB.out HXB.out (by omega) hc).mono ?_
  rintro e x1 ⟨t1, A1, c1, D1, p, lv, rfl, hps, ht1, hl1, ho, hbx1⟩
  have hzx1 := hbx1.size
  replace HB := Lib.hid (bt HB.out hbx1)
  have HD1 := Lib.hid (Rd.of_own ho); have hcD1 := own_cap ho; clear ho
  obtain ⟨M, hM⟩ : ∃ x, (mwR t1 D1 p lv).1 = x := ⟨_, rfl⟩
  obtain ⟨bad, hbad⟩ : ∃ x, (mwR t1 D1 p lv).2 = x := ⟨_, rfl⟩
  have HEM := Lib.hid (show ∀ (e : Ending) (w1 w2 : World), RowPost2 42 3 ((mwR t1 D1 p lv).1).length (((mwR t1 D1 p lv).1).flatMap markC) ((mwR t1 D1 p lv).2) w1 e w2 → RowPost2 42 3 M.length (M.flatMap markC) bad w1 e w2 from fun e w1 w2 h => by rw [hM, hbad] at h; exact h)
  have fM := mwR_len t1 D1 p lv; rw [hM] at fM
  have G1 := Lib.hid (fun h => law_word (s := t1) (L := D1) (t := p) (lv := lv) h); rw [hM, hbad] at G1; clear hM hbad
  go_wp2_with fail
  refine (impl_MarkWord t1 A1 c1 D1 p lv x1 (by omega) HD1.out (by omega) hcD1.1 (by omega)).mono ?_
  intro e x2 he
  obtain ⟨A2, c2, rfl, ho2, hb2, hn2, hm2⟩ := HEM.out _ _ _ he
  clear he
  have hzx2 := hb2.size
  replace HD1 := Lib.hid (rdW hb2 HD1.out)
  replace HB := Lib.hid (bt HB.out hb2)
  have HR2 := Lib.hid (Rd.of_own ho2); clear ho2
  go_wp2_with fail
  refine (spec_MarkWord t1 A1 c1 D1 p lv x2 (by omega) HD1.out (by omega) hcD1.1 (by omega)).mono ?_
  intro e x3 he
  obtain ⟨A3, c3, rfl, ho3, hb3, hn3, hm3⟩ := HEM.out _ _ _ he
  clear he
  have hzx3 := hb3.size
  replace HD1 := Lib.hid (rdW hb3 HD1.out)
  replace HR2 := Lib.hid (rdW hb3 HR2.out)
  replace HB := Lib.hid (bt HB.out hb3)
  have HR3 := Lib.hid (Rd.of_own ho3); clear ho3
  go_wp2_with fail
  refine (DrawAddMark_c A c L x3 (rdW HB.out HRB.out) HXB.out (by omega) hc).mono ?_
  rintro e x4 ⟨t4, A4, c4, D4, y0, y1, y2, rfl, ht4, hl4, ho, hbx4⟩
  have hzx4 := hbx4.size
  replace HD1 := Lib.hid (rdW hbx4 HD1.out)
  replace HR2 := Lib.hid (rdW hbx4 HR2.out)
  replace HR3 := Lib.hid (rdW hbx4 HR3.out)
  replace HB := Lib.hid (bt HB.out hbx4)
  have hA4 := own_A ho
  have HD4 := Lib.hid (Rd.of_own ho); have hcD4 := own_cap ho; clear ho
  obtain ⟨N, hN⟩ : ∃ x, (addR t4 D4 ⟨y0, y1, y2⟩).1 = x := ⟨_, rfl⟩
  obtain ⟨one, hone⟩ : ∃ x, (addR t4 D4 ⟨y0, y1, y2⟩).2 = x := ⟨_, rfl⟩
  have HEN := Lib.hid (show ∀ (e : Ending) (w1 w2 : World), RowPost2 42 3 ((addR t4 D4 ⟨y0, y1, y2⟩).1).length (((addR t4 D4 ⟨y0, y1, y2⟩).1).flatMap markC) ((addR t4 D4 ⟨y0, y1, y2⟩).2) w1 e w2 → RowPost2 42 3 N.length (N.flatMap markC) one w1 e w2 from fun e w1 w2 h => by rw [hN, hone] at h; exact h)
  have fN := addR_len t4 D4 ⟨y0, y1, y2⟩; rw [hN] at fN
  have G2 := Lib.hid (fun h => law_add (s := t4) (L := D4) (m := ⟨y0, y1, y2⟩) h); rw [hN, hone] at G2; clear hN hone
  go_wp2_with fail
  generalize hX5 : x4.alloc _ = X5
  have hbX5 : Below x4.heap.size x4 X5 := by subst hX5; exact (Below.refl _ _).alloc (Nat.le_refl _) _
  have hsX5 : X5.heap.size = x4.heap.size + 1 := by subst hX5; simp
  have cxX5_0 : ∀ i, X5.cell? ⟨x4.heap.size, i, none⟩ = (#[.int .i64 y0, .int .i64 y1, .int .i64 y2] : Array Value)[i]? := by intro i; subst hX5; simp [go_sem]
  have fzX5_0 : ∀ i, X5.frozen? ⟨x4.heap.size, i, none⟩ = false := by intro i; subst hX5; simp [go_sem]
  have HSX5 := Lib.hid hsX5; clear hX5 hsX5
  have hzX5 := hbX5.size
  replace HD1 := Lib.hid (rdW hbX5 HD1.out)
  replace HR2 := Lib.hid (rdW hbX5 HR2.out)
  replace HR3 := Lib.hid (rdW hbX5 HR3.out)
  replace HD4 := Lib.hid (rdW hbX5 HD4.out)
  replace HB := Lib.hid (bt HB.out hbX5)
  have hX5 := HSX5.out
  refine (impl_AddMark t4 A4 c4 D4 y0 y1 y2 X5 (by omega) HD4.out (by omega) hcD4.1).mono ?_
  intro e x5 he
  obtain ⟨A5, c5, rfl, ho5, hb5, hn5, hm5⟩ := HEN.out _ _ _ he
  clear he
  have hzx5 := hb5.size
  replace HD1 := Lib.hid (rdW hb5 HD1.out)
  replace HR2 := Lib.hid (rdW hb5 HR2.out)
  replace HR3 := Lib.hid (rdW hb5 HR3.out)
  replace HD4 := Lib.hid (rdW hb5 HD4.out)
  replace HB := Lib.hid (bt HB.out hb5)
  replace cxX5_0 := fun i => (hb5.cell (by (try simp only); omega)).trans (cxX5_0 i)
  have HR5 := Lib.hid (Rd.of_own ho5); clear ho5
  go_wp2_with fail
  refine (spec_AddMark t4 A4 c4 D4 y0 y1 y2 x5 (by omega) HD4.out (by omega) hcD4.1 hA4).mono ?_
  intro e x6 he
  obtain ⟨A6, c6, rfl, ho6, hb6, hn6, hm6⟩ := HEN.out _ _ _ he
  clear he
  have hzx6 := hb6.size
  replace HD1 := Lib.hid (rdW hb6 HD1.out)
  replace HR2 := Lib.hid (rdW hb6 HR2.out)
  replace HR3 := Lib.hid (rdW hb6 HR3.out)
  replace HD4 := Lib.hid (rdW hb6 HD4.out)
  replace HR5 := Lib.hid (rdW hb6 HR5.out)
  replace HB := Lib.hid (bt HB.out hb6)
  replace cxX5_0 := fun i => (hb6.cell (by (try simp only); omega)).trans (cxX5_0 i)
  have HR6 := Lib.hid (Rd.of_own ho6); clear ho6
  clear cxX5_0 fzX5_0 HSX5 hA4
  go_wp2_with fail
  refine (DrawJoinMarks_c A c L x6 (rdW HB.out HRB.out) HXB.out (by omega) hc).mono ?_
  rintro e x7 ⟨t7, A7, c7, D7, rfl, ht7, hl7, ho, hbx7⟩
  have hzx7 := hbx7.size
  replace HD1 := Lib.hid (rdW hbx7 HD1.out)
  replace HR2 := Lib.hid (rdW hbx7 HR2.out)
  replace HR3 := Lib.hid (rdW hbx7 HR3.out)
  replace HD4 := Lib.hid (rdW hbx7 HD4.out)
  replace HR5 := Lib.hid (rdW hbx7 HR5.out)
  replace HR6 := Lib.hid (rdW hbx7 HR6.out)
  replace HB := Lib.hid (bt HB.out hbx7)
  have HD7 := Lib.hid (Rd.of_own ho); have hcD7 := own_cap ho; clear ho
  obtain ⟨J, hJ⟩ : ∃ x, (joinR t7 D7).1 = x := ⟨_, rfl⟩
  obtain ⟨three, hthree⟩ : ∃ x, (joinR t7 D7).2 = x := ⟨_, rfl⟩
  have HEJ := Lib.hid (show ∀ (e : Ending) (w1 w2 : World), RowPost2 42 3 ((joinR t7 D7).1).length (((joinR t7 D7).1).flatMap markC) ((joinR t7 D7).2) w1 e w2 → RowPost2 42 3 J.length (J.flatMap markC) three w1 e w2 from fun e w1 w2 h => by rw [hJ, hthree] at h; exact h)
  have fJ := joinR_len t7 D7; rw [hJ] at fJ
  have G3 := Lib.hid (fun h (k : Int) hk => law_join (s := t7) (L := D7) h (k := k) hk); rw [hJ, hthree] at G3; clear hJ hthree
  go_wp2_with fail
  refine (impl_JoinMarks t7 A7 c7 D7 x7 (by omega) HD7.out (by omega) hcD7.1).mono ?_
  intro e x8 he
  obtain ⟨A8, c8, rfl, ho8, hb8, hn8, hm8⟩ := HEJ.out _ _ _ he
  clear he
  have hzx8 := hb8.size
  replace HD1 := Lib.hid (rdW hb8 HD1.out)
  replace HR2 := Lib.hid (rdW hb8 HR2.out)
  replace HR3 := Lib.hid (rdW hb8 HR3.out)
  replace HD4 := Lib.hid (rdW hb8 HD4.out)
  replace HR5 := Lib.hid (rdW hb8 HR5.out)
  replace HR6 := Lib.hid (rdW hb8 HR6.out)
  replace HD7 := Lib.hid (rdW hb8 HD7.out)
  replace HB := Lib.hid (bt HB.out hb8)
  have HR8 := Lib.hid (Rd.of_own ho8); clear ho8
  go_wp2_with fail
  refine (spec_JoinMarks t7 A7 c7 D7 x8 (by omega) HD7.out (by omega) hcD7.1).mono ?_
  intro e x9 he
  obtain ⟨A9, c9, rfl, ho9, hb9, hn9, hm9⟩ := HEJ.out _ _ _ he
  clear he
  have hzx9 := hb9.size
  replace HD1 := Lib.hid (rdW hb9 HD1.out)
  replace HR2 := Lib.hid (rdW hb9 HR2.out)
  replace HR3 := Lib.hid (rdW hb9 HR3.out)
  replace HD4 := Lib.hid (rdW hb9 HD4.out)
  replace HR5 := Lib.hid (rdW hb9 HR5.out)
  replace HR6 := Lib.hid (rdW hb9 HR6.out)
  replace HD7 := Lib.hid (rdW hb9 HD7.out)
  replace HR8 := Lib.hid (rdW hb9 HR8.out)
  replace HB := Lib.hid (bt HB.out hb9)
  have HR9 := Lib.hid (Rd.of_own ho9); clear ho9
  obtain ⟨V, hV⟩ : ∃ x, (lvsR t7 D7).1 = x := ⟨_, rfl⟩
  obtain ⟨five, hfive⟩ : ∃ x, (lvsR t7 D7).2 = x := ⟨_, rfl⟩
  have HEV := Lib.hid (show ∀ (e : Ending) (w1 w2 : World), RowPost2 2 1 ((lvsR t7 D7).1).length (((lvsR t7 D7).1).map (Value.int .i64)) ((lvsR t7 D7).2) w1 e w2 → RowPost2 2 1 V.length (V.map (Value.int .i64)) five w1 e w2 from fun e w1 w2 h => by rw [hV, hfive] at h; exact h)
  have fV := lvsR_len t7 D7; rw [hV] at fV
  clear hV hfive
  go_wp2_with fail
  refine (impl_LevelsOf t7 A7 c7 D7 x9 (by omega) HD7.out (by omega) hcD7.1).mono ?_
  intro e x10 he
  obtain ⟨A10, c10, rfl, ho10, hb10, hn10, hm10⟩ := HEV.out _ _ _ he
  clear he
  have hzx10 := hb10.size
  replace HD1 := Lib.hid (rdW hb10 HD1.out)
  replace HR2 := Lib.hid (rdW hb10 HR2.out)
  replace HR3 := Lib.hid (rdW hb10 HR3.out)
  replace HD4 := Lib.hid (rdW hb10 HD4.out)
  replace HR5 := Lib.hid (rdW hb10 HR5.out)
  replace HR6 := Lib.hid (rdW hb10 HR6.out)
  replace HD7 := Lib.hid (rdW hb10 HD7.out)
  replace HR8 := Lib.hid (rdW hb10 HR8.out)
  replace HR9 := Lib.hid (rdW hb10 HR9.out)
  replace HB := Lib.hid (bt HB.out hb10)
  have HR10 := Lib.hid (Rd.of_own1 ho10); clear ho10
  go_wp2_with fail
  refine (spec_LevelsOf t7 A7 c7 D7 x10 (by omega) HD7.out (by omega) hcD7.1).mono ?_
  intro e x11 he
  obtain ⟨A11, c11, rfl, ho11, hb11, hn11, hm11⟩ := HEV.out _ _ _ he
  clear he
  have hzx11 := hb11.size
  replace HD1 := Lib.hid (rdW hb11 HD1.out)
  replace HR2 := Lib.hid (rdW hb11 HR2.out)
  replace HR3 := Lib.hid (rdW hb11 HR3.out)
  replace HD4 := Lib.hid (rdW hb11 HD4.out)
  replace HR5 := Lib.hid (rdW hb11 HR5.out)
  replace HR6 := Lib.hid (rdW hb11 HR6.out)
  replace HD7 := Lib.hid (rdW hb11 HD7.out)
  replace HR8 := Lib.hid (rdW hb11 HR8.out)
  replace HR9 := Lib.hid (rdW hb11 HR9.out)
  replace HR10 := Lib.hid (rdW hb11 HR10.out)
  replace HB := Lib.hid (bt HB.out hb11)
  have HR11 := Lib.hid (Rd.of_own1 ho11); clear ho11
  go_wp2_with fail
  refine (likeMarks_c A2 A3 M.length c2 c3 M x11 rfl HR2.out HR3.out (by omega)).mono ?_
  rintro e z1 ⟨rfl, hbz1⟩
  have hzz1 := hbz1.size
  replace HD1 := Lib.hid (rdW hbz1 HD1.out)
  replace HR2 := Lib.hid (rdW hbz1 HR2.out)
  replace HR3 := Lib.hid (rdW hbz1 HR3.out)
  replace HD4 := Lib.hid (rdW hbz1 HD4.out)
  replace HR5 := Lib.hid (rdW hbz1 HR5.out)
  replace HR6 := Lib.hid (rdW hbz1 HR6.out)
  replace HD7 := Lib.hid (rdW hbz1 HD7.out)
  replace HR8 := Lib.hid (rdW hbz1 HR8.out)
  replace HR9 := Lib.hid (rdW hbz1 HR9.out)
  replace HR10 := Lib.hid (rdW hbz1 HR10.out)
  replace HR11 := Lib.hid (rdW hbz1 HR11.out)
  replace HB := Lib.hid (bt HB.out hbz1)
  go_wp2_with fail
  refine (likeMarks_c A5 A6 N.length c5 c6 N z1 rfl HR5.out HR6.out (by omega)).mono ?_
  rintro e z2 ⟨rfl, hbz2⟩
  have hzz2 := hbz2.size
  replace HD1 := Lib.hid (rdW hbz2 HD1.out)
  replace HR2 := Lib.hid (rdW hbz2 HR2.out)
  replace HR3 := Lib.hid (rdW hbz2 HR3.out)
  replace HD4 := Lib.hid (rdW hbz2 HD4.out)
  replace HR5 := Lib.hid (rdW hbz2 HR5.out)
  replace HR6 := Lib.hid (rdW hbz2 HR6.out)
  replace HD7 := Lib.hid (rdW hbz2 HD7.out)
  replace HR8 := Lib.hid (rdW hbz2 HR8.out)
  replace HR9 := Lib.hid (rdW hbz2 HR9.out)
  replace HR10 := Lib.hid (rdW hbz2 HR10.out)
  replace HR11 := Lib.hid (rdW hbz2 HR11.out)
  replace HB := Lib.hid (bt HB.out hbz2)
  go_wp2_with fail
  refine (likeMarks_c A8 A9 J.length c8 c9 J z2 rfl HR8.out HR9.out (by omega)).mono ?_
  rintro e z3 ⟨rfl, hbz3⟩
  have hzz3 := hbz3.size
  replace HD1 := Lib.hid (rdW hbz3 HD1.out)
  replace HR2 := Lib.hid (rdW hbz3 HR2.out)
  replace HR3 := Lib.hid (rdW hbz3 HR3.out)
  replace HD4 := Lib.hid (rdW hbz3 HD4.out)
  replace HR5 := Lib.hid (rdW hbz3 HR5.out)
  replace HR6 := Lib.hid (rdW hbz3 HR6.out)
  replace HD7 := Lib.hid (rdW hbz3 HD7.out)
  replace HR8 := Lib.hid (rdW hbz3 HR8.out)
  replace HR9 := Lib.hid (rdW hbz3 HR9.out)
  replace HR10 := Lib.hid (rdW hbz3 HR10.out)
  replace HR11 := Lib.hid (rdW hbz3 HR11.out)
  replace HB := Lib.hid (bt HB.out hbz3)
  go_wp2_with fail
  refine (likeInts_c A10 A11 V.length c10 c11 V z3 rfl HR10.out HR11.out (by omega) hn10 hn11).mono ?_
  rintro e z4 ⟨rfl, hbz4⟩
  have hzz4 := hbz4.size
  replace HD1 := Lib.hid (rdW hbz4 HD1.out)
  replace HR2 := Lib.hid (rdW hbz4 HR2.out)
  replace HR3 := Lib.hid (rdW hbz4 HR3.out)
  replace HD4 := Lib.hid (rdW hbz4 HD4.out)
  replace HR5 := Lib.hid (rdW hbz4 HR5.out)
  replace HR6 := Lib.hid (rdW hbz4 HR6.out)
  replace HD7 := Lib.hid (rdW hbz4 HD7.out)
  replace HR8 := Lib.hid (rdW hbz4 HR8.out)
  replace HR9 := Lib.hid (rdW hbz4 HR9.out)
  replace HR10 := Lib.hid (rdW hbz4 HR10.out)
  replace HR11 := Lib.hid (rdW hbz4 HR11.out)
  replace HB := Lib.hid (bt HB.out hbz4)
  obtain ⟨bA, hbA⟩ : ∃ b, (isTextB t7 && marksOkB t7.size D7) = b := ⟨_, rfl⟩
  go_wp2_with fail
  refine (impl_AreMarks t7 A7 c7 D7 bA z4 (by omega) HD7.out (by omega) hcD7.1 hbA).mono ?_
  rintro e z5 ⟨rfl, hbz5⟩
  have hzz5 := hbz5.size
  replace HD1 := Lib.hid (rdW hbz5 HD1.out)
  replace HR2 := Lib.hid (rdW hbz5 HR2.out)
  replace HR3 := Lib.hid (rdW hbz5 HR3.out)
  replace HD4 := Lib.hid (rdW hbz5 HD4.out)
  replace HR5 := Lib.hid (rdW hbz5 HR5.out)
  replace HR6 := Lib.hid (rdW hbz5 HR6.out)
  replace HD7 := Lib.hid (rdW hbz5 HD7.out)
  replace HR8 := Lib.hid (rdW hbz5 HR8.out)
  replace HR9 := Lib.hid (rdW hbz5 HR9.out)
  replace HR10 := Lib.hid (rdW hbz5 HR10.out)
  replace HR11 := Lib.hid (rdW hbz5 HR11.out)
  replace HB := Lib.hid (bt HB.out hbz5)
  go_wp2_with fail
  refine (spec_AreMarks t7 A7 c7 D7 bA z5 (by omega) HD7.out (by omega) hcD7.1 hbA).mono ?_
  rintro e z6 ⟨rfl, hbz6⟩
  have hzz6 := hbz6.size
  replace HD1 := Lib.hid (rdW hbz6 HD1.out)
  replace HR2 := Lib.hid (rdW hbz6 HR2.out)
  replace HR3 := Lib.hid (rdW hbz6 HR3.out)
  replace HD4 := Lib.hid (rdW hbz6 HD4.out)
  replace HR5 := Lib.hid (rdW hbz6 HR5.out)
  replace HR6 := Lib.hid (rdW hbz6 HR6.out)
  replace HD7 := Lib.hid (rdW hbz6 HD7.out)
  replace HR8 := Lib.hid (rdW hbz6 HR8.out)
  replace HR9 := Lib.hid (rdW hbz6 HR9.out)
  replace HR10 := Lib.hid (rdW hbz6 HR10.out)
  replace HR11 := Lib.hid (rdW hbz6 HR11.out)
  replace HB := Lib.hid (bt HB.out hbz6)
  clear hbA HEM HEN HEJ HEV
  clear HR3
  clear HR6
  clear HR9
  clear HR10
  clear HR11
  clear HD1
  go_upto_region 16 with fail
  go_cut [173] (fun s173 wc => s173 = .bool false ∧ Below z6.heap.size z6 wc)
  case first =>
    by_cases h1 : one = 0
    · obtain ⟨g1, g2⟩ := G2.out h1
      subst h1
      have hadd : (N.length : Int) = (D4.length : Int) + 1 := by omega
      have hwl : IntKind.i64.wrap ((D4.length : Int) + 1) = (N.length : Int) := by rw [IntWalk.i64_in _ (by omega)]; omega
      clear g2
      go_wp2_with fail
      refine (impl_AreMarks t4 A5 c5 N true z6 (by omega) HR5.out (by omega) hn5 g1).mono ?_
      rintro e u1 ⟨rfl, hbu1⟩
      have hzu1 := hbu1.size
      replace HR2 := Lib.hid (rdW hbu1 HR2.out)
      replace HD4 := Lib.hid (rdW hbu1 HD4.out)
      replace HR5 := Lib.hid (rdW hbu1 HR5.out)
      replace HD7 := Lib.hid (rdW hbu1 HD7.out)
      replace HR8 := Lib.hid (rdW hbu1 HR8.out)
      replace HB := Lib.hid (bt HB.out hbu1)
      go_wp2
      go_meet
      case rel => exact ⟨by first | (simp; done) | (simp; omega), hbu1⟩
    · have h1b : (one == 0) = false := beq_eq_false_iff_ne.2 h1
      go_wp2
      go_meet
      case rel => exact ⟨rfl, Below.refl _ _⟩
  case rest =>
    obtain ⟨rfl, hbz7⟩ := hcut
    obtain ⟨z7, rfl⟩ : ∃ x, x = wc := ⟨_, rfl⟩
    have hzz7 := hbz7.size
    replace HR2 := Lib.hid (rdW hbz7 HR2.out)
    replace HD4 := Lib.hid (rdW hbz7 HD4.out)
    replace HR5 := Lib.hid (rdW hbz7 HR5.out)
    replace HD7 := Lib.hid (rdW hbz7 HD7.out)
    replace HR8 := Lib.hid (rdW hbz7 HR8.out)
    replace HB := Lib.hid (bt HB.out hbz7)
    clear G2
    go_upto_if 175 with fail
    go_cut [] (fun  wc => True ∧ Below z7.heap.size z7 wc)
    case first =>
      by_cases h3 : three = 0
      · have HK := Lib.hid (G3.out h3)
        subst h3
        go_wp2
        go_loopw [28] (fun kv wr => ∃ k : Nat, k ≤ 9 ∧ kv = .int .i64 k ∧ Below z7.heap.size z7 wr) (fun i _ => 9 - (intOf i).toNat)
        case atStart => exact ⟨0, by omega, rfl, Below.refl _ _⟩
        case round =>
          obtain ⟨k, hk, rfl, hB⟩ := hrel
          by_cases hlt : k < 9
          · obtain ⟨n, e1, e2⟩ := HK.out (k : Int) ⟨by omega, by omega⟩
            have hzr := hB.size
            have HC1 := Lib.hid (impl_CountSecret t7 A7 c7 D7 (k : Int) wr (by omega) (rdW hB HD7.out) (by omega) hcD7.1)
            rw [e1] at HC1
            have HC2 := Lib.hid (fun (W : World) (hb : Below wr.heap.size wr W) => impl_CountSecret t7 A8 c8 J (k : Int) W (by omega) (rdW (bt hB hb) HR8.out) (by omega) hn8)
            rw [e2] at HC2
            clear e1 e2
            have hk0 : (0 : Int) ≤ (k : Int) := by omega
            have hk9 : (k : Int) < 9 := by omega
            go_wp2_with fail
            refine HC1.out.mono ?_
            rintro e v1 ⟨rfl, hv1⟩
            go_wp2_with fail
            refine (HC2.out v1 hv1).mono ?_
            rintro e v2 ⟨rfl, hv2⟩
            go_wp2
            go_roundw
            case rel => exact ⟨k + 1, by omega, by go_num, bt hB (bt hv1 hv2)⟩
            case measure => simp [intOf]; omega
          · obtain rfl : k = 9 := by omega
            go_wp2
            go_meet
            case rel => exact ⟨trivial, hB⟩
      · have h3b : (three == 0) = false := beq_eq_false_iff_ne.2 h3
        go_wp2
        go_meet
        case rel => exact ⟨trivial, Below.refl _ _⟩
    case rest =>
      obtain ⟨_, hbz8⟩ := hcut
      obtain ⟨z8, rfl⟩ : ∃ x, x = wc := ⟨_, rfl⟩
      have hzz8 := hbz8.size
      replace HR2 := Lib.hid (rdW hbz8 HR2.out)
      replace HD4 := Lib.hid (rdW hbz8 HD4.out)
      replace HR5 := Lib.hid (rdW hbz8 HR5.out)
      replace HD7 := Lib.hid (rdW hbz8 HD7.out)
      replace HR8 := Lib.hid (rdW hbz8 HR8.out)
      replace HB := Lib.hid (bt HB.out hbz8)
      clear G3
      by_cases hb : bad = 0
      · obtain ⟨g1, g2⟩ := G1.out hb
        subst hb
        have hge : (D1.length : Int) ≤ (M.length : Int) := by omega
        clear g2
        go_wp2_with fail
        refine (impl_AreMarks t1 A2 c2 M true z8 (by omega) HR2.out (by omega) hn2 g1).mono ?_
        rintro e z9 ⟨rfl, hbz9⟩
        have hzz9 := hbz9.size
        replace HR2 := Lib.hid (rdW hbz9 HR2.out)
        replace HD4 := Lib.hid (rdW hbz9 HD4.out)
        replace HR5 := Lib.hid (rdW hbz9 HR5.out)
        replace HD7 := Lib.hid (rdW hbz9 HD7.out)
        replace HR8 := Lib.hid (rdW hbz9 HR8.out)
        replace HB := Lib.hid (bt HB.out hbz9)
        go_wp2
        go_ret
        exact ⟨ret_bool (by simp; try omega), HB.out⟩
      · have hbb : (bad != 0) = true := bne_iff_ne.2 hb
        go_wp2
        go_ret
        exact ⟨rfl, HB.out⟩
end Go.Proofs.Ytgckkocndhfbnaa
