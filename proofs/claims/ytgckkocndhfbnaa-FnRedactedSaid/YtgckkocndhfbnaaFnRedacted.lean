/- The walk of the law FnRedacted: it returns true, and nothing that was there is changed. -/
import Derived.Test.YtgckkocndhfbnaaPubLaw
import Derived.Test.YtgckkocndhfbnaaDrawR2
import Derived.Deep.DeepCutAuto
import Derived.Laws.IdiomStrings
namespace Go.Proofs.Ytgckkocndhfbnaa
open Go.RowKit
set_option linter.unusedVariables false
theorem big_c (A : Option Addr) (n c : Nat) (b : Bool) (w : World) (hn : n ≤ 9223372036854775807) (h : decide (4096 < n) = b) : Calls Try.prog 8 #[.slice A n c] w fun e w' => e = .returned (.bool b) ∧ w = w' := by
  subst h
  by_cases h : 4096 < n
  · have h2 : (4096 : Int) < (n : Int) := by omega
    go_enter Try.func8, Try.ntmps8
    go_wp2
    go_ret
    exact ⟨by simp [h], rfl⟩
  · have h2 : ¬ (4096 : Int) < (n : Int) := by omega
    go_enter Try.func8, Try.ntmps8
    go_wp2
    go_ret
    exact ⟨by simp, rfl⟩
theorem bytes_of (w : World) (s : ByteArray) : ∃ (cap : Nat) (W : World), (convert 9 22 (.string s)).run Try.prog w = .ok (.slice (some ⟨w.heap.size, 0, none⟩) s.size cap) W ∧ Below w.heap.size w W ∧ w.heap.size < W.heap.size ∧
    (∀ j (hj : j < s.data.size), W.cell? ⟨w.heap.size, j, none⟩ = some (.int .u8 (s.data[j].toNat : Int)) ∧ W.frozen? ⟨w.heap.size, j, none⟩ = false) := by
  refine ⟨_, _, run_bytes_of_string w _ _ 5 s Try.underlying9 Try.underlying22 Try.underlying5, ((Below.refl _ _).drew).alloc (Nat.le_refl _) _, by simp, fun j hj => ⟨?_, ?_⟩⟩
  · generalize grownCap w s.size 0 5 = cap
    exact (cell_of_row (w.drew.alloc _) w.heap.size j _ _ _ (heap_alloc_new w.drew _)).trans (bytesRow_at s cap j hj)
  · generalize grownCap w s.size 0 5 = cap
    have h2 : j < (bytesRow s cap).size := by
      have : (bytesRow s cap).size = s.data.size + (cap - s.size) := by simp [bytesRow]
      omega
    refine (World.frozen?_alloc_mark w.drew _ _ _ _ j).trans ?_
    rw [decide_eq_false (by omega)]; rfl
def swapQ (s : ByteArray) (k : Nat) : ByteArray := ⟨(s.data.toList.set k 113).toArray⟩
theorem swapped (s : ByteArray) {k : Nat} (hk : k < s.size) : Swapped s (swapQ s k) k := by
  have hk2 : k < s.data.toList.length := by simpa using hk
  refine ⟨by simp [swapQ], fun i hi => ?_, ?_⟩
  · simp [swapQ, List.getElem?_set_ne (Ne.symm hi)]
  · simp [swapQ]
    rw [List.getElem?_set_self hk2]
theorem bytes_back (w : World) (s : ByteArray) (k b cap : Nat) (h : ∀ j (hj : j < s.data.size), j ≠ k → w.cell? ⟨b, j, none⟩ = some (.int .u8 (s.data[j].toNat : Int))) (hk : w.cell? ⟨b, k, none⟩ = some (.int .u8 113)) :
    (convert 22 9 (.slice (some ⟨b, 0, none⟩) s.size cap)).run Try.prog w = .ok (.string (swapQ s k)) w := by
  have hl : (s.data.toList.set k 113).length = s.size := by simp
  have := run_convert_bytes_back (P := Try.prog) w 22 9 5 ⟨b, 0, none⟩ cap (s.data.toList.set k 113) Try.underlying22 Try.underlying5 Try.underlying9 (fun j hj => by
    have hj2 : j < s.data.size := by rw [hl] at hj; exact hj
    have e : (⟨b, 0, none⟩ : Addr).add j = ⟨b, j, none⟩ := by unfold Addr.add; split <;> simp_all
    rw [e, List.getElem_set]
    split
    · rename_i hc; subst hc; exact hk
    · rename_i hc; rw [h j hj2 (Ne.symm hc)]; simp)
  rw [hl] at this
  exact this
set_option maxRecDepth 100000 in
set_option maxHeartbeats 8000000 in
theorem law_FnRedacted (A : Option Addr) (c : Nat) (L : List Int) (w : World) (hr : Rd w w.heap.size A L.length (L.map (Value.int .u8))) (hl : L.length ≤ maxLen) (hx : ∀ x ∈ L, 0 ≤ x ∧ x ≤ 255) (hc : L.length ≤ c) :
    Calls Try.prog 3 #[.slice A L.length c] w fun e w' => e = .returned (.bool true) ∧ Below w.heap.size w w' := by
  unfold maxLen at hl
  have HRB := Lib.hid hr; have HXB := Lib.hid hx; clear hr hx
  by_cases hbig : 4096 < L.length
  · go_enter Try.func3, Try.ntmps3
    go_wp2_with fail
    refine (big_c A L.length c true w (by omega) (by simp [hbig])).mono ?_
    rintro e w' ⟨rfl, rfl⟩
    go_wp2
    go_ret
    exact ⟨rfl, Below.refl _ _⟩
  go_enter Try.func3, Try.ntmps3
  go_wp2_with fail
  refine (big_c A L.length c false w (by omega) (by simp; omega)).mono ?_
  rintro e w0 ⟨rfl, rfl⟩
  have HB := Lib.hid (Below.refl w.heap.size w)
  go_wp2_with fail
  refine (DrawPublicText_c A c L w HRB.out HXB.out (by omega) hc).mono ?_
  rintro e x1 ⟨t1, A1, c1, D1, lv, rfl, hv11, hv21, ht1, hl1, ho, hbx1⟩
  have hzx1 := hbx1.size
  replace HB := Lib.hid (bt HB.out hbx1)
  have HD1 := Lib.hid (Rd.of_own ho); have hcD1 := own_cap ho; clear ho
  have hcod := law_codes t1 D1 lv
  obtain ⟨pb, hpb⟩ : ∃ x, (pubR t1 D1 lv).1 = x := ⟨_, rfl⟩
  obtain ⟨bad, hbad⟩ : ∃ x, (pubR t1 D1 lv).2 = x := ⟨_, rfl⟩
  obtain ⟨n, hn⟩ : ∃ x, (cntR t1 D1 lv).1 = x := ⟨_, rfl⟩
  rw [hbad] at hcod
  have HP1 := Lib.hid (show ∀ (W : World) a, Calls Try.prog 10 #[.string t1, .slice A1 D1.length c1, .int .i64 lv] W (fun e w2 => e = .returned (.tuple #[.string pb, .int .i64 bad]) ∧ Below W.heap.size W w2) from fun W a => by rw [← hpb, ← hbad]; exact impl_PublicText t1 A1 c1 D1 lv W (by omega) a (by omega) hcD1.1)
  have HP2 := Lib.hid (show ∀ (W : World) a, Calls Try.prog 11 #[.string t1, .slice A1 D1.length c1, .int .i64 lv] W (fun e w2 => e = .returned (.tuple #[.string pb, .int .i64 bad]) ∧ Below W.heap.size W w2) from fun W a => by rw [← hpb, ← hbad]; exact spec_PublicText t1 A1 c1 D1 lv W (by omega) a (by omega) hcD1.1)
  have HC1 := Lib.hid (show ∀ (W : World) a, Calls Try.prog 12 #[.string t1, .slice A1 D1.length c1, .int .i64 lv] W (fun e w2 => e = .returned (.tuple #[.int .i64 n, .int .i64 bad]) ∧ Below W.heap.size W w2) from fun W a => by rw [← hn, ← hcod]; exact impl_CountSecret t1 A1 c1 D1 lv W (by omega) a (by omega) hcD1.1)
  have HC2 := Lib.hid (show ∀ (W : World) a, Calls Try.prog 13 #[.string t1, .slice A1 D1.length c1, .int .i64 lv] W (fun e w2 => e = .returned (.tuple #[.int .i64 n, .int .i64 bad]) ∧ Below W.heap.size W w2) from fun W a => by rw [← hn, ← hcod]; exact spec_CountSecret t1 A1 c1 D1 lv W (by omega) a (by omega) hcD1.1)
  have G1 := Lib.hid (show bad = 0 → lv = 9 → pb = t1 from fun h1 h2 => by subst h2; rw [← hpb]; exact law_nine (hbad.trans h1))
  have G2 := Lib.hid (show bad = 0 → lv ≠ 9 → _ from fun h1 h2 => law_count (s := t1) (L := D1) (lv := lv) (hcod.trans h1) h2)
  rw [hn, hpb] at G2
  clear hpb hbad hn hcod
  go_wp2_with fail
  refine (HP1.out x1 HD1.out).mono ?_
  rintro e x2 ⟨rfl, hbx2⟩
  have hzx2 := hbx2.size
  replace HD1 := Lib.hid (rdW hbx2 HD1.out)
  replace HB := Lib.hid (bt HB.out hbx2)
  go_wp2_with fail
  refine (HP2.out x2 HD1.out).mono ?_
  rintro e x3 ⟨rfl, hbx3⟩
  have hzx3 := hbx3.size
  replace HD1 := Lib.hid (rdW hbx3 HD1.out)
  replace HB := Lib.hid (bt HB.out hbx3)
  go_wp2_with fail
  refine (HC1.out x3 HD1.out).mono ?_
  rintro e x4 ⟨rfl, hbx4⟩
  have hzx4 := hbx4.size
  replace HD1 := Lib.hid (rdW hbx4 HD1.out)
  replace HB := Lib.hid (bt HB.out hbx4)
  go_wp2_with fail
  refine (HC2.out x4 HD1.out).mono ?_
  rintro e x5 ⟨rfl, hbx5⟩
  have hzx5 := hbx5.size
  replace HD1 := Lib.hid (rdW hbx5 HD1.out)
  replace HB := Lib.hid (bt HB.out hbx5)
  go_wp2_with fail
  refine (DrawIsPublicText_c A c L x5 (rdW HB.out HRB.out) HXB.out (by omega) hc).mono ?_
  rintro e y1 ⟨t2, A2, c2, D2, lv2, q2, rfl, hv12, hv22, ht2, hl2, ho, hby1⟩
  have hzy1 := hby1.size
  replace HD1 := Lib.hid (rdW hby1 HD1.out)
  replace HB := Lib.hid (bt HB.out hby1)
  have HD2 := Lib.hid (Rd.of_own ho); have hcD2 := own_cap ho; clear ho
  obtain ⟨i2, hi2⟩ : ∃ x, (isPubR t2 D2 lv2 q2).1 = x := ⟨_, rfl⟩
  obtain ⟨three, h3⟩ : ∃ x, (isPubR t2 D2 lv2 q2).2 = x := ⟨_, rfl⟩
  have HI1 := Lib.hid (show ∀ (W : World) a, Calls Try.prog 15 #[.string t2, .slice A2 D2.length c2, .int .i64 lv2, .string q2] W (fun e w2 => e = .returned (.tuple #[.bool i2, .int .i64 three]) ∧ Below W.heap.size W w2) from fun W a => by rw [← hi2, ← h3]; exact impl_IsPublicText t2 A2 c2 D2 lv2 q2 W (by omega) a (by omega) hcD2.1)
  have HI2 := Lib.hid (show ∀ (W : World) a, Calls Try.prog 16 #[.string t2, .slice A2 D2.length c2, .int .i64 lv2, .string q2] W (fun e w2 => e = .returned (.tuple #[.bool i2, .int .i64 three]) ∧ Below W.heap.size W w2) from fun W a => by rw [← hi2, ← h3]; exact spec_IsPublicText t2 A2 c2 D2 lv2 q2 W (by omega) a (by omega) hcD2.1)
  clear hi2 h3
  go_wp2_with fail
  refine (HI1.out y1 HD2.out).mono ?_
  rintro e y2 ⟨rfl, hby2⟩
  have hzy2 := hby2.size
  replace HD1 := Lib.hid (rdW hby2 HD1.out)
  replace HD2 := Lib.hid (rdW hby2 HD2.out)
  replace HB := Lib.hid (bt HB.out hby2)
  go_wp2_with fail
  refine (HI2.out y2 HD2.out).mono ?_
  rintro e y3 ⟨rfl, hby3⟩
  have hzy3 := hby3.size
  replace HD1 := Lib.hid (rdW hby3 HD1.out)
  replace HD2 := Lib.hid (rdW hby3 HD2.out)
  replace HB := Lib.hid (bt HB.out hby3)
  go_wp2_with fail
  refine (DrawLevelAt_c A c L y3 (rdW HB.out HRB.out) HXB.out (by omega) hc).mono ?_
  rintro e z1 ⟨t3, A3, c3, D3, p, rfl, hv13, hv23, ht3, hl3, ho, hbz1⟩
  have hzz1 := hbz1.size
  replace HD1 := Lib.hid (rdW hbz1 HD1.out)
  replace HD2 := Lib.hid (rdW hbz1 HD2.out)
  replace HB := Lib.hid (bt HB.out hbz1)
  have HD3 := Lib.hid (Rd.of_own ho); have hcD3 := own_cap ho; clear ho
  obtain ⟨l, hlo⟩ : ∃ x, (levR t3 D3 p).1 = x := ⟨_, rfl⟩
  obtain ⟨five, h5⟩ : ∃ x, (levR t3 D3 p).2 = x := ⟨_, rfl⟩
  have HL1 := Lib.hid (show ∀ (W : World) a, Calls Try.prog 18 #[.string t3, .slice A3 D3.length c3, .int .i64 p] W (fun e w2 => e = .returned (.tuple #[.int .i64 l, .int .i64 five]) ∧ Below W.heap.size W w2) from fun W a => by rw [← hlo, ← h5]; exact impl_LevelAt t3 A3 c3 D3 p W (by omega) a (by omega) hcD3.1)
  have HL2 := Lib.hid (show ∀ (W : World) a, Calls Try.prog 19 #[.string t3, .slice A3 D3.length c3, .int .i64 p] W (fun e w2 => e = .returned (.tuple #[.int .i64 l, .int .i64 five]) ∧ Below W.heap.size W w2) from fun W a => by rw [← hlo, ← h5]; exact spec_LevelAt t3 A3 c3 D3 p W (by omega) a (by omega) hcD3.1)
  have G3 := Lib.hid (fun h1 h2 (s2 : ByteArray) => law_hide (s := t3) (s' := s2) (L := D3) (p := p) h1 h2)
  rw [hlo, h5] at G3
  clear hlo h5
  go_wp2_with fail
  refine (HL1.out z1 HD3.out).mono ?_
  rintro e z2 ⟨rfl, hbz2⟩
  have hzz2 := hbz2.size
  replace HD1 := Lib.hid (rdW hbz2 HD1.out)
  replace HD2 := Lib.hid (rdW hbz2 HD2.out)
  replace HD3 := Lib.hid (rdW hbz2 HD3.out)
  replace HB := Lib.hid (bt HB.out hbz2)
  go_wp2_with fail
  refine (HL2.out z2 HD3.out).mono ?_
  rintro e z3 ⟨rfl, hbz3⟩
  have hzz3 := hbz3.size
  replace HD1 := Lib.hid (rdW hbz3 HD1.out)
  replace HD2 := Lib.hid (rdW hbz3 HD2.out)
  replace HD3 := Lib.hid (rdW hbz3 HD3.out)
  replace HB := Lib.hid (bt HB.out hbz3)
  clear HP1 HP2 HC1 HC2 HI1 HI2 HL1 HL2 HD2
  go_upto_region 16 with fail
  go_cut [163] (fun s163 wc => (∃ b : Bool, s163 = .bool b ∧ (b = true → five = 0 ∧ 0 < l)) ∧ Below z3.heap.size z3 wc)
  case first =>
    by_cases h1 : five = 0
    · by_cases h2 : 0 < l
      · have h5 := h1
        subst h1
        go_wp2
        go_meet
        case rel => exact ⟨⟨true, rfl, fun _ => ⟨rfl, h2⟩⟩, Below.refl _ _⟩
      · subst h1
        go_wp2
        go_meet
        case rel => exact ⟨⟨false, by simp, fun h => absurd h (by simp)⟩, Below.refl _ _⟩
    · have h1b : (five == 0) = false := beq_eq_false_iff_ne.2 h1
      go_wp2
      go_meet
      case rel => exact ⟨⟨false, rfl, fun h => absurd h (by simp)⟩, Below.refl _ _⟩
  case rest =>
    obtain ⟨⟨b, rfl, hbt⟩, hbz4⟩ := hcut
    obtain ⟨z4, rfl⟩ : ∃ x, x = wc := ⟨_, rfl⟩
    have hzz4 := hbz4.size
    replace HD1 := Lib.hid (rdW hbz4 HD1.out)
    replace HD3 := Lib.hid (rdW hbz4 HD3.out)
    replace HB := Lib.hid (bt HB.out hbz4)
    go_upto_if 163 with fail
    go_cut [] (fun  wc => True ∧ Below z4.heap.size z4 wc)
    case first =>
      cases b
      · go_wp2
        go_meet
        case rel => exact ⟨trivial, Below.refl _ _⟩
      · obtain ⟨h5, hl0⟩ := hbt rfl
        have hh := G3.out h5 hl0
        subst h5
        have HH := Lib.hid (fun s2 => (hh s2).2.2.2.2)
        obtain ⟨hp0, hp1, hl1, hl9, _⟩ := hh t3
        obtain ⟨k, rfl⟩ := Int.eq_ofNat_of_zero_le hp0
        clear hh
        go_wp2_with fail
        obtain ⟨cap, W9, e9, hb9, hz9, hc9⟩ := bytes_of z4 t3
        rw [e9]
        have hk3 : k < t3.size := by omega
        have hsw := swapped t3 hk3
        obtain ⟨g1, g2, g3⟩ := HH.out _ hsw
        have gs := (hc9 k hk3).1
        have gz := (hc9 k hk3).2
        have hkc : (k : Int) < (t3.size : Int) := by omega
        obtain ⟨v, hv⟩ : ∃ v, pubT t3 D3 (l - 1) = v := ⟨_, rfl⟩
        rw [hv] at g3
        have HCA := Lib.hid (show ∀ (W : World) a, Calls Try.prog 10 #[.string t3, .slice A3 D3.length c3, .int .i64 (l - 1)] W (fun e w2 => e = .returned (.tuple #[.string v, .int .i64 0]) ∧ Below W.heap.size W w2) from fun W a => by
          have h := impl_PublicText t3 A3 c3 D3 (l - 1) W (by omega) a (by omega) hcD3.1
          rw [pubR_ok g1, hv] at h; exact h)
        have HCB := Lib.hid (show ∀ (W : World) a, Calls Try.prog 10 #[.string (swapQ t3 k), .slice A3 D3.length c3, .int .i64 (l - 1)] W (fun e w2 => e = .returned (.tuple #[.string v, .int .i64 0]) ∧ Below W.heap.size W w2) from fun W a => by
          have h := impl_PublicText (swapQ t3 k) A3 c3 D3 (l - 1) W (by have : (swapQ t3 k).size = t3.size := hsw.1; omega) a (by omega) hcD3.1
          rw [pubR_ok g2, ← g3] at h; exact h)
        have HC9 := Lib.hid hc9
        clear hv g1 g2 g3 hc9 HH hsw e9
        generalize hu : (t3.data[k].toNat : Int) = u0 at gs
        clear hu
        go_wp2_with fail
        have hbA := hb9.setCell (p := ⟨z4.heap.size, k, none⟩) (Nat.le_refl _) (.int .u8 113)
        have cA : ∀ j (hj : j < t3.data.size), j ≠ k → (W9.setCell ⟨z4.heap.size, k, none⟩ (.int .u8 113)).cell? ⟨z4.heap.size, j, none⟩ = some (.int .u8 (t3.data[j].toNat : Int)) := fun j hj hne => by
          have := (HC9.out j hj).1
          simp [go_sem, this]
        have cK : (W9.setCell ⟨z4.heap.size, k, none⟩ (.int .u8 113)).cell? ⟨z4.heap.size, k, none⟩ = some (.int .u8 113) := by simp [go_sem, gs]
        have hzA : z4.heap.size < (W9.setCell ⟨z4.heap.size, k, none⟩ (.int .u8 113)).heap.size := by simpa [go_sem] using hz9
        have CA := Lib.hid cA; have CK := Lib.hid cK
        clear cA cK HC9 gs gz hb9 hz9
        generalize W9.setCell ⟨z4.heap.size, k, none⟩ (.int .u8 113) = WA at *
        refine (HCA.out WA (rdW hbA HD3.out)).mono ?_
        rintro e WB ⟨rfl, hbB⟩
        have hbAB := bt hbA hbB
        have hzB := hbB.size
        have hback := bytes_back WB t3 k z4.heap.size cap (fun j hj hne => (hbB.cell (p := ⟨z4.heap.size, j, none⟩) (by simp only; omega)).trans (CA.out j hj hne)) ((hbB.cell (p := ⟨z4.heap.size, k, none⟩) (by simp only; omega)).trans CK.out)
        have HBK := Lib.hid hback
        clear hback
        go_wp2_with fail
        rw [HBK.out]
        go_wp2_with fail
        refine (HCB.out WB (rdW hbAB HD3.out)).mono ?_
        rintro e WC ⟨rfl, hbC⟩
        go_wp2
        go_meet
        case rel => exact ⟨trivial, bt hbAB hbC⟩
    case rest =>
      obtain ⟨_, hbz5⟩ := hcut
      obtain ⟨z5, rfl⟩ : ∃ x, x = wc := ⟨_, rfl⟩
      have hzz5 := hbz5.size
      replace HD1 := Lib.hid (rdW hbz5 HD1.out)
      replace HD3 := Lib.hid (rdW hbz5 HD3.out)
      replace HB := Lib.hid (bt HB.out hbz5)
      clear G3 hbt
      by_cases hb : bad = 0
      · by_cases h9 : lv = 9
        · have g1 := G1.out hb h9
          subst hb; subst h9; subst g1
          go_wp2
          go_ret
          exact ⟨ret_bool (by simp), HB.out⟩
        · obtain ⟨q1, q2, q3, q4, q5⟩ := G2.out hb h9
          have h9b : (lv == 9) = false := beq_eq_false_iff_ne.2 h9
          subst hb
          obtain ⟨n2, hn2⟩ : ∃ x, (cntR t1 D1 (lv + 1)).1 = x := ⟨_, rfl⟩
          have HN := Lib.hid (show ∀ (W : World) a, Calls Try.prog 12 #[.string t1, .slice A1 D1.length c1, .int .i64 (lv + 1)] W (fun e w2 => e = .returned (.tuple #[.int .i64 n2, .int .i64 0]) ∧ Below W.heap.size W w2) from fun W a => by rw [← hn2, ← q2]; exact impl_CountSecret t1 A1 c1 D1 (lv + 1) W (by omega) a (by omega) hcD1.1)
          rw [hn2] at q3
          clear hn2 q2
          go_wp2_with fail
          refine (HN.out z5 HD1.out).mono ?_
          rintro e z6 ⟨rfl, hbz6⟩
          have hzz6 := hbz6.size
          replace HD1 := Lib.hid (rdW hbz6 HD1.out)
          replace HD3 := Lib.hid (rdW hbz6 HD3.out)
          replace HB := Lib.hid (bt HB.out hbz6)
          by_cases hn0 : n = 0
          · have g5 := q5 hn0
            subst g5; subst hn0
            go_wp2
            go_ret
            exact ⟨ret_bool (by simp), HB.out⟩
          · have hnp : 0 < n := by omega
            go_wp2
            go_ret
            exact ⟨ret_bool (by simp), HB.out⟩
      · have hbb : (bad != 0) = true := bne_iff_ne.2 hb
        go_wp2
        go_ret
        exact ⟨rfl, HB.out⟩
end Go.Proofs.Ytgckkocndhfbnaa
