/- The walk of the law FnTemplates: it returns true, and nothing that was there is changed. -/
import Derived.Test.YtilanpmjemlopaaTpl26
import Derived.Test.YtilanpmjemlopaaDrawT3
import Derived.Test.YtilanpmjemlopaaMaxW
import Derived.Deep.DeepCutAuto
namespace Go.Proofs.Ytilanpmjemlopaa
open Go.RowKit
set_option linter.unusedVariables false
theorem big_c (A : Option Addr) (n c : Nat) (b : Bool) (w : World) (hn : n ≤ 9223372036854775807) (h : decide (4096 < n) = b) : Calls Try.prog 14 #[.slice A n c] w fun e w' => e = .returned (.bool b) ∧ w = w' := by
  subst h
  by_cases h : 4096 < n
  · have h2 : (4096 : Int) < (n : Int) := by omega
    go_enter Try.func14, Try.ntmps14
    go_wp2
    go_ret
    exact ⟨by simp [h], rfl⟩
  · have h2 : ¬ (4096 : Int) < (n : Int) := by omega
    go_enter Try.func14, Try.ntmps14
    go_wp2
    go_ret
    exact ⟨by simp, rfl⟩
theorem missN_len (s : ByteArray) (V : List ValueD) : (missN s V).length ≤ 1200 := by
  unfold missN
  cases h : tplOf s with
  | none => simp
  | some T =>
    simp only []
    split
    · exact Nat.le_trans (missV_len V T) (tpl_wt h)
    · simp
theorem MaxW.below {w W : World} (h : MaxW w) (hb : Below w.heap.size w W) : MaxW W := by
  obtain ⟨m, hm⟩ := h
  exact ⟨m, (hb.cell (p := ⟨_, 0, none⟩) (block_lt_of_cell hm)).trans hm⟩
theorem goodV_W {D : List ValueD} (h : GoodV D) : ∀ x ∈ D, ValueW x := fun x hx => by
  have := h x hx
  unfold ValueW maxLen; omega
theorem goodV_B {D : List ValueD} (h : GoodV D) : ValB D := fun x hx => by have := h x hx; omega
theorem miss_sub {V : List ValueD} {T : List PtD} {m : ByteArray} (h : m ∈ missV V T) : m ∈ setT (allT T) := by
  unfold missV at h
  rw [(setT_props _).2] at h ⊢
  obtain ⟨p, hp, hm⟩ := List.mem_flatMap.1 (List.mem_filter.1 h).1
  refine List.mem_flatMap.2 ⟨p, hp, ?_⟩
  unfold plP at hm ⊢
  cases hs : p.sec with
  | false => rw [hs] at hm; exact hm
  | true =>
    rw [hs, if_pos rfl] at hm
    rw [if_pos rfl, if_pos rfl]
    split at hm
    · exact hm
    · cases hm
theorem law_miss (s : ByteArray) (V : List ValueD) : (missE s V = 0 → (missN s V = [] ↔ fillE s V = 0)) ∧ (missE s V ≠ 0 → missN s V = [] ∧ fillE s V ≠ 0) ∧ (∀ m ∈ missN s V, plE s = 0 ∧ m ∈ plN s) := by
  cases ht : tplOf s with
  | none =>
    have h1 := miss_1 (V := V) ht; have h2 := fill_1 (V := V) ht
    rw [h1.1, h1.2, h2.2]
    exact ⟨fun h => (by cases h), fun _ => ⟨rfl, by decide⟩, fun m hm => (by cases hm)⟩
  | some T =>
    cases hv : valsOk V with
    | false =>
      have h1 := miss_2 ht hv; have h2 := fill_2 ht hv
      rw [h1.1, h1.2, h2.2]
      exact ⟨fun h => (by cases h), fun _ => ⟨rfl, by decide⟩, fun m hm => (by cases hm)⟩
    | true =>
      have h1 := miss_3 ht hv
      rw [h1.1, h1.2]
      refine ⟨fun _ => ?_, fun h => absurd rfl h, fun m hm => ?_⟩
      · by_cases hm : missV V T = []
        · rw [(fill_4 ht hv hm).2]; exact ⟨fun _ => rfl, fun _ => hm⟩
        · rw [(fill_3 ht hv hm).2]; exact ⟨fun h => absurd h hm, fun h => (by cases h)⟩
      · have h3 := pl_2 ht
        rw [h3.1, h3.2.2]
        exact ⟨rfl, miss_sub hm⟩
theorem all_pts (P : List PlD) (h : nmsD P = []) : allT (P.map ptOf) = [] ∧ secsT (P.map ptOf) = [] := by
  unfold allT plsT secsT
  rw [flat_pt (plP (fun _ => true)) nmP (fun _ => rfl), flat_pt secP (fun _ => []) (fun _ => rfl), flat_nil]
  exact ⟨h, rfl⟩
theorem law_clean {s : ByteArray} {V : List ValueD} (h : fillE s V = 0) (hf : (fillB s V).size ≤ 600) : plE (fillB s V) = 0 ∧ plN (fillB s V) = [] ∧ seN (fillB s V) = [] := by
  obtain ⟨P, hP, hn⟩ := fill_clean h hf
  have h1 := pl_2 hP
  have h2 := all_pts P hn
  rw [h1.1, h1.2.1, h1.2.2, h2.1, h2.2]
  exact ⟨rfl, setT_nil, setT_nil⟩
theorem plE_cases (x : ByteArray) : ((tplOf x).isSome = true ∧ plE x = 0) ∨ ((tplOf x).isSome = false ∧ plE x = 6) := by
  unfold plE
  cases (tplOf x).isSome
  · exact .inr ⟨rfl, rfl⟩
  · exact .inl ⟨rfl, rfl⟩
theorem plN_len (s : ByteArray) : (plN s).length ≤ 1200 ∧ (seN s).length ≤ 1200 := by
  cases ht : tplOf s with
  | none => rw [(pl_1 ht).1, (pl_1 ht).2.1]; simp
  | some T =>
    rw [(pl_2 ht).1, (pl_2 ht).2.1]
    have h1 := tpl_wt ht
    have h2 := setT_len (allT T); have h3 := setT_len (secsT T)
    have h4 := plsT_len (fun _ => true) T; have h5 := secs_len T; have h6 := wt_len T
    change (allT T).length ≤ _ at h4
    omega
set_option maxRecDepth 100000 in
set_option maxHeartbeats 8000000 in
theorem law_FnTemplates (A : Option Addr) (c : Nat) (L : List Int) (w : World) (hr : Rd w w.heap.size A L.length (L.map (Value.int .u8))) (hl : L.length ≤ maxLen) (hx : ∀ x ∈ L, 0 ≤ x ∧ x ≤ 255) (hc : L.length ≤ c) (hM : MaxW w) :
    Calls Try.prog 4 #[.slice A L.length c] w fun e w' => e = .returned (.bool true) ∧ Below w.heap.size w w' := by
  unfold maxLen at hl
  have HRB := Lib.hid hr; have HXB := Lib.hid hx; have HMX := Lib.hid hM; clear hr hx hM
  by_cases hbig : 4096 < L.length
  · go_enter Try.func4, Try.ntmps4
    go_wp2_with fail
    refine (big_c A L.length c true w (by omega) (by simp [hbig])).mono ?_
    rintro e w' ⟨rfl, rfl⟩
    go_wp2
    go_ret
    exact ⟨rfl, Below.refl _ _⟩
  go_enter Try.func4, Try.ntmps4
  go_wp2_with fail
  refine (big_c A L.length c false w (by omega) (by simp; omega)).mono ?_
  rintro e w0 ⟨rfl, rfl⟩
  have HB := Lib.hid (Below.refl w.heap.size w)
  go_wp2_with fail
  refine (DrawFillTemplate_c A c L w HRB.out HXB.out (by omega) hc).mono ?_
  rintro e x1 ⟨t, Av, cv, D, rfl, ht, hDl, hG, ho, hbx1⟩
  have hzx1 := hbx1.size
  replace HB := Lib.hid (bt HB.out hbx1)
  have HD := Lib.hid (Rd.of_own ho); have hcD := (own_cap ho).1; clear ho
  have HVW := Lib.hid (goodV_W hG); have HVB := Lib.hid (goodV_B hG); clear hG
  have hlm := law_miss t D
  have hlc := fun h h2 => law_clean (s := t) (V := D) h h2
  have hmn := missN_len t D
  have hpq := (plN_len t).1
  obtain ⟨F, hF⟩ : ∃ x, fillB t D = x := ⟨_, rfl⟩
  obtain ⟨bad, hbad⟩ : ∃ x, fillE t D = x := ⟨_, rfl⟩
  obtain ⟨MN, hMN⟩ : ∃ x, missN t D = x := ⟨_, rfl⟩
  obtain ⟨one, hone⟩ : ∃ x, missE t D = x := ⟨_, rfl⟩
  obtain ⟨QN, hQN⟩ : ∃ x, plN t = x := ⟨_, rfl⟩
  obtain ⟨seven, hsev⟩ : ∃ x, plE t = x := ⟨_, rfl⟩
  rw [hMN, hone, hbad, hQN, hsev] at hlm
  rw [hF, hbad] at hlc
  rw [hMN] at hmn
  rw [hQN] at hpq
  have HFI := Lib.hid (show ∀ (W : World) (hm : MaxW W) (a : Rd W W.heap.size Av (D.length * 2) (D.flatMap valueC)), Calls Try.prog 16 #[.string t, .slice Av D.length cv] W (fun e w2 => e = .returned (.tuple #[.string F, .int .i64 bad]) ∧ Below W.heap.size W w2) from fun W hm a => by obtain ⟨m, hm⟩ := hm; rw [← hF, ← hbad]; exact impl_FillTemplate t Av cv D W (by omega) m hm a (by omega) (by omega) HVW.out)
  have HFS := Lib.hid (show ∀ (W : World) (a : Rd W W.heap.size Av (D.length * 2) (D.flatMap valueC)), Calls Try.prog 17 #[.string t, .slice Av D.length cv] W (fun e w2 => e = .returned (.tuple #[.string F, .int .i64 bad]) ∧ Below W.heap.size W w2) from fun W a => by rw [← hF, ← hbad]; exact spec_FillTemplate t Av cv D W (by omega) HVB.out a (by omega) (by omega) HVW.out)
  have HMI := Lib.hid (show ∀ (W : World) (hm : MaxW W) (a : Rd W W.heap.size Av (D.length * 2) (D.flatMap valueC)), Calls Try.prog 8 #[.string t, .slice Av D.length cv] W (fun e w2 => RowPost2 9 1 MN.length (MN.map Value.string) one W e w2) from fun W hm a => by obtain ⟨m, hm⟩ := hm; rw [← hMN, ← hone]; exact impl_MissingOf t Av cv D W (by omega) m hm a (by omega) (by omega) HVW.out)
  have HMS := Lib.hid (show ∀ (W : World) (a : Rd W W.heap.size Av (D.length * 2) (D.flatMap valueC)), Calls Try.prog 6 #[.string t, .slice Av D.length cv] W (fun e w2 => RowPost2 9 1 MN.length (MN.map Value.string) one W e w2) from fun W a => by rw [← hMN, ← hone]; exact spec_MissingOf t Av cv D W (by omega) a (by omega) (by omega) HVW.out)
  have HPT := Lib.hid (show ∀ (W : World) (hm : MaxW W), Calls Try.prog 19 #[.string t] W (fun e w2 => RowPost2 9 1 QN.length (QN.map Value.string) seven W e w2) from fun W hm => by obtain ⟨m, hm⟩ := hm; rw [← hQN, ← hsev]; exact impl_PlacesOf t W (by omega) m hm)
  have HLM := Lib.hid hlm; have HLC := Lib.hid hlc
  clear hF hbad hMN hone hQN hsev hlm hlc
  go_wp2_with fail
  refine (HFI.out x1 (HMX.out.below HB.out) HD.out).mono ?_
  rintro e x2 ⟨rfl, hbx2⟩
  have hzx2 := hbx2.size
  replace HD := Lib.hid (rdW hbx2 HD.out)
  replace HB := Lib.hid (bt HB.out hbx2)
  go_wp2_with fail
  refine (HFS.out x2 HD.out).mono ?_
  rintro e x3 ⟨rfl, hbx3⟩
  have hzx3 := hbx3.size
  replace HD := Lib.hid (rdW hbx3 HD.out)
  replace HB := Lib.hid (bt HB.out hbx3)
  go_wp2_with fail
  refine (HMI.out x3 (HMX.out.below HB.out) HD.out).mono ?_
  rintro e x4 ⟨A1, c1, rfl, ho1, hbx4, hn1, hm1⟩
  have hzx4 := hbx4.size
  replace HD := Lib.hid (rdW hbx4 HD.out)
  replace HB := Lib.hid (bt HB.out hbx4)
  have HR1 := Lib.hid (Rd.of_own1 ho1); clear ho1
  go_wp2_with fail
  refine (HMS.out x4 HD.out).mono ?_
  rintro e x5 ⟨A2, c2, rfl, ho2, hbx5, hn2, hm2⟩
  have hzx5 := hbx5.size
  replace HD := Lib.hid (rdW hbx5 HD.out)
  replace HR1 := Lib.hid (rdW hbx5 HR1.out)
  replace HB := Lib.hid (bt HB.out hbx5)
  have HR2 := Lib.hid (Rd.of_own1 ho2); clear ho2
  clear HFI HFS HMI HMS HD
  go_wp2_with fail
  refine (DrawPlacesOf_c A c L x5 (rdW HB.out HRB.out) HXB.out (by omega) hc).mono ?_
  rintro e x6 ⟨x, rfl, hx, hbx6⟩
  have hzx6 := hbx6.size
  replace HR1 := Lib.hid (rdW hbx6 HR1.out)
  replace HR2 := Lib.hid (rdW hbx6 HR2.out)
  replace HB := Lib.hid (bt HB.out hbx6)
  have hpc := plE_cases x
  have hpl := plN_len x
  obtain ⟨PN, hPN⟩ : ∃ y, plN x = y := ⟨_, rfl⟩
  obtain ⟨SN, hSN⟩ : ∃ y, seN x = y := ⟨_, rfl⟩
  obtain ⟨three, h3⟩ : ∃ y, plE x = y := ⟨_, rfl⟩
  obtain ⟨isT, hiT⟩ : ∃ y, (tplOf x).isSome = y := ⟨_, rfl⟩
  rw [hiT, h3] at hpc
  rw [hPN, hSN] at hpl
  have HP1 := Lib.hid (show ∀ (W : World) (hm : MaxW W), Calls Try.prog 19 #[.string x] W (fun e w2 => RowPost2 9 1 PN.length (PN.map Value.string) three W e w2) from fun W hm => by obtain ⟨m, hm⟩ := hm; rw [← hPN, ← h3]; exact impl_PlacesOf x W (by omega) m hm)
  have HP2 := Lib.hid (show ∀ (W : World), Calls Try.prog 20 #[.string x] W (fun e w2 => RowPost2 9 1 PN.length (PN.map Value.string) three W e w2) from fun W => by rw [← hPN, ← h3]; exact spec_PlacesOf x W (by omega))
  have HS1 := Lib.hid (show ∀ (W : World) (hm : MaxW W), Calls Try.prog 21 #[.string x] W (fun e w2 => RowPost2 9 1 SN.length (SN.map Value.string) three W e w2) from fun W hm => by obtain ⟨m, hm⟩ := hm; rw [← hSN, ← h3]; exact impl_SectionsOf x W (by omega) m hm)
  have HS2 := Lib.hid (show ∀ (W : World), Calls Try.prog 22 #[.string x] W (fun e w2 => RowPost2 9 1 SN.length (SN.map Value.string) three W e w2) from fun W => by rw [← hSN, ← h3]; exact spec_SectionsOf x W (by omega))
  have HIT := Lib.hid (show ∀ (W : World) (hm : MaxW W), Calls Try.prog 24 #[.string x] W (fun e w2 => e = .returned (.bool isT) ∧ Below W.heap.size W w2) from fun W hm => by obtain ⟨m, hm⟩ := hm; rw [← hiT]; exact impl_IsTemplate x W (by omega) m hm)
  clear hPN hSN h3 hiT
  go_wp2_with fail
  refine (HP1.out x6 (HMX.out.below HB.out)).mono ?_
  rintro e x7 ⟨A3, c3, rfl, ho3, hbx7, hn3, hm3⟩
  have hzx7 := hbx7.size
  replace HR1 := Lib.hid (rdW hbx7 HR1.out)
  replace HR2 := Lib.hid (rdW hbx7 HR2.out)
  replace HB := Lib.hid (bt HB.out hbx7)
  have HR3 := Lib.hid (Rd.of_own1 ho3); clear ho3
  go_wp2_with fail
  refine (HP2.out x7).mono ?_
  rintro e x8 ⟨A4, c4, rfl, ho4, hbx8, hn4, hm4⟩
  have hzx8 := hbx8.size
  replace HR1 := Lib.hid (rdW hbx8 HR1.out)
  replace HR2 := Lib.hid (rdW hbx8 HR2.out)
  replace HR3 := Lib.hid (rdW hbx8 HR3.out)
  replace HB := Lib.hid (bt HB.out hbx8)
  have HR4 := Lib.hid (Rd.of_own1 ho4); clear ho4
  go_wp2_with fail
  refine (HS1.out x8 (HMX.out.below HB.out)).mono ?_
  rintro e x9 ⟨A5, c5, rfl, ho5, hbx9, hn5, hm5⟩
  have hzx9 := hbx9.size
  replace HR1 := Lib.hid (rdW hbx9 HR1.out)
  replace HR2 := Lib.hid (rdW hbx9 HR2.out)
  replace HR3 := Lib.hid (rdW hbx9 HR3.out)
  replace HR4 := Lib.hid (rdW hbx9 HR4.out)
  replace HB := Lib.hid (bt HB.out hbx9)
  have HR5 := Lib.hid (Rd.of_own1 ho5); clear ho5
  go_wp2_with fail
  refine (HS2.out x9).mono ?_
  rintro e x10 ⟨A6, c6, rfl, ho6, hbx10, hn6, hm6⟩
  have hzx10 := hbx10.size
  replace HR1 := Lib.hid (rdW hbx10 HR1.out)
  replace HR2 := Lib.hid (rdW hbx10 HR2.out)
  replace HR3 := Lib.hid (rdW hbx10 HR3.out)
  replace HR4 := Lib.hid (rdW hbx10 HR4.out)
  replace HR5 := Lib.hid (rdW hbx10 HR5.out)
  replace HB := Lib.hid (bt HB.out hbx10)
  have HR6 := Lib.hid (Rd.of_own1 ho6); clear ho6
  clear HP1 HP2 HS1 HS2
  go_upto_region 13 with fail
  go_cut [134] (fun s134 wc => s134 = .bool false ∧ Below x10.heap.size x10 wc)
  case first =>
    rcases hpc with ⟨rfl, rfl⟩ | ⟨rfl, rfl⟩
    all_goals
      go_wp2_with fail
      refine (likeTexts_c A1 A2 MN.length c1 c2 MN x10 rfl HR1.out HR2.out (by omega)).mono ?_
      rintro e x11 ⟨rfl, hb11⟩
      have hz11 := hb11.size
      go_wp2_with fail
      refine (likeTexts_c A3 A4 PN.length c3 c4 PN x11 rfl (rdW hb11 HR3.out) (rdW hb11 HR4.out) (by omega)).mono ?_
      rintro e x12 ⟨rfl, hb12⟩
      have hb12b := bt hb11 hb12
      go_wp2_with fail
      refine (likeTexts_c A5 A6 SN.length c5 c6 SN x12 rfl (rdW hb12b HR5.out) (rdW hb12b HR6.out) (by omega)).mono ?_
      rintro e x13 ⟨rfl, hb13⟩
      have hb13b := bt hb12b hb13
      go_wp2_with fail
      refine (HIT.out x13 (HMX.out.below (bt HB.out hb13b))).mono ?_
      rintro e x14 ⟨rfl, hb14⟩
      have hb14b := bt hb13b hb14
      go_wp2
      go_meet
      case rel => exact ⟨rfl, hb14b⟩
  case rest =>
    obtain ⟨rfl, hby1⟩ := hcut
    obtain ⟨y1, rfl⟩ : ∃ x, x = wc := ⟨_, rfl⟩
    have hzy1 := hby1.size
    replace HR1 := Lib.hid (rdW hby1 HR1.out)
    replace HR2 := Lib.hid (rdW hby1 HR2.out)
    replace HR3 := Lib.hid (rdW hby1 HR3.out)
    replace HR4 := Lib.hid (rdW hby1 HR4.out)
    replace HR5 := Lib.hid (rdW hby1 HR5.out)
    replace HR6 := Lib.hid (rdW hby1 HR6.out)
    replace HB := Lib.hid (bt HB.out hby1)
    clear HIT hpc HR2 HR3 HR4 HR5 HR6
    go_upto_region 15 with fail
    go_cut [144] (fun s144 wc => s144 = .bool false ∧ Below y1.heap.size y1 wc)
    case first =>
      by_cases h1 : one = 0
      · have hiff := HLM.out.1 h1
        by_cases h2 : bad = 0
        · have h3 := hiff.2 h2
          have hl0 : ((MN.length : Int) == 0) = true := by rw [h3]; rfl
          clear h3 hiff
          subst h1; subst h2
          go_wp2
          go_meet
          case rel => exact ⟨rfl, Below.refl _ _⟩
        · have h3 : ¬ MN = [] := fun h => h2 (hiff.1 h)
          have hl0 := len_pos h3
          have hb2 : (bad == 0) = false := beq_eq_false_iff_ne.2 h2
          have hl2 : ((MN.length : Int) == 0) = false := beq_eq_false_iff_ne.2 (by omega)
          clear h3 hiff
          subst h1
          go_wp2
          go_meet
          case rel => exact ⟨rfl, Below.refl _ _⟩
      · have h1b : (one == 0) = false := beq_eq_false_iff_ne.2 h1
        go_wp2
        go_meet
        case rel => exact ⟨rfl, Below.refl _ _⟩
    case rest =>
      obtain ⟨rfl, hby2⟩ := hcut
      obtain ⟨y2, rfl⟩ : ∃ x, x = wc := ⟨_, rfl⟩
      have hzy2 := hby2.size
      replace HR1 := Lib.hid (rdW hby2 HR1.out)
      replace HB := Lib.hid (bt HB.out hby2)
      go_wp2_with fail
      refine (HPT.out y2 (HMX.out.below HB.out)).mono ?_
      rintro e y3 ⟨A7, c7, rfl, ho7, hby3, hn7, hm7⟩
      have hzy3 := hby3.size
      replace HR1 := Lib.hid (rdW hby3 HR1.out)
      replace HB := Lib.hid (bt HB.out hby3)
      have HR7 := Lib.hid (Rd.of_own1 ho7); clear ho7
      have hMl := fun h : (0 : Int) < (MN.length : Int) => HLM.out.2.2 MN[0] (List.getElem_mem (by omega))
      have HB3 := HB
      go_wp2
      go_loopw [24] (fun iv wr => ∃ k : Nat, k ≤ MN.length ∧ iv = .int .i64 k ∧ Hid (Below y3.heap.size y3 wr)) (fun iv _ => MN.length - (intOf iv).toNat)
      case atStart => exact ⟨0, by omega, rfl, Below.refl _ _⟩
      case round =>
    obtain ⟨k, hk, rfl, HBr⟩ := hrel
    by_cases hlt : k < MN.length
    · obtain ⟨bf, offf, hA1, hbf, hcf⟩ := Rd.strs (rdW HBr.out HR1.out) hlt
      subst hA1
      have f0 : wr.cell? ⟨bf, offf + k, none⟩ = some (.string MN[k]) := hcf k hlt
      clear hcf
      obtain ⟨hsv, hmem⟩ := HLM.out.2.2 MN[k] (List.getElem_mem hlt)
      have hk0 : (0 : Int) ≤ (k : Int) := by omega
      have hk1 : (k : Int) < (MN.length : Int) := by omega
      subst hsv
      go_wp2_with fail
      refine (hasText_c A7 QN.length c7 QN MN[k] wr rfl (rdW HBr.out HR7.out) (by omega) hmem).mono ?_
      rintro e v1 ⟨rfl, hbv⟩
      have HB4 := Lib.hid (bt HBr.out hbv)
      clear hbv
      go_wp2
      go_roundw
      case rel => exact ⟨k + 1, by omega, by go_num, HB4⟩
      case measure => first | (simp [intOf]; done) | (simp [intOf]; omega)
    · obtain rfl : k = MN.length := by omega
      have HBe := Lib.hid (bt HB.out HBr.out)
      by_cases hb0 : bad = 0
      · by_cases hF6 : (600 : Int) < (F.size : Int)
        · subst hb0
          go_wp2
          go_ret
          exact ⟨rfl, HBe.out⟩
        · obtain ⟨e1, e2, e3⟩ := HLC.out hb0 (by omega)
          have HF1 := Lib.hid (show ∀ (W : World) (hm : MaxW W), Calls Try.prog 19 #[.string F] W (fun e w2 => RowPost2 9 1 0 [] 0 W e w2) from fun W hm => by obtain ⟨m, hm⟩ := hm; have h := impl_PlacesOf F W (by omega) m hm; unfold PlP at h; rw [e1, e2] at h; exact h)
          have HF2 := Lib.hid (show ∀ (W : World) (hm : MaxW W), Calls Try.prog 21 #[.string F] W (fun e w2 => RowPost2 9 1 0 [] 0 W e w2) from fun W hm => by obtain ⟨m, hm⟩ := hm; have h := impl_SectionsOf F W (by omega) m hm; unfold SeP at h; rw [e1, e3] at h; exact h)
          clear e1 e2 e3
          subst hb0
          go_wp2_with fail
          refine (HF1.out wr (HMX.out.below HBe.out)).mono ?_
          rintro e v1 ⟨A8, c8, rfl, _, hbv, _, _⟩
          have HB5 := Lib.hid (bt HBe.out hbv)
          clear hbv
          go_wp2_with fail
          refine (HF2.out v1 (HMX.out.below HB5.out)).mono ?_
          rintro e v2 ⟨A9, c9, rfl, _, hbv, _, _⟩
          have HB6 := Lib.hid (bt HB5.out hbv)
          clear hbv
          go_wp2
          go_ret
          exact ⟨ret_bool (by simp), HB6.out⟩
      · have hbb : (bad == 0) = false := beq_eq_false_iff_ne.2 hb0
        go_wp2
        go_ret
        exact ⟨rfl, HBe.out⟩
end Go.Proofs.Ytilanpmjemlopaa
