/- Contracts of the draws of appeals: DrawFileAppeal, DrawReplyAppeal, DrawDecideAppeal, DrawIsFinalOn. -/
import Derived.Test.YtdohegpbdlcnjaaDrawA2
import Derived.Deep.DeepCutAuto
namespace Go.Proofs.Ytdohegpbdlcnjaa
open Go.RowKit
set_option linter.unusedVariables false
/-- Holidays, a judgment and appeals that a draw hands back. -/
def Drew (w : World) (AH : Option Addr) (cH : Nat) (H : List Int) (J : Int) (A : Option Addr) (c : Nat) (D : List AppealD) (w' : World) : Prop :=
  w'.ownsRow w.heap.size 2 1 (.slice AH H.length cH) H.length (H.map (Value.int .i64)) ∧ w'.ownsRow w.heap.size 64 5 (.slice A D.length c) D.length (D.flatMap appealC) ∧ H.length ≤ 41 ∧ D.length ≤ 7 ∧ (∀ x ∈ D, BdA x) ∧ Below w.heap.size w w'
def FileP (w : World) (e : Ending) (w' : World) : Prop := ∃ (AH : Option Addr) (cH : Nat) (H : List Int) (J : Int) (A : Option Addr) (c : Nat) (D : List AppealD) (day : Int), e = .returned (.tuple #[.slice AH H.length cH, .int .i64 J, .slice A D.length c, .int .i64 day]) ∧ Drew w AH cH H J A c D w'
def DecP (w : World) (e : Ending) (w' : World) : Prop := ∃ (AH : Option Addr) (cH : Nat) (H : List Int) (J : Int) (A : Option Addr) (c : Nat) (D : List AppealD) (res day : Int), e = .returned (.tuple #[.slice AH H.length cH, .int .i64 J, .slice A D.length c, .int .i64 res, .int .i64 day]) ∧ Drew w AH cH H J A c D w'
theorem below_src {w w1 w2 : World} (h : Below w.heap.size w w1) (hg : w1.grownBy w2 (some w.heap.size)) : Below w.heap.size w w2 := below_grown h hg (Nat.le_refl _) (fun g h => by injection h with h; omega)
set_option maxRecDepth 100000 in
set_option maxHeartbeats 4000000 in
theorem DrawFileAppeal_c (A : Option Addr) (c : Nat) (L : List Int) (w : World) (hr : Rd w w.heap.size A L.length (L.map (Value.int .u8))) (hx : ∀ x ∈ L, 0 ≤ x ∧ x ≤ 255) (hL : L.length ≤ 4096) (hc : L.length ≤ c) : Calls Try.prog 33 #[.slice A L.length c] w (FileP w) := by
  go_enter Try.func33, Try.ntmps33
  go_wp2_with fail
  refine (l01From_c A c L w hr hx hL hc).mono ?_
  rintro e w1 ⟨rfl, hS, hb1⟩
  have HS1 := Lib.hid hS
  have hlt1 := hS.lt
  have HB1 := Lib.hid hb1
  have hbs := hb1.size
  clear hr hx hS hb1
  go_wp2_with fail
  refine (l31Draw_c _ _ w1 HS1.out).mono ?_
  rintro e w2 ⟨AH, cH, H, J, A2, c2, D, rfl, hoH, hoD, hlH, hlD, hJ, hBD, hq, hg⟩
  have HOH := Lib.hid hoH; have HOD := Lib.hid hoD; have HQw2 := Lib.hid hq; have HGw2 := Lib.hid hg; have HBD := Lib.hid hBD
  have hcapH := own_cap hoH
  have hcapD := own_cap hoD
  have hz2 := hg.size
  clear hoH hoD hq hg hBD
  go_wp2_with fail
  refine (spec_DeadlineFor AH cH H J A2 c2 D w2 (Rd.of_own1 HOH.out) (by omega) hcapH.1 (Rd.of_own HOD.out) (by omega) hcapD.1).mono ?_
  rintro e w3 ⟨rfl, hb3⟩
  obtain ⟨d, hd⟩ : ∃ d, (dlFor H J D).1 = d := ⟨_, rfl⟩
  obtain ⟨bad, hbad⟩ : ∃ d, (dlFor H J D).2 = d := ⟨_, rfl⟩
  have hdb : bad = 0 → 0 ≤ d ∧ d ≤ 20000 := fun h => by have := dead_last (hbad.trans h); rw [hd] at this; omega
  rw [hd, hbad]
  clear hd hbad
  have HH3 := Lib.hid (own_below HOH.out hb3); have HD3 := Lib.hid (own_below HOD.out hb3); have HQw3 := Lib.hid (HQw2.out.below hb3); have HGw3 := Lib.hid (grown_trans' HGw2.out (grown_of_below hb3 _)); have hz3 := hb3.size
  clear hb3 HOH HOD HQw2 HGw2
  go_upto_region 4 with fail
  go_cut [34] (fun s34 wc => ∃ b : Bool, s34 = .bool b ∧ (b = true → bad = 0) ∧ w1.heap.size ≤ wc.heap.size ∧ Hid (wc.ownsRow w1.heap.size 2 1 (.slice AH H.length cH) H.length (H.map (Value.int .i64))) ∧ Hid (wc.ownsRow w1.heap.size 64 5 (.slice A2 D.length c2) D.length (D.flatMap appealC)) ∧ Hid (Src wc w.heap.size w.heap.size) ∧ Hid (w1.grownBy wc (some w.heap.size)))
  case first =>
    by_cases hb : bad = 0
    · subst hb
      go_wp2_with fail
      refine (l01Next_c w.heap.size w.heap.size 3 w3 HQw3.out (by omega)).mono ?_
      rintro e w4 ⟨r, rfl, ⟨hr0, hr1⟩, hqw4, hgw4⟩
      have HQw4 := Lib.hid hqw4; have HGw4 := Lib.hid (grown_trans' HGw3.out hgw4); have hzw4 := hgw4.size
      clear hqw4
      have HH4 := Lib.hid (HH3.out.kept hgw4 (.inr (fun e => by have := HH3.out.lt _ e; omega)))
      have HD4 := Lib.hid (HD3.out.kept hgw4 (.inr (fun e => by have := HD3.out.lt _ e; omega)))
      go_wp2
      go_meet
      case rel => exact ⟨_, rfl, fun _ => by trivial, by omega, HH4, HD4, HQw4, HGw4⟩
    · have hbb : (bad == 0) = false := beq_eq_false_iff_ne.2 hb
      go_wp2
      go_meet
      case rel => exact ⟨false, rfl, fun h => absurd h (by simp), by omega, HH3, HD3, HQw3, HGw3⟩
  case rest =>
    obtain ⟨b, rfl, hbb, hzc, HH4, HD4, HQw4, HGw4⟩ := hcut
    obtain ⟨w4, rfl⟩ : ∃ x, x = wc := ⟨_, rfl⟩
    clear HH3 HD3 HQw3 HGw3
    cases b
    · clear hbb hdb
      go_wp2_with fail
      refine (l31Last_c J A2 c2 D w4 (Rd.of_own HD4.out) (by omega) hcapD.1).mono ?_
      rintro e w' ⟨rfl, rfl⟩
      have hlb : -1 ≤ lastAt J D D.length ∧ lastAt J D D.length ≤ 20001 := by
        unfold lastAt
        split
        · omega
        · rename_i h0
          rw [getD_lt (show D.length - 1 < D.length by omega)]
          exact (HBD.out _ (List.getElem_mem (show D.length - 1 < D.length by omega))).2
      generalize lastAt J D D.length = y at *
      go_upto_region 7 with fail
      go_cut [60] (fun s60 wc => ∃ b : Bool, s60 = .bool b ∧ (b = true → 0 < D.length) ∧ w1.heap.size ≤ wc.heap.size ∧ Hid (wc.ownsRow w1.heap.size 2 1 (.slice AH H.length cH) H.length (H.map (Value.int .i64))) ∧ Hid (wc.ownsRow w1.heap.size 64 5 (.slice A2 D.length c2) D.length (D.flatMap appealC)) ∧ Hid (Src wc w.heap.size w.heap.size) ∧ Hid (w1.grownBy wc (some w.heap.size)))
      case first =>
        by_cases hL : 0 < D.length
        · have hLi : (0 : Int) < (D.length : Int) := by omega
          go_wp2_with fail
          refine (l01Next_c w.heap.size w.heap.size 2 w4 HQw4.out (by omega)).mono ?_
          rintro e w5 ⟨r, rfl, ⟨hr0, hr1⟩, hqw5, hgw5⟩
          have HQw5 := Lib.hid hqw5; have HGw5 := Lib.hid (grown_trans' HGw4.out hgw5); have hzw5 := hgw5.size
          clear hqw5
          have HH5 := Lib.hid (HH4.out.kept hgw5 (.inr (fun e => by have := HH4.out.lt _ e; omega)))
          have HD5 := Lib.hid (HD4.out.kept hgw5 (.inr (fun e => by have := HD4.out.lt _ e; omega)))
          go_wp2
          go_meet
          case rel => exact ⟨_, rfl, fun _ => hL, by omega, HH5, HD5, HQw5, HGw5⟩
        · have hLi : ¬ (0 : Int) < (D.length : Int) := by omega
          go_wp2
          go_meet
          case rel => exact ⟨false, rfl, fun h => absurd h (by simp), by omega, HH4, HD4, HQw4, HGw4⟩
      case rest =>
        obtain ⟨b, rfl, hbL, hzc5, HH5, HD5, HQw5, HGw5⟩ := hcut
        obtain ⟨w5, rfl⟩ : ∃ x, x = wc := ⟨_, rfl⟩
        clear HH4 HD4 HQw4 HGw4
        go_upto_if 60 with fail
        go_cut [12] (fun s12 wc => ∃ y : Int, s12 = .int .i64 y ∧ (-1 ≤ y ∧ y ≤ 20001) ∧ wc = w5)
        case first =>
          cases b
          · go_wp2
            go_meet
            case rel => exact ⟨_, rfl, hlb, rfl⟩
          · have hL : 0 < D.length := hbL rfl
            have hL1 : (1 : Int) ≤ (D.length : Int) := by omega
            have hlt : D.length - 1 < D.length := by omega
            obtain ⟨bf, offf, rfl, hbf, hcf⟩ := Rd.elem appealC 5 (fun _ => rfl) (Rd.of_own HD5.out) (by omega) hlt
            have f0 : w5.cell? ⟨bf, offf + (D.length - 1) * 5, none⟩ = some (.int .i64 D[(D.length - 1)].level) := hcf (D.length - 1) hlt 0 _ rfl
            have f1 : w5.cell? ⟨bf, offf + (D.length - 1) * 5 + 1, none⟩ = some (.int .i64 D[(D.length - 1)].filed) := hcf (D.length - 1) hlt 1 _ rfl
            have f2 : w5.cell? ⟨bf, offf + (D.length - 1) * 5 + 2, none⟩ = some (.int .i64 D[(D.length - 1)].replied) := hcf (D.length - 1) hlt 2 _ rfl
            have f3 : w5.cell? ⟨bf, offf + (D.length - 1) * 5 + 3, none⟩ = some (.int .i64 D[(D.length - 1)].decided) := hcf (D.length - 1) hlt 3 _ rfl
            have f4 : w5.cell? ⟨bf, offf + (D.length - 1) * 5 + 4, none⟩ = some (.int .i64 D[(D.length - 1)].result) := hcf (D.length - 1) hlt 4 _ rfl
            have hfb := (HBD.out _ (List.getElem_mem hlt)).1
            clear hcf f0 f2 f3 f4
            generalize D[D.length - 1].filed = x1 at *
            go_wp2
            go_meet
            case rel => exact ⟨x1, rfl, by omega, rfl⟩
        case rest =>
          obtain ⟨z, rfl, hzb, rfl⟩ := hcut
          obtain ⟨w5, rfl⟩ : ∃ x, x = wc := ⟨_, rfl⟩
          go_wp2_with fail
          refine (l01Next_c w.heap.size w.heap.size 30 w5 HQw5.out (by omega)).mono ?_
          rintro e w6 ⟨r, rfl, ⟨hr0, hr1⟩, hqw6, hgw6⟩
          have HQw6 := Lib.hid hqw6; have HGw6 := Lib.hid (grown_trans' HGw5.out hgw6); have hzw6 := hgw6.size
          clear hqw6
          have HH6 := Lib.hid (HH5.out.kept hgw6 (.inr (fun e => by have := HH5.out.lt _ e; omega)))
          have HD6 := Lib.hid (HD5.out.kept hgw6 (.inr (fun e => by have := HD5.out.lt _ e; omega)))
          go_wp2_with fail
          generalize hW7 : w6.alloc _ = W7
          have hbW7 : Below w6.heap.size w6 W7 := by subst hW7; exact (Below.refl _ _).alloc (Nat.le_refl _) _
          have hsW7 : W7.heap.size = w6.heap.size + 1 := by subst hW7; simp
          have cxW7_0 : ∀ i, W7.cell? ⟨w6.heap.size, i, none⟩ = (#[.int .i64 z, .int .i64 (z + r), .int .i64 (z - 1), .int .i64 20001] : Array Value)[i]? := by intro i; subst hW7; simp [go_sem]
          have fzW7_0 : ∀ i, W7.frozen? ⟨w6.heap.size, i, none⟩ = false := by intro i; subst hW7; simp [go_sem]
          have HSW7 := Lib.hid hsW7; clear hW7 hsW7
          have HQW7 := Lib.hid (HQw6.out.below hbW7); have HGW7 := Lib.hid (grown_trans' HGw6.out (grown_of_below hbW7 _)); have hzW7 : W7.heap.size = w6.heap.size + 1 := HSW7.out
          clear HSW7
          have HH7 := Lib.hid (own_below HH6.out hbW7)
          have HD7 := Lib.hid (own_below HD6.out hbW7)
          refine (l01Pick_c w.heap.size w.heap.size (w6.heap.size) 0 _ [z, z + r, z - 1, 20001] W7 HQW7.out (by omega) (pick_box (L := [z, z + r, z - 1, 20001]) (fun i => by exact cxW7_0 i)) (by simp) (by simp) (by simp)).mono ?_
          rintro e w8 ⟨p, rfl, hpm, hqw8, hgw8⟩
          have HQw8 := Lib.hid hqw8; have HGw8 := Lib.hid (grown_trans' HGW7.out hgw8); have hzw8 := hgw8.size; have Hpm := Lib.hid hpm
          clear hqw8 hpm
          have HH8 := Lib.hid (HH7.out.kept hgw8 (.inr (fun e => by have := HH7.out.lt _ e; omega)))
          have HD8 := Lib.hid (HD7.out.kept hgw8 (.inr (fun e => by have := HD7.out.lt _ e; omega)))
          go_wp2
          refine bodyPost_ret (v := .tuple #[.slice AH H.length cH, .int .i64 J, .slice A2 D.length c2, .int .i64 p]) (by simp [results, Try.results33, go_sem]) rfl ?_
          exact ⟨AH, cH, H, J, A2, c2, D, p, rfl, own_mono HH8.out HB1.out.size, own_mono HD8.out HB1.out.size, hlH, hlD, HBD.out, below_src HB1.out HGw8.out⟩
    · have hd := hdb (hbb rfl)
      go_wp2_with fail
      refine (l01Next_c w.heap.size w.heap.size 20 w4 HQw4.out (by omega)).mono ?_
      rintro e w5 ⟨r, rfl, ⟨hr0, hr1⟩, hqw5, hgw5⟩
      have HQw5 := Lib.hid hqw5; have HGw5 := Lib.hid (grown_trans' HGw4.out hgw5); have hzw5 := hgw5.size
      clear hqw5
      have HH5 := Lib.hid (HH4.out.kept hgw5 (.inr (fun e => by have := HH4.out.lt _ e; omega)))
      have HD5 := Lib.hid (HD4.out.kept hgw5 (.inr (fun e => by have := HD4.out.lt _ e; omega)))
      go_wp2_with fail
      generalize hW6 : w5.alloc _ = W6
      have hbW6 : Below w5.heap.size w5 W6 := by subst hW6; exact (Below.refl _ _).alloc (Nat.le_refl _) _
      have hsW6 : W6.heap.size = w5.heap.size + 1 := by subst hW6; simp
      have cxW6_0 : ∀ i, W6.cell? ⟨w5.heap.size, i, none⟩ = (#[.int .i64 d, .int .i64 (d + 1), .int .i64 (d - r), .int .i64 (d - 60)] : Array Value)[i]? := by intro i; subst hW6; simp [go_sem]
      have fzW6_0 : ∀ i, W6.frozen? ⟨w5.heap.size, i, none⟩ = false := by intro i; subst hW6; simp [go_sem]
      have HSW6 := Lib.hid hsW6; clear hW6 hsW6
      have HQW6 := Lib.hid (HQw5.out.below hbW6); have HGW6 := Lib.hid (grown_trans' HGw5.out (grown_of_below hbW6 _)); have hzW6 : W6.heap.size = w5.heap.size + 1 := HSW6.out
      clear HSW6
      have HH6 := Lib.hid (own_below HH5.out hbW6)
      have HD6 := Lib.hid (own_below HD5.out hbW6)
      refine (l01Pick_c w.heap.size w.heap.size (w5.heap.size) 0 _ [d, d + 1, d - r, d - 60] W6 HQW6.out (by omega) (pick_box (L := [d, d + 1, d - r, d - 60]) (fun i => by exact cxW6_0 i)) (by simp) (by simp) (by simp)).mono ?_
      rintro e w7 ⟨p, rfl, hpm, hqw7, hgw7⟩
      have HQw7 := Lib.hid hqw7; have HGw7 := Lib.hid (grown_trans' HGW6.out hgw7); have hzw7 := hgw7.size; have Hpm := Lib.hid hpm
      clear hqw7 hpm
      have HH7 := Lib.hid (HH6.out.kept hgw7 (.inr (fun e => by have := HH6.out.lt _ e; omega)))
      have HD7 := Lib.hid (HD6.out.kept hgw7 (.inr (fun e => by have := HD6.out.lt _ e; omega)))
      go_wp2
      refine bodyPost_ret (v := .tuple #[.slice AH H.length cH, .int .i64 J, .slice A2 D.length c2, .int .i64 p]) (by simp [results, Try.results33, go_sem]) rfl ?_
      exact ⟨AH, cH, H, J, A2, c2, D, p, rfl, own_mono HH7.out HB1.out.size, own_mono HD7.out HB1.out.size, hlH, hlD, HBD.out, below_src HB1.out HGw7.out⟩
set_option maxRecDepth 100000 in
set_option maxHeartbeats 4000000 in
theorem DrawReplyAppeal_c (A : Option Addr) (c : Nat) (L : List Int) (w : World) (hr : Rd w w.heap.size A L.length (L.map (Value.int .u8))) (hx : ∀ x ∈ L, 0 ≤ x ∧ x ≤ 255) (hL : L.length ≤ 4096) (hc : L.length ≤ c) : Calls Try.prog 38 #[.slice A L.length c] w (FileP w) := by
  go_enter Try.func38, Try.ntmps38
  go_wp2_with fail
  refine (DrawFileAppeal_c A c L w hr hx hL hc).mono ?_
  rintro e w1 ⟨AH, cH, H, J, A2, c2, D, day, rfl, h⟩
  go_wp2
  refine bodyPost_ret (v := .tuple #[.slice AH H.length cH, .int .i64 J, .slice A2 D.length c2, .int .i64 day]) (by simp [results, Try.results38, go_sem]) rfl ?_
  exact ⟨AH, cH, H, J, A2, c2, D, day, rfl, h⟩
set_option maxRecDepth 100000 in
set_option maxHeartbeats 4000000 in
theorem DrawIsFinalOn_c (A : Option Addr) (c : Nat) (L : List Int) (w : World) (hr : Rd w w.heap.size A L.length (L.map (Value.int .u8))) (hx : ∀ x ∈ L, 0 ≤ x ∧ x ≤ 255) (hL : L.length ≤ 4096) (hc : L.length ≤ c) : Calls Try.prog 47 #[.slice A L.length c] w (FileP w) := by
  go_enter Try.func47, Try.ntmps47
  go_wp2_with fail
  refine (DrawFileAppeal_c A c L w hr hx hL hc).mono ?_
  rintro e w1 ⟨AH, cH, H, J, A2, c2, D, day, rfl, h⟩
  go_wp2
  refine bodyPost_ret (v := .tuple #[.slice AH H.length cH, .int .i64 J, .slice A2 D.length c2, .int .i64 day]) (by simp [results, Try.results47, go_sem]) rfl ?_
  exact ⟨AH, cH, H, J, A2, c2, D, day, rfl, h⟩
set_option maxRecDepth 100000 in
set_option maxHeartbeats 4000000 in
theorem DrawDecideAppeal_c (A : Option Addr) (c : Nat) (L : List Int) (w : World) (hr : Rd w w.heap.size A L.length (L.map (Value.int .u8))) (hx : ∀ x ∈ L, 0 ≤ x ∧ x ≤ 255) (hL : L.length ≤ 4096) (hc : L.length ≤ c) : Calls Try.prog 41 #[.slice A L.length c] w (DecP w) := by
  go_enter Try.func41, Try.ntmps41
  go_wp2_with fail
  refine (l01From_c A c L w hr hx hL hc).mono ?_
  rintro e w1 ⟨rfl, hS, hb1⟩
  have HS1 := Lib.hid hS
  have hlt1 := hS.lt
  have HB1 := Lib.hid hb1
  have hbs := hb1.size
  have HR1 := Lib.hid (rdW hb1 hr)
  clear hr hS hb1
  go_wp2_with fail
  refine (DrawFileAppeal_c A c L w1 HR1.out hx hL hc).mono ?_
  rintro e w2 ⟨AH, cH, H, J, A2, c2, D, day, rfl, hoH, hoD, hlH, hlD, hBD, hb2⟩
  have HH2 := Lib.hid hoH; have HD2 := Lib.hid hoD; have HB2 := Lib.hid (bt HB1.out hb2); have hz2 := hb2.size; have HBD := Lib.hid hBD
  have HQw2 := Lib.hid (HS1.out.below hb2)
  have HGw2 := Lib.hid (World.grownBy.refl w2 (some w.heap.size))
  clear hoH hoD hb2 hBD HR1 HS1 hx
  go_wp2_with fail
  generalize hW3 : w2.alloc _ = W3
  have hbW3 : Below w2.heap.size w2 W3 := by subst hW3; exact (Below.refl _ _).alloc (Nat.le_refl _) _
  have hsW3 : W3.heap.size = w2.heap.size + 1 := by subst hW3; simp
  have cxW3_0 : ∀ i, W3.cell? ⟨w2.heap.size, i, none⟩ = (#[.int .i64 1, .int .i64 2, .int .i64 3, .int .i64 1, .int .i64 2, .int .i64 0, .int .i64 4] : Array Value)[i]? := by intro i; subst hW3; simp [go_sem]
  have fzW3_0 : ∀ i, W3.frozen? ⟨w2.heap.size, i, none⟩ = false := by intro i; subst hW3; simp [go_sem]
  have HSW3 := Lib.hid hsW3; clear hW3 hsW3
  have HQW3 := Lib.hid (HQw2.out.below hbW3); have HGW3 := Lib.hid (grown_trans' HGw2.out (grown_of_below hbW3 _)); have hzW3 : W3.heap.size = w2.heap.size + 1 := HSW3.out
  clear HSW3
  have HH3 := Lib.hid (own_below HH2.out hbW3)
  have HD3 := Lib.hid (own_below HD2.out hbW3)
  refine (l01Pick_c w.heap.size w.heap.size (w2.heap.size) 0 _ [1, 2, 3, 1, 2, 0, 4] W3 HQW3.out (by omega) (pick_box (L := [1, 2, 3, 1, 2, 0, 4]) (fun i => by exact cxW3_0 i)) (by simp) (by simp) (by simp)).mono ?_
  rintro e w4 ⟨p, rfl, hpm, hqw4, hgw4⟩
  have HQw4 := Lib.hid hqw4; have HGw4 := Lib.hid (grown_trans' HGW3.out hgw4); have hzw4 := hgw4.size; have Hpm := Lib.hid hpm
  clear hqw4 hpm
  have HH4 := Lib.hid (HH3.out.kept hgw4 (.inr (fun e => by have := HH3.out.lt _ e; omega)))
  have HD4 := Lib.hid (HD3.out.kept hgw4 (.inr (fun e => by have := HD3.out.lt _ e; omega)))
  go_wp2
  refine bodyPost_ret (v := .tuple #[.slice AH H.length cH, .int .i64 J, .slice A2 D.length c2, .int .i64 p, .int .i64 day]) (by simp [results, Try.results41, go_sem]) rfl ?_
  exact ⟨AH, cH, H, J, A2, c2, D, p, day, rfl, own_mono HH4.out HB1.out.size, own_mono HD4.out HB1.out.size, hlH, hlD, HBD.out, below_src HB2.out HGw4.out⟩
end Go.Proofs.Ytdohegpbdlcnjaa
