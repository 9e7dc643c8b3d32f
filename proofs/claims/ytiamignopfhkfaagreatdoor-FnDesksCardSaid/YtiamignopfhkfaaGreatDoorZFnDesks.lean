/- The walk of the law FnDesks: it returns true, and nothing that was there is changed. -/
import Derived.Test.YtiamignopfhkfaaGreatDoorZFnRunConsole
import Derived.Test.YtiamignopfhkfaaGreatDoorZDrawC3
import Derived.Test.YtiamignopfhkfaaGreatDoorZLikeC
import Derived.Test.YtiamignopfhkfaaGreatDoorZ41
namespace Go.Proofs.YtiamignopfhkfaaGreatDoor
open Go.RowKit
set_option linter.unusedVariables false
set_option maxRecDepth 100000 in
set_option maxHeartbeats 8000000 in
theorem law_Desks (A : Option Addr) (c : Nat) (L : List Int) (w : World) (hr : Rd w w.heap.size A L.length (L.map (Value.int .u8))) (hl : L.length ≤ maxLen) (hx : ∀ x ∈ L, 0 ≤ x ∧ x ≤ 255) (hc : L.length ≤ c) (hE : JEnv w ∧ MaxW w) :
    Calls Tryz.prog 5 #[.slice A L.length c] w fun e w' => e = .returned (.bool true) ∧ Below w.heap.size w w' := by
  unfold maxLen at hl
  have HRB := Lib.hid hr; have HXB := Lib.hid hx; have HE := Lib.hid (fun (W : World) (hb : Below w.heap.size w W) => JEnvM.below hE hb); clear hr hx hE
  by_cases hbig : 4096 < L.length
  · go_enter Tryz.func5, Tryz.ntmps5
    go_wp2_with fail
    refine (big_c A L.length c true w (by omega) (by simp [hbig])).mono ?_
    rintro e w' ⟨rfl, rfl⟩
    go_wp2
    go_ret
    exact ⟨rfl, Below.refl _ _⟩
  go_enter Tryz.func5, Tryz.ntmps5
  go_wp2_with fail
  refine (big_c A L.length c false w (by omega) (by simp; omega)).mono ?_
  rintro e w0 ⟨rfl, rfl⟩
  go_wp2_with fail
  refine (DrawDeskAfter_c A c L w HRB.out HXB.out (by omega) hc).mono ?_
  rintro e w1 ⟨t, rfl, ht, hb1⟩
  have HI := Lib.hid (fun (W : World) (hb : Below w.heap.size w W) => impl_DeskAfter t W (by omega) (HE.out W hb).1 (HE.out W hb).2)
  have HS := Lib.hid (fun W => spec_DeskAfter t W (by omega))
  unfold AftI at HI
  unfold AftQ at HS
  have hgd := deskT_good t
  have hn := hgd.lens
  have HGD := Lib.hid hgd
  generalize deskT t = d at *
  generalize codeT t = q at *
  clear hgd
  go_wp2_with fail
  refine (HI.out w1 hb1).mono ?_
  rintro e w2 ⟨v, rfl, ⟨P1, P2, P3, p1, p2, p3, rfl, hp⟩, hb2⟩
  go_upto_region 5 with fail
  have X4 := Lib.hid (BD.new w2 (.slice P1 d.H.length p1) (.slice P2 d.K.length p2) (.slice P3 d.M.length p3))
  have hxX4 : Below w2.heap.size w2 (w2.alloc (.cells #[.slice P1 d.H.length p1, .slice P2 d.K.length p2, .slice P3 d.M.length p3] 34)) := (Below.refl _ _).alloc (Nat.le_refl _) _
  generalize w2.alloc (.cells #[.slice P1 d.H.length p1, .slice P2 d.K.length p2, .slice P3 d.M.length p3] 34) = W2 at *
  have HP := Lib.hid ((hp.mono (Nat.zero_le _)).below hxX4)
  have HPC := Lib.hid hp.caps
  have hB2 := bt hb1 (bt hb2 hxX4)
  clear hp
  go_wp2_with fail
  refine (HS.out W2).mono ?_
  rintro e w3 ⟨v, rfl, ⟨A1, A2, A3, c1, c2, c3, rfl, hr⟩, hb3⟩
  go_upto_region 6 with fail
  have X6 := Lib.hid (BD.new w3 (.slice A1 d.H.length c1) (.slice A2 d.K.length c2) (.slice A3 d.M.length c3))
  have hxX6 : Below w3.heap.size w3 (w3.alloc (.cells #[.slice A1 d.H.length c1, .slice A2 d.K.length c2, .slice A3 d.M.length c3] 34)) := (Below.refl _ _).alloc (Nat.le_refl _) _
  generalize w3.alloc (.cells #[.slice A1 d.H.length c1, .slice A2 d.K.length c2, .slice A3 d.M.length c3] 34) = W3 at *
  have HR := Lib.hid (hr.below hxX6)
  have HRC := Lib.hid hr.caps
  have hK3 := bt hb3 hxX6
  have hB3 := bt hB2 hK3
  replace HP := Lib.hid (HP.out.below hK3)
  replace X4 := Lib.hid (X4.out.below hK3)
  clear hr
  go_wp2_with fail
  refine (DrawIsDesk_c A c L W3 (rdW hB3 HRB.out) HXB.out (by omega) hc).mono ?_
  rintro e w4 ⟨B1, B2, B3, b1, b2, b3, H, K, M, rfl, kr1, kr2, kr3, hbl, hbc, hW, hb4⟩
  have HW := Lib.hid hW
  have HBC := Lib.hid hbc
  clear hW hbc
  go_upto_region 7 with fail
  have X8 := Lib.hid (BD.new w4 (.slice B1 H.length b1) (.slice B2 K.length b2) (.slice B3 M.length b3))
  have hxX8 : Below w4.heap.size w4 (w4.alloc (.cells #[.slice B1 H.length b1, .slice B2 K.length b2, .slice B3 M.length b3] 34)) := (Below.refl _ _).alloc (Nat.le_refl _) _
  generalize w4.alloc (.cells #[.slice B1 H.length b1, .slice B2 K.length b2, .slice B3 M.length b3] 34) = W4 at *
  have hK4 := bt hb4 hxX8
  have hB4 := bt hB3 hK4
  replace HP := Lib.hid (HP.out.below hK4)
  replace HR := Lib.hid (HR.out.below hK4)
  replace X4 := Lib.hid (X4.out.below hK4)
  replace X6 := Lib.hid (X6.out.below hK4)
  have HK1 := Lib.hid (rdW hxX8 kr1)
  have HK2 := Lib.hid (rdW hxX8 kr2)
  have HK3 := Lib.hid (rdW hxX8 kr3)
  obtain ⟨l1, l2, l3⟩ := hbl
  clear kr1 kr2 kr3 hb1 hb2 hb3 hb4 hxX4 hxX6 hxX8 hK3 hK4 hB2 hB3 HI HS HRB HXB HE
  have HKd : Hid (∀ W1 : World, Below W4.heap.size W4 W1 → ((W1.cell? ⟨w2.heap.size, 0, none⟩ = some (.slice P1 d.H.length p1)) ∧ (W1.cell? ⟨w2.heap.size, 1, none⟩ = some (.slice P2 d.K.length p2)) ∧ (W1.cell? ⟨w2.heap.size, 2, none⟩ = some (.slice P3 d.M.length p3)) ∧ (W1.cell? ⟨w3.heap.size, 0, none⟩ = some (.slice A1 d.H.length c1)) ∧ (W1.cell? ⟨w3.heap.size, 1, none⟩ = some (.slice A2 d.K.length c2)) ∧ (W1.cell? ⟨w3.heap.size, 2, none⟩ = some (.slice A3 d.M.length c3)) ∧ (W1.cell? ⟨w4.heap.size, 0, none⟩ = some (.slice B1 H.length b1)) ∧ (W1.cell? ⟨w4.heap.size, 1, none⟩ = some (.slice B2 K.length b2)) ∧ (W1.cell? ⟨w4.heap.size, 2, none⟩ = some (.slice B3 M.length b3)) ∧ Below W4.heap.size W4 W1)) := fun W1 h => ⟨(X4.out.below h).c0, (X4.out.below h).c1, (X4.out.below h).c2, (X6.out.below h).c0, (X6.out.below h).c1, (X6.out.below h).c2, (X8.out.below h).c0, (X8.out.below h).c1, (X8.out.below h).c2, h⟩
  go_region_held3 (fun W1 => (W1.cell? ⟨w2.heap.size, 0, none⟩ = some (.slice P1 d.H.length p1)) ∧ (W1.cell? ⟨w2.heap.size, 1, none⟩ = some (.slice P2 d.K.length p2)) ∧ (W1.cell? ⟨w2.heap.size, 2, none⟩ = some (.slice P3 d.M.length p3)) ∧ (W1.cell? ⟨w3.heap.size, 0, none⟩ = some (.slice A1 d.H.length c1)) ∧ (W1.cell? ⟨w3.heap.size, 1, none⟩ = some (.slice A2 d.K.length c2)) ∧ (W1.cell? ⟨w3.heap.size, 2, none⟩ = some (.slice A3 d.M.length c3)) ∧ (W1.cell? ⟨w4.heap.size, 0, none⟩ = some (.slice B1 H.length b1)) ∧ (W1.cell? ⟨w4.heap.size, 1, none⟩ = some (.slice B2 K.length b2)) ∧ (W1.cell? ⟨w4.heap.size, 2, none⟩ = some (.slice B3 M.length b3)) ∧ Below W4.heap.size W4 W1) (first | exact HKd.out _ ((Below.refl _ _).drew) | exact HKd.out _ (bt (by assumption) hbw5) | exact HKd.out _ (bt (by assumption) hbw6) | exact HKd.out _ (bt (by assumption) hbw7) | exact HKd.out _ (bt (by assumption) hbw8) | exact HKd.out _ (bt (by assumption) hbw9))
    ((first
      | (go_at_call 22; go_split_ands; refine (likeInts_c P1 A1 d.H.length p1 c1 d.H _ rfl (rdW (by assumption) HP.out.rd1) (rdW (by assumption) HR.out.rd1) (by omega) HPC.out.1 HRC.out.1).mono ?_; rintro e w5 ⟨rfl, hbw5⟩)
      | (go_at_call 23; go_split_ands; refine (likeCalls_c P2 A2 d.K.length p2 c2 d.K _ rfl (rdW (by assumption) HP.out.rd2) (rdW (by assumption) HR.out.rd2) (by omega)).mono ?_; rintro e w6 ⟨rfl, hbw6⟩)
      | (go_at_call 24; go_split_ands; refine (likeMotions_c P3 A3 d.M.length p3 c3 d.M _ rfl (rdW (by assumption) HP.out.rd3) (rdW (by assumption) HR.out.rd3) (by omega)).mono ?_; rintro e w7 ⟨rfl, hbw7⟩)
      | (go_at_call 25; go_split_ands; refine (impl_IsDesk B1 B2 B3 b1 b2 b3 H K M _ _ (rdW (by assumption) HK1.out) (rdW (by assumption) HK2.out) (rdW (by assumption) HK3.out) (by omega) HBC.out.1 (by omega) HBC.out.2.1 (by omega) HBC.out.2.2 HW.out rfl).mono ?_; rintro e w8 ⟨rfl, hbw8⟩)
      | (go_at_call 26; go_split_ands; refine (spec_IsDesk B1 B2 B3 b1 b2 b3 H K M _ _ (rdW (by assumption) HK1.out) (rdW (by assumption) HK2.out) (rdW (by assumption) HK3.out) (by omega) HBC.out.1 (by omega) HBC.out.2.1 (by omega) HBC.out.2.2 HW.out rfl).mono ?_; rintro e w9 ⟨rfl, hbw9⟩)))
  all_goals
    have hKE : Below W4.heap.size W4 w9 := bt (by assumption) hbw9
    have hBE := bt hB4 hKE
    have X4e := Lib.hid (X4.out.below hKE)
    have HPe := Lib.hid (HP.out.below hKE)
    clear hbw5 hbw6 hbw7 hbw8 hbw9 X4 X6 X8 HP HR HKd HK1 HK2 HK3
    have e0 := X4e.out.c0
    have e1 := X4e.out.c1
    have e2 := X4e.out.c2
    by_cases h0 : q = 0
    · subst h0
      have hok : deskOk d.H d.K d.M = true := by unfold deskOk; rw [HGD.out.1, HGD.out.2.1, HGD.out.2.2.1]; rfl
      go_wp2_with fail
      refine (impl_IsDesk P1 P2 P3 p1 p2 p3 d.H d.K d.M true w9 HPe.out.rd1 HPe.out.rd2 HPe.out.rd3 (by omega) HPC.out.1 (by omega) HPC.out.2.1 (by omega) HPC.out.2.2 HGD.out.2.2.2 hok).mono ?_
      rintro e w10 ⟨rfl, hb10⟩
      go_wp2
      go_ret
      exact ⟨rfl, bt hBE hb10⟩
    · have hqn : (q != 0) = true := bne_iff_ne.2 h0
      go_wp2
      go_ret
      exact ⟨rfl, hBE⟩
end Go.Proofs.YtiamignopfhkfaaGreatDoor
