/- The walk of the law FnExactDeskAfter: it returns true, and nothing that was there is changed. -/
import Derived.Test.YtiamignopfhkfaaGreatDoorZRunI
import Derived.Test.YtiamignopfhkfaaGreatDoorZFnRunConsole
namespace Go.Proofs.YtiamignopfhkfaaGreatDoor
open Go.RowKit
set_option linter.unusedVariables false
/-- The desk whose fields bear the marks from 1 on. -/
def mkD (d : DeskD) : DeskD := ⟨intMarks 1 d.H.length, callMarks (1 + (d.H.length : Int) * 1) d.K.length, motionMarks (1 + (d.H.length : Int) * 1 + (d.K.length : Int) * 4) d.M.length⟩
/-- The three rows bear the marks. -/
def MkW (B : Nat) (A1 A2 A3 : Option Addr) (c1 c2 c3 a b m : Nat) (W : World) : Prop :=
  W.ownsRow B 2 1 (.slice A1 a c1) a ((intMarks 1 a).map (Value.int .i64)) ∧ W.ownsRow B 68 4 (.slice A2 b c2) b ((callMarks (1 + (a : Int) * 1) b).flatMap callC) ∧ W.ownsRow B 70 6 (.slice A3 m c3) m ((motionMarks (1 + (a : Int) * 1 + (b : Int) * 4) m).flatMap motionC)
theorem MkW.below {B : Nat} {A1 A2 A3 : Option Addr} {c1 c2 c3 a b m : Nat} {W W' : World} (h : MkW B A1 A2 A3 c1 c2 c3 a b m W) (hb : Below W.heap.size W W') : MkW B A1 A2 A3 c1 c2 c3 a b m W' := ⟨own_below h.1 hb, own_below h.2.1 hb, own_below h.2.2 hb⟩
/-- What markDesk does: the marks are in the rows, nothing that was there ahead of B is changed, and no desk's box. -/
def MarkP (B : Nat) (A1 A2 A3 : Option Addr) (c1 c2 c3 a b m : Nat) (w : World) (e : Ending) (w' : World) : Prop :=
  e = .returned (.int .i64 (1 + (a : Int) * 1 + (b : Int) * 4 + (m : Int) * 6)) ∧ MkW B A1 A2 A3 c1 c2 c3 a b m w' ∧
    (∀ V0 : World, B ≤ V0.heap.size → Below B V0 w → Below B V0 w') ∧ (∀ k v0 v1 v2, BD w k v0 v1 v2 → BD w' k v0 v1 v2)
set_option maxRecDepth 100000 in
set_option maxHeartbeats 4000000 in
theorem markDesk_c (A1 A2 A3 : Option Addr) (c1 c2 c3 : Nat) (a b m : Nat) (w : World) (B : Nat) (H K M : List Value) (h1 : w.ownsRow B 2 1 (.slice A1 a c1) a H) (h2 : w.ownsRow B 68 4 (.slice A2 b c2) b K) (h3 : w.ownsRow B 70 6 (.slice A3 m c3) m M) (ha : a ≤ 1000) (hb : b ≤ 1000) (hm : m ≤ 1000) :
    Calls Tryz.prog 18 #[.agg #[.slice A1 a c1, .slice A2 b c2, .slice A3 m c3], .int .i64 1] w (MarkP B A1 A2 A3 c1 c2 c3 a b m w) := by
  go_enter Tryz.func18, Tryz.ntmps18
  go_wp2_with fail
  have HX0 := Lib.hid (BD.new w (.slice A1 a c1) (.slice A2 b c2) (.slice A3 m c3))
  have hbW : Below w.heap.size w (w.alloc (.cells #[.slice A1 a c1, .slice A2 b c2, .slice A3 m c3] 34)) := (Below.refl _ _).alloc (Nat.le_refl _) _
  generalize w.alloc (.cells #[.slice A1 a c1, .slice A2 b c2, .slice A3 m c3] 34) = W0 at *
  replace h1 := own_below h1 hbW
  replace h2 := own_below h2 hbW
  replace h3 := own_below h3 hbW
  have N1 := Lib.hid h1; have N2 := Lib.hid h2; have N3 := Lib.hid h3
  refine (markInt64S_c A1 a c1 B H 1 W0 h1 (by omega) (by omega) (by omega)).mono ?_
  rintro e w1 ⟨rfl, o1, hg1⟩
  generalize hq1 : 1 + (a : Int) * 1 = q1
  have hqb1 : 0 ≤ q1 ∧ q1 ≤ 1001 := by omega
  have HQ1 := Lib.hid hq1
  clear hq1
  have HX1 := Lib.hid (HX0.out.farOwn N1.out hg1 (by decide))
  replace h2 := h2.kept hg1 (own_not_own N2.out N1.out (by decide))
  replace h3 := h3.kept hg1 (own_not_own N3.out N1.out (by decide))
  have e1 := HX1.out.c1
  have M2 := Lib.hid h2
  go_wp2_with fail
  refine (markCallS_c A2 b c2 B K q1 w1 h2 (by omega) hqb1.1 (by omega)).mono ?_
  rintro e w2 ⟨rfl, o2, hg2⟩
  generalize hq2 : q1 + (b : Int) * 4 = q2
  have hqb2 : 0 ≤ q2 ∧ q2 ≤ 5001 := by omega
  have HQ2 := Lib.hid hq2
  clear hq2
  have HX2 := Lib.hid (HX1.out.farOwn M2.out hg2 (by decide))
  have e2 := HX2.out.c2
  have O1 := Lib.hid (o1.kept hg2 (own_not_own o1 M2.out (by decide)))
  replace h3 := h3.kept hg2 (own_not_own h3 M2.out (by decide))
  have M3 := Lib.hid h3
  clear o1
  go_wp2_with fail
  refine (markMotionS_c A3 m c3 B M q2 w2 h3 (by omega) hqb2.1 (by omega)).mono ?_
  rintro e w3 ⟨rfl, o3, hg3⟩
  generalize hq3 : q2 + (m : Int) * 6 = q3
  have HQ3 : Hid (1 + (a : Int) * 1 + (b : Int) * 4 + (m : Int) * 6 = q3) := by have h1 := HQ1.out; have h2 := HQ2.out; unfold Hid; omega
  clear hq3
  have HO : Hid (MkW B A1 A2 A3 c1 c2 c3 a b m w3) := ⟨O1.out.kept hg3 (own_not_own O1.out M3.out (by decide)), by rw [HQ1.out]; exact o2.kept hg3 (own_not_own o2 M3.out (by decide)), by rw [HQ1.out, HQ2.out]; exact o3⟩
  have HB : Hid (∀ V0 : World, B ≤ V0.heap.size → Below B V0 w → Below B V0 w3) := fun V0 hV h =>
    below_grown (below_grown (below_grown (below_then h hbW hV) hg1 hV (fun g hg => (N1.out.lt g hg).1)) hg2 hV (fun g hg => (M2.out.lt g hg).1)) hg3 hV (fun g hg => (M3.out.lt g hg).1)
  have HK : Hid (∀ k v0 v1 v2, BD w k v0 v1 v2 → BD w3 k v0 v1 v2) := fun k v0 v1 v2 h => (((h.below hbW).farOwn N1.out hg1 (by decide)).farOwn M2.out hg2 (by decide)).farOwn M3.out hg3 (by decide)
  clear o2 o3 h1 h2 h3
  go_wp2
  go_ret
  exact ⟨by rw [HQ3.out]; rfl, HO.out, HB.out, HK.out⟩
set_option maxRecDepth 100000 in
set_option maxHeartbeats 4000000 in
theorem heldDesk_c (A1 A2 A3 : Option Addr) (c1 c2 c3 : Nat) (a b m : Nat) (w : World) (B : Nat) (ho : MkW B A1 A2 A3 c1 c2 c3 a b m w) (ha : a ≤ 1000) (hb : b ≤ 1000) (hm : m ≤ 1000) :
    Calls Tryz.prog 19 #[.agg #[.slice A1 a c1, .slice A2 b c2, .slice A3 m c3], .int .i64 1] w fun e w' => e = .returned (.int .i64 (1 + (a : Int) * 1 + (b : Int) * 4 + (m : Int) * 6)) ∧ Below w.heap.size w w' := by
  go_enter Tryz.func19, Tryz.ntmps19
  go_wp2_with fail
  have HX0 := Lib.hid (BD.new w (.slice A1 a c1) (.slice A2 b c2) (.slice A3 m c3))
  have hbW : Below w.heap.size w (w.alloc (.cells #[.slice A1 a c1, .slice A2 b c2, .slice A3 m c3] 34)) := (Below.refl _ _).alloc (Nat.le_refl _) _
  generalize w.alloc (.cells #[.slice A1 a c1, .slice A2 b c2, .slice A3 m c3] 34) = W0 at *
  have HO := Lib.hid (ho.below hbW)
  clear ho
  refine (heldInt64S_c A1 a c1 1 W0 (Rd.of_own1 HO.out.1) (by omega) (by omega) (by omega)).mono ?_
  rintro e w1 ⟨rfl, hb1⟩
  generalize hq1 : 1 + (a : Int) * 1 = q1
  have hqb1 : 0 ≤ q1 ∧ q1 ≤ 1001 := by omega
  have HQ1 := Lib.hid hq1
  clear hq1
  have HX1 := Lib.hid (HX0.out.below hb1)
  replace HO := Lib.hid (HO.out.below hb1)
  have hB1 := bt hbW hb1
  have e1 := HX1.out.c1
  go_wp2_with fail
  refine (heldCallS_c A2 b c2 q1 w1 (Rd.of_own (by have h := HO.out.2.1; rw [HQ1.out] at h; exact h)) (by omega) hqb1.1 (by omega)).mono ?_
  rintro e w2 ⟨rfl, hb2⟩
  generalize hq2 : q1 + (b : Int) * 4 = q2
  have hqb2 : 0 ≤ q2 ∧ q2 ≤ 5001 := by omega
  have HQ2 := Lib.hid hq2
  clear hq2
  have HX2 := Lib.hid (HX1.out.below hb2)
  replace HO := Lib.hid (HO.out.below hb2)
  have hB2 := bt hB1 hb2
  have e2 := HX2.out.c2
  go_wp2_with fail
  refine (heldMotionS_c A3 m c3 q2 w2 (Rd.of_own (by have h := HO.out.2.2; rw [HQ1.out, HQ2.out] at h; exact h)) (by omega) hqb2.1 (by omega)).mono ?_
  rintro e w3 ⟨rfl, hb3⟩
  generalize hq3 : q2 + (m : Int) * 6 = q3
  have hqb3 : 0 ≤ q3 := by omega
  have HQ3 : Hid (1 + (a : Int) * 1 + (b : Int) * 4 + (m : Int) * 6 = q3) := by have h1 := HQ1.out; have h2 := HQ2.out; unfold Hid; omega
  clear hq3
  have hB3 := bt hB2 hb3
  go_wp2
  go_ret
  exact ⟨by rw [HQ3.out]; rfl, hB3⟩

set_option maxRecDepth 100000 in
set_option maxHeartbeats 8000000 in
theorem law_DeskAfter (s : ByteArray) (w : World) (hs : s.size ≤ maxLen) (hE : JEnv w ∧ MaxW w) :
    Calls Tryz.prog 4 #[.string s] w fun e w' => e = .returned (.bool true) ∧ Below w.heap.size w w' := by
  unfold maxLen at hs
  by_cases hbig : (1048576 : Int) < s.size
  · go_enter Tryz.func4, Tryz.ntmps4
    go_wp2
    go_ret
    exact ⟨rfl, Below.refl _ _⟩
  have h2 : s.size ≤ 2000000 := by omega
  have HS := Lib.hid (fun W => spec_DeskAfter s W h2)
  have HI := Lib.hid (fun (W : World) (hb : Below w.heap.size w W) => impl_DeskAfter s W h2 (JEnvM.below hE hb).1 (JEnvM.below hE hb).2)
  unfold AftQ at HS
  unfold AftI at HI
  have hn := (deskT_good s).lens
  generalize deskT s = D at *
  generalize codeT s = q at *
  have HEQ := Lib.hid (fun (W : World) (A1 A2 A3 B1 B2 B3 : Option Addr) (c1 c2 c3 b1 b2 b3 : Nat) (r : RowsW 0 D A1 A2 A3 c1 c2 c3 W) (r' : RowsW 0 D B1 B2 B3 b1 b2 b3 W) => eqDesk_c A1 A2 A3 B1 B2 B3 c1 c2 c3 b1 b2 b3 D.H D.K D.M W r.rd1 r.rd2 r.rd3 r'.rd1 r'.rd2 r'.rd3 (by omega) (by omega) (by omega))
  go_enter Tryz.func4, Tryz.ntmps4
  go_wp2_with fail
  refine (HS.out w).mono ?_
  rintro e w1 ⟨v, rfl, ⟨A1, A2, A3, c1, c2, c3, rfl, hr1⟩, hb1⟩
  have hz01 := hb1.size
  go_upto_region 4 with fail
  have X3 := Lib.hid (BD.new w1 (.slice A1 D.H.length c1) (.slice A2 D.K.length c2) (.slice A3 D.M.length c3))
  have hbx : Below w1.heap.size w1 (w1.alloc (.cells #[.slice A1 D.H.length c1, .slice A2 D.K.length c2, .slice A3 D.M.length c3] 34)) := (Below.refl _ _).alloc (Nat.le_refl _) _
  generalize w1.alloc (.cells #[.slice A1 D.H.length c1, .slice A2 D.K.length c2, .slice A3 D.M.length c3] 34) = W1 at *
  replace hr1 := hr1.below hbx
  have hB1 := bt hb1 hbx
  have HR1 := Lib.hid hr1
  clear hr1
  go_wp2_with fail
  refine (HI.out W1 hB1).mono ?_
  rintro e w2 ⟨v, rfl, ⟨P1, P2, P3, p1, p2, p3, rfl, hp2⟩, hb2⟩
  go_upto_region 5 with fail
  have X5 := Lib.hid (BD.new w2 (.slice P1 D.H.length p1) (.slice P2 D.K.length p2) (.slice P3 D.M.length p3))
  have hby : Below w2.heap.size w2 (w2.alloc (.cells #[.slice P1 D.H.length p1, .slice P2 D.K.length p2, .slice P3 D.M.length p3] 34)) := (Below.refl _ _).alloc (Nat.le_refl _) _
  generalize w2.alloc (.cells #[.slice P1 D.H.length p1, .slice P2 D.K.length p2, .slice P3 D.M.length p3] 34) = W2 at *
  have hK2 : Below W1.heap.size W1 W2 := bt hb2 hby
  replace hp2 := hp2.below hby
  have HP2 := Lib.hid hp2
  clear hp2
  have e50 := X5.out.c0; have e51 := X5.out.c1; have e52 := X5.out.c2
  have e30 := (X3.out.below hK2).c0; have e31 := (X3.out.below hK2).c1; have e32 := (X3.out.below hK2).c2
  go_wp2_with fail
  refine (HEQ.out W2 P1 P2 P3 A1 A2 A3 p1 p2 p3 c1 c2 c3 (HP2.out.mono (Nat.zero_le _)) (HR1.out.below hK2)).mono ?_
  rintro e w3 ⟨rfl, hb3⟩
  clear e50 e51 e52 e30 e31 e32
  replace HP2 := Lib.hid (HP2.out.below hb3)
  replace X5 := Lib.hid (X5.out.below hb3)
  have hK3 : Below W1.heap.size W1 w3 := bt hK2 hb3
  have e50 := X5.out.c0; have e51 := X5.out.c1; have e52 := X5.out.c2
  go_wp2_with fail
  refine (markDesk_c P1 P2 P3 p1 p2 p3 D.H.length D.K.length D.M.length w3 W1.heap.size _ _ _ HP2.out.1 HP2.out.2.1 HP2.out.2.2 (by omega) (by omega) (by omega)).mono ?_
  rintro e w4 ⟨rfl, hm4, hB4, hk4⟩
  clear e50 e51 e52
  have hK4 : Below W1.heap.size W1 w4 := hB4 W1 (Nat.le_refl _) hK3
  have HM4 := Lib.hid hm4
  replace X5 := Lib.hid (hk4 _ _ _ _ X5.out)
  clear hm4 hB4 hk4 HP2
  have e50 := X5.out.c0; have e51 := X5.out.c1; have e52 := X5.out.c2
  go_wp2_with fail
  refine (heldDesk_c P1 P2 P3 p1 p2 p3 D.H.length D.K.length D.M.length w4 W1.heap.size HM4.out (by omega) (by omega) (by omega)).mono ?_
  rintro e w5 ⟨rfl, hb5⟩
  clear e50 e51 e52
  have hK5 : Below W1.heap.size W1 w5 := bt hK4 hb5
  replace HM4 := Lib.hid (HM4.out.below hb5)
  replace X5 := Lib.hid (X5.out.below hb5)
  go_wp2_with fail
  refine (HI.out w5 (bt hB1 hK5)).mono ?_
  rintro e w6 ⟨v, rfl, ⟨Q1, Q2, Q3, q1, q2, q3, rfl, hq6⟩, hb6⟩
  go_upto_region 16 with fail
  have X9 := Lib.hid (BD.new w6 (.slice Q1 D.H.length q1) (.slice Q2 D.K.length q2) (.slice Q3 D.M.length q3))
  have hbz : Below w6.heap.size w6 (w6.alloc (.cells #[.slice Q1 D.H.length q1, .slice Q2 D.K.length q2, .slice Q3 D.M.length q3] 34)) := (Below.refl _ _).alloc (Nat.le_refl _) _
  generalize w6.alloc (.cells #[.slice Q1 D.H.length q1, .slice Q2 D.K.length q2, .slice Q3 D.M.length q3] 34) = W6 at *
  have hK6 : Below W1.heap.size W1 W6 := bt hK5 (bt hb6 hbz)
  have HQ6 := Lib.hid (hq6.below hbz)
  replace HM4 := Lib.hid (HM4.out.below (bt hb6 hbz))
  replace X5 := Lib.hid (X5.out.below (bt hb6 hbz))
  clear hq6
  have e90 := X9.out.c0; have e91 := X9.out.c1; have e92 := X9.out.c2
  have e30 := (X3.out.below hK6).c0; have e31 := (X3.out.below hK6).c1; have e32 := (X3.out.below hK6).c2
  go_wp2_with fail
  refine (HEQ.out W6 Q1 Q2 Q3 A1 A2 A3 q1 q2 q3 c1 c2 c3 (HQ6.out.mono (Nat.zero_le _)) (HR1.out.below hK6)).mono ?_
  rintro e w7 ⟨rfl, hb7⟩
  clear e90 e91 e92 e30 e31 e32
  have hK7 : Below W1.heap.size W1 w7 := bt hK6 hb7
  replace HM4 := Lib.hid (HM4.out.below hb7)
  replace X5 := Lib.hid (X5.out.below hb7)
  have e50 := X5.out.c0; have e51 := X5.out.c1; have e52 := X5.out.c2
  go_wp2_with fail
  refine (heldDesk_c P1 P2 P3 p1 p2 p3 D.H.length D.K.length D.M.length w7 W1.heap.size HM4.out (by omega) (by omega) (by omega)).mono ?_
  rintro e w8 ⟨rfl, hb8⟩
  go_wp2
  go_ret
  exact ⟨rfl, bt hB1 (bt hK7 hb8)⟩
end Go.Proofs.YtiamignopfhkfaaGreatDoor
