/- The walk of the law FnJournals: it returns true, and nothing that was there is changed. -/
import Derived.Test.YtdibfppmodeiiaaDoorJouLaw
import Derived.Test.YtdibfppmodeiiaaDoorDrawJ3
import Derived.Test.YtdibfppmodeiiaaDoorLikeE
import Derived.Test.YtdibfppmodeiiaaDoorDice
import Derived.Deep.DeepCutAuto
namespace Go.Proofs.YtdibfppmodeiiaaDoor
open Go.RowKit
set_option linter.unusedVariables false
theorem big_c (A : Option Addr) (n c : Nat) (b : Bool) (w : World) (hn : n ≤ 9223372036854775807) (h : decide (4096 < n) = b) : Calls Tryd.prog 5 #[.slice A n c] w fun e w' => e = .returned (.bool b) ∧ w = w' := by
  subst h
  by_cases h : 4096 < n
  · have h2 : (4096 : Int) < (n : Int) := by omega
    go_enter Tryd.func5, Tryd.ntmps5
    go_wp2
    go_ret
    exact ⟨by simp [h], rfl⟩
  · have h2 : ¬ (4096 : Int) < (n : Int) := by omega
    go_enter Tryd.func5, Tryd.ntmps5
    go_wp2
    go_ret
    exact ⟨by simp, rfl⟩
theorem nl_byte {s : ByteArray} {k : Nat} (hk : k < s.size) : nlC (s.data.toList.take (k + 1)) = nlC (s.data.toList.take k) + if byteAt s k = 10 then 1 else 0 := by
  rw [nl_step hk]
  have e : byteAt s k = (s[k].toNat : Int) := by
    unfold byteAt
    rw [List.getD_eq_getElem?_getD, List.getElem?_eq_getElem (by rw [Array.length_toList]; exact hk)]
    rfl
  rw [e]
  have h : s[k] = 10 ↔ ((s[k].toNat : Nat) : Int) = 10 := by
    constructor
    · intro h; rw [h]; rfl
    · intro h
      have h2 : s[k].toNat = (10 : UInt8).toNat := by have : (10 : UInt8).toNat = 10 := rfl; omega
      exact UInt8.toNat_inj.1 h2
  by_cases hc : s[k] = 10
  · rw [if_pos hc, if_pos (h.1 hc)]
  · rw [if_neg hc, if_neg (fun h2 => hc (h.2 h2))]
attribute [local go_sem ↓ high] run_index_at
set_option maxRecDepth 100000 in
set_option maxHeartbeats 8000000 in
theorem law_FnJournals (A : Option Addr) (c : Nat) (L : List Int) (w : World) (hr : Rd w w.heap.size A L.length (L.map (Value.int .u8))) (hl : L.length ≤ maxLen) (hx : ∀ x ∈ L, 0 ≤ x ∧ x ≤ 255) (hc : L.length ≤ c) (hE : JEnv w) :
    Calls Tryd.prog 4 #[.slice A L.length c] w fun e w' => e = .returned (.bool true) ∧ Below w.heap.size w w' := by
  unfold maxLen at hl
  have HRB := Lib.hid hr; have HXB := Lib.hid hx; have HE := Lib.hid hE; clear hr hx hE
  by_cases hbig : 4096 < L.length
  · go_enter Tryd.func4, Tryd.ntmps4
    go_wp2_with fail
    refine (big_c A L.length c true w (by omega) (by simp [hbig])).mono ?_
    rintro e w' ⟨rfl, rfl⟩
    go_wp2
    go_ret
    exact ⟨rfl, Below.refl _ _⟩
  go_enter Tryd.func4, Tryd.ntmps4
  go_wp2_with fail
  refine (big_c A L.length c false w (by omega) (by simp; omega)).mono ?_
  rintro e w0 ⟨rfl, rfl⟩
  have HB := Lib.hid (Below.refl w.heap.size w)
  go_wp2_with fail
  refine (DrawWriteJournal_c A c L w HRB.out HXB.out (by omega) hc).mono ?_
  rintro e x1 ⟨A1, c1, D, rfl, ho, hl22, hGD, hbx1⟩
  have hzx1 := hbx1.size
  replace HB := Lib.hid (bt HB.out hbx1)
  have HD1 := Lib.hid (Rd.of_own ho); have hcD1 := own_cap ho; have HGD := Lib.hid hGD; clear ho hGD
  obtain ⟨s, hs⟩ : ∃ x, (wjR D).1 = x := ⟨_, rfl⟩
  obtain ⟨bad, hbad⟩ : ∃ x, (wjR D).2 = x := ⟨_, rfl⟩
  obtain ⟨ck, hck⟩ : ∃ x, (ckR D).1 = x := ⟨_, rfl⟩
  obtain ⟨three, hth⟩ : ∃ x, (ckR D).2 = x := ⟨_, rfl⟩
  obtain ⟨bA, hbA⟩ : ∃ b, entsOk D = b := ⟨_, rfl⟩
  have hss : s.size ≤ 1720 := by rw [← hs]; exact wjR_sz
  have hwb : (bad == 0) = bA := by rw [← hbad, wjR_code, are_law]; exact hbA
  have G1 := Lib.hid (fun h => wjR_ok (L := D) h)
  rw [hs, hbad] at G1
  have HW1 := Lib.hid (show ∀ (W : World) (hr : Rd W W.heap.size A1 (D.length * 2) (D.flatMap entryC)) (hE : JEnv W), Calls Tryd.prog 16 #[.slice A1 D.length c1] W (fun e w2 => e = .returned (.tuple #[.string s, .int .i64 bad]) ∧ Below W.heap.size W w2) from fun W hr hE => by rw [← hs, ← hbad]; exact impl_WriteJournal A1 c1 D W hr (by omega) hcD1.1 HGD.out.W hE.1)
  have HW2 := Lib.hid (show ∀ (W : World) (hr : Rd W W.heap.size A1 (D.length * 2) (D.flatMap entryC)), Calls Tryd.prog 17 #[.slice A1 D.length c1] W (fun e w2 => e = .returned (.tuple #[.string s, .int .i64 bad]) ∧ Below W.heap.size W w2) from fun W hr => by rw [← hs, ← hbad]; exact spec_WriteJournal A1 c1 D W hr (by omega) hcD1.1 HGD.out.W)
  have HC1 := Lib.hid (show ∀ (W : World) (hr : Rd W W.heap.size A1 (D.length * 2) (D.flatMap entryC)) (hE : JEnv W), Calls Tryd.prog 22 #[.slice A1 D.length c1] W (fun e w2 => e = .returned (.tuple #[.int .i64 ck, .int .i64 three]) ∧ Below W.heap.size W w2) from fun W hr hE => by rw [← hck, ← hth]; exact impl_CheckOf A1 c1 D W hr (by omega) hcD1.1 HGD.out.W hE.1)
  have HC2 := Lib.hid (show ∀ (W : World) (hr : Rd W W.heap.size A1 (D.length * 2) (D.flatMap entryC)), Calls Tryd.prog 23 #[.slice A1 D.length c1] W (fun e w2 => e = .returned (.tuple #[.int .i64 ck, .int .i64 three]) ∧ Below W.heap.size W w2) from fun W hr => by rw [← hck, ← hth]; exact spec_CheckOf A1 c1 D W hr (by omega) hcD1.1 HGD.out.W)
  have HA1 := Lib.hid (show ∀ (W : World) (hr : Rd W W.heap.size A1 (D.length * 2) (D.flatMap entryC)), Calls Tryd.prog 24 #[.slice A1 D.length c1] W (fun e w2 => e = .returned (.bool bA) ∧ Below W.heap.size W w2) from fun W hr => by exact impl_AreEntries A1 c1 D bA W hr (by omega) hcD1.1 HGD.out.W hbA)
  clear hs hbad hck hth hbA
  go_wp2_with fail
  refine (HW1.out x1 HD1.out (HE.out.below HB.out)).mono ?_
  rintro e x2 ⟨rfl, hbx2⟩
  have hzx2 := hbx2.size
  replace HD1 := Lib.hid (rdW hbx2 HD1.out)
  replace HB := Lib.hid (bt HB.out hbx2)
  go_wp2_with fail
  refine (HW2.out x2 HD1.out).mono ?_
  rintro e x3 ⟨rfl, hbx3⟩
  have hzx3 := hbx3.size
  replace HD1 := Lib.hid (rdW hbx3 HD1.out)
  replace HB := Lib.hid (bt HB.out hbx3)
  go_wp2_with fail
  refine (DrawReadJournal_c A c L x3 (rdW HB.out HRB.out) HXB.out (by omega) hc).mono ?_
  rintro e x4 ⟨x, rfl, hx2, hbx4⟩
  have hzx4 := hbx4.size
  replace HD1 := Lib.hid (rdW hbx4 HD1.out)
  replace HB := Lib.hid (bt HB.out hbx4)
  obtain ⟨X, hX⟩ : ∃ z, (rdAll x).1 = z := ⟨_, rfl⟩
  obtain ⟨q2, hq2⟩ : ∃ z : Int, (((rdAll x).2.size : Nat) : Int) = z := ⟨_, rfl⟩
  have hX20 := rdAll_len x
  rw [hX] at hX20
  obtain ⟨bW, hbW⟩ : ∃ b, (q2 == 0) = b := ⟨_, rfl⟩
  have HJ1 := Lib.hid (show ∀ (W : World) (hE : JEnv W), Calls Tryd.prog 12 #[.string x] W (fun e w2 => ∃ A c, e = .returned (.tuple #[.slice A X.length c, .int .i64 q2]) ∧ w2.ownsRow W.heap.size 25 2 (.slice A X.length c) X.length (X.flatMap entryC) ∧ Below W.heap.size W w2 ∧ X.length ≤ c ∧ c ≤ maxLen) from fun W hE => by have h := impl_ReadJournal x W (by omega) hE; unfold ReadPost at h; rw [hX, hq2] at h; exact h)
  have HJ2 := Lib.hid (show ∀ (W : World), Calls Tryd.prog 13 #[.string x] W (fun e w2 => ∃ A c, e = .returned (.tuple #[.slice A X.length c, .int .i64 q2]) ∧ w2.ownsRow W.heap.size 25 2 (.slice A X.length c) X.length (X.flatMap entryC) ∧ Below W.heap.size W w2 ∧ X.length ≤ c ∧ c ≤ maxLen) from fun W => by have h := spec_ReadJournal x W (by omega); unfold ReadPost at h; rw [hX, hq2] at h; exact h)
  have HI1 := Lib.hid (show ∀ (W : World) (hE : JEnv W), Calls Tryd.prog 25 #[.string x] W (fun e w2 => e = .returned (.bool bW) ∧ Below W.heap.size W w2) from fun W hE => impl_IsWhole x bW W (by omega) hE (by rw [hq2]; exact hbW))
  clear hX hq2
  go_wp2_with fail
  refine (HJ1.out x4 (HE.out.below HB.out)).mono ?_
  rintro e x5 ⟨A2, c2, rfl, ho2, hbx5, hn2, hm2⟩
  have hzx5 := hbx5.size
  replace HD1 := Lib.hid (rdW hbx5 HD1.out)
  replace HB := Lib.hid (bt HB.out hbx5)
  have HD2 := Lib.hid (Rd.of_own ho2); clear ho2
  go_wp2_with fail
  refine (HJ2.out x5).mono ?_
  rintro e x6 ⟨A3, c3, rfl, ho3, hbx6, hn3, hm3⟩
  have hzx6 := hbx6.size
  replace HD1 := Lib.hid (rdW hbx6 HD1.out)
  replace HD2 := Lib.hid (rdW hbx6 HD2.out)
  replace HB := Lib.hid (bt HB.out hbx6)
  have HD3 := Lib.hid (Rd.of_own ho3); clear ho3
  go_wp2_with fail
  refine (DrawCutJournal_c A c L x6 (rdW HB.out HRB.out) HXB.out (by omega) hc).mono ?_
  rintro e x7 ⟨y, k, rfl, hy2, hk2, hbx7⟩
  have hzx7 := hbx7.size
  replace HD1 := Lib.hid (rdW hbx7 HD1.out)
  replace HD2 := Lib.hid (rdW hbx7 HD2.out)
  replace HD3 := Lib.hid (rdW hbx7 HD3.out)
  replace HB := Lib.hid (bt HB.out hbx7)
  obtain ⟨cc, hcc⟩ : ∃ z, (cutR y k).1 = z := ⟨_, rfl⟩
  obtain ⟨one, hone⟩ : ∃ z, (cutR y k).2 = z := ⟨_, rfl⟩
  have G2 := Lib.hid (fun h => cut_law (s := y) (n := k) h)
  rw [hcc, hone] at G2
  have HU1 := Lib.hid (show ∀ (W : World) (hE : JEnv W), Calls Tryd.prog 20 #[.string y, .int .i64 k] W (fun e w2 => e = .returned (.tuple #[.string cc, .int .i64 one]) ∧ Below W.heap.size W w2) from fun W hE => by rw [← hcc, ← hone]; exact impl_CutJournal y k W (by omega) hE)
  have HU2 := Lib.hid (show ∀ (W : World), Calls Tryd.prog 21 #[.string y, .int .i64 k] W (fun e w2 => e = .returned (.tuple #[.string cc, .int .i64 one]) ∧ Below W.heap.size W w2) from fun W => by rw [← hcc, ← hone]; exact spec_CutJournal y k W (by omega))
  clear hcc hone
  go_wp2_with fail
  refine (HU1.out x7 (HE.out.below HB.out)).mono ?_
  rintro e x8 ⟨rfl, hbx8⟩
  have hzx8 := hbx8.size
  replace HD1 := Lib.hid (rdW hbx8 HD1.out)
  replace HD2 := Lib.hid (rdW hbx8 HD2.out)
  replace HD3 := Lib.hid (rdW hbx8 HD3.out)
  replace HB := Lib.hid (bt HB.out hbx8)
  go_wp2_with fail
  refine (HU2.out x8).mono ?_
  rintro e x9 ⟨rfl, hbx9⟩
  have hzx9 := hbx9.size
  replace HD1 := Lib.hid (rdW hbx9 HD1.out)
  replace HD2 := Lib.hid (rdW hbx9 HD2.out)
  replace HD3 := Lib.hid (rdW hbx9 HD3.out)
  replace HB := Lib.hid (bt HB.out hbx9)
  go_wp2_with fail
  refine (HC1.out x9 HD1.out (HE.out.below HB.out)).mono ?_
  rintro e y1 ⟨rfl, hby1⟩
  have hzy1 := hby1.size
  replace HD1 := Lib.hid (rdW hby1 HD1.out)
  replace HD2 := Lib.hid (rdW hby1 HD2.out)
  replace HD3 := Lib.hid (rdW hby1 HD3.out)
  replace HB := Lib.hid (bt HB.out hby1)
  go_wp2_with fail
  refine (HC2.out y1 HD1.out).mono ?_
  rintro e y2 ⟨rfl, hby2⟩
  have hzy2 := hby2.size
  replace HD1 := Lib.hid (rdW hby2 HD1.out)
  replace HD2 := Lib.hid (rdW hby2 HD2.out)
  replace HD3 := Lib.hid (rdW hby2 HD3.out)
  replace HB := Lib.hid (bt HB.out hby2)
  go_wp2_with fail
  refine (likeEntrys_c A2 A3 X.length c2 c3 X y2 rfl HD2.out HD3.out (by omega)).mono ?_
  rintro e y3 ⟨rfl, hby3⟩
  have hzy3 := hby3.size
  replace HD1 := Lib.hid (rdW hby3 HD1.out)
  replace HD2 := Lib.hid (rdW hby3 HD2.out)
  replace HD3 := Lib.hid (rdW hby3 HD3.out)
  replace HB := Lib.hid (bt HB.out hby3)
  go_wp2_with fail
  refine (HA1.out y3 HD1.out).mono ?_
  rintro e y4 ⟨rfl, hby4⟩
  have hzy4 := hby4.size
  replace HD1 := Lib.hid (rdW hby4 HD1.out)
  replace HD2 := Lib.hid (rdW hby4 HD2.out)
  replace HD3 := Lib.hid (rdW hby4 HD3.out)
  replace HB := Lib.hid (bt HB.out hby4)
  go_wp2_with fail
  refine (HI1.out y4 (HE.out.below HB.out)).mono ?_
  rintro e y5 ⟨rfl, hby5⟩
  have hzy5 := hby5.size
  replace HD1 := Lib.hid (rdW hby5 HD1.out)
  replace HD2 := Lib.hid (rdW hby5 HD2.out)
  replace HD3 := Lib.hid (rdW hby5 HD3.out)
  replace HB := Lib.hid (bt HB.out hby5)
  clear HW1 HW2 HC1 HC2 HJ1 HJ2 HU1 HU2
  clear HD2
  clear HD3
  go_upto_region 16 with fail
  go_cut [149] (fun s149 wc => s149 = .bool false ∧ Below y5.heap.size y5 wc)
  case first =>
    by_cases h1 : one = 0
    · obtain ⟨g1, g2⟩ := G2.out h1
      subst h1
      have hgt : ¬ (y.size : Int) < (cc.size : Int) := by omega
      have hgtN : ¬ y.size < cc.size := by omega
      go_wp2_with fail
      refine (impl_IsWhole cc true y5 (by omega) (HE.out.below HB.out) (by rw [g1]; rfl)).mono ?_
      rintro e u1 ⟨rfl, hbu1⟩
      go_wp2
      go_meet
      case rel => exact ⟨rfl, hbu1⟩
    · have h1b : (one == 0) = false := beq_eq_false_iff_ne.2 h1
      go_wp2
      go_meet
      case rel => exact ⟨rfl, Below.refl _ _⟩
  case rest =>
    obtain ⟨rfl, hby6⟩ := hcut
    obtain ⟨y6, rfl⟩ : ∃ x, x = wc := ⟨_, rfl⟩
    have hzy6 := hby6.size
    replace HD1 := Lib.hid (rdW hby6 HD1.out)
    replace HB := Lib.hid (bt HB.out hby6)
    clear G2 hwb hbW HI1 HA1
    by_cases hb : bad = 0
    · obtain ⟨g1, g2, g3⟩ := G1.out hb
      subst hb
      clear G1
      obtain ⟨g4, g5⟩ := rd_whole g2 g3
      have g6 := some_law g2 g3
      rw [← g1] at g4 g5 g6
      have HS6 := Lib.hid g6; clear g6
      have HJ1 := Lib.hid (show ∀ (W : World) (hE : JEnv W), Calls Tryd.prog 12 #[.string s] W (fun e w2 => ∃ A c, e = .returned (.tuple #[.slice A D.length c, .int .i64 0]) ∧ w2.ownsRow W.heap.size 25 2 (.slice A D.length c) D.length (D.flatMap entryC) ∧ Below W.heap.size W w2 ∧ D.length ≤ c ∧ c ≤ maxLen) from fun W hE => by have h := impl_ReadJournal s W (by omega) hE; unfold ReadPost at h; rw [g4, g5] at h; exact h)
      clear g1 g4 g5
      go_wp2_with fail
      refine (HJ1.out y6 (HE.out.below HB.out)).mono ?_
      rintro e z1 ⟨A4, c4, rfl, ho4, hbz1, hn4, hm4⟩
      have hzz1 := hbz1.size
      replace HD1 := Lib.hid (rdW hbz1 HD1.out)
      replace HB := Lib.hid (bt HB.out hbz1)
      have HD4 := Lib.hid (Rd.of_own ho4); clear ho4
      have hwl : IntKind.i64.wrap ((s.size : Int) + 1) = (s.size : Int) + 1 := IntWalk.i64_in _ (by omega)
      go_wp2_with fail
      refine (roll_c A c L 3301 z1 (rdW HB.out HRB.out) HXB.out (by omega) hc).mono ?_
      rintro e v1 ⟨rfl, hDi, hbv1⟩
      have HDI := Lib.hid hDi
      clear hDi
      go_wp2_with fail
      refine (below_c _ _ ((s.size : Int) + 1) v1 HDI.out (by omega)).mono ?_
      rintro e z2 ⟨at_, rfl, hat, hgz2⟩
      have hbz2 : Below z1.heap.size z1 z2 := below_srcJ hbv1 hgz2
      clear HDI hbv1 hgz2
      have hzz2 := hbz2.size
      replace HD1 := Lib.hid (rdW hbz2 HD1.out)
      replace HD4 := Lib.hid (rdW hbz2 HD4.out)
      replace HB := Lib.hid (bt HB.out hbz2)
      obtain ⟨at_, rfl⟩ := Int.eq_ofNat_of_zero_le hat.1
      have hat2 : at_ ≤ s.size := by omega
      have hati : (at_ : Int) ≤ (s.size : Int) := by omega
      have hat0 : (0 : Int) ≤ (at_ : Int) := by omega
      clear hat
      obtain ⟨T, hT⟩ : ∃ z, (rdAll (s.extract 0 at_)).1 = z := ⟨_, rfl⟩
      obtain ⟨lf, hlf⟩ : ∃ z : Int, (((rdAll (s.extract 0 at_)).2.size : Nat) : Int) = z := ⟨_, rfl⟩
      have hlf0 : 0 ≤ lf := by rw [← hlf]; omega
      obtain ⟨k1, k2⟩ := HS6.out at_
      rw [hT] at k1
      have hTn : T.length = nlC (s.data.toList.take at_) := by rw [k1, List.length_take]; omega
      have HTN := Lib.hid hTn
      have hTl : T.length ≤ D.length := by omega
      have hTD : D.take T.length = T := by rw [hTn]; exact k1.symm
      have HTD := Lib.hid hTD
      clear hTD hTn k1 k2 HS6 HJ1
      obtain ⟨sx, hsx⟩ : ∃ z, s.extract 0 at_ = z := ⟨_, rfl⟩
      have hsz : sx.size ≤ 1720 := by rw [← hsx, ByteArray.size_extract]; omega
      rw [hsx] at hT hlf
      have HJ3 := Lib.hid (show ∀ (W : World) (hE : JEnv W), Calls Tryd.prog 12 #[.string sx] W (fun e w2 => ∃ A c, e = .returned (.tuple #[.slice A T.length c, .int .i64 lf]) ∧ w2.ownsRow W.heap.size 25 2 (.slice A T.length c) T.length (T.flatMap entryC) ∧ Below W.heap.size W w2 ∧ T.length ≤ c ∧ c ≤ maxLen) from fun W hE => by have h := impl_ReadJournal sx W (by omega) hE; unfold ReadPost at h; rw [hT, hlf] at h; exact h)
      clear hT hlf
      go_wp2_with fail
      refine (HJ3.out z2 (HE.out.below HB.out)).mono ?_
      rintro e z3 ⟨A5, c5, rfl, ho5, hbz3, hn5, hm5⟩
      have hzz3 := hbz3.size
      replace HD1 := Lib.hid (rdW hbz3 HD1.out)
      replace HD4 := Lib.hid (rdW hbz3 HD4.out)
      replace HB := Lib.hid (bt HB.out hbz3)
      have HD5 := Lib.hid (Rd.of_own ho5); clear ho5
      clear hsx hsz HJ3
      go_wp2_with fail
      refine (likeEntrys_c A4 A1 D.length c4 c1 D z3 rfl HD4.out HD1.out (by omega)).mono ?_
      rintro e z4 ⟨rfl, hbz4⟩
      have hzz4 := hbz4.size
      replace HD1 := Lib.hid (rdW hbz4 HD1.out)
      replace HD4 := Lib.hid (rdW hbz4 HD4.out)
      replace HD5 := Lib.hid (rdW hbz4 HD5.out)
      replace HB := Lib.hid (bt HB.out hbz4)
      have hTi : ¬ (D.length : Int) < (T.length : Int) := by omega
      have hTc : (T.length : Int) ≤ (c1 : Int) := by have := hcD1.1; omega
      have hT0 : (0 : Int) ≤ (T.length : Int) := by omega
      have hRT := Rd.take_ (f := entryC) (fun _ => rfl) HD1.out hTl
      rw [HTD.out] at hRT
      have HRT := Lib.hid hRT; clear hRT HTD
      go_wp2_with fail
      refine (likeEntrys_c A5 A1 T.length c5 c1 T z4 rfl HD5.out HRT.out (by omega)).mono ?_
      rintro e z5 ⟨rfl, hbz5⟩
      have hzz5 := hbz5.size
      replace HD1 := Lib.hid (rdW hbz5 HD1.out)
      replace HD4 := Lib.hid (rdW hbz5 HD4.out)
      replace HD5 := Lib.hid (rdW hbz5 HD5.out)
      replace HB := Lib.hid (bt HB.out hbz5)
      clear HRT HD1 HD4 HD5 HGD HE HRB HXB
      go_wp2
      go_loopw [28, 29] (fun lv iv wr => ∃ j : Nat, j ≤ at_ ∧ iv = .int .i64 j ∧ lv = .int .i64 (nlC (s.data.toList.take j) : Nat) ∧ nlC (s.data.toList.take j) ≤ j ∧ wr = z5) (fun _ iv _ => at_ - (intOf iv).toNat)
      case atStart => exact ⟨0, by omega, rfl, rfl, by simp [nlC], rfl⟩
      case round =>
        obtain ⟨j, hj, rfl, rfl, hnj, rfl⟩ := hrel
        by_cases hlt : j < at_
        · have hjs : j < s.size := by omega
          have hstep := nl_byte hjs
          have hji : (j : Int) < (at_ : Int) := by omega
          by_cases hb10 : byteAt s j = 10
          · rw [if_pos hb10] at hstep
            have HST := Lib.hid hstep
            clear hstep
            generalize hN : nlC (s.data.toList.take j) = N at *
            have hwN : IntKind.i64.wrap ((N : Int) + 1) = ((N + 1 : Nat) : Int) := by rw [IntWalk.i64_in _ (by omega)]; omega
            have hbb : (byteAt s j == 10) = true := beq_iff_eq.2 hb10
            go_wp2
            go_roundw
            case rel => exact ⟨j + 1, by omega, by go_num, by rw [HST.out]; rfl, by rw [HST.out]; omega, by trivial⟩
            case measure => simp [intOf]; omega
          · rw [if_neg hb10] at hstep
            have HST := Lib.hid hstep
            clear hstep
            generalize hN : nlC (s.data.toList.take j) = N at *
            have hbb : (byteAt s j == 10) = false := beq_eq_false_iff_ne.2 hb10
            go_wp2
            go_roundw
            case rel => exact ⟨j + 1, by omega, by go_num, by rw [HST.out]; rfl, by rw [HST.out]; omega, by trivial⟩
            case measure => simp [intOf]; omega
        · obtain rfl : j = at_ := by omega
          rw [← HTN.out]
          have hge : (0 : Int) ≤ lf := hlf0
          go_wp2
          go_ret
          exact ⟨ret_bool (by simp), HB.out⟩
    · have hbb : (bad != 0) = true := bne_iff_ne.2 hb
      go_wp2
      go_ret
      exact ⟨rfl, HB.out⟩
end Go.Proofs.YtdibfppmodeiiaaDoor
