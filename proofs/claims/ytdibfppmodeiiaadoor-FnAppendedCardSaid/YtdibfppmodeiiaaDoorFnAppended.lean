/- The walk of the law FnAppended: it returns true, and nothing that was there is changed. -/
import Derived.Test.YtdibfppmodeiiaaDoorJouLaw
import Derived.Test.YtdibfppmodeiiaaDoorDrawJ3
import Derived.Test.YtdibfppmodeiiaaDoorLikeE
import Derived.Deep.DeepCutAuto
namespace Go.Proofs.YtdibfppmodeiiaaDoor
open Go.RowKit
set_option linter.unusedVariables false
theorem big_c (A : Option Addr) (n c : Nat) (b : Bool) (w : World) (hn : n ≤ 9223372036854775807) (h : decide (4096 < n) = b) : Calls Tryd.prog 5 #[.slice A n c] w fun e w' => e = .returned (.bool b) ∧ w = w' := by
  subst h
  by_cases h : 4096 < n
  · have h2 : (4096 : Int) < (n : Int) := by omega
    go_enter Tryd.func5, Tryd.ntmps5
    go_wp2
    go_ret
    exact ⟨by simp [h], rfl⟩
  · have h2 : ¬ (4096 : Int) < (n : Int) := by omega
    go_enter Tryd.func5, Tryd.ntmps5
    go_wp2
    go_ret
    exact ⟨by simp, rfl⟩
set_option maxRecDepth 100000 in
set_option maxHeartbeats 8000000 in
theorem law_FnAppended (A : Option Addr) (c : Nat) (L : List Int) (w : World) (hr : Rd w w.heap.size A L.length (L.map (Value.int .u8))) (hl : L.length ≤ maxLen) (hx : ∀ x ∈ L, 0 ≤ x ∧ x ≤ 255) (hc : L.length ≤ c) (hE : JEnv w) :
    Calls Tryd.prog 3 #[.slice A L.length c] w fun e w' => e = .returned (.bool true) ∧ Below w.heap.size w w' := by
  unfold maxLen at hl
  have HRB := Lib.hid hr; have HXB := Lib.hid hx; have HE := Lib.hid hE; clear hr hx hE
  by_cases hbig : 4096 < L.length
  · go_enter Tryd.func3, Tryd.ntmps3
    go_wp2_with fail
    refine (big_c A L.length c true w (by omega) (by simp [hbig])).mono ?_
    rintro e w' ⟨rfl, rfl⟩
    go_wp2
    go_ret
    exact ⟨rfl, Below.refl _ _⟩
  go_enter Tryd.func3, Tryd.ntmps3
  go_wp2_with fail
  refine (big_c A L.length c false w (by omega) (by simp; omega)).mono ?_
  rintro e w0 ⟨rfl, rfl⟩
  have HB := Lib.hid (Below.refl w.heap.size w)
  go_wp2_with fail
  refine (DrawAppendEntry_c A c L w HRB.out HXB.out (by omega) hc).mono ?_
  rintro e x1 ⟨t1, a0, a1, rfl, ht1, ha0, ha1, hbx1⟩
  have hzx1 := hbx1.size
  replace HB := Lib.hid (bt HB.out hbx1)
  obtain ⟨a, ha⟩ : ∃ x, (wjR ((rdAll t1).1 ++ [⟨a0, a1⟩])).1 = x := ⟨_, rfl⟩
  obtain ⟨bad, hbad⟩ : ∃ x, (wjR ((rdAll t1).1 ++ [⟨a0, a1⟩])).2 = x := ⟨_, rfl⟩
  have G := Lib.hid (fun h => app_law (s := t1) (a0 := a0) (a1 := a1) h)
  rw [ha, hbad] at G
  have hsa : a.size ≤ 1720 := by rw [← ha]; exact wjR_sz
  have HI := Lib.hid (show ∀ (W : World) (hE : JEnv W), Calls Tryd.prog 7 #[.string t1, .agg #[.int .u8 a0, .string a1]] W (fun e w2 => e = .returned (.tuple #[.string a, .int .i64 bad]) ∧ Below W.heap.size W w2) from fun W hE => by rw [← ha, ← hbad]; exact impl_AppendEntry t1 a0 a1 W (by omega) ha0 (by unfold maxLen; omega) hE)
  have HS := Lib.hid (show ∀ (W : World), Calls Tryd.prog 8 #[.string t1, .agg #[.int .u8 a0, .string a1]] W (fun e w2 => e = .returned (.tuple #[.string a, .int .i64 bad]) ∧ Below W.heap.size W w2) from fun W => by rw [← ha, ← hbad]; exact spec_AppendEntry t1 a0 a1 W (by omega) ha0 (by unfold maxLen; omega))
  clear ha hbad
  go_wp2_with fail
  generalize hX2 : x1.alloc _ = X2
  have hbX2 : Below x1.heap.size x1 X2 := by subst hX2; exact (Below.refl _ _).alloc (Nat.le_refl _) _
  have hsX2 : X2.heap.size = x1.heap.size + 1 := by subst hX2; simp
  have cxX2_0 : ∀ i, X2.cell? ⟨x1.heap.size, i, none⟩ = (#[.int .u8 a0, .string a1] : Array Value)[i]? := by intro i; subst hX2; simp [go_sem]
  have fzX2_0 : ∀ i, X2.frozen? ⟨x1.heap.size, i, none⟩ = false := by intro i; subst hX2; simp [go_sem]
  have HSX2 := Lib.hid hsX2; clear hX2 hsX2
  have hzX2 := hbX2.size
  replace HB := Lib.hid (bt HB.out hbX2)
  have hX2 : x1.heap.size + 1 ≤ X2.heap.size := by have := HSX2.out; omega
  clear HSX2
  refine (HI.out X2 (HE.out.below HB.out)).mono ?_
  rintro e x3 ⟨rfl, hbx3⟩
  have hzx3 := hbx3.size
  replace HB := Lib.hid (bt HB.out hbx3)
  replace cxX2_0 := fun i => (hbx3.cell (by (try simp only); omega)).trans (cxX2_0 i)
  go_wp2_with fail
  refine (HS.out x3).mono ?_
  rintro e x4 ⟨rfl, hbx4⟩
  have hzx4 := hbx4.size
  replace HB := Lib.hid (bt HB.out hbx4)
  replace cxX2_0 := fun i => (hbx4.cell (by (try simp only); omega)).trans (cxX2_0 i)
  go_wp2_with fail
  refine (DrawLastOfKind_c A c L x4 (rdW HB.out HRB.out) HXB.out (by omega) hc).mono ?_
  rintro e x5 ⟨t3, kd, rfl, ht3, hkd, hbx5⟩
  have hzx5 := hbx5.size
  replace HB := Lib.hid (bt HB.out hbx5)
  replace cxX2_0 := fun i => (hbx5.cell (by (try simp only); omega)).trans (cxX2_0 i)
  obtain ⟨t, ht⟩ : ∃ x, (lastR t3 kd).1 = x := ⟨_, rfl⟩
  obtain ⟨one, hone⟩ : ∃ x, (lastR t3 kd).2 = x := ⟨_, rfl⟩
  have HL1 := Lib.hid (show ∀ (W : World) (hE : JEnv W), Calls Tryd.prog 10 #[.string t3, .int .u8 kd] W (fun e w2 => e = .returned (.tuple #[.string t, .int .i64 one]) ∧ Below W.heap.size W w2) from fun W hE => by rw [← ht, ← hone]; exact impl_LastOfKind t3 kd W (by omega) hE)
  have HL2 := Lib.hid (show ∀ (W : World), Calls Tryd.prog 11 #[.string t3, .int .u8 kd] W (fun e w2 => e = .returned (.tuple #[.string t, .int .i64 one]) ∧ Below W.heap.size W w2) from fun W => by rw [← ht, ← hone]; exact spec_LastOfKind t3 kd W (by omega))
  clear ht hone
  go_wp2_with fail
  refine (HL1.out x5 (HE.out.below HB.out)).mono ?_
  rintro e x6 ⟨rfl, hbx6⟩
  have hzx6 := hbx6.size
  replace HB := Lib.hid (bt HB.out hbx6)
  replace cxX2_0 := fun i => (hbx6.cell (by (try simp only); omega)).trans (cxX2_0 i)
  go_wp2_with fail
  refine (HL2.out x6).mono ?_
  rintro e x7 ⟨rfl, hbx7⟩
  have hzx7 := hbx7.size
  replace HB := Lib.hid (bt HB.out hbx7)
  replace cxX2_0 := fun i => (hbx7.cell (by (try simp only); omega)).trans (cxX2_0 i)
  clear HI HS HL1 HL2
  by_cases hb : bad = 0
  · obtain ⟨g1, g2, g3⟩ := G.out hb
    subst hb
    clear G
    obtain ⟨R, hR⟩ : ∃ x, (rdAll t1).1 = x := ⟨_, rfl⟩
    obtain ⟨q, hq⟩ : ∃ x, (rdAll t1).2.size = x := ⟨_, rfl⟩
    have hl20 := rdAll_len t1
    rw [hR] at g1 hl20
    obtain ⟨E, hEE⟩ : ∃ x, R ++ [(⟨a0, a1⟩ : EntryD)] = x := ⟨_, rfl⟩
    have hEl : E.length = R.length + 1 := by rw [← hEE]; simp
    have hEt : E.take R.length = R := by rw [← hEE]; simp
    rw [hEE] at g1
    have hE21 : E.length ≤ 21 := by omega
    have HEL := Lib.hid hEl; have HET := Lib.hid hEt; clear hEl hEt
    have HA := Lib.hid (show ∀ (W : World) (hE : JEnv W), Calls Tryd.prog 10 #[.string a, .int .u8 a0] W (fun e w2 => e = .returned (.tuple #[.string a1, .int .i64 0]) ∧ Below W.heap.size W w2) from fun W hE => by have h := impl_LastOfKind a a0 W (by omega) hE; rw [g3] at h; exact h)
    have HR1 := Lib.hid (show ∀ (W : World) (hE : JEnv W), Calls Tryd.prog 12 #[.string t1] W (fun e w2 => ∃ A c, e = .returned (.tuple #[.slice A R.length c, .int .i64 ((q : Nat))]) ∧ w2.ownsRow W.heap.size 25 2 (.slice A R.length c) R.length (R.flatMap entryC) ∧ Below W.heap.size W w2 ∧ R.length ≤ c ∧ c ≤ maxLen) from fun W hE => by have h := impl_ReadJournal t1 W (by omega) hE; unfold ReadPost at h; rw [hR, hq] at h; exact h)
    have HR2 := Lib.hid (show ∀ (W : World) (hE : JEnv W), Calls Tryd.prog 12 #[.string a] W (fun e w2 => ∃ A c, e = .returned (.tuple #[.slice A E.length c, .int .i64 (0)]) ∧ w2.ownsRow W.heap.size 25 2 (.slice A E.length c) E.length (E.flatMap entryC) ∧ Below W.heap.size W w2 ∧ E.length ≤ c ∧ c ≤ maxLen) from fun W hE => by have h := impl_ReadJournal a W (by omega) hE; unfold ReadPost at h; rw [g1, g2] at h; exact h)
    have HR3 := Lib.hid (show ∀ (W : World), Calls Tryd.prog 13 #[.string a] W (fun e w2 => ∃ A c, e = .returned (.tuple #[.slice A E.length c, .int .i64 (0)]) ∧ w2.ownsRow W.heap.size 25 2 (.slice A E.length c) E.length (E.flatMap entryC) ∧ Below W.heap.size W w2 ∧ E.length ≤ c ∧ c ≤ maxLen) from fun W => by have h := spec_ReadJournal a W (by omega); unfold ReadPost at h; rw [g1, g2] at h; exact h)
    clear g1 g2 g3 hR hq hEE
    have cq0 : x7.cell? ⟨x1.heap.size, 0, none⟩ = some (.int .u8 a0) := cxX2_0 0
    go_wp2_with fail
    refine (HA.out x7 (HE.out.below HB.out)).mono ?_
    rintro e y1 ⟨rfl, hby1⟩
    have hzy1 := hby1.size
    replace HB := Lib.hid (bt HB.out hby1)
    replace cxX2_0 := fun i => (hby1.cell (by (try simp only); omega)).trans (cxX2_0 i)
    clear cq0
    go_wp2_with fail
    refine (HR1.out y1 (HE.out.below HB.out)).mono ?_
    rintro e y2 ⟨A1, c1, rfl, ho1, hby2, hn1, hm1⟩
    have hzy2 := hby2.size
    replace HB := Lib.hid (bt HB.out hby2)
    replace cxX2_0 := fun i => (hby2.cell (by (try simp only); omega)).trans (cxX2_0 i)
    have HD1 := Lib.hid (Rd.of_own ho1); clear ho1
    go_wp2_with fail
    refine (HR2.out y2 (HE.out.below HB.out)).mono ?_
    rintro e y3 ⟨A2, c2, rfl, ho2, hby3, hn2, hm2⟩
    have hzy3 := hby3.size
    replace HD1 := Lib.hid (rdW hby3 HD1.out)
    replace HB := Lib.hid (bt HB.out hby3)
    replace cxX2_0 := fun i => (hby3.cell (by (try simp only); omega)).trans (cxX2_0 i)
    have HD2 := Lib.hid (Rd.of_own ho2); clear ho2
    go_wp2_with fail
    refine (HR3.out y3).mono ?_
    rintro e y4 ⟨A3, c3, rfl, ho3, hby4, hn3, hm3⟩
    have hzy4 := hby4.size
    replace HD1 := Lib.hid (rdW hby4 HD1.out)
    replace HD2 := Lib.hid (rdW hby4 HD2.out)
    replace HB := Lib.hid (bt HB.out hby4)
    replace cxX2_0 := fun i => (hby4.cell (by (try simp only); omega)).trans (cxX2_0 i)
    have HD3 := Lib.hid (Rd.of_own ho3); clear ho3
    go_wp2_with fail
    refine (likeEntrys_c A2 A3 E.length c2 c3 E y4 rfl HD2.out HD3.out (by omega)).mono ?_
    rintro e y5 ⟨rfl, hby5⟩
    have hzy5 := hby5.size
    replace HD1 := Lib.hid (rdW hby5 HD1.out)
    replace HD2 := Lib.hid (rdW hby5 HD2.out)
    replace HD3 := Lib.hid (rdW hby5 HD3.out)
    replace HB := Lib.hid (bt HB.out hby5)
    replace cxX2_0 := fun i => (hby5.cell (by (try simp only); omega)).trans (cxX2_0 i)
    have hEl := HEL.out
    have hEt := HET.out
    have hRT := Rd.take_ (f := entryC) (fun _ => rfl) HD2.out (k := R.length) (by omega)
    rw [hEt] at hRT
    have HRT := Lib.hid hRT; clear hRT hEt
    have cq1 : y5.cell? ⟨x1.heap.size, 1, none⟩ = some (.string a1) := cxX2_0 1
    clear cxX2_0 fzX2_0
    have hadd : (E.length : Int) = (R.length : Int) + 1 := by omega
    have hwl : IntKind.i64.wrap ((R.length : Int) + 1) = (E.length : Int) := by rw [IntWalk.i64_in _ (by omega)]; omega
    have hRc : (R.length : Int) ≤ (c2 : Int) := by omega
    have hR0 : (0 : Int) ≤ (R.length : Int) := by omega
    clear hadd hEl
    go_wp2_with fail
    refine (likeEntrys_c A2 A1 R.length c2 c1 R y5 rfl HRT.out HD1.out (by omega)).mono ?_
    rintro e y6 ⟨rfl, hby6⟩
    go_wp2
    go_ret
    exact ⟨ret_bool (by simp), bt HB.out hby6⟩
  · have hbb : (bad != 0) = true := bne_iff_ne.2 hb
    go_wp2
    go_ret
    exact ⟨rfl, HB.out⟩
end Go.Proofs.YtdibfppmodeiiaaDoor
