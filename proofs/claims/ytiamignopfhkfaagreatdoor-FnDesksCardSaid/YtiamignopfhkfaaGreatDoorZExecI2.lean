/- Contracts: change, execute at the commands that change the desk. -/
import Derived.Test.YtiamignopfhkfaaGreatDoorZExecI1
namespace Go.Proofs.YtiamignopfhkfaaGreatDoor
open Go.RowKit
set_option linter.unusedVariables false
set_option linter.unusedSimpArgs false

theorem grown_pre {w W w' : World} {row : Option Nat} (hb : Below w.heap.size w W) (h : W.grownBy w' row) : w.grownBy w' row := grown_trans' (grown_of_below hb row) h
theorem okT_size : okT.size ≤ 100000 := by show 2 ≤ 100000; omega


set_option maxRecDepth 100000 in
set_option maxHeartbeats 4000000 in
theorem chg_hol (g : Nat) (F : Nat → Prop) (d : DeskD) (t : ByteArray) (A : Option Addr) (c : Nat) (w0 w : World) (hE : JEnv w0) (h0 : Below w0.heap.size w0 w) (hD : DeskIn w0.heap.size g F d w) (qa : Int) (hN : Rd w w.heap.size A 1 [.int .i64 qa]) (hc : 1 ≤ c) : Calls Tryz.prog 109 #[.pointer (some ⟨g, 0, none⟩), .agg #[.string { data := #[104, 111, 108, 105, 100, 97, 121] }, .string t, .slice A 1 c]] w (ExecPost w0.heap.size g F d (.hol qa) w) := by
  have HT : Hid (∀ W1 : World, Below w.heap.size w W1 → TabW W1) := fun W1 hb => (hE.below (bt h0 hb)).1
  have HD := Lib.hid hD
  have hgl := hD.bds.2
  obtain ⟨hgd, -, fz, A1, A2, A3, c1, c2, c3, ⟨k1, k2, k3⟩, hrw, -⟩ := hD
  have HRW := Lib.hid hrw
  have hcap := hrw.caps
  have hlen := hgd.lens
  have HGD := Lib.hid hgd
  obtain ⟨b, off, rfl, hbl, hcn⟩ := hN.at_ (by omega)
  have n0 : w.cell? ⟨b, off, none⟩ = some (.int .i64 qa) := hcn 0 _ rfl
  clear hcn hN
  clear fz hrw hgd hE
  have HX : Hid (exec d (.hol qa) = (⟨(holP d.H qa).1, d.K, d.M⟩, okT, (holP d.H qa).2)) := rfl
  have HC := Lib.hid (fun (W1 : World) (hb : Below w.heap.size w W1) => holiday_c w0.heap.size g F d qa W1 (HD.out.below hb))
  unfold HolPost at HC
  generalize holP d.H qa = p at *
  obtain ⟨L, q⟩ := p
  go_enter Tryz.func109, Tryz.ntmps109
  go_wp2_with fail
  generalize hW0 : w.alloc _ = W0
  have hbW0 : Below w.heap.size w W0 := by subst hW0; exact (Below.refl _ _).alloc (Nat.le_refl _) _
  have hsW0 : W0.heap.size = w.heap.size + 1 := by subst hW0; simp
  have cxW0_0 : ∀ i, W0.cell? ⟨w.heap.size, i, none⟩ = (#[.string { data := #[104, 111, 108, 105, 100, 97, 121] }, .string t, .slice (some ⟨b, off, none⟩) 1 c] : Array Value)[i]? := by intro i; subst hW0; simp [go_sem]
  have HSW0 := Lib.hid hsW0; clear hW0 hsW0
  have hz0w := HSW0.out
  refine (HC.out W0 hbW0).mono ?_
  rintro e w1 ⟨rfl, hd1, hg1⟩
  go_wp2
  go_ret2
  exact ⟨okT, by rw [HX.out]; rfl, fun _ => by rw [HX.out], by rw [HX.out]; exact hd1, grown_pre hbW0 hg1, okT_size⟩


set_option maxRecDepth 100000 in
set_option maxHeartbeats 4000000 in
theorem chg_cal (g : Nat) (F : Nat → Prop) (d : DeskD) (t : ByteArray) (A : Option Addr) (c : Nat) (w0 w : World) (hE : JEnv w0) (h0 : Below w0.heap.size w0 w) (hD : DeskIn w0.heap.size g F d w) (qa qb : Int) (hN : Rd w w.heap.size A 2 [.int .i64 qa, .int .i64 qb]) (hc : 2 ≤ c) : Calls Tryz.prog 109 #[.pointer (some ⟨g, 0, none⟩), .agg #[.string { data := #[99, 97, 108, 108] }, .string t, .slice A 2 c]] w (ExecPost w0.heap.size g F d (.cal qa qb) w) := by
  have HT : Hid (∀ W1 : World, Below w.heap.size w W1 → TabW W1) := fun W1 hb => (hE.below (bt h0 hb)).1
  have HD := Lib.hid hD
  have hgl := hD.bds.2
  obtain ⟨hgd, -, fz, A1, A2, A3, c1, c2, c3, ⟨k1, k2, k3⟩, hrw, -⟩ := hD
  have HRW := Lib.hid hrw
  have hcap := hrw.caps
  have hlen := hgd.lens
  have HGD := Lib.hid hgd
  obtain ⟨b, off, rfl, hbl, hcn⟩ := hN.at_ (by omega)
  have n0 : w.cell? ⟨b, off, none⟩ = some (.int .i64 qa) := hcn 0 _ rfl
  have n1 : w.cell? ⟨b, off + 1, none⟩ = some (.int .i64 qb) := hcn 1 _ rfl
  clear hcn hN
  have HFZ := Lib.hid fz
  clear fz hrw hgd hE
  have HC := Lib.hid (fun (W1 : World) (hb : Below w.heap.size w W1) => impl_AddCall A1 c1 d.H A2 c2 d.K qa qb W1 (rdW hb HRW.out.rd2) (by omega) hcap.2.1 (rdW hb HRW.out.rd1) (by omega) hcap.1)
  by_cases hq : (addC d.H d.K qa qb).2 = 0
  · have HX : Hid (exec d (.cal qa qb) = (⟨d.H, (addC d.H d.K qa qb).1, d.M⟩, okT, 0)) := by unfold Hid; simp only [exec]; rw [if_pos hq]
    have HG := Lib.hid (addC_good hq)
    rw [hq] at HC
    generalize (addC d.H d.K qa qb).1 = L at *
    clear hq
    go_enter Tryz.func109, Tryz.ntmps109
    go_wp2_with fail
    generalize hW0 : w.alloc _ = W0
    have hbW0 : Below w.heap.size w W0 := by subst hW0; exact (Below.refl _ _).alloc (Nat.le_refl _) _
    have hsW0 : W0.heap.size = w.heap.size + 1 := by subst hW0; simp
    have cxW0_0 : ∀ i, W0.cell? ⟨w.heap.size, i, none⟩ = (#[.string { data := #[99, 97, 108, 108] }, .string t, .slice (some ⟨b, off, none⟩) 2 c] : Array Value)[i]? := by intro i; subst hW0; simp [go_sem]
    have HSW0 := Lib.hid hsW0; clear hW0 hsW0
    have hz0w := HSW0.out
    have HKd : Hid (∀ W1 : World, Below W0.heap.size W0 W1 → ((W1.cell? ⟨g, 0, none⟩ = some (.slice A1 d.H.length c1)) ∧ (W1.cell? ⟨g, 1, none⟩ = some (.slice A2 d.K.length c2)) ∧ (W1.cell? ⟨b, off, none⟩ = some (.int .i64 qa)) ∧ (W1.cell? ⟨b, off + 1, none⟩ = some (.int .i64 qb)) ∧ Below W0.heap.size W0 W1)) := fun W1 h => ⟨(h.cell (p := ⟨g, 0, none⟩) (by simp only; omega)).trans ((hbW0.cell (p := ⟨g, 0, none⟩) hgl).trans k1), (h.cell (p := ⟨g, 1, none⟩) (by simp only; omega)).trans ((hbW0.cell (p := ⟨g, 1, none⟩) hgl).trans k2), (h.cell (p := ⟨b, off, none⟩) (by simp only; omega)).trans ((hbW0.cell (p := ⟨b, off, none⟩) hbl).trans n0), (h.cell (p := ⟨b, off + 1, none⟩) (by simp only; omega)).trans ((hbW0.cell (p := ⟨b, off + 1, none⟩) hbl).trans n1), h⟩
    go_region_held3 (fun W1 => (W1.cell? ⟨g, 0, none⟩ = some (.slice A1 d.H.length c1)) ∧ (W1.cell? ⟨g, 1, none⟩ = some (.slice A2 d.K.length c2)) ∧ (W1.cell? ⟨b, off, none⟩ = some (.int .i64 qa)) ∧ (W1.cell? ⟨b, off + 1, none⟩ = some (.int .i64 qb)) ∧ Below W0.heap.size W0 W1) (first | exact HKd.out _ ((Below.refl _ _).drew) | exact HKd.out _ (bt (by assumption) hb1))
      ((first
        | (go_at_call 150; go_split_ands; refine (HC.out _ (bt hbW0 (by assumption))).mono ?_; rintro e w1 ⟨A9, c9, rfl, ho9, hb1, hc9, hm9⟩)))
    all_goals
      have hBB := bt hbW0 (bt (by assumption) hb1)
      have HO9 := Lib.hid (own_mono ho9 (bt hbW0 (by assumption)).size)
      have f1 : w1.cell? ⟨g, 1, none⟩ = some (.slice A2 d.K.length c2) := (hBB.cell (p := ⟨g, 1, none⟩) hgl).trans k2
      have hfz : w1.frozen? ⟨g, 1, none⟩ = false := (hBB.frozen (p := ⟨g, 1, none⟩) hgl).trans (HFZ.out 1)
      clear ho9
      go_wp2
      go_ret2
      exact ⟨okT, by rw [HX.out]; rfl, fun _ => by rw [HX.out], by rw [HX.out]; exact HD.out.setK hBB HO9.out HG.out, grown_set (grown_of_below hBB _), okT_size⟩
  · have HX : Hid (exec d (.cal qa qb) = (d, okT, (addC d.H d.K qa qb).2)) := by unfold Hid; simp only [exec]; rw [if_neg hq]
    generalize addC d.H d.K qa qb = p at *
    obtain ⟨L, q⟩ := p
    simp only at hq
    have hqb : (q == 0) = false := beq_eq_false_iff_ne.2 hq
    have hqn : (q != 0) = true := bne_iff_ne.2 hq
    clear hq
    go_enter Tryz.func109, Tryz.ntmps109
    go_wp2_with fail
    generalize hW0 : w.alloc _ = W0
    have hbW0 : Below w.heap.size w W0 := by subst hW0; exact (Below.refl _ _).alloc (Nat.le_refl _) _
    have hsW0 : W0.heap.size = w.heap.size + 1 := by subst hW0; simp
    have cxW0_0 : ∀ i, W0.cell? ⟨w.heap.size, i, none⟩ = (#[.string { data := #[99, 97, 108, 108] }, .string t, .slice (some ⟨b, off, none⟩) 2 c] : Array Value)[i]? := by intro i; subst hW0; simp [go_sem]
    have HSW0 := Lib.hid hsW0; clear hW0 hsW0
    have hz0w := HSW0.out
    have HKd : Hid (∀ W1 : World, Below W0.heap.size W0 W1 → ((W1.cell? ⟨g, 0, none⟩ = some (.slice A1 d.H.length c1)) ∧ (W1.cell? ⟨g, 1, none⟩ = some (.slice A2 d.K.length c2)) ∧ (W1.cell? ⟨b, off, none⟩ = some (.int .i64 qa)) ∧ (W1.cell? ⟨b, off + 1, none⟩ = some (.int .i64 qb)) ∧ Below W0.heap.size W0 W1)) := fun W1 h => ⟨(h.cell (p := ⟨g, 0, none⟩) (by simp only; omega)).trans ((hbW0.cell (p := ⟨g, 0, none⟩) hgl).trans k1), (h.cell (p := ⟨g, 1, none⟩) (by simp only; omega)).trans ((hbW0.cell (p := ⟨g, 1, none⟩) hgl).trans k2), (h.cell (p := ⟨b, off, none⟩) (by simp only; omega)).trans ((hbW0.cell (p := ⟨b, off, none⟩) hbl).trans n0), (h.cell (p := ⟨b, off + 1, none⟩) (by simp only; omega)).trans ((hbW0.cell (p := ⟨b, off + 1, none⟩) hbl).trans n1), h⟩
    go_region_held3 (fun W1 => (W1.cell? ⟨g, 0, none⟩ = some (.slice A1 d.H.length c1)) ∧ (W1.cell? ⟨g, 1, none⟩ = some (.slice A2 d.K.length c2)) ∧ (W1.cell? ⟨b, off, none⟩ = some (.int .i64 qa)) ∧ (W1.cell? ⟨b, off + 1, none⟩ = some (.int .i64 qb)) ∧ Below W0.heap.size W0 W1) (first | exact HKd.out _ ((Below.refl _ _).drew) | exact HKd.out _ (bt (by assumption) hb1))
      ((first
        | (go_at_call 150; go_split_ands; refine (HC.out _ (bt hbW0 (by assumption))).mono ?_; rintro e w1 ⟨A9, c9, rfl, ho9, hb1, hc9, hm9⟩)))
    all_goals
      have hBB := bt hbW0 (bt (by assumption) hb1)
      go_wp2
      go_ret2
      exact execPost_ask HX.out okT_size HD.out hBB


set_option maxRecDepth 100000 in
set_option maxHeartbeats 4000000 in
theorem chg_mov (g : Nat) (F : Nat → Prop) (d : DeskD) (t : ByteArray) (A : Option Addr) (c : Nat) (w0 w : World) (hE : JEnv w0) (h0 : Below w0.heap.size w0 w) (hD : DeskIn w0.heap.size g F d w) (qa qb : Int) (hN : Rd w w.heap.size A 2 [.int .i64 qa, .int .i64 qb]) (hc : 2 ≤ c) : Calls Tryz.prog 109 #[.pointer (some ⟨g, 0, none⟩), .agg #[.string { data := #[109, 111, 118, 101] }, .string t, .slice A 2 c]] w (ExecPost w0.heap.size g F d (.mov qa qb) w) := by
  have HT : Hid (∀ W1 : World, Below w.heap.size w W1 → TabW W1) := fun W1 hb => (hE.below (bt h0 hb)).1
  have HD := Lib.hid hD
  have hgl := hD.bds.2
  obtain ⟨hgd, -, fz, A1, A2, A3, c1, c2, c3, ⟨k1, k2, k3⟩, hrw, -⟩ := hD
  have HRW := Lib.hid hrw
  have hcap := hrw.caps
  have hlen := hgd.lens
  have HGD := Lib.hid hgd
  obtain ⟨b, off, rfl, hbl, hcn⟩ := hN.at_ (by omega)
  have n0 : w.cell? ⟨b, off, none⟩ = some (.int .i64 qa) := hcn 0 _ rfl
  have n1 : w.cell? ⟨b, off + 1, none⟩ = some (.int .i64 qb) := hcn 1 _ rfl
  clear hcn hN
  have HFZ := Lib.hid fz
  clear fz hrw hgd hE
  have HC := Lib.hid (fun (W1 : World) (hb : Below w.heap.size w W1) => impl_MoveCall A1 c1 d.H A2 c2 d.K qa qb W1 (rdW hb HRW.out.rd2) (by omega) hcap.2.1 (rdW hb HRW.out.rd1) (by omega) hcap.1)
  by_cases hq : (moveC d.H d.K qa qb).2 = 0
  · have HX : Hid (exec d (.mov qa qb) = (⟨d.H, (moveC d.H d.K qa qb).1, d.M⟩, okT, 0)) := by unfold Hid; simp only [exec]; rw [if_pos hq]
    have HG := Lib.hid (moveC_good hq)
    rw [hq] at HC
    generalize (moveC d.H d.K qa qb).1 = L at *
    clear hq
    go_enter Tryz.func109, Tryz.ntmps109
    go_wp2_with fail
    generalize hW0 : w.alloc _ = W0
    have hbW0 : Below w.heap.size w W0 := by subst hW0; exact (Below.refl _ _).alloc (Nat.le_refl _) _
    have hsW0 : W0.heap.size = w.heap.size + 1 := by subst hW0; simp
    have cxW0_0 : ∀ i, W0.cell? ⟨w.heap.size, i, none⟩ = (#[.string { data := #[109, 111, 118, 101] }, .string t, .slice (some ⟨b, off, none⟩) 2 c] : Array Value)[i]? := by intro i; subst hW0; simp [go_sem]
    have HSW0 := Lib.hid hsW0; clear hW0 hsW0
    have hz0w := HSW0.out
    have HKd : Hid (∀ W1 : World, Below W0.heap.size W0 W1 → ((W1.cell? ⟨g, 0, none⟩ = some (.slice A1 d.H.length c1)) ∧ (W1.cell? ⟨g, 1, none⟩ = some (.slice A2 d.K.length c2)) ∧ (W1.cell? ⟨b, off, none⟩ = some (.int .i64 qa)) ∧ (W1.cell? ⟨b, off + 1, none⟩ = some (.int .i64 qb)) ∧ Below W0.heap.size W0 W1)) := fun W1 h => ⟨(h.cell (p := ⟨g, 0, none⟩) (by simp only; omega)).trans ((hbW0.cell (p := ⟨g, 0, none⟩) hgl).trans k1), (h.cell (p := ⟨g, 1, none⟩) (by simp only; omega)).trans ((hbW0.cell (p := ⟨g, 1, none⟩) hgl).trans k2), (h.cell (p := ⟨b, off, none⟩) (by simp only; omega)).trans ((hbW0.cell (p := ⟨b, off, none⟩) hbl).trans n0), (h.cell (p := ⟨b, off + 1, none⟩) (by simp only; omega)).trans ((hbW0.cell (p := ⟨b, off + 1, none⟩) hbl).trans n1), h⟩
    go_region_held3 (fun W1 => (W1.cell? ⟨g, 0, none⟩ = some (.slice A1 d.H.length c1)) ∧ (W1.cell? ⟨g, 1, none⟩ = some (.slice A2 d.K.length c2)) ∧ (W1.cell? ⟨b, off, none⟩ = some (.int .i64 qa)) ∧ (W1.cell? ⟨b, off + 1, none⟩ = some (.int .i64 qb)) ∧ Below W0.heap.size W0 W1) (first | exact HKd.out _ ((Below.refl _ _).drew) | exact HKd.out _ (bt (by assumption) hb1))
      ((first
        | (go_at_call 151; go_split_ands; refine (HC.out _ (bt hbW0 (by assumption))).mono ?_; rintro e w1 ⟨A9, c9, rfl, ho9, hb1, hc9, hm9⟩)))
    all_goals
      have hBB := bt hbW0 (bt (by assumption) hb1)
      have HO9 := Lib.hid (own_mono ho9 (bt hbW0 (by assumption)).size)
      have f1 : w1.cell? ⟨g, 1, none⟩ = some (.slice A2 d.K.length c2) := (hBB.cell (p := ⟨g, 1, none⟩) hgl).trans k2
      have hfz : w1.frozen? ⟨g, 1, none⟩ = false := (hBB.frozen (p := ⟨g, 1, none⟩) hgl).trans (HFZ.out 1)
      clear ho9
      go_wp2
      go_ret2
      exact ⟨okT, by rw [HX.out]; rfl, fun _ => by rw [HX.out], by rw [HX.out]; exact HD.out.setK hBB HO9.out HG.out, grown_set (grown_of_below hBB _), okT_size⟩
  · have HX : Hid (exec d (.mov qa qb) = (d, okT, (moveC d.H d.K qa qb).2)) := by unfold Hid; simp only [exec]; rw [if_neg hq]
    generalize moveC d.H d.K qa qb = p at *
    obtain ⟨L, q⟩ := p
    simp only at hq
    have hqb : (q == 0) = false := beq_eq_false_iff_ne.2 hq
    have hqn : (q != 0) = true := bne_iff_ne.2 hq
    clear hq
    go_enter Tryz.func109, Tryz.ntmps109
    go_wp2_with fail
    generalize hW0 : w.alloc _ = W0
    have hbW0 : Below w.heap.size w W0 := by subst hW0; exact (Below.refl _ _).alloc (Nat.le_refl _) _
    have hsW0 : W0.heap.size = w.heap.size + 1 := by subst hW0; simp
    have cxW0_0 : ∀ i, W0.cell? ⟨w.heap.size, i, none⟩ = (#[.string { data := #[109, 111, 118, 101] }, .string t, .slice (some ⟨b, off, none⟩) 2 c] : Array Value)[i]? := by intro i; subst hW0; simp [go_sem]
    have HSW0 := Lib.hid hsW0; clear hW0 hsW0
    have hz0w := HSW0.out
    have HKd : Hid (∀ W1 : World, Below W0.heap.size W0 W1 → ((W1.cell? ⟨g, 0, none⟩ = some (.slice A1 d.H.length c1)) ∧ (W1.cell? ⟨g, 1, none⟩ = some (.slice A2 d.K.length c2)) ∧ (W1.cell? ⟨b, off, none⟩ = some (.int .i64 qa)) ∧ (W1.cell? ⟨b, off + 1, none⟩ = some (.int .i64 qb)) ∧ Below W0.heap.size W0 W1)) := fun W1 h => ⟨(h.cell (p := ⟨g, 0, none⟩) (by simp only; omega)).trans ((hbW0.cell (p := ⟨g, 0, none⟩) hgl).trans k1), (h.cell (p := ⟨g, 1, none⟩) (by simp only; omega)).trans ((hbW0.cell (p := ⟨g, 1, none⟩) hgl).trans k2), (h.cell (p := ⟨b, off, none⟩) (by simp only; omega)).trans ((hbW0.cell (p := ⟨b, off, none⟩) hbl).trans n0), (h.cell (p := ⟨b, off + 1, none⟩) (by simp only; omega)).trans ((hbW0.cell (p := ⟨b, off + 1, none⟩) hbl).trans n1), h⟩
    go_region_held3 (fun W1 => (W1.cell? ⟨g, 0, none⟩ = some (.slice A1 d.H.length c1)) ∧ (W1.cell? ⟨g, 1, none⟩ = some (.slice A2 d.K.length c2)) ∧ (W1.cell? ⟨b, off, none⟩ = some (.int .i64 qa)) ∧ (W1.cell? ⟨b, off + 1, none⟩ = some (.int .i64 qb)) ∧ Below W0.heap.size W0 W1) (first | exact HKd.out _ ((Below.refl _ _).drew) | exact HKd.out _ (bt (by assumption) hb1))
      ((first
        | (go_at_call 151; go_split_ands; refine (HC.out _ (bt hbW0 (by assumption))).mono ?_; rintro e w1 ⟨A9, c9, rfl, ho9, hb1, hc9, hm9⟩)))
    all_goals
      have hBB := bt hbW0 (bt (by assumption) hb1)
      go_wp2
      go_ret2
      exact execPost_ask HX.out okT_size HD.out hBB


set_option maxRecDepth 100000 in
set_option maxHeartbeats 4000000 in
theorem chg_sta (g : Nat) (F : Nat → Prop) (d : DeskD) (t : ByteArray) (A : Option Addr) (c : Nat) (w0 w : World) (hE : JEnv w0) (h0 : Below w0.heap.size w0 w) (hD : DeskIn w0.heap.size g F d w) (qa qb qc : Int) (hN : Rd w w.heap.size A 3 [.int .i64 qa, .int .i64 qb, .int .i64 qc]) (hc : 3 ≤ c) : Calls Tryz.prog 109 #[.pointer (some ⟨g, 0, none⟩), .agg #[.string { data := #[115, 101, 116] }, .string t, .slice A 3 c]] w (ExecPost w0.heap.size g F d (.sta qa qb qc) w) := by
  have HT : Hid (∀ W1 : World, Below w.heap.size w W1 → TabW W1) := fun W1 hb => (hE.below (bt h0 hb)).1
  have HD := Lib.hid hD
  have hgl := hD.bds.2
  obtain ⟨hgd, -, fz, A1, A2, A3, c1, c2, c3, ⟨k1, k2, k3⟩, hrw, -⟩ := hD
  have HRW := Lib.hid hrw
  have hcap := hrw.caps
  have hlen := hgd.lens
  have HGD := Lib.hid hgd
  obtain ⟨b, off, rfl, hbl, hcn⟩ := hN.at_ (by omega)
  have n0 : w.cell? ⟨b, off, none⟩ = some (.int .i64 qa) := hcn 0 _ rfl
  have n1 : w.cell? ⟨b, off + 1, none⟩ = some (.int .i64 qb) := hcn 1 _ rfl
  have n2 : w.cell? ⟨b, off + 2, none⟩ = some (.int .i64 qc) := hcn 2 _ rfl
  clear hcn hN
  have HFZ := Lib.hid fz
  clear fz hrw hgd hE
  have HC := Lib.hid (fun (W1 : World) (hb : Below w.heap.size w W1) => impl_ChangeMotion A3 c3 d.M qa qb qc W1 (rdW hb HRW.out.rd3) (by omega) hcap.2.2 HGD.out.2.2.2)
  by_cases hq : (chgM d.M qa qb qc).2 = 0
  · have HX : Hid (exec d (.sta qa qb qc) = (⟨d.H, d.K, (chgM d.M qa qb qc).1⟩, okT, 0)) := by unfold Hid; simp only [exec]; rw [if_pos hq]
    have HG := Lib.hid (And.intro (chgM_good hq) (chgM_words hq HGD.out.2.2.2))
    rw [hq] at HC
    generalize (chgM d.M qa qb qc).1 = L at *
    clear hq
    go_enter Tryz.func109, Tryz.ntmps109
    go_wp2_with fail
    generalize hW0 : w.alloc _ = W0
    have hbW0 : Below w.heap.size w W0 := by subst hW0; exact (Below.refl _ _).alloc (Nat.le_refl _) _
    have hsW0 : W0.heap.size = w.heap.size + 1 := by subst hW0; simp
    have cxW0_0 : ∀ i, W0.cell? ⟨w.heap.size, i, none⟩ = (#[.string { data := #[115, 101, 116] }, .string t, .slice (some ⟨b, off, none⟩) 3 c] : Array Value)[i]? := by intro i; subst hW0; simp [go_sem]
    have HSW0 := Lib.hid hsW0; clear hW0 hsW0
    have hz0w := HSW0.out
    have HKd : Hid (∀ W1 : World, Below W0.heap.size W0 W1 → ((W1.cell? ⟨g, 2, none⟩ = some (.slice A3 d.M.length c3)) ∧ (W1.cell? ⟨b, off, none⟩ = some (.int .i64 qa)) ∧ (W1.cell? ⟨b, off + 1, none⟩ = some (.int .i64 qb)) ∧ (W1.cell? ⟨b, off + 2, none⟩ = some (.int .i64 qc)) ∧ Below W0.heap.size W0 W1)) := fun W1 h => ⟨(h.cell (p := ⟨g, 2, none⟩) (by simp only; omega)).trans ((hbW0.cell (p := ⟨g, 2, none⟩) hgl).trans k3), (h.cell (p := ⟨b, off, none⟩) (by simp only; omega)).trans ((hbW0.cell (p := ⟨b, off, none⟩) hbl).trans n0), (h.cell (p := ⟨b, off + 1, none⟩) (by simp only; omega)).trans ((hbW0.cell (p := ⟨b, off + 1, none⟩) hbl).trans n1), (h.cell (p := ⟨b, off + 2, none⟩) (by simp only; omega)).trans ((hbW0.cell (p := ⟨b, off + 2, none⟩) hbl).trans n2), h⟩
    go_region_held3 (fun W1 => (W1.cell? ⟨g, 2, none⟩ = some (.slice A3 d.M.length c3)) ∧ (W1.cell? ⟨b, off, none⟩ = some (.int .i64 qa)) ∧ (W1.cell? ⟨b, off + 1, none⟩ = some (.int .i64 qb)) ∧ (W1.cell? ⟨b, off + 2, none⟩ = some (.int .i64 qc)) ∧ Below W0.heap.size W0 W1) (first | exact HKd.out _ ((Below.refl _ _).drew) | exact HKd.out _ (bt (by assumption) hb1))
      ((first
        | (go_at_call 152; go_split_ands; refine (HC.out _ (bt hbW0 (by assumption))).mono ?_; rintro e w1 ⟨A9, c9, rfl, ho9, hb1, hc9, hm9⟩)))
    all_goals
      have hBB := bt hbW0 (bt (by assumption) hb1)
      have HO9 := Lib.hid (own_mono ho9 (bt hbW0 (by assumption)).size)
      have f2 : w1.cell? ⟨g, 2, none⟩ = some (.slice A3 d.M.length c3) := (hBB.cell (p := ⟨g, 2, none⟩) hgl).trans k3
      have hfz : w1.frozen? ⟨g, 2, none⟩ = false := (hBB.frozen (p := ⟨g, 2, none⟩) hgl).trans (HFZ.out 2)
      clear ho9
      go_wp2
      go_ret2
      exact ⟨okT, by rw [HX.out]; rfl, fun _ => by rw [HX.out], by rw [HX.out]; exact HD.out.setM hBB HO9.out HG.out.1 HG.out.2, grown_set (grown_of_below hBB _), okT_size⟩
  · have HX : Hid (exec d (.sta qa qb qc) = (d, okT, (chgM d.M qa qb qc).2)) := by unfold Hid; simp only [exec]; rw [if_neg hq]
    generalize chgM d.M qa qb qc = p at *
    obtain ⟨L, q⟩ := p
    simp only at hq
    have hqb : (q == 0) = false := beq_eq_false_iff_ne.2 hq
    have hqn : (q != 0) = true := bne_iff_ne.2 hq
    clear hq
    go_enter Tryz.func109, Tryz.ntmps109
    go_wp2_with fail
    generalize hW0 : w.alloc _ = W0
    have hbW0 : Below w.heap.size w W0 := by subst hW0; exact (Below.refl _ _).alloc (Nat.le_refl _) _
    have hsW0 : W0.heap.size = w.heap.size + 1 := by subst hW0; simp
    have cxW0_0 : ∀ i, W0.cell? ⟨w.heap.size, i, none⟩ = (#[.string { data := #[115, 101, 116] }, .string t, .slice (some ⟨b, off, none⟩) 3 c] : Array Value)[i]? := by intro i; subst hW0; simp [go_sem]
    have HSW0 := Lib.hid hsW0; clear hW0 hsW0
    have hz0w := HSW0.out
    have HKd : Hid (∀ W1 : World, Below W0.heap.size W0 W1 → ((W1.cell? ⟨g, 2, none⟩ = some (.slice A3 d.M.length c3)) ∧ (W1.cell? ⟨b, off, none⟩ = some (.int .i64 qa)) ∧ (W1.cell? ⟨b, off + 1, none⟩ = some (.int .i64 qb)) ∧ (W1.cell? ⟨b, off + 2, none⟩ = some (.int .i64 qc)) ∧ Below W0.heap.size W0 W1)) := fun W1 h => ⟨(h.cell (p := ⟨g, 2, none⟩) (by simp only; omega)).trans ((hbW0.cell (p := ⟨g, 2, none⟩) hgl).trans k3), (h.cell (p := ⟨b, off, none⟩) (by simp only; omega)).trans ((hbW0.cell (p := ⟨b, off, none⟩) hbl).trans n0), (h.cell (p := ⟨b, off + 1, none⟩) (by simp only; omega)).trans ((hbW0.cell (p := ⟨b, off + 1, none⟩) hbl).trans n1), (h.cell (p := ⟨b, off + 2, none⟩) (by simp only; omega)).trans ((hbW0.cell (p := ⟨b, off + 2, none⟩) hbl).trans n2), h⟩
    go_region_held3 (fun W1 => (W1.cell? ⟨g, 2, none⟩ = some (.slice A3 d.M.length c3)) ∧ (W1.cell? ⟨b, off, none⟩ = some (.int .i64 qa)) ∧ (W1.cell? ⟨b, off + 1, none⟩ = some (.int .i64 qb)) ∧ (W1.cell? ⟨b, off + 2, none⟩ = some (.int .i64 qc)) ∧ Below W0.heap.size W0 W1) (first | exact HKd.out _ ((Below.refl _ _).drew) | exact HKd.out _ (bt (by assumption) hb1))
      ((first
        | (go_at_call 152; go_split_ands; refine (HC.out _ (bt hbW0 (by assumption))).mono ?_; rintro e w1 ⟨A9, c9, rfl, ho9, hb1, hc9, hm9⟩)))
    all_goals
      have hBB := bt hbW0 (bt (by assumption) hb1)
      go_wp2
      go_ret2
      exact execPost_ask HX.out okT_size HD.out hBB


set_option maxRecDepth 100000 in
set_option maxHeartbeats 4000000 in
theorem chg_fil (g : Nat) (F : Nat → Prop) (d : DeskD) (t : ByteArray) (A : Option Addr) (c : Nat) (w0 w : World) (hE : JEnv w0) (h0 : Below w0.heap.size w0 w) (hD : DeskIn w0.heap.size g F d w) (qa qb : Int) (hN : Rd w w.heap.size A 2 [.int .i64 qa, .int .i64 qb]) (hc : 2 ≤ c) (hts : t.size ≤ 9223372036854775807) (hqb : 0 ≤ qb ∧ qb < 10000000000000) : Calls Tryz.prog 109 #[.pointer (some ⟨g, 0, none⟩), .agg #[.string { data := #[102, 105, 108, 101] }, .string t, .slice A 2 c]] w (ExecPost w0.heap.size g F d (.fil t qa qb) w) := by
  have HT : Hid (∀ W1 : World, Below w.heap.size w W1 → TabW W1) := fun W1 hb => (hE.below (bt h0 hb)).1
  have HD := Lib.hid hD
  have hgl := hD.bds.2
  obtain ⟨hgd, -, fz, A1, A2, A3, c1, c2, c3, ⟨k1, k2, k3⟩, hrw, -⟩ := hD
  have HRW := Lib.hid hrw
  have hcap := hrw.caps
  have hlen := hgd.lens
  have HGD := Lib.hid hgd
  obtain ⟨b, off, rfl, hbl, hcn⟩ := hN.at_ (by omega)
  have n0 : w.cell? ⟨b, off, none⟩ = some (.int .i64 qa) := hcn 0 _ rfl
  have n1 : w.cell? ⟨b, off + 1, none⟩ = some (.int .i64 qb) := hcn 1 _ rfl
  clear hcn hN
  have HFZ := Lib.hid fz
  have HGB := Lib.hid HD.out.bds.1
  have HT0 : Hid (∀ W1 : World, Below w0.heap.size w0 W1 → TabW W1) := fun W1 hb => (hE.below hb).1
  clear fz hrw hgd hE
  have hwf : (Lit.int .i64 qb).wf = true := WalkArith.wf_i64 (by constructor <;> omega)
  have HC := Lib.hid (fun (W1 : World) (hb : Below w.heap.size w W1) => impl_FileMotion A3 c3 d.M t qa qb W1 (rdW hb HRW.out.rd3) (by omega) hcap.2.2 HGD.out.2.2.2 hts hwf)
  by_cases hq : (fileM d.M t qa qb).2 = 0
  · have HX : Hid (exec d (.fil t qa qb) = (⟨d.H, d.K, (fileM d.M t qa qb).1⟩, decI (lastNo d.M), 0)) := by unfold Hid; simp only [exec]; rw [if_pos hq]
    have HG := Lib.hid (And.intro (fileM_good hq) (fileM_words hq HGD.out.2.2.2 hwf))
    have HL := Lib.hid (fileM_is hq).1
    have HLN := Lib.hid (show (fileM d.M t qa qb).1.length = d.M.length + 1 by rw [HL.out]; simp)
    have HLG : Hid (∀ hh : d.M.length < (fileM d.M t qa qb).1.length, (motionC (fileM d.M t qa qb).1[d.M.length])[0]? = some (.int .i64 (lastNo d.M))) := fun hh => by
      have e9 : (fileM d.M t qa qb).1[d.M.length] = newM d.M t qa qb := by
        have := List.getElem_of_eq HL.out hh
        rw [this]; simp
      rw [e9]; rfl
    have hlb := lastNo_bd HGD.out.2.2.1
    rw [hq, HLN.out] at HC
    generalize (fileM d.M t qa qb).1 = L at *
    clear hq
    have HDC := Lib.hid (fun (W1 : World) (hT : TabW W1) => decimalI_c (lastNo d.M) (by omega) (by omega) W1 hT)
    have HSZ := Lib.hid (decI_len (lastNo d.M) (by omega) (by omega))
    generalize lastNo d.M = z at *
    go_enter Tryz.func109, Tryz.ntmps109
    go_wp2_with fail
    generalize hW0 : w.alloc _ = W0
    have hbW0 : Below w.heap.size w W0 := by subst hW0; exact (Below.refl _ _).alloc (Nat.le_refl _) _
    have hsW0 : W0.heap.size = w.heap.size + 1 := by subst hW0; simp
    have cxW0_0 : ∀ i, W0.cell? ⟨w.heap.size, i, none⟩ = (#[.string { data := #[102, 105, 108, 101] }, .string t, .slice (some ⟨b, off, none⟩) 2 c] : Array Value)[i]? := by intro i; subst hW0; simp [go_sem]
    have HSW0 := Lib.hid hsW0; clear hW0 hsW0
    have hz0w := HSW0.out
    have HKd : Hid (∀ W1 : World, Below W0.heap.size W0 W1 → ((W1.cell? ⟨g, 2, none⟩ = some (.slice A3 d.M.length c3)) ∧ (W1.cell? ⟨w.heap.size, 1, none⟩ = some (.string t)) ∧ (W1.cell? ⟨b, off, none⟩ = some (.int .i64 qa)) ∧ (W1.cell? ⟨b, off + 1, none⟩ = some (.int .i64 qb)) ∧ Below W0.heap.size W0 W1)) := fun W1 h => ⟨(h.cell (p := ⟨g, 2, none⟩) (by simp only; omega)).trans ((hbW0.cell (p := ⟨g, 2, none⟩) hgl).trans k3), (h.cell (p := ⟨w.heap.size, 1, none⟩) (by simp only; omega)).trans (cxW0_0 1), (h.cell (p := ⟨b, off, none⟩) (by simp only; omega)).trans ((hbW0.cell (p := ⟨b, off, none⟩) hbl).trans n0), (h.cell (p := ⟨b, off + 1, none⟩) (by simp only; omega)).trans ((hbW0.cell (p := ⟨b, off + 1, none⟩) hbl).trans n1), h⟩
    go_region_held3 (fun W1 => (W1.cell? ⟨g, 2, none⟩ = some (.slice A3 d.M.length c3)) ∧ (W1.cell? ⟨w.heap.size, 1, none⟩ = some (.string t)) ∧ (W1.cell? ⟨b, off, none⟩ = some (.int .i64 qa)) ∧ (W1.cell? ⟨b, off + 1, none⟩ = some (.int .i64 qb)) ∧ Below W0.heap.size W0 W1) (first | exact HKd.out _ ((Below.refl _ _).drew) | exact HKd.out _ (bt (by assumption) hb1))
      ((first
        | (go_at_call 153; go_split_ands; refine (HC.out _ (bt hbW0 (by assumption))).mono ?_; rintro e w1 ⟨A9, c9, rfl, ho9, hb1, hc9, hm9⟩)))
    all_goals
      have hBB := bt hbW0 (bt (by assumption) hb1)
      have ho8 := own_mono ho9 (bt hbW0 (by assumption)).size
      obtain ⟨h, rfl, hh1, hh2⟩ := own_head ho8 (by omega)
      have hlast : w1.cell? ⟨h, d.M.length * 6, none⟩ = some (.int .i64 z) := by
        have h9 := ho8.cellAt (d.M.length * 6) (by omega)
        have h8 := flat_get motionC 6 (fun _ => rfl) L d.M.length 0 (by rw [HLN.out]; omega) (by omega)
        rw [Nat.add_zero] at h8
        rw [h9, h8]; exact HLG.out _
      have f2 : w1.cell? ⟨g, 2, none⟩ = some (.slice A3 d.M.length c3) := (hBB.cell (p := ⟨g, 2, none⟩) hgl).trans k3
      have hfz : w1.frozen? ⟨g, 2, none⟩ = false := (hBB.frozen (p := ⟨g, 2, none⟩) hgl).trans (HFZ.out 2)
      have hgh : g ≠ h := by omega
      have hhg : h ≠ g := by omega
      have HO9 : Hid (w1.ownsRow w.heap.size 70 6 (.slice (some ⟨h, 0, none⟩) L.length c9) L.length (L.flatMap motionC)) := by unfold Hid; rw [HLN.out]; exact ho8
      have HTB := Lib.hid (HT0.out _ ((below_then h0 hBB (Nat.le_refl _)).setCell (p := ⟨g, 2, none⟩) HGB.out (.slice (some ⟨h, 0, none⟩) (d.M.length + 1) c9)))
      clear ho9 ho8
      go_wp2_with fail
      refine (HDC.out _ HTB.out).mono ?_
      rintro e w2 ⟨rfl, hb2⟩
      go_wp2
      go_ret2
      have hS := HD.out.setM hBB HO9.out HG.out.1 HG.out.2
      rw [HLN.out] at hS
      exact ⟨_, by rw [HX.out]; rfl, fun _ => by rw [HX.out], by rw [HX.out]; exact hS.below hb2, grown_trans' (grown_set (grown_of_below hBB _)) (grown_of_below hb2 _), by have := HSZ.out; omega⟩
  · have HX : Hid (exec d (.fil t qa qb) = (d, ⟨#[]⟩, (fileM d.M t qa qb).2)) := by unfold Hid; simp only [exec]; rw [if_neg hq]
    generalize fileM d.M t qa qb = p at *
    obtain ⟨L, q⟩ := p
    simp only at hq
    have hqb : (q == 0) = false := beq_eq_false_iff_ne.2 hq
    have hqn : (q != 0) = true := bne_iff_ne.2 hq
    clear hq
    go_enter Tryz.func109, Tryz.ntmps109
    go_wp2_with fail
    generalize hW0 : w.alloc _ = W0
    have hbW0 : Below w.heap.size w W0 := by subst hW0; exact (Below.refl _ _).alloc (Nat.le_refl _) _
    have hsW0 : W0.heap.size = w.heap.size + 1 := by subst hW0; simp
    have cxW0_0 : ∀ i, W0.cell? ⟨w.heap.size, i, none⟩ = (#[.string { data := #[102, 105, 108, 101] }, .string t, .slice (some ⟨b, off, none⟩) 2 c] : Array Value)[i]? := by intro i; subst hW0; simp [go_sem]
    have HSW0 := Lib.hid hsW0; clear hW0 hsW0
    have hz0w := HSW0.out
    have HKd : Hid (∀ W1 : World, Below W0.heap.size W0 W1 → ((W1.cell? ⟨g, 2, none⟩ = some (.slice A3 d.M.length c3)) ∧ (W1.cell? ⟨w.heap.size, 1, none⟩ = some (.string t)) ∧ (W1.cell? ⟨b, off, none⟩ = some (.int .i64 qa)) ∧ (W1.cell? ⟨b, off + 1, none⟩ = some (.int .i64 qb)) ∧ Below W0.heap.size W0 W1)) := fun W1 h => ⟨(h.cell (p := ⟨g, 2, none⟩) (by simp only; omega)).trans ((hbW0.cell (p := ⟨g, 2, none⟩) hgl).trans k3), (h.cell (p := ⟨w.heap.size, 1, none⟩) (by simp only; omega)).trans (cxW0_0 1), (h.cell (p := ⟨b, off, none⟩) (by simp only; omega)).trans ((hbW0.cell (p := ⟨b, off, none⟩) hbl).trans n0), (h.cell (p := ⟨b, off + 1, none⟩) (by simp only; omega)).trans ((hbW0.cell (p := ⟨b, off + 1, none⟩) hbl).trans n1), h⟩
    go_region_held3 (fun W1 => (W1.cell? ⟨g, 2, none⟩ = some (.slice A3 d.M.length c3)) ∧ (W1.cell? ⟨w.heap.size, 1, none⟩ = some (.string t)) ∧ (W1.cell? ⟨b, off, none⟩ = some (.int .i64 qa)) ∧ (W1.cell? ⟨b, off + 1, none⟩ = some (.int .i64 qb)) ∧ Below W0.heap.size W0 W1) (first | exact HKd.out _ ((Below.refl _ _).drew) | exact HKd.out _ (bt (by assumption) hb1))
      ((first
        | (go_at_call 153; go_split_ands; refine (HC.out _ (bt hbW0 (by assumption))).mono ?_; rintro e w1 ⟨A9, c9, rfl, ho9, hb1, hc9, hm9⟩)))
    all_goals
      have hBB := bt hbW0 (bt (by assumption) hb1)
      go_wp2
      go_ret2
      exact execPost_ask HX.out (by show 0 ≤ 100000; omega) HD.out hBB


set_option maxRecDepth 100000 in
set_option maxHeartbeats 4000000 in
theorem exec_hol (g : Nat) (F : Nat → Prop) (d : DeskD) (t : ByteArray) (A : Option Addr) (c : Nat) (w0 w : World) (hE : JEnv w0) (h0 : Below w0.heap.size w0 w) (hD : DeskIn w0.heap.size g F d w) (qa : Int) (hN : Rd w w.heap.size A 1 [.int .i64 qa]) (hc : 1 ≤ c) : Calls Tryz.prog 85 #[.pointer (some ⟨g, 0, none⟩), .agg #[.string { data := #[104, 111, 108, 105, 100, 97, 121] }, .string t, .slice A 1 c]] w (ExecPost w0.heap.size g F d (.hol qa) w) := by
  have HC := Lib.hid (fun (W1 : World) (hb : Below w.heap.size w W1) => chg_hol g F d t A c w0 W1 hE (below_then h0 hb (Nat.le_refl _)) (hD.below hb) qa (rdW hb hN) hc)
  go_enter Tryz.func85, Tryz.ntmps85
  go_wp2_with fail
  generalize hW0 : w.alloc _ = W0
  have hbW0 : Below w.heap.size w W0 := by subst hW0; exact (Below.refl _ _).alloc (Nat.le_refl _) _
  have hsW0 : W0.heap.size = w.heap.size + 1 := by subst hW0; simp
  have cxW0_0 : ∀ i, W0.cell? ⟨w.heap.size, i, none⟩ = (#[.string { data := #[104, 111, 108, 105, 100, 97, 121] }, .string t, .slice A 1 c] : Array Value)[i]? := by intro i; subst hW0; simp [go_sem]
  have HSW0 := Lib.hid hsW0; clear hW0 hsW0
  refine (HC.out W0 hbW0).mono ?_
  rintro e w1 ⟨o1, rfl, ho, hd1, hg1, hz1⟩
  go_wp2
  go_ret2
  exact ⟨o1, rfl, ho, hd1, grown_pre hbW0 hg1, hz1⟩


set_option maxRecDepth 100000 in
set_option maxHeartbeats 4000000 in
theorem exec_cal (g : Nat) (F : Nat → Prop) (d : DeskD) (t : ByteArray) (A : Option Addr) (c : Nat) (w0 w : World) (hE : JEnv w0) (h0 : Below w0.heap.size w0 w) (hD : DeskIn w0.heap.size g F d w) (qa qb : Int) (hN : Rd w w.heap.size A 2 [.int .i64 qa, .int .i64 qb]) (hc : 2 ≤ c) : Calls Tryz.prog 85 #[.pointer (some ⟨g, 0, none⟩), .agg #[.string { data := #[99, 97, 108, 108] }, .string t, .slice A 2 c]] w (ExecPost w0.heap.size g F d (.cal qa qb) w) := by
  have HC := Lib.hid (fun (W1 : World) (hb : Below w.heap.size w W1) => chg_cal g F d t A c w0 W1 hE (below_then h0 hb (Nat.le_refl _)) (hD.below hb) qa qb (rdW hb hN) hc)
  go_enter Tryz.func85, Tryz.ntmps85
  go_wp2_with fail
  generalize hW0 : w.alloc _ = W0
  have hbW0 : Below w.heap.size w W0 := by subst hW0; exact (Below.refl _ _).alloc (Nat.le_refl _) _
  have hsW0 : W0.heap.size = w.heap.size + 1 := by subst hW0; simp
  have cxW0_0 : ∀ i, W0.cell? ⟨w.heap.size, i, none⟩ = (#[.string { data := #[99, 97, 108, 108] }, .string t, .slice A 2 c] : Array Value)[i]? := by intro i; subst hW0; simp [go_sem]
  have HSW0 := Lib.hid hsW0; clear hW0 hsW0
  refine (HC.out W0 hbW0).mono ?_
  rintro e w1 ⟨o1, rfl, ho, hd1, hg1, hz1⟩
  go_wp2
  go_ret2
  exact ⟨o1, rfl, ho, hd1, grown_pre hbW0 hg1, hz1⟩


set_option maxRecDepth 100000 in
set_option maxHeartbeats 4000000 in
theorem exec_mov (g : Nat) (F : Nat → Prop) (d : DeskD) (t : ByteArray) (A : Option Addr) (c : Nat) (w0 w : World) (hE : JEnv w0) (h0 : Below w0.heap.size w0 w) (hD : DeskIn w0.heap.size g F d w) (qa qb : Int) (hN : Rd w w.heap.size A 2 [.int .i64 qa, .int .i64 qb]) (hc : 2 ≤ c) : Calls Tryz.prog 85 #[.pointer (some ⟨g, 0, none⟩), .agg #[.string { data := #[109, 111, 118, 101] }, .string t, .slice A 2 c]] w (ExecPost w0.heap.size g F d (.mov qa qb) w) := by
  have HC := Lib.hid (fun (W1 : World) (hb : Below w.heap.size w W1) => chg_mov g F d t A c w0 W1 hE (below_then h0 hb (Nat.le_refl _)) (hD.below hb) qa qb (rdW hb hN) hc)
  go_enter Tryz.func85, Tryz.ntmps85
  go_wp2_with fail
  generalize hW0 : w.alloc _ = W0
  have hbW0 : Below w.heap.size w W0 := by subst hW0; exact (Below.refl _ _).alloc (Nat.le_refl _) _
  have hsW0 : W0.heap.size = w.heap.size + 1 := by subst hW0; simp
  have cxW0_0 : ∀ i, W0.cell? ⟨w.heap.size, i, none⟩ = (#[.string { data := #[109, 111, 118, 101] }, .string t, .slice A 2 c] : Array Value)[i]? := by intro i; subst hW0; simp [go_sem]
  have HSW0 := Lib.hid hsW0; clear hW0 hsW0
  refine (HC.out W0 hbW0).mono ?_
  rintro e w1 ⟨o1, rfl, ho, hd1, hg1, hz1⟩
  go_wp2
  go_ret2
  exact ⟨o1, rfl, ho, hd1, grown_pre hbW0 hg1, hz1⟩


set_option maxRecDepth 100000 in
set_option maxHeartbeats 4000000 in
theorem exec_sta (g : Nat) (F : Nat → Prop) (d : DeskD) (t : ByteArray) (A : Option Addr) (c : Nat) (w0 w : World) (hE : JEnv w0) (h0 : Below w0.heap.size w0 w) (hD : DeskIn w0.heap.size g F d w) (qa qb qc : Int) (hN : Rd w w.heap.size A 3 [.int .i64 qa, .int .i64 qb, .int .i64 qc]) (hc : 3 ≤ c) : Calls Tryz.prog 85 #[.pointer (some ⟨g, 0, none⟩), .agg #[.string { data := #[115, 101, 116] }, .string t, .slice A 3 c]] w (ExecPost w0.heap.size g F d (.sta qa qb qc) w) := by
  have HC := Lib.hid (fun (W1 : World) (hb : Below w.heap.size w W1) => chg_sta g F d t A c w0 W1 hE (below_then h0 hb (Nat.le_refl _)) (hD.below hb) qa qb qc (rdW hb hN) hc)
  go_enter Tryz.func85, Tryz.ntmps85
  go_wp2_with fail
  generalize hW0 : w.alloc _ = W0
  have hbW0 : Below w.heap.size w W0 := by subst hW0; exact (Below.refl _ _).alloc (Nat.le_refl _) _
  have hsW0 : W0.heap.size = w.heap.size + 1 := by subst hW0; simp
  have cxW0_0 : ∀ i, W0.cell? ⟨w.heap.size, i, none⟩ = (#[.string { data := #[115, 101, 116] }, .string t, .slice A 3 c] : Array Value)[i]? := by intro i; subst hW0; simp [go_sem]
  have HSW0 := Lib.hid hsW0; clear hW0 hsW0
  refine (HC.out W0 hbW0).mono ?_
  rintro e w1 ⟨o1, rfl, ho, hd1, hg1, hz1⟩
  go_wp2
  go_ret2
  exact ⟨o1, rfl, ho, hd1, grown_pre hbW0 hg1, hz1⟩


set_option maxRecDepth 100000 in
set_option maxHeartbeats 4000000 in
theorem exec_fil (g : Nat) (F : Nat → Prop) (d : DeskD) (t : ByteArray) (A : Option Addr) (c : Nat) (w0 w : World) (hE : JEnv w0) (h0 : Below w0.heap.size w0 w) (hD : DeskIn w0.heap.size g F d w) (qa qb : Int) (hN : Rd w w.heap.size A 2 [.int .i64 qa, .int .i64 qb]) (hc : 2 ≤ c) (hts : t.size ≤ 9223372036854775807) (hqb : 0 ≤ qb ∧ qb < 10000000000000) : Calls Tryz.prog 85 #[.pointer (some ⟨g, 0, none⟩), .agg #[.string { data := #[102, 105, 108, 101] }, .string t, .slice A 2 c]] w (ExecPost w0.heap.size g F d (.fil t qa qb) w) := by
  have HC := Lib.hid (fun (W1 : World) (hb : Below w.heap.size w W1) => chg_fil g F d t A c w0 W1 hE (below_then h0 hb (Nat.le_refl _)) (hD.below hb) qa qb (rdW hb hN) hc hts hqb)
  go_enter Tryz.func85, Tryz.ntmps85
  go_wp2_with fail
  generalize hW0 : w.alloc _ = W0
  have hbW0 : Below w.heap.size w W0 := by subst hW0; exact (Below.refl _ _).alloc (Nat.le_refl _) _
  have hsW0 : W0.heap.size = w.heap.size + 1 := by subst hW0; simp
  have cxW0_0 : ∀ i, W0.cell? ⟨w.heap.size, i, none⟩ = (#[.string { data := #[102, 105, 108, 101] }, .string t, .slice A 2 c] : Array Value)[i]? := by intro i; subst hW0; simp [go_sem]
  have HSW0 := Lib.hid hsW0; clear hW0 hsW0
  refine (HC.out W0 hbW0).mono ?_
  rintro e w1 ⟨o1, rfl, ho, hd1, hg1, hz1⟩
  go_wp2
  go_ret2
  exact ⟨o1, rfl, ho, hd1, grown_pre hbW0 hg1, hz1⟩

end Go.Proofs.YtiamignopfhkfaaGreatDoor
