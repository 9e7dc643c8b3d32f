/- Contracts: l34Ask, at every command that only asks. -/
import Derived.Test.YtiamignopfhkfaaGreatDoorZ18
namespace Go.Proofs.YtiamignopfhkfaaGreatDoor
open Go.RowKit
set_option linter.unusedVariables false
set_option linter.unusedSimpArgs false

/-- A value that is a desk whose lists lie in memory. -/
def DeskV (v : Value) (d : DeskD) (W : World) : Prop := ∃ A1 A2 A3 c1 c2 c3, v = .agg #[.slice A1 d.H.length c1, .slice A2 d.K.length c2, .slice A3 d.M.length c3] ∧ RowsW 0 d A1 A2 A3 c1 c2 c3 W
theorem DeskV.below {v : Value} {d : DeskD} {W W' : World} (h : DeskV v d W) (hb : Below W.heap.size W W') : DeskV v d W' := by
  obtain ⟨A1, A2, A3, c1, c2, c3, e, hr⟩ := h
  exact ⟨A1, A2, A3, c1, c2, c3, e, hr.below hb⟩
theorem decN {n : Int} (h : 0 ≤ n ∧ n ≤ 1000000000000000) (w : World) : Calls Tryz.prog 66 #[.int .i64 n] w fun e w' => e = .returned (.string (decI n)) ∧ Below w.heap.size w w' := by
  obtain ⟨m, rfl⟩ := Int.eq_ofNat_of_zero_le h.1
  rw [decI_nat]
  exact l01Dec_c m (by omega) w
/-- What l34Ask hands back. -/
def AskPost (d : DeskD) (m : Cm) (w : World) (e : Ending) (w' : World) : Prop :=
  e = .returned (.tuple #[.string (exec d m).2.1, .int .i64 (exec d m).2.2]) ∧ Below w.heap.size w w'
theorem askPost_mk {d : DeskD} {m : Cm} {w w' : World} {o : ByteArray} {q : Int} {x : DeskD} (hx : exec d m = (x, o, q)) (hb : Below w.heap.size w w') : AskPost d m w (.returned (.tuple #[.string o, .int .i64 q])) w' := ⟨by rw [hx], hb⟩


set_option maxRecDepth 100000 in
set_option maxHeartbeats 4000000 in
theorem ask_due (A1 A2 A3 : Option Addr) (c1 c2 c3 : Nat) (d : DeskD) (A : Option Addr) (c : Nat) (w : World) (hgd : DGood d) (hrw : RowsW 0 d A1 A2 A3 c1 c2 c3 w) (qa qb : Int) (hN : Rd w w.heap.size A 2 [.int .i64 qa, .int .i64 qb]) (hc : 2 ≤ c) : Calls Tryz.prog 89 #[.agg #[.slice A1 d.H.length c1, .slice A2 d.K.length c2, .slice A3 d.M.length c3], .string { data := #[100, 117, 101] }, .slice A 2 c] w (AskPost d (.due qa qb) w) := by
  have HRW := Lib.hid hrw
  have hcap := hrw.caps
  have hlen := hgd.lens
  have HGD := Lib.hid hgd
  obtain ⟨b, off, rfl, hbl, hcn⟩ := hN.at_ (by omega)
  have n0 : w.cell? ⟨b, off, none⟩ = some (.int .i64 qa) := hcn 0 _ rfl
  have n1 : w.cell? ⟨b, off + 1, none⟩ = some (.int .i64 qb) := hcn 1 _ rfl
  clear hcn hN
  clear hrw hgd
  have HC := Lib.hid (fun (W1 : World) (hb : Below w.heap.size w W1) => spec_DeadlineOf A1 c1 d.H qa qb W1 (rdW hb HRW.out.rd1) (by omega) hcap.1)
  have HX : Hid (exec d (.due qa qb) = (d, decI (deadP d.H qa qb).1, (deadP d.H qa qb).2)) := rfl
  have hbd := deadP_bd (H := d.H) (a := qa) (b := qb)
  generalize deadP d.H qa qb = p at *
  obtain ⟨v, q⟩ := p
  simp only at hbd
  go_enter Tryz.func89, Tryz.ntmps89
  go_wp2_with fail
  generalize hW0 : (w.alloc _).alloc _ = W0
  have hbW0 : Below w.heap.size w W0 := by subst hW0; exact ((Below.refl _ _).alloc (Nat.le_refl _) _).alloc (by (try simp) <;> (try omega)) _
  have hsW0 : W0.heap.size = w.heap.size + 2 := by subst hW0; simp
  have cxW0_0 : ∀ i, W0.cell? ⟨w.heap.size, i, none⟩ = (#[.slice A1 d.H.length c1, .slice A2 d.K.length c2, .slice A3 d.M.length c3] : Array Value)[i]? := by intro i; subst hW0; simp [go_sem]
  have HSW0 := Lib.hid hsW0; clear hW0 hsW0
  have hz0w := HSW0.out
  have HKd : Hid (∀ W1 : World, Below W0.heap.size W0 W1 → ((W1.cell? ⟨w.heap.size, 0, none⟩ = some (.slice A1 d.H.length c1)) ∧ (W1.cell? ⟨b, off, none⟩ = some (.int .i64 qa)) ∧ (W1.cell? ⟨b, off + 1, none⟩ = some (.int .i64 qb)) ∧ Below W0.heap.size W0 W1)) := fun W1 h => ⟨(h.cell (p := ⟨w.heap.size, 0, none⟩) (by simp only; omega)).trans (cxW0_0 0), (h.cell (p := ⟨b, off, none⟩) (by simp only; omega)).trans ((hbW0.cell (p := ⟨b, off, none⟩) hbl).trans n0), (h.cell (p := ⟨b, off + 1, none⟩) (by simp only; omega)).trans ((hbW0.cell (p := ⟨b, off + 1, none⟩) hbl).trans n1), h⟩
  go_region_held3 (fun W1 => (W1.cell? ⟨w.heap.size, 0, none⟩ = some (.slice A1 d.H.length c1)) ∧ (W1.cell? ⟨b, off, none⟩ = some (.int .i64 qa)) ∧ (W1.cell? ⟨b, off + 1, none⟩ = some (.int .i64 qb)) ∧ Below W0.heap.size W0 W1) (first | exact HKd.out _ ((Below.refl _ _).drew) | exact HKd.out _ (bt (by assumption) hb1))
    ((first
      | (go_at_call 114; go_split_ands; refine (HC.out _ (bt hbW0 (by assumption))).mono ?_; rintro e w1 ⟨rfl, hb1⟩)))
  all_goals
    have hBB := bt hbW0 (bt (by assumption) hb1)
    go_wp2_with fail
    refine (decN (n := v) ⟨by omega, by omega⟩ w1).mono ?_
    rintro e w2 ⟨rfl, hb2⟩
    go_wp2
    go_ret2
    exact askPost_mk HX.out (bt hBB hb2)


set_option maxRecDepth 100000 in
set_option maxHeartbeats 4000000 in
theorem ask_plu (A1 A2 A3 : Option Addr) (c1 c2 c3 : Nat) (d : DeskD) (A : Option Addr) (c : Nat) (w : World) (hgd : DGood d) (hrw : RowsW 0 d A1 A2 A3 c1 c2 c3 w) (qa qb : Int) (hN : Rd w w.heap.size A 2 [.int .i64 qa, .int .i64 qb]) (hc : 2 ≤ c) : Calls Tryz.prog 89 #[.agg #[.slice A1 d.H.length c1, .slice A2 d.K.length c2, .slice A3 d.M.length c3], .string { data := #[112, 108, 117, 115] }, .slice A 2 c] w (AskPost d (.plu qa qb) w) := by
  have HRW := Lib.hid hrw
  have hcap := hrw.caps
  have hlen := hgd.lens
  have HGD := Lib.hid hgd
  obtain ⟨b, off, rfl, hbl, hcn⟩ := hN.at_ (by omega)
  have n0 : w.cell? ⟨b, off, none⟩ = some (.int .i64 qa) := hcn 0 _ rfl
  have n1 : w.cell? ⟨b, off + 1, none⟩ = some (.int .i64 qb) := hcn 1 _ rfl
  clear hcn hN
  clear hrw hgd
  have HC := Lib.hid (fun (W1 : World) (hb : Below w.heap.size w W1) => spec_AddCourtDays A1 c1 d.H qa qb W1 (rdW hb HRW.out.rd1) (by omega) hcap.1)
  have HX : Hid (exec d (.plu qa qb) = (d, decI (addP d.H qa qb).1, (addP d.H qa qb).2)) := rfl
  have hbd := addP_bd (H := d.H) (a := qa) (b := qb)
  generalize addP d.H qa qb = p at *
  obtain ⟨v, q⟩ := p
  simp only at hbd
  go_enter Tryz.func89, Tryz.ntmps89
  go_wp2_with fail
  generalize hW0 : (w.alloc _).alloc _ = W0
  have hbW0 : Below w.heap.size w W0 := by subst hW0; exact ((Below.refl _ _).alloc (Nat.le_refl _) _).alloc (by (try simp) <;> (try omega)) _
  have hsW0 : W0.heap.size = w.heap.size + 2 := by subst hW0; simp
  have cxW0_0 : ∀ i, W0.cell? ⟨w.heap.size, i, none⟩ = (#[.slice A1 d.H.length c1, .slice A2 d.K.length c2, .slice A3 d.M.length c3] : Array Value)[i]? := by intro i; subst hW0; simp [go_sem]
  have HSW0 := Lib.hid hsW0; clear hW0 hsW0
  have hz0w := HSW0.out
  have HKd : Hid (∀ W1 : World, Below W0.heap.size W0 W1 → ((W1.cell? ⟨w.heap.size, 0, none⟩ = some (.slice A1 d.H.length c1)) ∧ (W1.cell? ⟨b, off, none⟩ = some (.int .i64 qa)) ∧ (W1.cell? ⟨b, off + 1, none⟩ = some (.int .i64 qb)) ∧ Below W0.heap.size W0 W1)) := fun W1 h => ⟨(h.cell (p := ⟨w.heap.size, 0, none⟩) (by simp only; omega)).trans (cxW0_0 0), (h.cell (p := ⟨b, off, none⟩) (by simp only; omega)).trans ((hbW0.cell (p := ⟨b, off, none⟩) hbl).trans n0), (h.cell (p := ⟨b, off + 1, none⟩) (by simp only; omega)).trans ((hbW0.cell (p := ⟨b, off + 1, none⟩) hbl).trans n1), h⟩
  go_region_held3 (fun W1 => (W1.cell? ⟨w.heap.size, 0, none⟩ = some (.slice A1 d.H.length c1)) ∧ (W1.cell? ⟨b, off, none⟩ = some (.int .i64 qa)) ∧ (W1.cell? ⟨b, off + 1, none⟩ = some (.int .i64 qb)) ∧ Below W0.heap.size W0 W1) (first | exact HKd.out _ ((Below.refl _ _).drew) | exact HKd.out _ (bt (by assumption) hb1))
    ((first
      | (go_at_call 115; go_split_ands; refine (HC.out _ (bt hbW0 (by assumption))).mono ?_; rintro e w1 ⟨rfl, hb1⟩)))
  all_goals
    have hBB := bt hbW0 (bt (by assumption) hb1)
    go_wp2_with fail
    refine (decN (n := v) ⟨by omega, by omega⟩ w1).mono ?_
    rintro e w2 ⟨rfl, hb2⟩
    go_wp2
    go_ret2
    exact askPost_mk HX.out (bt hBB hb2)


set_option maxRecDepth 100000 in
set_option maxHeartbeats 4000000 in
theorem ask_fre (A1 A2 A3 : Option Addr) (c1 c2 c3 : Nat) (d : DeskD) (A : Option Addr) (c : Nat) (w : World) (hgd : DGood d) (hrw : RowsW 0 d A1 A2 A3 c1 c2 c3 w) (qa qb : Int) (hN : Rd w w.heap.size A 2 [.int .i64 qa, .int .i64 qb]) (hc : 2 ≤ c) : Calls Tryz.prog 89 #[.agg #[.slice A1 d.H.length c1, .slice A2 d.K.length c2, .slice A3 d.M.length c3], .string { data := #[102, 114, 101, 101] }, .slice A 2 c] w (AskPost d (.fre qa qb) w) := by
  have HRW := Lib.hid hrw
  have hcap := hrw.caps
  have hlen := hgd.lens
  have HGD := Lib.hid hgd
  obtain ⟨b, off, rfl, hbl, hcn⟩ := hN.at_ (by omega)
  have n0 : w.cell? ⟨b, off, none⟩ = some (.int .i64 qa) := hcn 0 _ rfl
  have n1 : w.cell? ⟨b, off + 1, none⟩ = some (.int .i64 qb) := hcn 1 _ rfl
  clear hcn hN
  clear hrw hgd
  have HC := Lib.hid (fun (W1 : World) (hb : Below w.heap.size w W1) => spec_FirstRoom A1 c1 d.H A2 c2 d.K qa qb W1 (rdW hb HRW.out.rd2) (by omega) hcap.2.1 (rdW hb HRW.out.rd1) (by omega) hcap.1)
  have HX : Hid (exec d (.fre qa qb) = (d, decI (roomP d.H d.K qa qb).1, (roomP d.H d.K qa qb).2)) := rfl
  have hbd := roomP_bd (H := d.H) (K := d.K) (a := qa) (b := qb)
  generalize roomP d.H d.K qa qb = p at *
  obtain ⟨v, q⟩ := p
  simp only at hbd
  go_enter Tryz.func89, Tryz.ntmps89
  go_wp2_with fail
  generalize hW0 : (w.alloc _).alloc _ = W0
  have hbW0 : Below w.heap.size w W0 := by subst hW0; exact ((Below.refl _ _).alloc (Nat.le_refl _) _).alloc (by (try simp) <;> (try omega)) _
  have hsW0 : W0.heap.size = w.heap.size + 2 := by subst hW0; simp
  have cxW0_0 : ∀ i, W0.cell? ⟨w.heap.size, i, none⟩ = (#[.slice A1 d.H.length c1, .slice A2 d.K.length c2, .slice A3 d.M.length c3] : Array Value)[i]? := by intro i; subst hW0; simp [go_sem]
  have HSW0 := Lib.hid hsW0; clear hW0 hsW0
  have hz0w := HSW0.out
  have HKd : Hid (∀ W1 : World, Below W0.heap.size W0 W1 → ((W1.cell? ⟨w.heap.size, 0, none⟩ = some (.slice A1 d.H.length c1)) ∧ (W1.cell? ⟨w.heap.size, 1, none⟩ = some (.slice A2 d.K.length c2)) ∧ (W1.cell? ⟨b, off, none⟩ = some (.int .i64 qa)) ∧ (W1.cell? ⟨b, off + 1, none⟩ = some (.int .i64 qb)) ∧ Below W0.heap.size W0 W1)) := fun W1 h => ⟨(h.cell (p := ⟨w.heap.size, 0, none⟩) (by simp only; omega)).trans (cxW0_0 0), (h.cell (p := ⟨w.heap.size, 1, none⟩) (by simp only; omega)).trans (cxW0_0 1), (h.cell (p := ⟨b, off, none⟩) (by simp only; omega)).trans ((hbW0.cell (p := ⟨b, off, none⟩) hbl).trans n0), (h.cell (p := ⟨b, off + 1, none⟩) (by simp only; omega)).trans ((hbW0.cell (p := ⟨b, off + 1, none⟩) hbl).trans n1), h⟩
  go_region_held3 (fun W1 => (W1.cell? ⟨w.heap.size, 0, none⟩ = some (.slice A1 d.H.length c1)) ∧ (W1.cell? ⟨w.heap.size, 1, none⟩ = some (.slice A2 d.K.length c2)) ∧ (W1.cell? ⟨b, off, none⟩ = some (.int .i64 qa)) ∧ (W1.cell? ⟨b, off + 1, none⟩ = some (.int .i64 qb)) ∧ Below W0.heap.size W0 W1) (first | exact HKd.out _ ((Below.refl _ _).drew) | exact HKd.out _ (bt (by assumption) hb1))
    ((first
      | (go_at_call 116; go_split_ands; refine (HC.out _ (bt hbW0 (by assumption))).mono ?_; rintro e w1 ⟨rfl, hb1⟩)))
  all_goals
    have hBB := bt hbW0 (bt (by assumption) hb1)
    go_wp2_with fail
    refine (decN (n := v) ⟨by omega, by omega⟩ w1).mono ?_
    rintro e w2 ⟨rfl, hb2⟩
    go_wp2
    go_ret2
    exact askPost_mk HX.out (bt hBB hb2)


set_option maxRecDepth 100000 in
set_option maxHeartbeats 4000000 in
theorem ask_onD (A1 A2 A3 : Option Addr) (c1 c2 c3 : Nat) (d : DeskD) (A : Option Addr) (c : Nat) (w : World) (hgd : DGood d) (hrw : RowsW 0 d A1 A2 A3 c1 c2 c3 w) (qa : Int) (hN : Rd w w.heap.size A 1 [.int .i64 qa]) (hc : 1 ≤ c) : Calls Tryz.prog 89 #[.agg #[.slice A1 d.H.length c1, .slice A2 d.K.length c2, .slice A3 d.M.length c3], .string { data := #[111, 110] }, .slice A 1 c] w (AskPost d (.onD qa) w) := by
  have HRW := Lib.hid hrw
  have hcap := hrw.caps
  have hlen := hgd.lens
  have HGD := Lib.hid hgd
  obtain ⟨b, off, rfl, hbl, hcn⟩ := hN.at_ (by omega)
  have n0 : w.cell? ⟨b, off, none⟩ = some (.int .i64 qa) := hcn 0 _ rfl
  clear hcn hN
  clear hrw hgd
  have HC := Lib.hid (fun (W1 : World) (hb : Below w.heap.size w W1) => spec_CalledOn A2 c2 d.K qa W1 (rdW hb HRW.out.rd2) (by omega) hcap.2.1)
  have HX : Hid (exec d (.onD qa) = (d, numsT (onP d.K qa), onCode d.K qa)) := rfl
  have HNB := Lib.hid (on_numsB d.K qa)
  generalize onP d.K qa = L at *
  generalize onCode d.K qa = q at *
  have HNS := Lib.hid (fun (W1 : World) (A9 : Option Addr) (c9 : Nat) hr hc9 => l01Text_c A9 c9 L W1 hr HNB.out.1 hc9 HNB.out.2)
  generalize numsT L = T at *
  go_enter Tryz.func89, Tryz.ntmps89
  go_wp2_with fail
  generalize hW0 : (w.alloc _).alloc _ = W0
  have hbW0 : Below w.heap.size w W0 := by subst hW0; exact ((Below.refl _ _).alloc (Nat.le_refl _) _).alloc (by (try simp) <;> (try omega)) _
  have hsW0 : W0.heap.size = w.heap.size + 2 := by subst hW0; simp
  have cxW0_0 : ∀ i, W0.cell? ⟨w.heap.size, i, none⟩ = (#[.slice A1 d.H.length c1, .slice A2 d.K.length c2, .slice A3 d.M.length c3] : Array Value)[i]? := by intro i; subst hW0; simp [go_sem]
  have HSW0 := Lib.hid hsW0; clear hW0 hsW0
  have hz0w := HSW0.out
  have HKd : Hid (∀ W1 : World, Below W0.heap.size W0 W1 → ((W1.cell? ⟨w.heap.size, 1, none⟩ = some (.slice A2 d.K.length c2)) ∧ (W1.cell? ⟨b, off, none⟩ = some (.int .i64 qa)) ∧ Below W0.heap.size W0 W1)) := fun W1 h => ⟨(h.cell (p := ⟨w.heap.size, 1, none⟩) (by simp only; omega)).trans (cxW0_0 1), (h.cell (p := ⟨b, off, none⟩) (by simp only; omega)).trans ((hbW0.cell (p := ⟨b, off, none⟩) hbl).trans n0), h⟩
  go_region_held3 (fun W1 => (W1.cell? ⟨w.heap.size, 1, none⟩ = some (.slice A2 d.K.length c2)) ∧ (W1.cell? ⟨b, off, none⟩ = some (.int .i64 qa)) ∧ Below W0.heap.size W0 W1) (first | exact HKd.out _ ((Below.refl _ _).drew) | exact HKd.out _ (bt (by assumption) hb1))
    ((first
      | (go_at_call 118; go_split_ands; refine (HC.out _ (bt hbW0 (by assumption))).mono ?_; rintro e w1 ⟨A9, c9, rfl, ho9, hb1, hc9, hm9⟩)))
  all_goals
    have hBB := bt hbW0 (bt (by assumption) hb1)
    have HR9 := Lib.hid (Rd.of_own1 ho9)
    go_wp2_with fail
    refine (HNS.out w1 A9 c9 HR9.out hc9).mono ?_
    rintro e w2 ⟨rfl, hb2⟩
    go_wp2
    go_ret2
    exact askPost_mk HX.out (bt hBB hb2)


set_option maxRecDepth 100000 in
set_option maxHeartbeats 4000000 in
theorem ask_nex (A1 A2 A3 : Option Addr) (c1 c2 c3 : Nat) (d : DeskD) (A : Option Addr) (c : Nat) (w : World) (hgd : DGood d) (hrw : RowsW 0 d A1 A2 A3 c1 c2 c3 w) (qa qb : Int) (hN : Rd w w.heap.size A 2 [.int .i64 qa, .int .i64 qb]) (hc : 2 ≤ c) : Calls Tryz.prog 89 #[.agg #[.slice A1 d.H.length c1, .slice A2 d.K.length c2, .slice A3 d.M.length c3], .string { data := #[110, 101, 120, 116] }, .slice A 2 c] w (AskPost d (.nex qa qb) w) := by
  have HRW := Lib.hid hrw
  have hcap := hrw.caps
  have hlen := hgd.lens
  have HGD := Lib.hid hgd
  obtain ⟨b, off, rfl, hbl, hcn⟩ := hN.at_ (by omega)
  have n0 : w.cell? ⟨b, off, none⟩ = some (.int .i64 qa) := hcn 0 _ rfl
  have n1 : w.cell? ⟨b, off + 1, none⟩ = some (.int .i64 qb) := hcn 1 _ rfl
  clear hcn hN
  clear hrw hgd
  have HC := Lib.hid (fun (W1 : World) (hb : Below w.heap.size w W1) => spec_NextStates A3 c3 d.M qa qb W1 (rdW hb HRW.out.rd3) (by omega) hcap.2.2 HGD.out.2.2.2)
  have HX : Hid (exec d (.nex qa qb) = (d, numsT (nextFor d.M qa qb), codeM d.M qa qb)) := rfl
  have HNB := Lib.hid (next_numsB d.M qa qb)
  generalize nextFor d.M qa qb = L at *
  generalize codeM d.M qa qb = q at *
  have HNS := Lib.hid (fun (W1 : World) (A9 : Option Addr) (c9 : Nat) hr hc9 => l01Text_c A9 c9 L W1 hr HNB.out.1 hc9 HNB.out.2)
  generalize numsT L = T at *
  go_enter Tryz.func89, Tryz.ntmps89
  go_wp2_with fail
  generalize hW0 : (w.alloc _).alloc _ = W0
  have hbW0 : Below w.heap.size w W0 := by subst hW0; exact ((Below.refl _ _).alloc (Nat.le_refl _) _).alloc (by (try simp) <;> (try omega)) _
  have hsW0 : W0.heap.size = w.heap.size + 2 := by subst hW0; simp
  have cxW0_0 : ∀ i, W0.cell? ⟨w.heap.size, i, none⟩ = (#[.slice A1 d.H.length c1, .slice A2 d.K.length c2, .slice A3 d.M.length c3] : Array Value)[i]? := by intro i; subst hW0; simp [go_sem]
  have HSW0 := Lib.hid hsW0; clear hW0 hsW0
  have hz0w := HSW0.out
  have HKd : Hid (∀ W1 : World, Below W0.heap.size W0 W1 → ((W1.cell? ⟨w.heap.size, 2, none⟩ = some (.slice A3 d.M.length c3)) ∧ (W1.cell? ⟨b, off, none⟩ = some (.int .i64 qa)) ∧ (W1.cell? ⟨b, off + 1, none⟩ = some (.int .i64 qb)) ∧ Below W0.heap.size W0 W1)) := fun W1 h => ⟨(h.cell (p := ⟨w.heap.size, 2, none⟩) (by simp only; omega)).trans (cxW0_0 2), (h.cell (p := ⟨b, off, none⟩) (by simp only; omega)).trans ((hbW0.cell (p := ⟨b, off, none⟩) hbl).trans n0), (h.cell (p := ⟨b, off + 1, none⟩) (by simp only; omega)).trans ((hbW0.cell (p := ⟨b, off + 1, none⟩) hbl).trans n1), h⟩
  go_region_held3 (fun W1 => (W1.cell? ⟨w.heap.size, 2, none⟩ = some (.slice A3 d.M.length c3)) ∧ (W1.cell? ⟨b, off, none⟩ = some (.int .i64 qa)) ∧ (W1.cell? ⟨b, off + 1, none⟩ = some (.int .i64 qb)) ∧ Below W0.heap.size W0 W1) (first | exact HKd.out _ ((Below.refl _ _).drew) | exact HKd.out _ (bt (by assumption) hb1))
    ((first
      | (go_at_call 119; go_split_ands; refine (HC.out _ (bt hbW0 (by assumption))).mono ?_; rintro e w1 ⟨A9, c9, rfl, ho9, hb1, hc9, hm9⟩)))
  all_goals
    have hBB := bt hbW0 (bt (by assumption) hb1)
    have HR9 := Lib.hid (Rd.of_own1 ho9)
    go_wp2_with fail
    refine (HNS.out w1 A9 c9 HR9.out hc9).mono ?_
    rintro e w2 ⟨rfl, hb2⟩
    go_wp2
    go_ret2
    exact askPost_mk HX.out (bt hBB hb2)


set_option maxRecDepth 100000 in
set_option maxHeartbeats 4000000 in
theorem ask_opn (A1 A2 A3 : Option Addr) (c1 c2 c3 : Nat) (d : DeskD) (A : Option Addr) (c : Nat) (w : World) (hgd : DGood d) (hrw : RowsW 0 d A1 A2 A3 c1 c2 c3 w) (hc : 0 ≤ c) : Calls Tryz.prog 89 #[.agg #[.slice A1 d.H.length c1, .slice A2 d.K.length c2, .slice A3 d.M.length c3], .string { data := #[111, 112, 101, 110] }, .slice A 0 c] w (AskPost d (.opn) w) := by
  have HRW := Lib.hid hrw
  have hcap := hrw.caps
  have hlen := hgd.lens
  have HGD := Lib.hid hgd
  clear hrw hgd
  have HC := Lib.hid (fun (W1 : World) (hb : Below w.heap.size w W1) => spec_OpenMotions A3 c3 d.M W1 (rdW hb HRW.out.rd3) (by omega) hcap.2.2 HGD.out.2.2.2)
  have HX : Hid (exec d (.opn ) = (d, numsT (openFor d.M), openCode d.M)) := rfl
  have HNB := Lib.hid (open_numsB d.M)
  generalize openFor d.M = L at *
  generalize openCode d.M = q at *
  have HNS := Lib.hid (fun (W1 : World) (A9 : Option Addr) (c9 : Nat) hr hc9 => l01Text_c A9 c9 L W1 hr HNB.out.1 hc9 HNB.out.2)
  generalize numsT L = T at *
  go_enter Tryz.func89, Tryz.ntmps89
  go_wp2_with fail
  generalize hW0 : (w.alloc _).alloc _ = W0
  have hbW0 : Below w.heap.size w W0 := by subst hW0; exact ((Below.refl _ _).alloc (Nat.le_refl _) _).alloc (by (try simp) <;> (try omega)) _
  have hsW0 : W0.heap.size = w.heap.size + 2 := by subst hW0; simp
  have cxW0_0 : ∀ i, W0.cell? ⟨w.heap.size, i, none⟩ = (#[.slice A1 d.H.length c1, .slice A2 d.K.length c2, .slice A3 d.M.length c3] : Array Value)[i]? := by intro i; subst hW0; simp [go_sem]
  have HSW0 := Lib.hid hsW0; clear hW0 hsW0
  have hz0w := HSW0.out
  refine (HC.out W0 hbW0).mono ?_
  rintro e w1 ⟨A9, c9, rfl, ho9, hb1, hc9, hm9⟩
  have hBB := bt hbW0 hb1
  have HR9 := Lib.hid (Rd.of_own1 ho9)
  go_wp2_with fail
  refine (HNS.out w1 A9 c9 HR9.out hc9).mono ?_
  rintro e w2 ⟨rfl, hb2⟩
  go_wp2
  go_ret2
  exact askPost_mk HX.out (bt hBB hb2)


set_option maxRecDepth 100000 in
set_option maxHeartbeats 4000000 in
theorem ask_dra (A1 A2 A3 : Option Addr) (c1 c2 c3 : Nat) (d : DeskD) (A : Option Addr) (c : Nat) (w : World) (hgd : DGood d) (hrw : RowsW 0 d A1 A2 A3 c1 c2 c3 w) (qa qb qc : Int) (hN : Rd w w.heap.size A 3 [.int .i64 qa, .int .i64 qb, .int .i64 qc]) (hc : 3 ≤ c) : Calls Tryz.prog 89 #[.agg #[.slice A1 d.H.length c1, .slice A2 d.K.length c2, .slice A3 d.M.length c3], .string { data := #[100, 114, 97, 119] }, .slice A 3 c] w (AskPost d (.dra qa qb qc) w) := by
  have HRW := Lib.hid hrw
  have hcap := hrw.caps
  have hlen := hgd.lens
  have HGD := Lib.hid hgd
  obtain ⟨b, off, rfl, hbl, hcn⟩ := hN.at_ (by omega)
  have n0 : w.cell? ⟨b, off, none⟩ = some (.int .i64 qa) := hcn 0 _ rfl
  have n1 : w.cell? ⟨b, off + 1, none⟩ = some (.int .i64 qb) := hcn 1 _ rfl
  have n2 : w.cell? ⟨b, off + 2, none⟩ = some (.int .i64 qc) := hcn 2 _ rfl
  clear hcn hN
  clear hrw hgd
  have HC := Lib.hid (fun (W1 : World) (hb : Below w.heap.size w W1) => spec_SampleOf qa qb qc W1)
  have HX : Hid (exec d (.dra qa qb qc) = (d, numsT (sampL qa qb qc), sampC qa qb qc)) := rfl
  have HNB := Lib.hid (samp_numsB qa qb qc)
  generalize sampL qa qb qc = L at *
  generalize sampC qa qb qc = q at *
  have HNS := Lib.hid (fun (W1 : World) (A9 : Option Addr) (c9 : Nat) hr hc9 => l01Text_c A9 c9 L W1 hr HNB.out.1 hc9 HNB.out.2)
  generalize numsT L = T at *
  go_enter Tryz.func89, Tryz.ntmps89
  go_wp2_with fail
  generalize hW0 : (w.alloc _).alloc _ = W0
  have hbW0 : Below w.heap.size w W0 := by subst hW0; exact ((Below.refl _ _).alloc (Nat.le_refl _) _).alloc (by (try simp) <;> (try omega)) _
  have hsW0 : W0.heap.size = w.heap.size + 2 := by subst hW0; simp
  have cxW0_0 : ∀ i, W0.cell? ⟨w.heap.size, i, none⟩ = (#[.slice A1 d.H.length c1, .slice A2 d.K.length c2, .slice A3 d.M.length c3] : Array Value)[i]? := by intro i; subst hW0; simp [go_sem]
  have HSW0 := Lib.hid hsW0; clear hW0 hsW0
  have hz0w := HSW0.out
  have HKd : Hid (∀ W1 : World, Below W0.heap.size W0 W1 → ((W1.cell? ⟨b, off, none⟩ = some (.int .i64 qa)) ∧ (W1.cell? ⟨b, off + 1, none⟩ = some (.int .i64 qb)) ∧ (W1.cell? ⟨b, off + 2, none⟩ = some (.int .i64 qc)) ∧ Below W0.heap.size W0 W1)) := fun W1 h => ⟨(h.cell (p := ⟨b, off, none⟩) (by simp only; omega)).trans ((hbW0.cell (p := ⟨b, off, none⟩) hbl).trans n0), (h.cell (p := ⟨b, off + 1, none⟩) (by simp only; omega)).trans ((hbW0.cell (p := ⟨b, off + 1, none⟩) hbl).trans n1), (h.cell (p := ⟨b, off + 2, none⟩) (by simp only; omega)).trans ((hbW0.cell (p := ⟨b, off + 2, none⟩) hbl).trans n2), h⟩
  go_region_held3 (fun W1 => (W1.cell? ⟨b, off, none⟩ = some (.int .i64 qa)) ∧ (W1.cell? ⟨b, off + 1, none⟩ = some (.int .i64 qb)) ∧ (W1.cell? ⟨b, off + 2, none⟩ = some (.int .i64 qc)) ∧ Below W0.heap.size W0 W1) (first | exact HKd.out _ ((Below.refl _ _).drew) | exact HKd.out _ (bt (by assumption) hb1))
    ((first
      | (go_at_call 121; go_split_ands; refine (HC.out _ (bt hbW0 (by assumption))).mono ?_; rintro e w1 ⟨A9, c9, rfl, hc9, hr9, hb1⟩)))
  all_goals
    have hBB := bt hbW0 (bt (by assumption) hb1)
    have HR9 := Lib.hid (hr9)
    go_wp2_with fail
    refine (HNS.out w1 A9 c9 HR9.out hc9).mono ?_
    rintro e w2 ⟨rfl, hb2⟩
    go_wp2
    go_ret2
    exact askPost_mk HX.out (bt hBB hb2)


set_option maxRecDepth 100000 in
set_option maxHeartbeats 4000000 in
theorem ask_cha (A1 A2 A3 : Option Addr) (c1 c2 c3 : Nat) (d : DeskD) (A : Option Addr) (c : Nat) (w : World) (hgd : DGood d) (hrw : RowsW 0 d A1 A2 A3 c1 c2 c3 w) (qa qb qc qe : Int) (hN : Rd w w.heap.size A 4 [.int .i64 qa, .int .i64 qb, .int .i64 qc, .int .i64 qe]) (hc : 4 ≤ c) : Calls Tryz.prog 89 #[.agg #[.slice A1 d.H.length c1, .slice A2 d.K.length c2, .slice A3 d.M.length c3], .string { data := #[99, 104, 97, 110, 99, 101] }, .slice A 4 c] w (AskPost d (.cha qa qb qc qe) w) := by
  have HRW := Lib.hid hrw
  have hcap := hrw.caps
  have hlen := hgd.lens
  have HGD := Lib.hid hgd
  obtain ⟨b, off, rfl, hbl, hcn⟩ := hN.at_ (by omega)
  have n0 : w.cell? ⟨b, off, none⟩ = some (.int .i64 qa) := hcn 0 _ rfl
  have n1 : w.cell? ⟨b, off + 1, none⟩ = some (.int .i64 qb) := hcn 1 _ rfl
  have n2 : w.cell? ⟨b, off + 2, none⟩ = some (.int .i64 qc) := hcn 2 _ rfl
  have n3 : w.cell? ⟨b, off + 3, none⟩ = some (.int .i64 qe) := hcn 3 _ rfl
  clear hcn hN
  clear hrw hgd
  have HC := Lib.hid (fun (W1 : World) (hb : Below w.heap.size w W1) => spec_ChanceOfAtMost qa qb qc qe W1)
  have HX : Hid (exec d (.cha qa qb qc qe) = (d, decI (topW qa qb qc qe) ++ slashT ++ decI (botW qa qb qc qe), codeW qa qb qc qe)) := rfl
  have ht := topW_bd qa qb qc qe
  have hb' := botW_bd qa qb qc qe
  generalize topW qa qb qc qe = p1 at *
  generalize botW qa qb qc qe = p2 at *
  generalize codeW qa qb qc qe = q at *
  have hz1 := decI_len p1 (by omega) (by omega)
  have hz2 := decI_len p2 (by omega) (by omega)
  have HD1 := Lib.hid (fun (W1 : World) => decN (n := p1) ht W1)
  have HD2 := Lib.hid (fun (W1 : World) => decN (n := p2) hb' W1)
  generalize decI p1 = s1 at *
  generalize decI p2 = s2 at *
  have hs1 : (s1 ++ slashT).size = s1.size + 1 := by rw [ByteArray.size_append]; rfl
  unfold slashT at HX hs1
  go_enter Tryz.func89, Tryz.ntmps89
  go_wp2_with fail
  generalize hW0 : (w.alloc _).alloc _ = W0
  have hbW0 : Below w.heap.size w W0 := by subst hW0; exact ((Below.refl _ _).alloc (Nat.le_refl _) _).alloc (by (try simp) <;> (try omega)) _
  have hsW0 : W0.heap.size = w.heap.size + 2 := by subst hW0; simp
  have cxW0_0 : ∀ i, W0.cell? ⟨w.heap.size, i, none⟩ = (#[.slice A1 d.H.length c1, .slice A2 d.K.length c2, .slice A3 d.M.length c3] : Array Value)[i]? := by intro i; subst hW0; simp [go_sem]
  have HSW0 := Lib.hid hsW0; clear hW0 hsW0
  have hz0w := HSW0.out
  have HKd : Hid (∀ W1 : World, Below W0.heap.size W0 W1 → ((W1.cell? ⟨b, off, none⟩ = some (.int .i64 qa)) ∧ (W1.cell? ⟨b, off + 1, none⟩ = some (.int .i64 qb)) ∧ (W1.cell? ⟨b, off + 2, none⟩ = some (.int .i64 qc)) ∧ (W1.cell? ⟨b, off + 3, none⟩ = some (.int .i64 qe)) ∧ Below W0.heap.size W0 W1)) := fun W1 h => ⟨(h.cell (p := ⟨b, off, none⟩) (by simp only; omega)).trans ((hbW0.cell (p := ⟨b, off, none⟩) hbl).trans n0), (h.cell (p := ⟨b, off + 1, none⟩) (by simp only; omega)).trans ((hbW0.cell (p := ⟨b, off + 1, none⟩) hbl).trans n1), (h.cell (p := ⟨b, off + 2, none⟩) (by simp only; omega)).trans ((hbW0.cell (p := ⟨b, off + 2, none⟩) hbl).trans n2), (h.cell (p := ⟨b, off + 3, none⟩) (by simp only; omega)).trans ((hbW0.cell (p := ⟨b, off + 3, none⟩) hbl).trans n3), h⟩
  go_region_held3 (fun W1 => (W1.cell? ⟨b, off, none⟩ = some (.int .i64 qa)) ∧ (W1.cell? ⟨b, off + 1, none⟩ = some (.int .i64 qb)) ∧ (W1.cell? ⟨b, off + 2, none⟩ = some (.int .i64 qc)) ∧ (W1.cell? ⟨b, off + 3, none⟩ = some (.int .i64 qe)) ∧ Below W0.heap.size W0 W1) (first | exact HKd.out _ ((Below.refl _ _).drew) | exact HKd.out _ (bt (by assumption) hb1))
    ((first
      | (go_at_call 117; go_split_ands; refine (HC.out _ (bt hbW0 (by assumption))).mono ?_; rintro e w1 ⟨rfl, hb1⟩)))
  all_goals
    have hBB := bt hbW0 (bt (by assumption) hb1)
    go_wp2_with fail
    refine (HD1.out w1).mono ?_
    rintro e w2 ⟨rfl, hb2⟩
    go_wp2_with fail
    refine (HD2.out w2).mono ?_
    rintro e w3 ⟨rfl, hb3⟩
    go_wp2
    go_ret2
    exact askPost_mk HX.out (bt (bt hBB hb2) hb3)

end Go.Proofs.YtiamignopfhkfaaGreatDoor
