/- Contracts: execute, at the commands that only ask. -/
import Derived.Test.YtiamignopfhkfaaGreatDoorZ18
namespace Go.Proofs.YtiamignopfhkfaaGreatDoor
open Go.RowKit
set_option linter.unusedVariables false
set_option linter.unusedSimpArgs false

theorem number_c (n code : Int) (w : World) (hn : 0 ≤ n ∧ n ≤ 1000000000000000) (ht : TabW w) : Calls Tryz.prog 99 #[.int .i64 n, .int .i64 code] w fun e w' => e = .returned (.tuple #[.string (decI n), .int .i64 code]) ∧ Below w.heap.size w w' := by
  have HC := Lib.hid (decimalI_c n (by omega) (by omega) w ht)
  go_enter Tryz.func99, Tryz.ntmps99
  go_wp2_with fail
  refine HC.out.mono ?_
  rintro e w1 ⟨rfl, hb1⟩
  go_wp2
  go_ret2
  exact ⟨rfl, hb1⟩
theorem numbers_c (A : Option Addr) (c : Nat) (N : List Int) (code : Int) (w : World) (hr : Rd w w.heap.size A N.length (N.map (Value.int .i64))) (hN : NumsB N) (hcap : N.length ≤ c) (ht : TabW w) : Calls Tryz.prog 103 #[.slice A N.length c, .int .i64 code] w fun e w' => e = .returned (.tuple #[.string (numsT N), .int .i64 code]) ∧ Below w.heap.size w w' := by
  have HC := Lib.hid (numbersText_c A c N w hr hN.1 hcap hN.2 ht)
  generalize numsT N = T at *
  go_enter Tryz.func103, Tryz.ntmps103
  go_wp2_with fail
  refine HC.out.mono ?_
  rintro e w1 ⟨rfl, hb1⟩
  go_wp2
  go_ret2
  exact ⟨rfl, hb1⟩
/-- What execute makes of a desk in block g. -/
def ExecPost (B g : Nat) (F : Nat → Prop) (d : DeskD) (m : Cm) (w : World) (e : Ending) (w' : World) : Prop :=
  ∃ o, e = .returned (.tuple #[.string o, .int .i64 (exec d m).2.2]) ∧ ((exec d m).2.2 = 0 → o = (exec d m).2.1) ∧ DeskIn B g F (exec d m).1 w' ∧ w.grownBy w' (some g) ∧ o.size ≤ 100000
theorem execPost_ask {B g : Nat} {F : Nat → Prop} {d : DeskD} {m : Cm} {w w' : World} {o : ByteArray} {q : Int} (hx : exec d m = (d, o, q)) (ho : o.size ≤ 100000) (hD : DeskIn B g F d w) (hb : Below w.heap.size w w') : ExecPost B g F d m w (.returned (.tuple #[.string o, .int .i64 q])) w' :=
  ⟨o, by rw [hx], fun _ => by rw [hx], by rw [hx]; exact hD.below hb, grown_of_below hb _, ho⟩
theorem numsT_size {N : List Int} (h : NumsB N) : (numsT N).size ≤ 22001 := by
  by_cases h0 : N.length = 0
  · obtain rfl := List.eq_nil_of_length_eq_zero h0
    rw [numsT_nil]; show 1 ≤ 22001; omega
  · rw [numsT_cons (by omega)]
    have h1 := nums_len N h.2
    have h2 := h.1
    have e : (⟨(Lib.join (numsL N) [44]).toArray⟩ : ByteArray).size = (Lib.join (numsL N) [44]).length := List.size_toArray
    omega


set_option maxRecDepth 100000 in
set_option maxHeartbeats 4000000 in
theorem exec_due (g : Nat) (F : Nat → Prop) (d : DeskD) (t : ByteArray) (A : Option Addr) (c : Nat) (w0 w : World) (hE : JEnv w0) (h0 : Below w0.heap.size w0 w) (hD : DeskIn w0.heap.size g F d w) (qa qb : Int) (hN : Rd w w.heap.size A 2 [.int .i64 qa, .int .i64 qb]) (hc : 2 ≤ c) : Calls Tryz.prog 85 #[.pointer (some ⟨g, 0, none⟩), .agg #[.string { data := #[100, 117, 101] }, .string t, .slice A 2 c]] w (ExecPost w0.heap.size g F d (.due qa qb) w) := by
  have HT : Hid (∀ W1 : World, Below w.heap.size w W1 → TabW W1) := fun W1 hb => (hE.below (bt h0 hb)).1
  have HD := Lib.hid hD
  have hgl := hD.bds.2
  obtain ⟨hgd, -, fz, A1, A2, A3, c1, c2, c3, ⟨k1, k2, k3⟩, hrw, -⟩ := hD
  have HRW := Lib.hid hrw
  have hcap := hrw.caps
  have hlen := hgd.lens
  have HGD := Lib.hid hgd
  obtain ⟨b, off, rfl, hbl, hcn⟩ := hN.at_ (by omega)
  have n0 : w.cell? ⟨b, off, none⟩ = some (.int .i64 qa) := hcn 0 _ rfl
  have n1 : w.cell? ⟨b, off + 1, none⟩ = some (.int .i64 qb) := hcn 1 _ rfl
  clear hcn hN
  clear fz hrw hgd hE
  have HC := Lib.hid (fun (W1 : World) (hb : Below w.heap.size w W1) => impl_DeadlineOf A1 c1 d.H qa qb W1 (rdW hb HRW.out.rd1) (by omega) hcap.1)
  have HX : Hid (exec d (.due qa qb) = (d, decI (deadP d.H qa qb).1, (deadP d.H qa qb).2)) := rfl
  have hbd := deadP_bd (H := d.H) (a := qa) (b := qb)
  have HSZ := Lib.hid (decI_len (deadP d.H qa qb).1 (by omega) (by omega))
  generalize deadP d.H qa qb = p at *
  obtain ⟨v, q⟩ := p
  simp only at hbd
  have HNM := Lib.hid (fun (W1 : World) (hb : Below w.heap.size w W1) => number_c v q W1 ⟨by omega, by omega⟩ (HT.out W1 hb))
  go_enter Tryz.func85, Tryz.ntmps85
  go_wp2_with fail
  generalize hW0 : w.alloc _ = W0
  have hbW0 : Below w.heap.size w W0 := by subst hW0; exact (Below.refl _ _).alloc (Nat.le_refl _) _
  have hsW0 : W0.heap.size = w.heap.size + 1 := by subst hW0; simp
  have cxW0_0 : ∀ i, W0.cell? ⟨w.heap.size, i, none⟩ = (#[.string { data := #[100, 117, 101] }, .string t, .slice (some ⟨b, off, none⟩) 2 c] : Array Value)[i]? := by intro i; subst hW0; simp [go_sem]
  have HSW0 := Lib.hid hsW0; clear hW0 hsW0
  have hz0w := HSW0.out
  have HKd : Hid (∀ W1 : World, Below W0.heap.size W0 W1 → ((W1.cell? ⟨g, 0, none⟩ = some (.slice A1 d.H.length c1)) ∧ (W1.cell? ⟨b, off, none⟩ = some (.int .i64 qa)) ∧ (W1.cell? ⟨b, off + 1, none⟩ = some (.int .i64 qb)) ∧ Below W0.heap.size W0 W1)) := fun W1 h => ⟨(h.cell (p := ⟨g, 0, none⟩) (by simp only; omega)).trans ((hbW0.cell (p := ⟨g, 0, none⟩) hgl).trans k1), (h.cell (p := ⟨b, off, none⟩) (by simp only; omega)).trans ((hbW0.cell (p := ⟨b, off, none⟩) hbl).trans n0), (h.cell (p := ⟨b, off + 1, none⟩) (by simp only; omega)).trans ((hbW0.cell (p := ⟨b, off + 1, none⟩) hbl).trans n1), h⟩
  go_region_held3 (fun W1 => (W1.cell? ⟨g, 0, none⟩ = some (.slice A1 d.H.length c1)) ∧ (W1.cell? ⟨b, off, none⟩ = some (.int .i64 qa)) ∧ (W1.cell? ⟨b, off + 1, none⟩ = some (.int .i64 qb)) ∧ Below W0.heap.size W0 W1) (first | exact HKd.out _ ((Below.refl _ _).drew) | exact HKd.out _ (bt (by assumption) hb1) | exact HKd.out _ (bt (by assumption) hb2))
    ((first
      | (go_at_call 100; go_split_ands; refine (HC.out _ (bt hbW0 (by assumption))).mono ?_; rintro e w1 ⟨rfl, hb1⟩)
      | (go_at_call 99; go_split_ands; refine (HNM.out _ (bt hbW0 (by assumption))).mono ?_; rintro e w2 ⟨rfl, hb2⟩)))
  all_goals
    have hBB := bt hbW0 (bt (bt (by assumption) hb1) hb2)
    go_wp2
    go_ret2
    exact execPost_ask HX.out (by have := HSZ.out; omega) HD.out hBB


set_option maxRecDepth 100000 in
set_option maxHeartbeats 4000000 in
theorem exec_plu (g : Nat) (F : Nat → Prop) (d : DeskD) (t : ByteArray) (A : Option Addr) (c : Nat) (w0 w : World) (hE : JEnv w0) (h0 : Below w0.heap.size w0 w) (hD : DeskIn w0.heap.size g F d w) (qa qb : Int) (hN : Rd w w.heap.size A 2 [.int .i64 qa, .int .i64 qb]) (hc : 2 ≤ c) : Calls Tryz.prog 85 #[.pointer (some ⟨g, 0, none⟩), .agg #[.string { data := #[112, 108, 117, 115] }, .string t, .slice A 2 c]] w (ExecPost w0.heap.size g F d (.plu qa qb) w) := by
  have HT : Hid (∀ W1 : World, Below w.heap.size w W1 → TabW W1) := fun W1 hb => (hE.below (bt h0 hb)).1
  have HD := Lib.hid hD
  have hgl := hD.bds.2
  obtain ⟨hgd, -, fz, A1, A2, A3, c1, c2, c3, ⟨k1, k2, k3⟩, hrw, -⟩ := hD
  have HRW := Lib.hid hrw
  have hcap := hrw.caps
  have hlen := hgd.lens
  have HGD := Lib.hid hgd
  obtain ⟨b, off, rfl, hbl, hcn⟩ := hN.at_ (by omega)
  have n0 : w.cell? ⟨b, off, none⟩ = some (.int .i64 qa) := hcn 0 _ rfl
  have n1 : w.cell? ⟨b, off + 1, none⟩ = some (.int .i64 qb) := hcn 1 _ rfl
  clear hcn hN
  clear fz hrw hgd hE
  have HC := Lib.hid (fun (W1 : World) (hb : Below w.heap.size w W1) => impl_AddCourtDays A1 c1 d.H qa qb W1 (rdW hb HRW.out.rd1) (by omega) hcap.1)
  have HX : Hid (exec d (.plu qa qb) = (d, decI (addP d.H qa qb).1, (addP d.H qa qb).2)) := rfl
  have hbd := addP_bd (H := d.H) (a := qa) (b := qb)
  have HSZ := Lib.hid (decI_len (addP d.H qa qb).1 (by omega) (by omega))
  generalize addP d.H qa qb = p at *
  obtain ⟨v, q⟩ := p
  simp only at hbd
  have HNM := Lib.hid (fun (W1 : World) (hb : Below w.heap.size w W1) => number_c v q W1 ⟨by omega, by omega⟩ (HT.out W1 hb))
  go_enter Tryz.func85, Tryz.ntmps85
  go_wp2_with fail
  generalize hW0 : w.alloc _ = W0
  have hbW0 : Below w.heap.size w W0 := by subst hW0; exact (Below.refl _ _).alloc (Nat.le_refl _) _
  have hsW0 : W0.heap.size = w.heap.size + 1 := by subst hW0; simp
  have cxW0_0 : ∀ i, W0.cell? ⟨w.heap.size, i, none⟩ = (#[.string { data := #[112, 108, 117, 115] }, .string t, .slice (some ⟨b, off, none⟩) 2 c] : Array Value)[i]? := by intro i; subst hW0; simp [go_sem]
  have HSW0 := Lib.hid hsW0; clear hW0 hsW0
  have hz0w := HSW0.out
  have HKd : Hid (∀ W1 : World, Below W0.heap.size W0 W1 → ((W1.cell? ⟨g, 0, none⟩ = some (.slice A1 d.H.length c1)) ∧ (W1.cell? ⟨b, off, none⟩ = some (.int .i64 qa)) ∧ (W1.cell? ⟨b, off + 1, none⟩ = some (.int .i64 qb)) ∧ Below W0.heap.size W0 W1)) := fun W1 h => ⟨(h.cell (p := ⟨g, 0, none⟩) (by simp only; omega)).trans ((hbW0.cell (p := ⟨g, 0, none⟩) hgl).trans k1), (h.cell (p := ⟨b, off, none⟩) (by simp only; omega)).trans ((hbW0.cell (p := ⟨b, off, none⟩) hbl).trans n0), (h.cell (p := ⟨b, off + 1, none⟩) (by simp only; omega)).trans ((hbW0.cell (p := ⟨b, off + 1, none⟩) hbl).trans n1), h⟩
  go_region_held3 (fun W1 => (W1.cell? ⟨g, 0, none⟩ = some (.slice A1 d.H.length c1)) ∧ (W1.cell? ⟨b, off, none⟩ = some (.int .i64 qa)) ∧ (W1.cell? ⟨b, off + 1, none⟩ = some (.int .i64 qb)) ∧ Below W0.heap.size W0 W1) (first | exact HKd.out _ ((Below.refl _ _).drew) | exact HKd.out _ (bt (by assumption) hb1) | exact HKd.out _ (bt (by assumption) hb2))
    ((first
      | (go_at_call 101; go_split_ands; refine (HC.out _ (bt hbW0 (by assumption))).mono ?_; rintro e w1 ⟨rfl, hb1⟩)
      | (go_at_call 99; go_split_ands; refine (HNM.out _ (bt hbW0 (by assumption))).mono ?_; rintro e w2 ⟨rfl, hb2⟩)))
  all_goals
    have hBB := bt hbW0 (bt (bt (by assumption) hb1) hb2)
    go_wp2
    go_ret2
    exact execPost_ask HX.out (by have := HSZ.out; omega) HD.out hBB


set_option maxRecDepth 100000 in
set_option maxHeartbeats 4000000 in
theorem exec_fre (g : Nat) (F : Nat → Prop) (d : DeskD) (t : ByteArray) (A : Option Addr) (c : Nat) (w0 w : World) (hE : JEnv w0) (h0 : Below w0.heap.size w0 w) (hD : DeskIn w0.heap.size g F d w) (qa qb : Int) (hN : Rd w w.heap.size A 2 [.int .i64 qa, .int .i64 qb]) (hc : 2 ≤ c) : Calls Tryz.prog 85 #[.pointer (some ⟨g, 0, none⟩), .agg #[.string { data := #[102, 114, 101, 101] }, .string t, .slice A 2 c]] w (ExecPost w0.heap.size g F d (.fre qa qb) w) := by
  have HT : Hid (∀ W1 : World, Below w.heap.size w W1 → TabW W1) := fun W1 hb => (hE.below (bt h0 hb)).1
  have HD := Lib.hid hD
  have hgl := hD.bds.2
  obtain ⟨hgd, -, fz, A1, A2, A3, c1, c2, c3, ⟨k1, k2, k3⟩, hrw, -⟩ := hD
  have HRW := Lib.hid hrw
  have hcap := hrw.caps
  have hlen := hgd.lens
  have HGD := Lib.hid hgd
  obtain ⟨b, off, rfl, hbl, hcn⟩ := hN.at_ (by omega)
  have n0 : w.cell? ⟨b, off, none⟩ = some (.int .i64 qa) := hcn 0 _ rfl
  have n1 : w.cell? ⟨b, off + 1, none⟩ = some (.int .i64 qb) := hcn 1 _ rfl
  clear hcn hN
  clear fz hrw hgd hE
  have HC := Lib.hid (fun (W1 : World) (hb : Below w.heap.size w W1) => impl_FirstRoom A1 c1 d.H A2 c2 d.K qa qb W1 (rdW hb HRW.out.rd2) (by omega) hcap.2.1 (rdW hb HRW.out.rd1) (by omega) hcap.1)
  have HX : Hid (exec d (.fre qa qb) = (d, decI (roomP d.H d.K qa qb).1, (roomP d.H d.K qa qb).2)) := rfl
  have hbd := roomP_bd (H := d.H) (K := d.K) (a := qa) (b := qb)
  have HSZ := Lib.hid (decI_len (roomP d.H d.K qa qb).1 (by omega) (by omega))
  generalize roomP d.H d.K qa qb = p at *
  obtain ⟨v, q⟩ := p
  simp only at hbd
  have HNM := Lib.hid (fun (W1 : World) (hb : Below w.heap.size w W1) => number_c v q W1 ⟨by omega, by omega⟩ (HT.out W1 hb))
  go_enter Tryz.func85, Tryz.ntmps85
  go_wp2_with fail
  generalize hW0 : w.alloc _ = W0
  have hbW0 : Below w.heap.size w W0 := by subst hW0; exact (Below.refl _ _).alloc (Nat.le_refl _) _
  have hsW0 : W0.heap.size = w.heap.size + 1 := by subst hW0; simp
  have cxW0_0 : ∀ i, W0.cell? ⟨w.heap.size, i, none⟩ = (#[.string { data := #[102, 114, 101, 101] }, .string t, .slice (some ⟨b, off, none⟩) 2 c] : Array Value)[i]? := by intro i; subst hW0; simp [go_sem]
  have HSW0 := Lib.hid hsW0; clear hW0 hsW0
  have hz0w := HSW0.out
  have HKd : Hid (∀ W1 : World, Below W0.heap.size W0 W1 → ((W1.cell? ⟨g, 0, none⟩ = some (.slice A1 d.H.length c1)) ∧ (W1.cell? ⟨g, 1, none⟩ = some (.slice A2 d.K.length c2)) ∧ (W1.cell? ⟨b, off, none⟩ = some (.int .i64 qa)) ∧ (W1.cell? ⟨b, off + 1, none⟩ = some (.int .i64 qb)) ∧ Below W0.heap.size W0 W1)) := fun W1 h => ⟨(h.cell (p := ⟨g, 0, none⟩) (by simp only; omega)).trans ((hbW0.cell (p := ⟨g, 0, none⟩) hgl).trans k1), (h.cell (p := ⟨g, 1, none⟩) (by simp only; omega)).trans ((hbW0.cell (p := ⟨g, 1, none⟩) hgl).trans k2), (h.cell (p := ⟨b, off, none⟩) (by simp only; omega)).trans ((hbW0.cell (p := ⟨b, off, none⟩) hbl).trans n0), (h.cell (p := ⟨b, off + 1, none⟩) (by simp only; omega)).trans ((hbW0.cell (p := ⟨b, off + 1, none⟩) hbl).trans n1), h⟩
  go_region_held3 (fun W1 => (W1.cell? ⟨g, 0, none⟩ = some (.slice A1 d.H.length c1)) ∧ (W1.cell? ⟨g, 1, none⟩ = some (.slice A2 d.K.length c2)) ∧ (W1.cell? ⟨b, off, none⟩ = some (.int .i64 qa)) ∧ (W1.cell? ⟨b, off + 1, none⟩ = some (.int .i64 qb)) ∧ Below W0.heap.size W0 W1) (first | exact HKd.out _ ((Below.refl _ _).drew) | exact HKd.out _ (bt (by assumption) hb1) | exact HKd.out _ (bt (by assumption) hb2))
    ((first
      | (go_at_call 102; go_split_ands; refine (HC.out _ (bt hbW0 (by assumption))).mono ?_; rintro e w1 ⟨rfl, hb1⟩)
      | (go_at_call 99; go_split_ands; refine (HNM.out _ (bt hbW0 (by assumption))).mono ?_; rintro e w2 ⟨rfl, hb2⟩)))
  all_goals
    have hBB := bt hbW0 (bt (bt (by assumption) hb1) hb2)
    go_wp2
    go_ret2
    exact execPost_ask HX.out (by have := HSZ.out; omega) HD.out hBB


set_option maxRecDepth 100000 in
set_option maxHeartbeats 4000000 in
theorem exec_onD (g : Nat) (F : Nat → Prop) (d : DeskD) (t : ByteArray) (A : Option Addr) (c : Nat) (w0 w : World) (hE : JEnv w0) (h0 : Below w0.heap.size w0 w) (hD : DeskIn w0.heap.size g F d w) (qa : Int) (hN : Rd w w.heap.size A 1 [.int .i64 qa]) (hc : 1 ≤ c) : Calls Tryz.prog 85 #[.pointer (some ⟨g, 0, none⟩), .agg #[.string { data := #[111, 110] }, .string t, .slice A 1 c]] w (ExecPost w0.heap.size g F d (.onD qa) w) := by
  have HT : Hid (∀ W1 : World, Below w.heap.size w W1 → TabW W1) := fun W1 hb => (hE.below (bt h0 hb)).1
  have HD := Lib.hid hD
  have hgl := hD.bds.2
  obtain ⟨hgd, -, fz, A1, A2, A3, c1, c2, c3, ⟨k1, k2, k3⟩, hrw, -⟩ := hD
  have HRW := Lib.hid hrw
  have hcap := hrw.caps
  have hlen := hgd.lens
  have HGD := Lib.hid hgd
  obtain ⟨b, off, rfl, hbl, hcn⟩ := hN.at_ (by omega)
  have n0 : w.cell? ⟨b, off, none⟩ = some (.int .i64 qa) := hcn 0 _ rfl
  clear hcn hN
  clear fz hrw hgd hE
  have HC := Lib.hid (fun (W1 : World) (hb : Below w.heap.size w W1) => impl_CalledOn A2 c2 d.K qa W1 (rdW hb HRW.out.rd2) (by omega) hcap.2.1)
  have HX : Hid (exec d (.onD qa) = (d, numsT (onP d.K qa), onCode d.K qa)) := rfl
  have HNB := Lib.hid (on_numsB d.K qa)
  have HSZ := Lib.hid (numsT_size HNB.out)
  generalize onP d.K qa = L at *
  generalize onCode d.K qa = q at *
  have HNS := Lib.hid (fun (W1 : World) (A9 : Option Addr) (c9 : Nat) (hb : Below w.heap.size w W1) hr hc9 => numbers_c A9 c9 L q W1 hr HNB.out hc9 (HT.out W1 hb))
  generalize numsT L = T at *
  go_enter Tryz.func85, Tryz.ntmps85
  go_wp2_with fail
  generalize hW0 : w.alloc _ = W0
  have hbW0 : Below w.heap.size w W0 := by subst hW0; exact (Below.refl _ _).alloc (Nat.le_refl _) _
  have hsW0 : W0.heap.size = w.heap.size + 1 := by subst hW0; simp
  have cxW0_0 : ∀ i, W0.cell? ⟨w.heap.size, i, none⟩ = (#[.string { data := #[111, 110] }, .string t, .slice (some ⟨b, off, none⟩) 1 c] : Array Value)[i]? := by intro i; subst hW0; simp [go_sem]
  have HSW0 := Lib.hid hsW0; clear hW0 hsW0
  have hz0w := HSW0.out
  have HKd : Hid (∀ W1 : World, Below W0.heap.size W0 W1 → ((W1.cell? ⟨g, 1, none⟩ = some (.slice A2 d.K.length c2)) ∧ (W1.cell? ⟨b, off, none⟩ = some (.int .i64 qa)) ∧ Below W0.heap.size W0 W1)) := fun W1 h => ⟨(h.cell (p := ⟨g, 1, none⟩) (by simp only; omega)).trans ((hbW0.cell (p := ⟨g, 1, none⟩) hgl).trans k2), (h.cell (p := ⟨b, off, none⟩) (by simp only; omega)).trans ((hbW0.cell (p := ⟨b, off, none⟩) hbl).trans n0), h⟩
  go_region_held3 (fun W1 => (W1.cell? ⟨g, 1, none⟩ = some (.slice A2 d.K.length c2)) ∧ (W1.cell? ⟨b, off, none⟩ = some (.int .i64 qa)) ∧ Below W0.heap.size W0 W1) (first | exact HKd.out _ ((Below.refl _ _).drew) | exact HKd.out _ (bt (by assumption) hb1) | exact HKd.out _ (bt (by assumption) hb2))
    ((first
      | (go_at_call 104; go_split_ands; refine (HC.out _ (bt hbW0 (by assumption))).mono ?_; rintro e w1 ⟨A9, c9, rfl, ho9, hb1, hc9, hm9⟩)
      | (go_at_call 103; go_split_ands; refine (HNS.out _ A9 c9 (bt hbW0 (by assumption)) (Rd.of_own1 ho9) hc9).mono ?_; rintro e w2 ⟨rfl, hb2⟩)))
  all_goals
    have hBB := bt hbW0 (bt (bt (by assumption) hb1) hb2)
    go_wp2
    go_ret2
    exact execPost_ask HX.out (by have := HSZ.out; omega) HD.out hBB


set_option maxRecDepth 100000 in
set_option maxHeartbeats 4000000 in
theorem exec_nex (g : Nat) (F : Nat → Prop) (d : DeskD) (t : ByteArray) (A : Option Addr) (c : Nat) (w0 w : World) (hE : JEnv w0) (h0 : Below w0.heap.size w0 w) (hD : DeskIn w0.heap.size g F d w) (qa qb : Int) (hN : Rd w w.heap.size A 2 [.int .i64 qa, .int .i64 qb]) (hc : 2 ≤ c) : Calls Tryz.prog 85 #[.pointer (some ⟨g, 0, none⟩), .agg #[.string { data := #[110, 101, 120, 116] }, .string t, .slice A 2 c]] w (ExecPost w0.heap.size g F d (.nex qa qb) w) := by
  have HT : Hid (∀ W1 : World, Below w.heap.size w W1 → TabW W1) := fun W1 hb => (hE.below (bt h0 hb)).1
  have HD := Lib.hid hD
  have hgl := hD.bds.2
  obtain ⟨hgd, -, fz, A1, A2, A3, c1, c2, c3, ⟨k1, k2, k3⟩, hrw, -⟩ := hD
  have HRW := Lib.hid hrw
  have hcap := hrw.caps
  have hlen := hgd.lens
  have HGD := Lib.hid hgd
  obtain ⟨b, off, rfl, hbl, hcn⟩ := hN.at_ (by omega)
  have n0 : w.cell? ⟨b, off, none⟩ = some (.int .i64 qa) := hcn 0 _ rfl
  have n1 : w.cell? ⟨b, off + 1, none⟩ = some (.int .i64 qb) := hcn 1 _ rfl
  clear hcn hN
  clear fz hrw hgd hE
  have HC := Lib.hid (fun (W1 : World) (hb : Below w.heap.size w W1) => impl_NextStates A3 c3 d.M qa qb W1 (rdW hb HRW.out.rd3) (by omega) hcap.2.2 HGD.out.2.2.2)
  have HX : Hid (exec d (.nex qa qb) = (d, numsT (nextFor d.M qa qb), codeM d.M qa qb)) := rfl
  have HNB := Lib.hid (next_numsB d.M qa qb)
  have HSZ := Lib.hid (numsT_size HNB.out)
  generalize nextFor d.M qa qb = L at *
  generalize codeM d.M qa qb = q at *
  have HNS := Lib.hid (fun (W1 : World) (A9 : Option Addr) (c9 : Nat) (hb : Below w.heap.size w W1) hr hc9 => numbers_c A9 c9 L q W1 hr HNB.out hc9 (HT.out W1 hb))
  generalize numsT L = T at *
  go_enter Tryz.func85, Tryz.ntmps85
  go_wp2_with fail
  generalize hW0 : w.alloc _ = W0
  have hbW0 : Below w.heap.size w W0 := by subst hW0; exact (Below.refl _ _).alloc (Nat.le_refl _) _
  have hsW0 : W0.heap.size = w.heap.size + 1 := by subst hW0; simp
  have cxW0_0 : ∀ i, W0.cell? ⟨w.heap.size, i, none⟩ = (#[.string { data := #[110, 101, 120, 116] }, .string t, .slice (some ⟨b, off, none⟩) 2 c] : Array Value)[i]? := by intro i; subst hW0; simp [go_sem]
  have HSW0 := Lib.hid hsW0; clear hW0 hsW0
  have hz0w := HSW0.out
  have HKd : Hid (∀ W1 : World, Below W0.heap.size W0 W1 → ((W1.cell? ⟨g, 2, none⟩ = some (.slice A3 d.M.length c3)) ∧ (W1.cell? ⟨b, off, none⟩ = some (.int .i64 qa)) ∧ (W1.cell? ⟨b, off + 1, none⟩ = some (.int .i64 qb)) ∧ Below W0.heap.size W0 W1)) := fun W1 h => ⟨(h.cell (p := ⟨g, 2, none⟩) (by simp only; omega)).trans ((hbW0.cell (p := ⟨g, 2, none⟩) hgl).trans k3), (h.cell (p := ⟨b, off, none⟩) (by simp only; omega)).trans ((hbW0.cell (p := ⟨b, off, none⟩) hbl).trans n0), (h.cell (p := ⟨b, off + 1, none⟩) (by simp only; omega)).trans ((hbW0.cell (p := ⟨b, off + 1, none⟩) hbl).trans n1), h⟩
  go_region_held3 (fun W1 => (W1.cell? ⟨g, 2, none⟩ = some (.slice A3 d.M.length c3)) ∧ (W1.cell? ⟨b, off, none⟩ = some (.int .i64 qa)) ∧ (W1.cell? ⟨b, off + 1, none⟩ = some (.int .i64 qb)) ∧ Below W0.heap.size W0 W1) (first | exact HKd.out _ ((Below.refl _ _).drew) | exact HKd.out _ (bt (by assumption) hb1) | exact HKd.out _ (bt (by assumption) hb2))
    ((first
      | (go_at_call 105; go_split_ands; refine (HC.out _ (bt hbW0 (by assumption))).mono ?_; rintro e w1 ⟨A9, c9, rfl, ho9, hb1, hc9, hm9⟩)
      | (go_at_call 103; go_split_ands; refine (HNS.out _ A9 c9 (bt hbW0 (by assumption)) (Rd.of_own1 ho9) hc9).mono ?_; rintro e w2 ⟨rfl, hb2⟩)))
  all_goals
    have hBB := bt hbW0 (bt (bt (by assumption) hb1) hb2)
    go_wp2
    go_ret2
    exact execPost_ask HX.out (by have := HSZ.out; omega) HD.out hBB


set_option maxRecDepth 100000 in
set_option maxHeartbeats 4000000 in
theorem exec_opn (g : Nat) (F : Nat → Prop) (d : DeskD) (t : ByteArray) (A : Option Addr) (c : Nat) (w0 w : World) (hE : JEnv w0) (h0 : Below w0.heap.size w0 w) (hD : DeskIn w0.heap.size g F d w) (hc : 0 ≤ c) : Calls Tryz.prog 85 #[.pointer (some ⟨g, 0, none⟩), .agg #[.string { data := #[111, 112, 101, 110] }, .string t, .slice A 0 c]] w (ExecPost w0.heap.size g F d (.opn) w) := by
  have HT : Hid (∀ W1 : World, Below w.heap.size w W1 → TabW W1) := fun W1 hb => (hE.below (bt h0 hb)).1
  have HD := Lib.hid hD
  have hgl := hD.bds.2
  obtain ⟨hgd, -, fz, A1, A2, A3, c1, c2, c3, ⟨k1, k2, k3⟩, hrw, -⟩ := hD
  have HRW := Lib.hid hrw
  have hcap := hrw.caps
  have hlen := hgd.lens
  have HGD := Lib.hid hgd
  clear fz hrw hgd hE
  have HC := Lib.hid (fun (W1 : World) (hb : Below w.heap.size w W1) => impl_OpenMotions A3 c3 d.M W1 (rdW hb HRW.out.rd3) (by omega) hcap.2.2 HGD.out.2.2.2)
  have HX : Hid (exec d (.opn ) = (d, numsT (openFor d.M), openCode d.M)) := rfl
  have HNB := Lib.hid (open_numsB d.M)
  have HSZ := Lib.hid (numsT_size HNB.out)
  generalize openFor d.M = L at *
  generalize openCode d.M = q at *
  have HNS := Lib.hid (fun (W1 : World) (A9 : Option Addr) (c9 : Nat) (hb : Below w.heap.size w W1) hr hc9 => numbers_c A9 c9 L q W1 hr HNB.out hc9 (HT.out W1 hb))
  generalize numsT L = T at *
  go_enter Tryz.func85, Tryz.ntmps85
  go_wp2_with fail
  generalize hW0 : w.alloc _ = W0
  have hbW0 : Below w.heap.size w W0 := by subst hW0; exact (Below.refl _ _).alloc (Nat.le_refl _) _
  have hsW0 : W0.heap.size = w.heap.size + 1 := by subst hW0; simp
  have cxW0_0 : ∀ i, W0.cell? ⟨w.heap.size, i, none⟩ = (#[.string { data := #[111, 112, 101, 110] }, .string t, .slice A 0 c] : Array Value)[i]? := by intro i; subst hW0; simp [go_sem]
  have HSW0 := Lib.hid hsW0; clear hW0 hsW0
  have hz0w := HSW0.out
  refine (HC.out W0 hbW0).mono ?_
  rintro e w1 ⟨A9, c9, rfl, ho9, hb1, hc9, hm9⟩
  go_wp2_with fail
  refine (HNS.out _ A9 c9 (bt hbW0 hb1) (Rd.of_own1 ho9) hc9).mono ?_
  rintro e w2 ⟨rfl, hb2⟩
  go_wp2
  go_ret2
  exact execPost_ask HX.out (by have := HSZ.out; omega) HD.out (bt hbW0 (bt hb1 hb2))


set_option maxRecDepth 100000 in
set_option maxHeartbeats 4000000 in
theorem exec_dra (g : Nat) (F : Nat → Prop) (d : DeskD) (t : ByteArray) (A : Option Addr) (c : Nat) (w0 w : World) (hE : JEnv w0) (h0 : Below w0.heap.size w0 w) (hD : DeskIn w0.heap.size g F d w) (qa qb qc : Int) (hN : Rd w w.heap.size A 3 [.int .i64 qa, .int .i64 qb, .int .i64 qc]) (hc : 3 ≤ c) : Calls Tryz.prog 85 #[.pointer (some ⟨g, 0, none⟩), .agg #[.string { data := #[100, 114, 97, 119] }, .string t, .slice A 3 c]] w (ExecPost w0.heap.size g F d (.dra qa qb qc) w) := by
  have HT : Hid (∀ W1 : World, Below w.heap.size w W1 → TabW W1) := fun W1 hb => (hE.below (bt h0 hb)).1
  have HD := Lib.hid hD
  have hgl := hD.bds.2
  obtain ⟨hgd, -, fz, A1, A2, A3, c1, c2, c3, ⟨k1, k2, k3⟩, hrw, -⟩ := hD
  have HRW := Lib.hid hrw
  have hcap := hrw.caps
  have hlen := hgd.lens
  have HGD := Lib.hid hgd
  obtain ⟨b, off, rfl, hbl, hcn⟩ := hN.at_ (by omega)
  have n0 : w.cell? ⟨b, off, none⟩ = some (.int .i64 qa) := hcn 0 _ rfl
  have n1 : w.cell? ⟨b, off + 1, none⟩ = some (.int .i64 qb) := hcn 1 _ rfl
  have n2 : w.cell? ⟨b, off + 2, none⟩ = some (.int .i64 qc) := hcn 2 _ rfl
  clear hcn hN
  clear fz hrw hgd hE
  have HC := Lib.hid (fun (W1 : World) (hb : Below w.heap.size w W1) => impl_SampleOf qa qb qc W1)
  have HX : Hid (exec d (.dra qa qb qc) = (d, numsT (sampL qa qb qc), sampC qa qb qc)) := rfl
  have HNB := Lib.hid (samp_numsB qa qb qc)
  have HSZ := Lib.hid (numsT_size HNB.out)
  generalize sampL qa qb qc = L at *
  generalize sampC qa qb qc = q at *
  have HNS := Lib.hid (fun (W1 : World) (A9 : Option Addr) (c9 : Nat) (hb : Below w.heap.size w W1) hr hc9 => numbers_c A9 c9 L q W1 hr HNB.out hc9 (HT.out W1 hb))
  generalize numsT L = T at *
  go_enter Tryz.func85, Tryz.ntmps85
  go_wp2_with fail
  generalize hW0 : w.alloc _ = W0
  have hbW0 : Below w.heap.size w W0 := by subst hW0; exact (Below.refl _ _).alloc (Nat.le_refl _) _
  have hsW0 : W0.heap.size = w.heap.size + 1 := by subst hW0; simp
  have cxW0_0 : ∀ i, W0.cell? ⟨w.heap.size, i, none⟩ = (#[.string { data := #[100, 114, 97, 119] }, .string t, .slice (some ⟨b, off, none⟩) 3 c] : Array Value)[i]? := by intro i; subst hW0; simp [go_sem]
  have HSW0 := Lib.hid hsW0; clear hW0 hsW0
  have hz0w := HSW0.out
  have HKd : Hid (∀ W1 : World, Below W0.heap.size W0 W1 → ((W1.cell? ⟨b, off, none⟩ = some (.int .i64 qa)) ∧ (W1.cell? ⟨b, off + 1, none⟩ = some (.int .i64 qb)) ∧ (W1.cell? ⟨b, off + 2, none⟩ = some (.int .i64 qc)) ∧ Below W0.heap.size W0 W1)) := fun W1 h => ⟨(h.cell (p := ⟨b, off, none⟩) (by simp only; omega)).trans ((hbW0.cell (p := ⟨b, off, none⟩) hbl).trans n0), (h.cell (p := ⟨b, off + 1, none⟩) (by simp only; omega)).trans ((hbW0.cell (p := ⟨b, off + 1, none⟩) hbl).trans n1), (h.cell (p := ⟨b, off + 2, none⟩) (by simp only; omega)).trans ((hbW0.cell (p := ⟨b, off + 2, none⟩) hbl).trans n2), h⟩
  go_region_held3 (fun W1 => (W1.cell? ⟨b, off, none⟩ = some (.int .i64 qa)) ∧ (W1.cell? ⟨b, off + 1, none⟩ = some (.int .i64 qb)) ∧ (W1.cell? ⟨b, off + 2, none⟩ = some (.int .i64 qc)) ∧ Below W0.heap.size W0 W1) (first | exact HKd.out _ ((Below.refl _ _).drew) | exact HKd.out _ (bt (by assumption) hb1) | exact HKd.out _ (bt (by assumption) hb2))
    ((first
      | (go_at_call 107; go_split_ands; refine (HC.out _ (bt hbW0 (by assumption))).mono ?_; rintro e w1 ⟨A9, c9, rfl, ho9, hb1, hc9, hm9⟩)
      | (go_at_call 103; go_split_ands; refine (HNS.out _ A9 c9 (bt hbW0 (by assumption)) (Rd.of_own1 ho9) hc9).mono ?_; rintro e w2 ⟨rfl, hb2⟩)))
  all_goals
    have hBB := bt hbW0 (bt (bt (by assumption) hb1) hb2)
    go_wp2
    go_ret2
    exact execPost_ask HX.out (by have := HSZ.out; omega) HD.out hBB


set_option maxRecDepth 100000 in
set_option maxHeartbeats 4000000 in
theorem exec_cha (g : Nat) (F : Nat → Prop) (d : DeskD) (t : ByteArray) (A : Option Addr) (c : Nat) (w0 w : World) (hE : JEnv w0) (h0 : Below w0.heap.size w0 w) (hD : DeskIn w0.heap.size g F d w) (qa qb qc qe : Int) (hN : Rd w w.heap.size A 4 [.int .i64 qa, .int .i64 qb, .int .i64 qc, .int .i64 qe]) (hc : 4 ≤ c) : Calls Tryz.prog 85 #[.pointer (some ⟨g, 0, none⟩), .agg #[.string { data := #[99, 104, 97, 110, 99, 101] }, .string t, .slice A 4 c]] w (ExecPost w0.heap.size g F d (.cha qa qb qc qe) w) := by
  have HT : Hid (∀ W1 : World, Below w.heap.size w W1 → TabW W1) := fun W1 hb => (hE.below (bt h0 hb)).1
  have HD := Lib.hid hD
  have hgl := hD.bds.2
  obtain ⟨hgd, -, fz, A1, A2, A3, c1, c2, c3, ⟨k1, k2, k3⟩, hrw, -⟩ := hD
  have HRW := Lib.hid hrw
  have hcap := hrw.caps
  have hlen := hgd.lens
  have HGD := Lib.hid hgd
  obtain ⟨b, off, rfl, hbl, hcn⟩ := hN.at_ (by omega)
  have n0 : w.cell? ⟨b, off, none⟩ = some (.int .i64 qa) := hcn 0 _ rfl
  have n1 : w.cell? ⟨b, off + 1, none⟩ = some (.int .i64 qb) := hcn 1 _ rfl
  have n2 : w.cell? ⟨b, off + 2, none⟩ = some (.int .i64 qc) := hcn 2 _ rfl
  have n3 : w.cell? ⟨b, off + 3, none⟩ = some (.int .i64 qe) := hcn 3 _ rfl
  clear hcn hN
  clear fz hrw hgd hE
  have HC := Lib.hid (fun (W1 : World) (hb : Below w.heap.size w W1) => impl_ChanceOfAtMost qa qb qc qe W1)
  have HX : Hid (exec d (.cha qa qb qc qe) = (d, decI (topW qa qb qc qe) ++ slashT ++ decI (botW qa qb qc qe), codeW qa qb qc qe)) := rfl
  have ht := topW_bd qa qb qc qe
  have hb' := botW_bd qa qb qc qe
  generalize topW qa qb qc qe = p1 at *
  generalize botW qa qb qc qe = p2 at *
  generalize codeW qa qb qc qe = q at *
  have hz1 := decI_len p1 (by omega) (by omega)
  have hz2 := decI_len p2 (by omega) (by omega)
  have HD1 := Lib.hid (fun (W1 : World) (hb : Below w.heap.size w W1) => decimalI_c p1 (by omega) (by omega) W1 (HT.out W1 hb))
  have HD2 := Lib.hid (fun (W1 : World) (hb : Below w.heap.size w W1) => decimalI_c p2 (by omega) (by omega) W1 (HT.out W1 hb))
  generalize decI p1 = s1 at *
  generalize decI p2 = s2 at *
  have hs1 : (s1 ++ slashT).size = s1.size + 1 := by rw [ByteArray.size_append]; rfl
  have hs2 : (s1 ++ slashT ++ s2).size = s1.size + 1 + s2.size := by rw [ByteArray.size_append, hs1]
  have HSS := Lib.hid hs2
  clear hs2
  unfold slashT at HX hs1 HSS
  go_enter Tryz.func85, Tryz.ntmps85
  go_wp2_with fail
  generalize hW0 : w.alloc _ = W0
  have hbW0 : Below w.heap.size w W0 := by subst hW0; exact (Below.refl _ _).alloc (Nat.le_refl _) _
  have hsW0 : W0.heap.size = w.heap.size + 1 := by subst hW0; simp
  have cxW0_0 : ∀ i, W0.cell? ⟨w.heap.size, i, none⟩ = (#[.string { data := #[99, 104, 97, 110, 99, 101] }, .string t, .slice (some ⟨b, off, none⟩) 4 c] : Array Value)[i]? := by intro i; subst hW0; simp [go_sem]
  have HSW0 := Lib.hid hsW0; clear hW0 hsW0
  have hz0w := HSW0.out
  have HKd : Hid (∀ W1 : World, Below W0.heap.size W0 W1 → ((W1.cell? ⟨b, off, none⟩ = some (.int .i64 qa)) ∧ (W1.cell? ⟨b, off + 1, none⟩ = some (.int .i64 qb)) ∧ (W1.cell? ⟨b, off + 2, none⟩ = some (.int .i64 qc)) ∧ (W1.cell? ⟨b, off + 3, none⟩ = some (.int .i64 qe)) ∧ Below W0.heap.size W0 W1)) := fun W1 h => ⟨(h.cell (p := ⟨b, off, none⟩) (by simp only; omega)).trans ((hbW0.cell (p := ⟨b, off, none⟩) hbl).trans n0), (h.cell (p := ⟨b, off + 1, none⟩) (by simp only; omega)).trans ((hbW0.cell (p := ⟨b, off + 1, none⟩) hbl).trans n1), (h.cell (p := ⟨b, off + 2, none⟩) (by simp only; omega)).trans ((hbW0.cell (p := ⟨b, off + 2, none⟩) hbl).trans n2), (h.cell (p := ⟨b, off + 3, none⟩) (by simp only; omega)).trans ((hbW0.cell (p := ⟨b, off + 3, none⟩) hbl).trans n3), h⟩
  go_region_held3 (fun W1 => (W1.cell? ⟨b, off, none⟩ = some (.int .i64 qa)) ∧ (W1.cell? ⟨b, off + 1, none⟩ = some (.int .i64 qb)) ∧ (W1.cell? ⟨b, off + 2, none⟩ = some (.int .i64 qc)) ∧ (W1.cell? ⟨b, off + 3, none⟩ = some (.int .i64 qe)) ∧ Below W0.heap.size W0 W1) (first | exact HKd.out _ ((Below.refl _ _).drew) | exact HKd.out _ (bt (by assumption) hb1))
    ((first
      | (go_at_call 108; go_split_ands; refine (HC.out _ (bt hbW0 (by assumption))).mono ?_; rintro e w1 ⟨rfl, hb1⟩)))
  all_goals
    have hBB := bt hbW0 (bt (by assumption) hb1)
    go_wp2_with fail
    refine (HD1.out w1 hBB).mono ?_
    rintro e w2 ⟨rfl, hb2⟩
    go_wp2_with fail
    refine (HD2.out w2 (bt hBB hb2)).mono ?_
    rintro e w3 ⟨rfl, hb3⟩
    go_wp2
    go_ret2
    exact execPost_ask HX.out (by have := HSS.out; omega) HD.out (bt (bt hBB hb2) hb3)

end Go.Proofs.YtiamignopfhkfaaGreatDoor
