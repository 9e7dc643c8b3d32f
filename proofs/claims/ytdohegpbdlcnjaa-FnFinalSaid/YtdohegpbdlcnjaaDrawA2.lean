/- Contract of the draw of appeals: l31Draw. -/
import Derived.Test.YtdohegpbdlcnjaaDrawA1
import Derived.Test.YtdohegpbdlcnjaaAppGood
import Derived.Deep.CutRange
import Derived.Deep.RegionLaw
namespace Go.Proofs.Ytdohegpbdlcnjaa
open Go.RowKit
set_option linter.unusedVariables false
/-- The draw's memory: the source, the holidays' row, the appeals' row. -/
def AW (B g : Nat) (w w1 : World) (AH : Option Addr) (cH : Nat) (H : List Int) (A : Option Addr) (c : Nat) (D : List AppealD) (W : World) : Prop :=
  W.ownsRow w.heap.size 2 1 (.slice AH H.length cH) H.length (H.map (Value.int .i64)) ∧ W.ownsRow w1.heap.size 64 5 (.slice A D.length c) D.length (D.flatMap appealC) ∧ Src W B g ∧ w.grownBy W (some g) ∧ (g < w.heap.size ∧ w.heap.size ≤ w1.heap.size ∧ w1.heap.size ≤ W.heap.size)
theorem AW.src {B g : Nat} {w w1 W : World} {AH A : Option Addr} {cH c : Nat} {H : List Int} {D : List AppealD} (h : AW B g w w1 AH cH H A c D W) : Src W B g := h.2.2.1
theorem AW.next {B g : Nat} {w w1 W : World} {AH A : Option Addr} {cH c : Nat} {H : List Int} {D : List AppealD} {W' : World} (h : AW B g w w1 AH cH H A c D W) (hg : W.grownBy W' (some g)) (hq : Src W' B g) : AW B g w w1 AH cH H A c D W' := by
  obtain ⟨h1, h2, h3, h4, h5, h6, h7⟩ := h
  have hz := hg.size
  exact ⟨h1.kept hg (.inr (fun e => by have := h1.lt _ e; omega)), h2.kept hg (.inr (fun e => by have := h2.lt _ e; omega)), hq, grown_trans' h4 hg, h5, h6, by omega⟩
theorem AW.below {B g : Nat} {w w1 W : World} {AH A : Option Addr} {cH c : Nat} {H : List Int} {D : List AppealD} {W' : World} (h : AW B g w w1 AH cH H A c D W) (hb : Below W.heap.size W W') : AW B g w w1 AH cH H A c D W' := by
  obtain ⟨h1, h2, h3, h4, h5, h6, h7⟩ := h
  have hz := hb.size
  exact ⟨own_below h1 hb, own_below h2 hb, h3.below hb, grown_trans' h4 (grown_of_below hb _), h5, h6, by omega⟩
theorem AW.drew {B g : Nat} {w w1 W : World} {AH A : Option Addr} {cH c : Nat} {H : List Int} {D : List AppealD} (h : AW B g w w1 AH cH H A c D W) : AW B g w w1 AH cH H A c D W.drew := ⟨h.1, h.2.1, h.2.2.1, ⟨h.2.2.2.1.os, h.2.2.2.1.tape, h.2.2.2.1.output, h.2.2.2.1.size, h.2.2.2.1.block⟩, h.2.2.2.2⟩
theorem rowN_next {g : Nat} {w1 W W' : World} {A2 : Option Addr} {c2 : Nat} {E : List AppealD} (h : W.ownsRow w1.heap.size 64 5 (.slice A2 E.length c2) E.length (E.flatMap appealC)) (hlt : g < w1.heap.size) (hg : W.grownBy W' (some g)) : W'.ownsRow w1.heap.size 64 5 (.slice A2 E.length c2) E.length (E.flatMap appealC) := h.kept hg (.inr (fun e => by have := h.lt _ e; omega))
def GoodA (D : List AppealD) : Prop := ∀ x ∈ D, elOk x
def BdA (x : AppealD) : Prop := (0 ≤ x.filed ∧ x.filed ≤ 20000) ∧ (-1 ≤ x.decided ∧ x.decided ≤ 20001)
theorem GoodA.bd {D : List AppealD} (h : GoodA D) : ∀ x ∈ D, BdA x := fun x hx => ⟨(h x hx).1, by have := (h x hx).2.1; omega, by have := (h x hx).2.1; omega⟩
theorem good_of {H : List Int} {J : Int} {L : List AppealD} (h : appsOk H J L = true) : GoodA L := by
  intro x hx
  obtain ⟨k, hk, rfl⟩ := List.getElem_of_mem hx
  exact apps_elem h hk
theorem lastA_bd {J : Int} {D : List AppealD} (hJ : 0 ≤ J ∧ J ≤ 20001) (h : GoodA D) : 0 ≤ lastAt J D D.length ∧ lastAt J D D.length ≤ 20001 := by
  unfold lastAt
  split
  · exact hJ
  · rename_i h0
    rw [getD_lt (show D.length - 1 < D.length by omega)]
    have := (h _ (List.getElem_mem (show D.length - 1 < D.length by omega))).2.1
    omega
theorem fileA_ex (AH : Option Addr) (cH : Nat) (H : List Int) (J : Int) (A : Option Addr) (c : Nat) (D : List AppealD) (day : Int) (W : World) (hrH : Rd W W.heap.size AH H.length (H.map (Value.int .i64))) (hlH : H.length ≤ 140737488355328) (hcapH : H.length ≤ cH) (hr : Rd W W.heap.size A (D.length * 5) (D.flatMap appealC)) (hl : D.length ≤ 140737488355328) (hcap : D.length ≤ c) :
    Calls Try.prog 35 #[.slice AH H.length cH, .int .i64 J, .slice A D.length c, .int .i64 day] W (fun e W' => ∃ (E : List AppealD) (code : Int) (A2 : Option Addr) (c2 : Nat), e = .returned (.tuple #[.slice A2 E.length c2, .int .i64 code]) ∧ (code = 0 → GoodA E) ∧ E.length ≤ 7 ∧ W'.ownsRow W.heap.size 64 5 (.slice A2 E.length c2) E.length (E.flatMap appealC) ∧ Below W.heap.size W W') :=
  (spec_FileAppeal AH cH H J A c D day W hrH hlH hcapH hr hl hcap).mono fun e w' h => by
    obtain ⟨A2, c2, h1, h2, h3, _, _⟩ := h
    exact ⟨_, _, A2, c2, h1, fun h0 => good_of (fileR_good h0).1, fileR_len _ _ _ _, h2, h3⟩
theorem replyA_ex (AH : Option Addr) (cH : Nat) (H : List Int) (J : Int) (A : Option Addr) (c : Nat) (D : List AppealD) (day : Int) (W : World) (hrH : Rd W W.heap.size AH H.length (H.map (Value.int .i64))) (hlH : H.length ≤ 140737488355328) (hcapH : H.length ≤ cH) (hr : Rd W W.heap.size A (D.length * 5) (D.flatMap appealC)) (hl : D.length ≤ 140737488355328) (hcap : D.length ≤ c) :
    Calls Try.prog 40 #[.slice AH H.length cH, .int .i64 J, .slice A D.length c, .int .i64 day] W (fun e W' => ∃ (E : List AppealD) (code : Int) (A2 : Option Addr) (c2 : Nat), e = .returned (.tuple #[.slice A2 E.length c2, .int .i64 code]) ∧ (code = 0 → GoodA E) ∧ E.length ≤ 7 ∧ W'.ownsRow W.heap.size 64 5 (.slice A2 E.length c2) E.length (E.flatMap appealC) ∧ Below W.heap.size W W') :=
  (spec_ReplyAppeal AH cH H J A c D day W hrH hlH hcapH hr hl hcap).mono fun e w' h => by
    obtain ⟨A2, c2, h1, h2, h3, _, _⟩ := h
    exact ⟨_, _, A2, c2, h1, fun h0 => good_of (replyR_good h0), by have := replyR_len H J D day; omega, h2, h3⟩
theorem decA_ex (AH : Option Addr) (cH : Nat) (H : List Int) (J : Int) (A : Option Addr) (c : Nat) (D : List AppealD) (res day : Int) (W : World) (hrH : Rd W W.heap.size AH H.length (H.map (Value.int .i64))) (hlH : H.length ≤ 140737488355328) (hcapH : H.length ≤ cH) (hr : Rd W W.heap.size A (D.length * 5) (D.flatMap appealC)) (hl : D.length ≤ 140737488355328) (hcap : D.length ≤ c) :
    Calls Try.prog 43 #[.slice AH H.length cH, .int .i64 J, .slice A D.length c, .int .i64 res, .int .i64 day] W (fun e W' => ∃ (E : List AppealD) (code : Int) (A2 : Option Addr) (c2 : Nat), e = .returned (.tuple #[.slice A2 E.length c2, .int .i64 code]) ∧ (code = 0 → GoodA E) ∧ E.length ≤ 7 ∧ W'.ownsRow W.heap.size 64 5 (.slice A2 E.length c2) E.length (E.flatMap appealC) ∧ Below W.heap.size W W') :=
  (spec_DecideAppeal AH cH H J A c D res day W hrH hlH hcapH hr hl hcap).mono fun e w' h => by
    obtain ⟨A2, c2, h1, h2, h3, _, _⟩ := h
    exact ⟨_, _, A2, c2, h1, fun h0 => good_of (decR_good h0), by have := decR_len H J D res day; omega, h2, h3⟩
def AppP (B g : Nat) (w : World) (e : Ending) (w' : World) : Prop := ∃ (AH : Option Addr) (cH : Nat) (H : List Int) (J : Int) (A : Option Addr) (c : Nat) (D : List AppealD), e = .returned (.tuple #[.slice AH H.length cH, .int .i64 J, .slice A D.length c]) ∧
  w'.ownsRow w.heap.size 2 1 (.slice AH H.length cH) H.length (H.map (Value.int .i64)) ∧ w'.ownsRow w.heap.size 64 5 (.slice A D.length c) D.length (D.flatMap appealC) ∧ H.length ≤ 41 ∧ D.length ≤ 7 ∧ (0 ≤ J ∧ J ≤ 20001) ∧ (∀ x ∈ D, BdA x) ∧ Src w' B g ∧ w.grownBy w' (some g)
theorem appP_of {B g : Nat} {w w1 W : World} {AH A : Option Addr} {cH c : Nat} {H : List Int} {D : List AppealD} {J : Int} (h : AW B g w w1 AH cH H A c D W) (h1 : H.length ≤ 41) (h2 : D.length ≤ 7) (h3 : 0 ≤ J ∧ J ≤ 20001) (hG : GoodA D) : AppP B g w (.returned (.tuple #[.slice AH H.length cH, .int .i64 J, .slice A D.length c])) W :=
  ⟨AH, cH, H, J, A, c, D, rfl, h.1, own_mono h.2.1 h.2.2.2.2.2.1, h1, h2, h3, hG.bd, h.2.2.1, h.2.2.2.1⟩
theorem flat_set_at2 {α : Type} {f : α → List Value} {m : Nat} (hf : ∀ a, (f a).length = m) {L : List α} {j i : Nat} {y : α} {v : Value} (hj : j < L.length) (hi : i < m) (h : (f L[j]).set i v = f y) : (L.flatMap f).set (j * m + i) v = (L.set j y).flatMap f := by
  have e : L = L.take j ++ L[j] :: L.drop (j + 1) := by rw [List.getElem_cons_drop, List.take_append_drop]
  have hl : ((L.take j).flatMap f).length = j * m := by rw [flat_len f m hf, List.length_take, Nat.min_eq_left (by omega)]
  rw [show L.set j y = L.take j ++ y :: L.drop (j + 1) from by rw [List.set_eq_take_append_cons_drop, if_pos hj]]
  conv => lhs; rw [e]
  rw [List.flatMap_append, List.flatMap_cons, List.set_append_right _ _ (by omega), hl, Nat.add_sub_cancel_left, List.set_append_left _ _ (by rw [hf]; exact hi), h, List.flatMap_append, List.flatMap_cons]
theorem put_appeal {B g : Nat} {w w1 W : World} {AH : Option Addr} {cH c h k i : Nat} {H : List Int} {D : List AppealD} {J : Int} {u : Value} {y : AppealD} (hw : AW B g w w1 AH cH H (some ⟨h, 0, none⟩) c D W) (hne : ∀ q, (Value.slice AH H.length cH).ownBlock = some q → q < w1.heap.size) (hS : Src w B g) (h1 : H.length ≤ 41) (h2 : D.length ≤ 7) (h3 : 0 ≤ J ∧ J ≤ 20001) (hG : GoodA D) (hy : BdA y)
    (hk : k < D.length) (hi : i < 5) (e : (appealC D[k]).set i u = appealC y) : AppP B g w (.returned (.tuple #[.slice AH H.length cH, .int .i64 J, .slice (some ⟨h, 0, none⟩) D.length c])) (W.setCell ⟨h, k * 5 + i, none⟩ u) := by
  obtain ⟨r1, r2, r3, r4, r5, r6, r7⟩ := hw
  have hs := (r2.stored (k * 5 + i) u).1
  have hb := (own_lt r2).1
  have hge := hS.ge
  rw [flat_set_at2 (f := appealC) (m := 5) (fun _ => rfl) hk hi e] at hs
  refine ⟨AH, cH, H, J, some ⟨h, 0, none⟩, c, D.set k y, by rw [List.length_set], r1.kept (grown_set (World.grownBy.refl _ _)) (.inr (fun q => by have := hne _ q; omega)), by rw [List.length_set]; exact own_mono hs r6, h1, by rw [List.length_set]; exact h2, h3, fun x hx => (by rcases List.mem_or_eq_of_mem_set hx with q | q; exact hG.bd x q; rw [q]; exact hy), r3.setOther (by omega) (by omega) _ _, grown_own r4 (by omega) _ _⟩
set_option maxRecDepth 100000 in
set_option maxHeartbeats 8000000 in
theorem l31Draw_c (B g : Nat) (w : World) (hS : Src w B g) : Calls Try.prog 80 #[.pointer (some ⟨g, 0, none⟩)] w (AppP B g w) := by
  have HS := Lib.hid hS
  have hgl := hS.lt
  have hge := hS.ge
  clear hS
  go_enter Try.func80, Try.ntmps80
  go_wp2_with fail
  refine (l02Holidays_c B g w HS.out).mono ?_
  rintro e w0 ⟨AH, cH, H, rfl, hoH, hlH, hq0, hg0⟩
  have hcapH := own_cap hoH
  have hz0 := hg0.size
  go_wp2_with fail
  refine (l01Next_c B g 60 w0 hq0 (by omega)).mono ?_
  rintro e v1 ⟨d, rfl, ⟨hd0, hd1⟩, hqv1, hgv1⟩
  have hoH1 := hoH.kept hgv1 (.inr (fun e => by have := hoH.lt _ e; omega))
  have hg1 := grown_trans' hg0 hgv1
  have hzv1 := hgv1.size
  clear hoH hq0 hg0 hgv1
  go_wp2_with fail
  refine (l01Next_c B g 30 v1 hqv1 (by omega)).mono ?_
  rintro e v2 ⟨r, rfl, ⟨hr0, hr1⟩, hqv2, hgv2⟩
  have hoH2 := hoH1.kept hgv2 (.inr (fun e => by have := hoH1.lt _ e; omega))
  have hg2 := grown_trans' hg1 hgv2
  have hzv2 := hgv2.size
  have HOH := Lib.hid hoH2; have HQ2 := Lib.hid hqv2; have HG2 := Lib.hid hg2
  clear hoH1 hoH2 hqv1 hqv2 hg1 hg2 hgv2
  go_upto_if 20 with fail
  go_cut [6] from 13 to 26 (fun s6 wc => ∃ J : Int, s6 = .int .i64 J ∧ (0 ≤ J ∧ J ≤ 20001) ∧ w.heap.size ≤ wc.heap.size ∧ Hid (wc.ownsRow w.heap.size 2 1 (.slice AH H.length cH) H.length (H.map (Value.int .i64))) ∧ Hid (Src wc B g) ∧ Hid (w.grownBy wc (some g)))
  case first =>
    by_cases hr : r = 0
    · subst hr
      have HQv2 := HQ2; have HGv2 := HG2
      go_wp2_with fail
      generalize hW3 : v2.alloc _ = W3
      have hbW3 : Below v2.heap.size v2 W3 := by subst hW3; exact (Below.refl _ _).alloc (Nat.le_refl _) _
      have hsW3 : W3.heap.size = v2.heap.size + 1 := by subst hW3; simp
      have cxW3_0 : ∀ i, W3.cell? ⟨v2.heap.size, i, none⟩ = (#[.int .i64 19980, .int .i64 20000, .int .i64 20001, .int .i64 0] : Array Value)[i]? := by intro i; subst hW3; simp [go_sem]
      have fzW3_0 : ∀ i, W3.frozen? ⟨v2.heap.size, i, none⟩ = false := by intro i; subst hW3; simp [go_sem]
      have HSW3 := Lib.hid hsW3; clear hW3 hsW3
      have HQW3 := Lib.hid (HQv2.out.below hbW3); have HGW3 := Lib.hid (grown_trans' HGv2.out (grown_of_below hbW3 _)); have hzW3 : W3.heap.size = v2.heap.size + 1 := HSW3.out
      clear HSW3
      have HO3 := Lib.hid (own_below HOH.out hbW3)
      refine (l01Pick_c B g (v2.heap.size) 0 _ [19980, 20000, 20001, 0] W3 HQW3.out (by omega) (pick_box (L := [19980, 20000, 20001, 0]) (fun i => by exact cxW3_0 i)) (by simp) (by simp) (by simp)).mono ?_
      rintro e w4 ⟨p, rfl, hpm, hqw4, hgw4⟩
      have HQw4 := Lib.hid hqw4; have HGw4 := Lib.hid (grown_trans' HGW3.out hgw4); have hzw4 := hgw4.size; have Hpm := Lib.hid hpm
      clear hqw4 hpm
      have HO4 := Lib.hid (HO3.out.kept hgw4 (.inr (fun e => by have := HO3.out.lt _ e; omega)))
      have hp : p = 19980 ∨ p = 20000 ∨ p = 20001 ∨ p = 0 := by simpa using Hpm.out
      have hpb : 0 ≤ p ∧ p ≤ 20001 := by omega
      clear hp
      go_wp2
      go_meet
      case rel => exact ⟨p, rfl, hpb, by omega, HO4, HQw4, HGw4⟩
    · go_wp2
      go_meet
      case rel => exact ⟨100 + d, rfl, by omega, by omega, HOH, HQ2, HG2⟩
  case rest =>
    obtain ⟨J, rfl, hJ, hzc, HOH3, HQ3, HG3⟩ := hcut
    obtain ⟨v3, rfl⟩ : ∃ x, x = wc := ⟨_, rfl⟩
    clear HOH HQ2 HG2 hzv1 hzv2
    go_wp2_with fail
    have ho := World.ownsRow_lit (base := v3.heap.size) (e := 64) (size := 5) v3 #[] 0 (Nat.le_refl _) (by unfold maxLen; omega) rfl
    generalize hW2 : v3.alloc (.cells #[] 64) = W2 at ho ⊢
    have hb2 : Below v3.heap.size v3 W2 := by subst hW2; exact (Below.refl _ _).alloc (Nat.le_refl _) _
    have HA := Lib.hid (show AW B g w v3 AH cH H (some ⟨v3.heap.size, 0, none⟩) 0 [] W2 from ⟨own_below HOH3.out hb2, ho, HQ3.out.below hb2, grown_trans' HG3.out (grown_of_below hb2 _), hgl, hzc, hb2.size⟩)
    have HNE := Lib.hid (fun q e => (HOH3.out.lt q e).2)
    clear hW2 ho hb2 HOH3 HQ3 HG3
    refine (l01Next_c B g 12 W2 HA.out.src (by omega)).mono ?_
    rintro e w3 ⟨n, rfl, ⟨hn0, hn1⟩, hq3, hg3⟩
    have HA3 := Lib.hid (HA.out.next hg3 hq3)
    clear HA hq3 hg3
    obtain ⟨n, rfl⟩ := Int.eq_ofNat_of_zero_le hn0
    go_wp2
    go_loopw [7, 8] (fun ov nv wr => ∃ (A : Option Addr) (c : Nat) (D : List AppealD) (j : Nat), nv = .int .i64 j ∧ ov = .slice A D.length c ∧ j ≤ 12 ∧ D.length ≤ 7 ∧ Hid (GoodA D) ∧ Hid (AW B g w v3 AH cH H A c D wr))
      (fun _ nv _ => (intOf nv).toNat)
    case atStart => exact ⟨_, _, [], n, rfl, rfl, by omega, by simp, Lib.hid (fun x hx => by simp at hx), HA3⟩
    case round =>
      obtain ⟨A, c, D, j, rfl, rfl, hj, hl7, HGD, HAr⟩ := hrel
      clear HA3
      have hcap := own_cap HAr.out.2.1
      by_cases hj0 : 0 < j
      · go_wp2_with fail
        refine (l31Last_c J A c D wr (Rd.of_own HAr.out.2.1) (by omega) hcap.1).mono ?_
        rintro e w' ⟨rfl, rfl⟩
        have hlb := lastA_bd hJ HGD.out
        generalize lastAt J D D.length = y at *
        go_wp2_with fail
        refine (l01Next_c B g 25 wr HAr.out.src (by omega)).mono ?_
        rintro e w4 ⟨q, rfl, ⟨hq0, hq1⟩, hq4, hg4⟩
        have HA4 := Lib.hid (HAr.out.next hg4 hq4)
        clear HAr hq4 hg4
        go_upto_region 10 with fail
        go_cut [49] from 27 to 98 (fun s49 wc => ∃ b : Bool, s49 = .bool b ∧ (b = true → 0 < D.length) ∧ wc = w4)
        case first =>
          by_cases hL : 0 < D.length
          · have hLi : (0 : Int) < (D.length : Int) := by omega
            have hL1 : (1 : Int) ≤ (D.length : Int) := by omega
            obtain ⟨⟨a0, a1, a2, a3, a4⟩, hx⟩ : ∃ x, D.getD (D.length - 1) default = x := ⟨_, rfl⟩
            obtain ⟨h, rfl, _, _, f0, f1, f2, f3, f4⟩ := own_last HA4.out.2.1 hL hx
            clear f0 f1 f2 f3 hx
            go_wp2
            go_meet
            case rel => exact ⟨_, rfl, fun _ => hL, rfl⟩
          · have hLi : ¬ (0 : Int) < (D.length : Int) := by omega
            go_wp2
            go_meet
            case rel => exact ⟨false, rfl, fun h => absurd h (by simp), rfl⟩
        case rest =>
          obtain ⟨b, rfl, hbL, rfl⟩ := hcut
          obtain ⟨w4, rfl⟩ : ∃ x, x = wc := ⟨_, rfl⟩
          go_upto_if 49 with fail
          go_cut [9] from 27 to 98 (fun s9 wc => ∃ dd : Int, s9 = .int .i64 dd ∧ Hid (AW B g w v3 AH cH H A c D wc))
          case first =>
            cases b
            · go_wp2
              go_meet
              case rel => exact ⟨_, rfl, HA4⟩
            · have hL : 0 < D.length := hbL rfl
              have hLi : (0 : Int) < (D.length : Int) := by omega
              have hL1 : (1 : Int) ≤ (D.length : Int) := by omega
              obtain ⟨⟨a0, a1, a2, a3, a4⟩, hx⟩ : ∃ x, D.getD (D.length - 1) default = x := ⟨_, rfl⟩
              have HX := Lib.hid hx
              obtain ⟨h, rfl, _, _, f0, f1, f2, f3, f4⟩ := own_last HA4.out.2.1 hL hx
              clear f0 f2 f3 f4 hx
              have CEL := Lib.hid (fun (W1 : World) (hW : AW B g w v3 AH cH H (some ⟨h, 0, none⟩) c D W1) => show W1.cell? ⟨h, (D.length - 1) * 5 + 1, none⟩ = some (.int .i64 a1) from by
                obtain ⟨h', e', _, _, k0, k1, k2, k3, k4⟩ := own_last hW.2.1 hL HX.out
                injection e' with e'; injection e' with e'; subst e'; exact k1)
              obtain ⟨k, hk⟩ : ∃ k, D.length - 1 = k := ⟨_, rfl⟩
              rw [hk] at f1 CEL
              have hwL : IntKind.i64.wrap ((D.length : Int) - 1) = (k : Int) := by rw [IntWalk.i64_in _ (by omega)]; omega
              have hk0 : (0 : Int) ≤ (k : Int) := by omega
              have hk1 : (k : Int) < (D.length : Int) := by omega
              clear hk
              go_wp2_with fail
              have HS0 : Hid (AW B g w v3 AH cH H (some ⟨h, 0, none⟩) c D w4.drew ∧ w4.drew.cell? ⟨h, k * 5 + 1, none⟩ = some (.int .i64 a1)) := ⟨HA4.out.drew, f1⟩
              have KNX : Hid (∀ (W1 W3 : World), W1.grownBy W3 (some g) → Src W3 B g → AW B g w v3 AH cH H (some ⟨h, 0, none⟩) c D W1 → (AW B g w v3 AH cH H (some ⟨h, 0, none⟩) c D W3 ∧ W3.cell? ⟨h, k * 5 + 1, none⟩ = some (.int .i64 a1))) := fun W1 W3 hg hq ha => ⟨ha.next hg hq, CEL.out _ (ha.next hg hq)⟩
              go_region_held3 (fun W1 => AW B g w v3 AH cH H (some ⟨h, 0, none⟩) c D W1 ∧ W1.cell? ⟨h, k * 5 + 1, none⟩ = some (.int .i64 a1))
                (first | exact HS0.out | exact KNX.out _ _ (by assumption) (by assumption) (by assumption) | assumption)
                ((first
                  | (go_at_call 68; go_split_ands; refine Calls.mono (l01Next_c B g _ _ (AW.src (by assumption)) ?_) ?_; (any_goals (first | assumption | omega)); rintro e w6 ⟨k6, rfl, ⟨hk60, hk61⟩, hq6, hg6⟩)))
              all_goals
                have hSS : AW B g w v3 AH cH H (some ⟨h, 0, none⟩) c D w6 ∧ w6.cell? ⟨h, k * 5 + 1, none⟩ = some (.int .i64 a1) := by assumption
                have HA5 := Lib.hid hSS.1; clear hSS
                go_wp2
                go_meet
                case rel => exact ⟨_, rfl, HA5⟩
          case rest =>
            obtain ⟨dd, rfl, HA5⟩ := hcut
            obtain ⟨w5, rfl⟩ : ∃ x, x = wc := ⟨_, rfl⟩
            clear HA4 hbL hlb
            go_wp2_with fail
            refine (fileA_ex AH cH H J A c D dd w5 (Rd.of_own1 HA5.out.1) (by omega) hcapH.1 (Rd.of_own HA5.out.2.1) (by omega) hcap.1).mono ?_
            rintro e w6 ⟨E, code, A2, c2, rfl, hok, hlE, hoN, hb6⟩
            have HA6 := Lib.hid (HA5.out.below hb6)
            have HN6 := Lib.hid (own_mono hoN HA5.out.2.2.2.2.2.2)
            have HOK := Lib.hid hok
            clear HA5 hoN hok hb6
            go_upto_region 13 with fail
            go_cut [74] from 27 to 98 (fun s74 wc => ∃ b : Bool, s74 = .bool b ∧ Hid (AW B g w v3 AH cH H A c D wc) ∧ Hid (wc.ownsRow v3.heap.size 64 5 (.slice A2 E.length c2) E.length (E.flatMap appealC)))
            case first =>
              by_cases hk : code = 0
              · subst hk
                go_wp2
                go_meet
                case rel => exact ⟨_, rfl, HA6, HN6⟩
              · have hkn : (code != 0) = true := bne_iff_ne.2 hk
                go_wp2_with fail
                refine (l01Next_c B g 2 w6 HA6.out.src (by omega)).mono ?_
                rintro e w7 ⟨q2, rfl, ⟨hq20, hq21⟩, hq7, hg7⟩
                have HA7 := Lib.hid (HA6.out.next hg7 hq7)
                have HN7 := Lib.hid (rowN_next HN6.out (by omega) hg7)
                go_wp2
                go_meet
                case rel => exact ⟨_, rfl, HA7, HN7⟩
            case rest =>
              obtain ⟨b, rfl, HA7, HN7⟩ := hcut
              obtain ⟨w7, rfl⟩ : ∃ x, x = wc := ⟨_, rfl⟩
              clear HA6 HN6
              go_upto_if 74 with fail
              go_cut [10, 11] from 27 to 98 (fun s10 s11 wc => ∃ (A2 : Option Addr) (c2 : Nat) (E : List AppealD) (code : Int), s10 = .slice A2 E.length c2 ∧ s11 = .int .i64 code ∧ Hid (code = 0 → GoodA E) ∧ E.length ≤ 7 ∧ Hid (AW B g w v3 AH cH H A c D wc) ∧ Hid (wc.ownsRow v3.heap.size 64 5 (.slice A2 E.length c2) E.length (E.flatMap appealC)))
              case first =>
                cases b
                · go_wp2
                  go_meet
                  case rel => exact ⟨A2, c2, E, code, rfl, rfl, HOK, hlE, HA7, HN7⟩
                · go_wp2_with fail
                  refine (replyA_ex AH cH H J A c D dd w7 (Rd.of_own1 HA7.out.1) (by omega) hcapH.1 (Rd.of_own HA7.out.2.1) (by omega) hcap.1).mono ?_
                  rintro e w8 ⟨F, cf, A3, c3, rfl, hok, hlF, hoF, hb8⟩
                  have HA8 := Lib.hid (HA7.out.below hb8)
                  have HN8 := Lib.hid (own_mono hoF HA7.out.2.2.2.2.2.2)
                  clear hoF hb8
                  have HOF := Lib.hid hok
                  clear hok
                  go_wp2
                  go_meet
                  case rel => exact ⟨A3, c3, F, cf, rfl, rfl, HOF, hlF, HA8, HN8⟩
              case rest =>
                obtain ⟨A2, c2, E, code, rfl, rfl, HOK, hlE, HA8, HN8⟩ := hcut
                obtain ⟨w8, rfl⟩ : ∃ x, x = wc := ⟨_, rfl⟩
                clear HA7 HN7
                go_upto_if 84 with fail
                go_cut [10, 11] from 27 to 98 (fun s10 s11 wc => ∃ (A2 : Option Addr) (c2 : Nat) (E : List AppealD) (code : Int), s10 = .slice A2 E.length c2 ∧ s11 = .int .i64 code ∧ Hid (code = 0 → GoodA E) ∧ E.length ≤ 7 ∧ Hid (AW B g w v3 AH cH H A c D wc) ∧ Hid (wc.ownsRow v3.heap.size 64 5 (.slice A2 E.length c2) E.length (E.flatMap appealC)))
                case first =>
                  by_cases hk : code = 0
                  · subst hk
                    have HGE := Lib.hid (HOK.out rfl)
                    clear HOK
                    go_wp2
                    go_meet
                    case rel => exact ⟨A2, c2, E, 0, rfl, rfl, Lib.hid (fun _ => HGE.out), hlE, HA8, HN8⟩
                  · have hkn : (code != 0) = true := bne_iff_ne.2 hk
                    have HQw8 := Lib.hid HA8.out.src
                    have HGw8 := Lib.hid (World.grownBy.refl w8 (some g))
                    have hgz : g < w8.heap.size := HQw8.out.lt
                    go_wp2_with fail
                    generalize hW9 : w8.alloc _ = W9
                    have hbW9 : Below w8.heap.size w8 W9 := by subst hW9; exact (Below.refl _ _).alloc (Nat.le_refl _) _
                    have hsW9 : W9.heap.size = w8.heap.size + 1 := by subst hW9; simp
                    have cxW9_0 : ∀ i, W9.cell? ⟨w8.heap.size, i, none⟩ = (#[.int .i64 1, .int .i64 1, .int .i64 2, .int .i64 2, .int .i64 3] : Array Value)[i]? := by intro i; subst hW9; simp [go_sem]
                    have fzW9_0 : ∀ i, W9.frozen? ⟨w8.heap.size, i, none⟩ = false := by intro i; subst hW9; simp [go_sem]
                    have HSW9 := Lib.hid hsW9; clear hW9 hsW9
                    have HQW9 := Lib.hid (HQw8.out.below hbW9); have HGW9 := Lib.hid (grown_trans' HGw8.out (grown_of_below hbW9 _)); have hzW9 : W9.heap.size = w8.heap.size + 1 := HSW9.out
                    clear HSW9
                    refine (l01Pick_c B g (w8.heap.size) 0 _ [1, 1, 2, 2, 3] W9 HQW9.out (by omega) (pick_box (L := [1, 1, 2, 2, 3]) (fun i => by exact cxW9_0 i)) (by simp) (by simp) (by simp)).mono ?_
                    rintro e y1 ⟨res, rfl, hresm, hqy1, hgy1⟩
                    have HQy1 := Lib.hid hqy1; have HGy1 := Lib.hid (grown_trans' HGW9.out hgy1); have hzy1 := hgy1.size; have Hresm := Lib.hid hresm
                    clear hqy1 hresm
                    have HA9 := Lib.hid ((HA8.out.below hbW9).next hgy1 HQy1.out)
                    go_wp2_with fail
                    refine (decA_ex AH cH H J A c D res dd y1 (Rd.of_own1 HA9.out.1) (by omega) hcapH.1 (Rd.of_own HA9.out.2.1) (by omega) hcap.1).mono ?_
                    rintro e y2 ⟨F, cf, A3, c3, rfl, hok, hlF, hoF, hb8⟩
                    have HA10 := Lib.hid (HA9.out.below hb8)
                    have HN10 := Lib.hid (own_mono hoF HA9.out.2.2.2.2.2.2)
                    clear hoF hb8
                    have HOF := Lib.hid hok
                    clear hok
                    go_wp2
                    go_meet
                    case rel => exact ⟨A3, c3, F, cf, rfl, rfl, HOF, hlF, HA10, HN10⟩
                case rest =>
                  obtain ⟨A2, c2, E, code, rfl, rfl, HOK, hlE, HA9, HN9⟩ := hcut
                  obtain ⟨w9, rfl⟩ : ∃ x, x = wc := ⟨_, rfl⟩
                  clear HA8 HN8
                  by_cases hk : code = 0
                  · have HGE := Lib.hid (HOK.out hk)
                    subst hk
                    have HA10 := Lib.hid (show AW B g w v3 AH cH H A2 c2 E w9 from ⟨HA9.out.1, HN9.out, HA9.out.2.2⟩)
                    go_wp2
                    go_roundw
                    case rel => exact ⟨A2, c2, E, j - 1, by go_num, rfl, by omega, hlE, HGE, HA10⟩
                    case measure => simp [intOf]; omega
                  · have hkn : (code == 0) = false := beq_eq_false_iff_ne.2 hk
                    go_wp2
                    go_roundw
                    case rel => exact ⟨A, c, D, j - 1, by go_num, rfl, by omega, hl7, HGD, HA9⟩
                    case measure => simp [intOf]; omega
      · obtain rfl : j = 0 := by omega
        have HSO := HS
        by_cases hL : 0 < D.length
        · have hLi : (0 : Int) < (D.length : Int) := by omega
          obtain ⟨h, rfl, hh1, hh2⟩ := own_head HAr.out.2.1 hL
          go_wp2_with fail
          refine (l01Next_c B g (D.length : Int) wr HAr.out.src (by omega)).mono ?_
          rintro e w4 ⟨k, rfl, ⟨hk0, hk1⟩, hq4, hg4⟩
          have HA4 := Lib.hid (HAr.out.next hg4 hq4)
          clear HAr hq4 hg4
          obtain ⟨k, rfl⟩ := Int.eq_ofNat_of_zero_le hk0
          have hlt : k < D.length := by omega
          have hkc : (k : Int) < (D.length : Int) := by omega
          go_wp2_with fail
          refine (l01Next_c B g 40 w4 HA4.out.src (by omega)).mono ?_
          rintro e w5 ⟨q, rfl, ⟨hq0, hq1⟩, hq5, hg5⟩
          have HA5 := Lib.hid (HA4.out.next hg5 hq5)
          clear HA4 hq5 hg5
          have HC := Lib.hid (fun (W1 : World) (hW : AW B g w v3 AH cH H (some ⟨h, 0, none⟩) c D W1) (j : Nat) (hj : j < D.length * 5) => own_cell hW.2.1 (j := j) hj)
          by_cases c0 : q = 0
          · subst c0
            go_wp2_with fail
            refine (l01Next_c B g 4 w5 HA5.out.src (by omega)).mono ?_
            rintro e w6 ⟨s, rfl, ⟨hs0, hs1⟩, hq6, hg6⟩
            have HA6 := Lib.hid (HA5.out.next hg6 hq6)
            clear HA5 hq6 hg6
            obtain ⟨u0, f0⟩ := HC.out w6 HA6.out (k * 5) (by omega)
            have z0 := HA6.out.2.1.frozenAt (k * 5)
            go_wp2
            go_ret3
            exact put_appeal (i := 0) (y := ⟨s, D[k].filed, D[k].replied, D[k].decided, D[k].result⟩) HA6.out HNE.out HSO.out hlH hl7 hJ HGD.out ⟨(HGD.out.bd D[k] (List.getElem_mem hlt)).1, (HGD.out.bd D[k] (List.getElem_mem hlt)).2⟩ hlt (by omega) rfl
          by_cases c1 : q = 1
          · subst c1
            go_wp2_with fail
            refine (l01Next_c B g 300 w5 HA5.out.src (by omega)).mono ?_
            rintro e w6 ⟨s, rfl, ⟨hs0, hs1⟩, hq6, hg6⟩
            have HA6 := Lib.hid (HA5.out.next hg6 hq6)
            clear HA5 hq6 hg6
            obtain ⟨u0, f0⟩ := HC.out w6 HA6.out (k * 5 + 2) (by omega)
            have z0 := HA6.out.2.1.frozenAt (k * 5 + 2)
            go_wp2
            go_ret3
            exact put_appeal (i := 2) (y := ⟨D[k].level, D[k].filed, s, D[k].decided, D[k].result⟩) HA6.out HNE.out HSO.out hlH hl7 hJ HGD.out ⟨(HGD.out.bd D[k] (List.getElem_mem hlt)).1, (HGD.out.bd D[k] (List.getElem_mem hlt)).2⟩ hlt (by omega) rfl
          by_cases c2 : q = 2
          · subst c2
            obtain ⟨hbf, hcf⟩ := Rd.elemS appealC 5 (fun _ => rfl) (Rd.of_own HA5.out.2.1) (by omega) hlt
            have f0 : w5.cell? ⟨h, 0 + k * 5, none⟩ = some (.int .i64 D[k].level) := hcf k hlt 0 _ rfl
            have f1 : w5.cell? ⟨h, 0 + k * 5 + 1, none⟩ = some (.int .i64 D[k].filed) := hcf k hlt 1 _ rfl
            have f2 : w5.cell? ⟨h, 0 + k * 5 + 2, none⟩ = some (.int .i64 D[k].replied) := hcf k hlt 2 _ rfl
            have f3 : w5.cell? ⟨h, 0 + k * 5 + 3, none⟩ = some (.int .i64 D[k].decided) := hcf k hlt 3 _ rfl
            have f4 : w5.cell? ⟨h, 0 + k * 5 + 4, none⟩ = some (.int .i64 D[k].result) := hcf k hlt 4 _ rfl
            simp only [Nat.zero_add] at f1
            clear hcf f0 f2 f3 f4
            have hfb := (HGD.out _ (List.getElem_mem hlt)).1
            generalize D[k].filed = x1 at *
            have HQw5 := Lib.hid HA5.out.src
            have HGw5 := Lib.hid (World.grownBy.refl w5 (some g))
            have hgz : g < w5.heap.size := HQw5.out.lt
            go_wp2_with fail
            generalize hW6 : w5.alloc _ = W6
            have hbW6 : Below w5.heap.size w5 W6 := by subst hW6; exact (Below.refl _ _).alloc (Nat.le_refl _) _
            have hsW6 : W6.heap.size = w5.heap.size + 1 := by subst hW6; simp
            have cxW6_0 : ∀ i, W6.cell? ⟨w5.heap.size, i, none⟩ = (#[.int .i64 (x1 - 1), .int .i64 20001, .int .i64 0] : Array Value)[i]? := by intro i; subst hW6; simp [go_sem]
            have fzW6_0 : ∀ i, W6.frozen? ⟨w5.heap.size, i, none⟩ = false := by intro i; subst hW6; simp [go_sem]
            have HSW6 := Lib.hid hsW6; clear hW6 hsW6
            have HQW6 := Lib.hid (HQw5.out.below hbW6); have HGW6 := Lib.hid (grown_trans' HGw5.out (grown_of_below hbW6 _)); have hzW6 : W6.heap.size = w5.heap.size + 1 := HSW6.out
            clear HSW6
            refine (l01Pick_c B g (w5.heap.size) 0 _ [x1 - 1, 20001, 0] W6 HQW6.out (by omega) (pick_box (L := [x1 - 1, 20001, 0]) (fun i => by exact cxW6_0 i)) (by simp) (by simp) (by simp)).mono ?_
            rintro e y7 ⟨p, rfl, hpm, hqy7, hgy7⟩
            have HQy7 := Lib.hid hqy7; have HGy7 := Lib.hid (grown_trans' HGW6.out hgy7); have hzy7 := hgy7.size; have Hpm := Lib.hid hpm
            clear hqy7 hpm
            have HA7 := Lib.hid ((HA5.out.below hbW6).next hgy7 HQy7.out)
            have hp : p = x1 - 1 ∨ p = 20001 ∨ p = 0 := by simpa using Hpm.out
            have hpb : -1 ≤ p ∧ p ≤ 20001 := by omega
            clear hp
            obtain ⟨u0, f0⟩ := HC.out y7 HA7.out (k * 5 + 3) (by omega)
            have z0 := HA7.out.2.1.frozenAt (k * 5 + 3)
            go_wp2
            go_ret3
            exact put_appeal (i := 3) (y := ⟨D[k].level, D[k].filed, D[k].replied, p, D[k].result⟩) HA7.out HNE.out HSO.out hlH hl7 hJ HGD.out ⟨(HGD.out _ (List.getElem_mem hlt)).1, hpb⟩ hlt (by omega) rfl
          have hq3 : 3 ≤ q := by omega
          go_wp2
          go_ret3
          exact appP_of HA5.out hlH hl7 hJ HGD.out
        · have hLi : ¬ (0 : Int) < (D.length : Int) := by omega
          go_wp2
          go_ret3
          exact appP_of HAr.out hlH hl7 hJ HGD.out
end Go.Proofs.Ytdohegpbdlcnjaa
