/- Contracts: the writing of journals. -/
import Derived.Test.YtdibfppmodeiiaaDoorJou
namespace Go.Proofs.YtdibfppmodeiiaaDoor
open Go.RowKit
set_option linter.unusedVariables false
def chkE (x : EntryD) (c : Nat) : Nat := chkT c (bodyT x.kind x.text)
def wrT (a0 : Int) (a1 : ByteArray) (c : Nat) : ByteArray := bodyT a0 a1 ++ { data := #[58] } ++ decT (chkT c (bodyT a0 a1)) ++ { data := #[10] }
theorem wrT_len {a0 : Int} {a1 : ByteArray} {c : Nat} (h : a1.size ≤ 1000000) (hc : c < 65521) : (wrT a0 a1 c).size ≤ a1.size + 46 := by
  have h1 := bodyT_len (a0 := a0) h
  have h2 := decT_len (chkT c (bodyT a0 a1)) (by have := chkL_lt (bodyT a0 a1).data.toList hc; unfold chkT; omega)
  unfold wrT
  rw [ByteArray.size_append, ByteArray.size_append, ByteArray.size_append]
  have : ({ data := #[58] } : ByteArray).size = 1 := rfl
  have : ({ data := #[10] } : ByteArray).size = 1 := rfl
  omega
/-- The journal of the first k entries, and the check behind them. -/
def wjAt (L : List EntryD) : Nat → ByteArray × Nat
  | 0 => (ByteArray.empty, 7)
  | k + 1 => let p := wjAt L k; let x := L.getD k default; (p.1 ++ wrT x.kind x.text p.2, chkE x p.2)
theorem wjAt_succ {L : List EntryD} {k : Nat} (hk : k < L.length) : wjAt L (k + 1) = ((wjAt L k).1 ++ wrT L[k].kind L[k].text (wjAt L k).2, chkE L[k] (wjAt L k).2) := by
  rw [wjAt, List.getD_eq_getElem?_getD, List.getElem?_eq_getElem hk]; rfl
theorem wjAt_lt (L : List EntryD) : ∀ k, (wjAt L k).2 < 65521
  | 0 => by show 7 < 65521; omega
  | k + 1 => chkL_lt _ (wjAt_lt L k)
theorem ent_text {L : List EntryD} (h : entsAll L = true) {k : Nat} (hk : k < L.length) : L[k].text.size ≤ 40 ∧ (65 ≤ L[k].kind ∧ L[k].kind ≤ 90) := by
  have := (List.all_eq_true.1 h) _ (List.getElem_mem hk)
  simp only [entOk, isPlainB, Bool.and_eq_true, decide_eq_true_eq] at this
  exact ⟨by omega, inB_iff.1 this.1⟩
theorem wjAt_len {L : List EntryD} (h : entsAll L = true) : ∀ k, k ≤ L.length → (wjAt L k).1.size ≤ 86 * k
  | 0, _ => by show ByteArray.empty.size ≤ _; simp
  | k + 1, hk => by
    have ih := wjAt_len h k (by omega)
    have ht := (ent_text h (show k < L.length by omega)).1
    have := wrT_len (a0 := L[k].kind) (a1 := L[k].text) (by omega) (wjAt_lt L k)
    rw [wjAt_succ (by omega), ByteArray.size_append]
    omega
def wjR (L : List EntryD) : ByteArray × Int := if entCode L = 0 then ((wjAt L L.length).1, 0) else (ByteArray.empty, entCode L)
def ckR (L : List EntryD) : Int × Int := if entCode L = 0 then ((((wjAt L L.length).2 : Nat) : Int), 0) else (0, entCode L)
theorem entCode_0 {L : List EntryD} (h : entCode L = 0) : entsAll L = true ∧ L.length ≤ 20 := by
  unfold entCode at h
  split at h
  · rename_i h1
    split at h
    · rename_i h2; exact ⟨h1, h2⟩
    · omega
  · omega


set_option maxRecDepth 100000 in
set_option maxHeartbeats 2000000 in
theorem written_c (a0 : Int) (a1 : ByteArray) (c : Nat) (w : World) (hs : a1.size ≤ 1000000) (hc : c < 65521) (ht : TabW w) : Calls Tryd.prog 46 #[.agg #[.int .u8 a0, .string a1], .int .i64 c] w fun e w' => e = .returned (.string (wrT a0 a1 c)) ∧ Below w.heap.size w w' := by
  have hbl := bodyT_len (a0 := a0) hs
  have hq := chkL_lt (bodyT a0 a1).data.toList hc
  have HQB : Hid (chkT c (bodyT a0 a1) ≤ 1000000000000000) := by unfold Hid chkT; omega
  have hd := decT_len (chkT c (bodyT a0 a1)) HQB.out
  have HE : Hid (wrT a0 a1 c = bodyT a0 a1 ++ { data := #[58] } ++ decT (chkT c (bodyT a0 a1)) ++ { data := #[10] }) := rfl
  have hsum1 : ¬ 9223372036854775807 < (bodyT a0 a1).size + 1 := by omega
  have hsum2 : ¬ 9223372036854775807 < (bodyT a0 a1).size + 1 + (decT (chkT c (bodyT a0 a1))).size := by omega
  have hsum3 : ¬ 9223372036854775807 < (bodyT a0 a1).size + 1 + (decT (chkT c (bodyT a0 a1))).size + 1 := by omega
  clear hbl hq hd
  go_enter Tryd.func46, Tryd.ntmps46
  go_wp2_with fail
  generalize hW0 : w.alloc _ = W0
  have hbW0 : Below w.heap.size w W0 := by subst hW0; exact (Below.refl _ _).alloc (Nat.le_refl _) _
  have hsW0 : W0.heap.size = w.heap.size + 1 := by subst hW0; simp
  have cxW0_0 : ∀ i, W0.cell? ⟨w.heap.size, i, none⟩ = (#[.int .u8 a0, .string a1] : Array Value)[i]? := by intro i; subst hW0; simp [go_sem]
  have HSW0 := Lib.hid hsW0; clear hW0 hsW0
  have hlw : w.heap.size < W0.heap.size := by have := HSW0.out; omega
  have HTT := Lib.hid (ht.below hbW0)
  have HKd : Hid (∀ W1 : World, Below W0.heap.size W0 W1 → ((∀ i, W1.cell? ⟨w.heap.size, i, none⟩ = (#[.int .u8 a0, .string a1] : Array Value)[i]?) ∧ Below W0.heap.size W0 W1)) := fun W1 h => ⟨fun i => (h.cell (p := ⟨w.heap.size, i, none⟩) (by simp only; omega)).trans (cxW0_0 i), h⟩
  go_region_held3 (fun W1 => (∀ i, W1.cell? ⟨w.heap.size, i, none⟩ = (#[.int .u8 a0, .string a1] : Array Value)[i]?) ∧ Below W0.heap.size W0 W1) (first | exact HKd.out _ ((Below.refl _ _).drew) | exact HKd.out _ hBwd | exact HKd.out _ hBwb | exact HKd.out _ hBwc)
    ((first
      | (go_at_call 53; refine (body_c a0 a1 _ hs (HTT.out.below ((Below.refl _ _).drew))).mono ?_; rintro e wb ⟨rfl, hwb⟩; have hBwb : Below W0.heap.size W0 wb := below_then ((Below.refl _ _).drew) hwb (Nat.le_refl _); have hswb := hBwb.size)
      | (go_at_call 53; refine (body_c a0 a1 _ hs (HTT.out.below (hBwc))).mono ?_; rintro e wb ⟨rfl, hwb⟩; have hBwb : Below W0.heap.size W0 wb := below_then (hBwc) hwb (Nat.le_refl _); have hswb := hBwb.size)
      | (go_at_call 53; refine (body_c a0 a1 _ hs (HTT.out.below (hBwd))).mono ?_; rintro e wb ⟨rfl, hwb⟩; have hBwb : Below W0.heap.size W0 wb := below_then (hBwd) hwb (Nat.le_refl _); have hswb := hBwb.size)
      | (go_at_call 41; refine (check_c a0 a1 c _ hs hc (HTT.out.below ((Below.refl _ _).drew))).mono ?_; rintro e wc ⟨rfl, hwc⟩; have hBwc : Below W0.heap.size W0 wc := below_then ((Below.refl _ _).drew) hwc (Nat.le_refl _); have hswc := hBwc.size)
      | (go_at_call 41; refine (check_c a0 a1 c _ hs hc (HTT.out.below (hBwb))).mono ?_; rintro e wc ⟨rfl, hwc⟩; have hBwc : Below W0.heap.size W0 wc := below_then (hBwb) hwc (Nat.le_refl _); have hswc := hBwc.size)
      | (go_at_call 58; refine (decimal_c (chkT c (bodyT a0 a1)) HQB.out _ (HTT.out.below (hBwb))).mono ?_; rintro e wd ⟨rfl, hwd⟩; have hBwd : Below W0.heap.size W0 wd := below_then (hBwb) hwd (Nat.le_refl _); have hswd := hBwd.size)
      | (go_at_call 58; refine (decimal_c (chkT c (bodyT a0 a1)) HQB.out _ (HTT.out.below (hBwc))).mono ?_; rintro e wd ⟨rfl, hwd⟩; have hBwd : Below W0.heap.size W0 wd := below_then (hBwc) hwd (Nat.le_refl _); have hswd := hBwd.size)))
  all_goals
    go_wp2
    go_ret
    exact ⟨by rw [HE.out]; rfl, by first | exact bt hbW0 hBwd | exact bt hbW0 hBwb⟩


set_option maxRecDepth 100000 in
set_option maxHeartbeats 2000000 in
theorem write_c (A : Option Addr) (c : Nat) (L : List EntryD) (w : World) (hr : Rd w w.heap.size A (L.length * 2) (L.flatMap entryC)) (hl : L.length ≤ 140737488355328) (hcap : L.length ≤ c) (hW : ∀ x ∈ L, EntryW x) (hall : entsAll L = true) (h20 : L.length ≤ 20) (ht : TabW w) :
    Calls Tryd.prog 38 #[.slice A L.length c] w fun e w' => e = .returned (.string (wjAt L L.length).1) ∧ Below w.heap.size w w' := by
  have HW := Lib.hid hW; have HALL := Lib.hid hall; have HT := Lib.hid ht; clear hW hall ht
  go_enter Tryd.func38, Tryd.ntmps38
  go_wp2
  go_loopw [3, 4, 9] (fun o q i wr => ∃ k : Nat, k ≤ L.length ∧ i = .int .i64 k ∧ o = .string (wjAt L k).1 ∧ q = .int .i64 ((wjAt L k).2 : Nat) ∧ Below w.heap.size w wr) (fun _ _ i _ => L.length - (intOf i).toNat)
  case atStart => exact ⟨0, by omega, rfl, rfl, rfl, Below.refl _ _⟩
  case round =>
    obtain ⟨k, hk, rfl, rfl, rfl, hB⟩ := hrel
    by_cases hlt : k < L.length
    · obtain ⟨bf, offf, rfl, hbf, hcf⟩ := Rd.elem entryC 2 (fun _ => rfl) (rdW hB hr) (by omega) hlt
      have f0 : wr.cell? ⟨bf, offf + k * 2, none⟩ = some (.int .u8 L[k].kind) := hcf k hlt 0 _ rfl
      have f1 : wr.cell? ⟨bf, offf + k * 2 + 1, none⟩ = some (.string L[k].text) := hcf k hlt 1 _ rfl
      have hte := (ent_text HALL.out hlt).1
      have hlen := wjAt_len HALL.out k hk
      have hq := wjAt_lt L k
      have HS := Lib.hid (wjAt_succ hlt)
      clear hcf
      have hwl := wrT_len (a0 := L[k].kind) (a1 := L[k].text) (by omega) hq
      have HX : Hid (chkE L[k] (wjAt L k).2 = chkT (wjAt L k).2 (bodyT L[k].kind L[k].text)) := rfl
      generalize hp : wjAt L k = p at *
      have HP := Lib.hid hp
      clear hp
      obtain ⟨o, q⟩ := p
      simp only at hlen hq hwl HS HX
      generalize L[k] = x at *
      obtain ⟨x0, x1⟩ := x
      simp only at hte hwl HS HX
      have hsum : ¬ 9223372036854775807 < o.size + (wrT x0 x1 q).size := by omega
      go_wp2_with fail
      generalize hW1 : wr.alloc _ = W1
      have hbW1 : Below wr.heap.size wr W1 := by subst hW1; exact (Below.refl _ _).alloc (Nat.le_refl _) _
      have hsW1 : W1.heap.size = wr.heap.size + 1 := by subst hW1; simp
      have cxW1_0 : ∀ i, W1.cell? ⟨wr.heap.size, i, none⟩ = (#[.int .u8 x0, .string x1] : Array Value)[i]? := by intro i; subst hW1; simp [go_sem]
      have HSW1 := Lib.hid hsW1; clear hW1 hsW1
      have hbb := bt hB hbW1
      have hg1 := HSW1.out
      refine (written_c x0 x1 q W1 (by omega) hq (HT.out.below hbb)).mono ?_
      rintro e w2 ⟨rfl, hb2⟩
      replace cxW1_0 := fun i => (hb2.cell (by (try simp only); have := HSW1.out; omega)).trans (cxW1_0 i)
      have hB2 := bt hbb hb2
      have hg2 := hb2.size
      go_wp2_with fail
      refine (check_c x0 x1 q w2 (by omega) hq (HT.out.below hB2)).mono ?_
      rintro e w3 ⟨rfl, hb3⟩
      have hB3 := bt hB2 hb3
      go_wp2
      go_roundw
      case rel => exact ⟨k + 1, by omega, by go_num, by rw [HS.out], by rw [HS.out, HX.out], hB3⟩
      case measure => simp [intOf]; omega
    · obtain rfl : k = L.length := by omega
      go_wp2
      go_ret
      exact ⟨rfl, hB⟩
set_option maxRecDepth 100000 in
set_option maxHeartbeats 2000000 in
theorem l33Write_c (A : Option Addr) (c : Nat) (L : List EntryD) (w : World) (hr : Rd w w.heap.size A (L.length * 2) (L.flatMap entryC)) (hl : L.length ≤ 140737488355328) (hcap : L.length ≤ c) (hW : ∀ x ∈ L, EntryW x) (hall : entsAll L = true) (h20 : L.length ≤ 20) :
    Calls Tryd.prog 34 #[.slice A L.length c] w fun e w' => e = .returned (.tuple #[.string (wjAt L L.length).1, .int .i64 ((wjAt L L.length).2 : Nat)]) ∧ Below w.heap.size w w' := by
  have HW := Lib.hid hW; have HALL := Lib.hid hall; clear hW hall
  go_enter Tryd.func34, Tryd.ntmps34
  go_wp2
  go_loopw [4, 5, 6] (fun o q i wr => ∃ k : Nat, k ≤ L.length ∧ i = .int .i64 k ∧ o = .string (wjAt L k).1 ∧ q = .int .i64 ((wjAt L k).2 : Nat) ∧ Below w.heap.size w wr) (fun _ _ i _ => L.length - (intOf i).toNat)
  case atStart => exact ⟨0, by omega, rfl, rfl, rfl, Below.refl _ _⟩
  case round =>
    obtain ⟨k, hk, rfl, rfl, rfl, hB⟩ := hrel
    by_cases hlt : k < L.length
    · obtain ⟨bf, offf, rfl, hbf, hcf⟩ := Rd.elem entryC 2 (fun _ => rfl) (rdW hB hr) (by omega) hlt
      have f0 : wr.cell? ⟨bf, offf + k * 2, none⟩ = some (.int .u8 L[k].kind) := hcf k hlt 0 _ rfl
      have f1 : wr.cell? ⟨bf, offf + k * 2 + 1, none⟩ = some (.string L[k].text) := hcf k hlt 1 _ rfl
      have hte := (ent_text HALL.out hlt).1
      have hlen := wjAt_len HALL.out k hk
      have hq := wjAt_lt L k
      have HS := Lib.hid (wjAt_succ hlt)
      have hk' : (k : Int) < L.length := by omega
      clear hcf
      have hbl := bodyT_len (a0 := L[k].kind) (a1 := L[k].text) (by omega)
      have HX : Hid (chkE L[k] (wjAt L k).2 = chkT (wjAt L k).2 (bodyT L[k].kind L[k].text)) := rfl
      generalize hp : wjAt L k = p at *
      have HP := Lib.hid hp
      clear hp
      obtain ⟨o, q⟩ := p
      simp only at hlen hq HS HX
      generalize L[k] = x at *
      obtain ⟨x0, x1⟩ := x
      simp only at hte hbl HS HX
      have HWR : Hid (wrT x0 x1 q = bodyT x0 x1 ++ { data := #[58] } ++ decT (chkT q (bodyT x0 x1)) ++ { data := #[10] }) := rfl
      have HHD := Lib.hid (fun W => l33Head_c x0 x1 W (by omega))
      have hqc := chkL_lt (bodyT x0 x1).data.toList hq
      have hqq : chkT q (bodyT x0 x1) < 65521 := hqc
      clear hqc
      generalize bodyT x0 x1 = s at *
      have hdl := decT_len (chkT q s) (by omega)
      have hsum0 : ¬ 9223372036854775807 < o.size + s.size := by omega
      have hsum1 : ¬ 9223372036854775807 < o.size + s.size + 1 := by omega
      have hsum2 : ¬ 9223372036854775807 < o.size + s.size + 1 + (decT (chkT q s)).size := by omega
      have hsum3 : ¬ 9223372036854775807 < o.size + s.size + 1 + (decT (chkT q s)).size + 1 := by omega
      go_wp2_with fail
      refine (HHD.out wr).mono ?_
      rintro e w2 ⟨rfl, hb2⟩
      have hB2 := bt hB hb2
      go_wp2_with fail
      refine (l33Check_c s q w2 (by omega) hq).mono ?_
      rintro e w' ⟨rfl, rfl⟩
      go_wp2_with fail
      refine (l01Dec_c (chkT q s) (by omega) w2).mono ?_
      rintro e w3 ⟨rfl, hb3⟩
      have hB3 := bt hB2 hb3
      go_wp2
      go_roundw
      case rel => exact ⟨k + 1, by omega, by go_num, by rw [HS.out, HWR.out]; simp only [ByteArray.append_assoc], by rw [HS.out, HX.out], hB3⟩
      case measure => simp [intOf]; omega
    · obtain rfl : k = L.length := by omega
      go_wp2
      go_ret2
      exact ⟨rfl, hB⟩


theorem impl_WriteJournal (A : Option Addr) (c : Nat) (L : List EntryD) (w : World) (hr : Rd w w.heap.size A (L.length * 2) (L.flatMap entryC)) (hl : L.length ≤ 140737488355328) (hcap : L.length ≤ c) (hW : ∀ x ∈ L, EntryW x) (ht : TabW w) :
    Calls Tryd.prog 16 #[.slice A L.length c] w fun e w' => e = .returned (.tuple #[.string (wjR L).1, .int .i64 (wjR L).2]) ∧ Below w.heap.size w w' := by
  have HC := entriesCode_c A c L w hr hl hcap hW
  by_cases h0 : entCode L = 0
  · obtain ⟨hall, h20⟩ := entCode_0 h0
    have HR : Hid (wjR L = ((wjAt L L.length).1, 0)) := by unfold Hid wjR; rw [if_pos h0]
    rw [h0] at HC
    have HW := Lib.hid hW; have HA := Lib.hid hall
    clear h0 hW hall
    go_enter Tryd.func16, Tryd.ntmps16
    go_wp2_with fail
    refine HC.mono ?_
    rintro e w1 ⟨rfl, hb1⟩
    go_wp2_with fail
    refine (write_c A c L w1 (rdW hb1 hr) hl hcap HW.out HA.out h20 (ht.below hb1)).mono ?_
    rintro e w2 ⟨rfl, hb2⟩
    go_wp2
    go_ret2
    exact ⟨by rw [HR.out]; rfl, bt hb1 hb2⟩
  · have HR : Hid (wjR L = (ByteArray.empty, entCode L)) := by unfold Hid wjR; rw [if_neg h0]
    have hne : (entCode L != 0) = true := by rw [bne_iff_ne]; exact h0
    have hne2 : (entCode L == 0) = false := by rw [beq_eq_false_iff_ne]; exact h0
    generalize entCode L = q at *
    clear h0
    go_enter Tryd.func16, Tryd.ntmps16
    go_wp2_with fail
    refine HC.mono ?_
    rintro e w1 ⟨rfl, hb1⟩
    go_wp2
    go_ret2
    exact ⟨by rw [HR.out]; rfl, hb1⟩
theorem spec_WriteJournal (A : Option Addr) (c : Nat) (L : List EntryD) (w : World) (hr : Rd w w.heap.size A (L.length * 2) (L.flatMap entryC)) (hl : L.length ≤ 140737488355328) (hcap : L.length ≤ c) (hW : ∀ x ∈ L, EntryW x) :
    Calls Tryd.prog 17 #[.slice A L.length c] w fun e w' => e = .returned (.tuple #[.string (wjR L).1, .int .i64 (wjR L).2]) ∧ Below w.heap.size w w' := by
  have HC := l33Code_c A c L w hr hl hcap hW
  by_cases h0 : entCode L = 0
  · obtain ⟨hall, h20⟩ := entCode_0 h0
    have HR : Hid (wjR L = ((wjAt L L.length).1, 0)) := by unfold Hid wjR; rw [if_pos h0]
    rw [h0] at HC
    have HW := Lib.hid hW; have HA := Lib.hid hall
    clear h0 hW hall
    go_enter Tryd.func17, Tryd.ntmps17
    go_wp2_with fail
    refine HC.mono ?_
    rintro e w1 ⟨rfl, hb1⟩
    go_wp2_with fail
    refine (l33Write_c A c L w1 (rdW hb1 hr) hl hcap HW.out HA.out h20).mono ?_
    rintro e w2 ⟨rfl, hb2⟩
    go_wp2
    go_ret2
    exact ⟨by rw [HR.out]; rfl, bt hb1 hb2⟩
  · have HR : Hid (wjR L = (ByteArray.empty, entCode L)) := by unfold Hid wjR; rw [if_neg h0]
    have hne : (entCode L != 0) = true := by rw [bne_iff_ne]; exact h0
    have hne2 : (entCode L == 0) = false := by rw [beq_eq_false_iff_ne]; exact h0
    generalize entCode L = q at *
    clear h0
    go_enter Tryd.func17, Tryd.ntmps17
    go_wp2_with fail
    refine HC.mono ?_
    rintro e w1 ⟨rfl, hb1⟩
    go_wp2
    go_ret2
    exact ⟨by rw [HR.out]; rfl, hb1⟩
theorem spec_CheckOf (A : Option Addr) (c : Nat) (L : List EntryD) (w : World) (hr : Rd w w.heap.size A (L.length * 2) (L.flatMap entryC)) (hl : L.length ≤ 140737488355328) (hcap : L.length ≤ c) (hW : ∀ x ∈ L, EntryW x) :
    Calls Tryd.prog 23 #[.slice A L.length c] w fun e w' => e = .returned (.tuple #[.int .i64 (ckR L).1, .int .i64 (ckR L).2]) ∧ Below w.heap.size w w' := by
  have HC := l33Code_c A c L w hr hl hcap hW
  by_cases h0 : entCode L = 0
  · obtain ⟨hall, h20⟩ := entCode_0 h0
    have HR : Hid (ckR L = ((((wjAt L L.length).2 : Nat) : Int), 0)) := by unfold Hid ckR; rw [if_pos h0]
    rw [h0] at HC
    have HW := Lib.hid hW; have HA := Lib.hid hall
    clear h0 hW hall
    go_enter Tryd.func23, Tryd.ntmps23
    go_wp2_with fail
    refine HC.mono ?_
    rintro e w1 ⟨rfl, hb1⟩
    go_wp2_with fail
    refine (l33Write_c A c L w1 (rdW hb1 hr) hl hcap HW.out HA.out h20).mono ?_
    rintro e w2 ⟨rfl, hb2⟩
    go_wp2
    go_ret2
    exact ⟨by rw [HR.out]; rfl, bt hb1 hb2⟩
  · have HR : Hid (ckR L = (0, entCode L)) := by unfold Hid ckR; rw [if_neg h0]
    have hne : (entCode L != 0) = true := by rw [bne_iff_ne]; exact h0
    have hne2 : (entCode L == 0) = false := by rw [beq_eq_false_iff_ne]; exact h0
    generalize entCode L = q at *
    clear h0
    go_enter Tryd.func23, Tryd.ntmps23
    go_wp2_with fail
    refine HC.mono ?_
    rintro e w1 ⟨rfl, hb1⟩
    go_wp2
    go_ret2
    exact ⟨by rw [HR.out]; rfl, hb1⟩
set_option maxRecDepth 100000 in
set_option maxHeartbeats 2000000 in
theorem impl_CheckOf (A : Option Addr) (c : Nat) (L : List EntryD) (w : World) (hr : Rd w w.heap.size A (L.length * 2) (L.flatMap entryC)) (hl : L.length ≤ 140737488355328) (hcap : L.length ≤ c) (hW : ∀ x ∈ L, EntryW x) (ht : TabW w) :
    Calls Tryd.prog 22 #[.slice A L.length c] w fun e w' => e = .returned (.tuple #[.int .i64 (ckR L).1, .int .i64 (ckR L).2]) ∧ Below w.heap.size w w' := by
  have HC := entriesCode_c A c L w hr hl hcap hW
  by_cases h0 : entCode L = 0
  · obtain ⟨hall, h20⟩ := entCode_0 h0
    have HR : Hid (ckR L = ((((wjAt L L.length).2 : Nat) : Int), 0)) := by unfold Hid ckR; rw [if_pos h0]
    rw [h0] at HC
    have HALL := Lib.hid hall
    have HT := Lib.hid ht
    clear h0 hW hall ht
    go_enter Tryd.func22, Tryd.ntmps22
    go_wp2_with fail
    refine HC.mono ?_
    rintro e w1 ⟨rfl, hb1⟩
    go_wp2
    go_loopw [5, 15] (fun q i wr => ∃ k : Nat, k ≤ L.length ∧ i = .int .i64 k ∧ q = .int .i64 ((wjAt L k).2 : Nat) ∧ Below w.heap.size w wr) (fun _ i _ => L.length - (intOf i).toNat)
    case atStart => exact ⟨0, by omega, rfl, rfl, hb1⟩
    case round =>
      obtain ⟨k, hk, rfl, rfl, hB⟩ := hrel
      clear HC
      by_cases hlt : k < L.length
      · obtain ⟨bf, offf, rfl, hbf, hcf⟩ := Rd.elem entryC 2 (fun _ => rfl) (rdW hB hr) (by omega) hlt
        have f0 : wr.cell? ⟨bf, offf + k * 2, none⟩ = some (.int .u8 L[k].kind) := hcf k hlt 0 _ rfl
        have f1 : wr.cell? ⟨bf, offf + k * 2 + 1, none⟩ = some (.string L[k].text) := hcf k hlt 1 _ rfl
        have hte := (ent_text HALL.out hlt).1
        have hq := wjAt_lt L k
        have HS := Lib.hid (wjAt_succ hlt)
        clear hcf
        have HX : Hid (chkE L[k] (wjAt L k).2 = chkT (wjAt L k).2 (bodyT L[k].kind L[k].text)) := rfl
        generalize wjAt L k = p at *
        obtain ⟨o, q⟩ := p
        simp only at hq HS HX
        generalize L[k] = x at *
        obtain ⟨x0, x1⟩ := x
        simp only at hte HS HX
        go_wp2_with fail
        generalize hW1 : wr.alloc _ = W1
        have hbW1 : Below wr.heap.size wr W1 := by subst hW1; exact (Below.refl _ _).alloc (Nat.le_refl _) _
        have hsW1 : W1.heap.size = wr.heap.size + 1 := by subst hW1; simp
        have cxW1_0 : ∀ i, W1.cell? ⟨wr.heap.size, i, none⟩ = (#[.int .u8 x0, .string x1] : Array Value)[i]? := by intro i; subst hW1; simp [go_sem]
        have HSW1 := Lib.hid hsW1; clear hW1 hsW1
        have hbb := bt hB hbW1
        have hg1 := HSW1.out
        refine (check_c x0 x1 q W1 (by omega) hq (HT.out.below hbb)).mono ?_
        rintro e w3 ⟨rfl, hb3⟩
        have hB3 := bt hbb hb3
        go_wp2
        go_roundw
        case rel => exact ⟨k + 1, by omega, by go_num, by rw [HS.out, HX.out], hB3⟩
        case measure => simp [intOf]; omega
      · obtain rfl : k = L.length := by omega
        go_wp2
        go_ret2
        exact ⟨by rw [HR.out]; rfl, hB⟩
  · have HR : Hid (ckR L = (0, entCode L)) := by unfold Hid ckR; rw [if_neg h0]
    have hne : (entCode L != 0) = true := by rw [bne_iff_ne]; exact h0
    have hne2 : (entCode L == 0) = false := by rw [beq_eq_false_iff_ne]; exact h0
    generalize entCode L = q at *
    clear h0
    go_enter Tryd.func22, Tryd.ntmps22
    go_wp2_with fail
    refine HC.mono ?_
    rintro e w1 ⟨rfl, hb1⟩
    go_wp2
    go_ret2
    exact ⟨by rw [HR.out]; rfl, hb1⟩
end Go.Proofs.YtdibfppmodeiiaaDoor

