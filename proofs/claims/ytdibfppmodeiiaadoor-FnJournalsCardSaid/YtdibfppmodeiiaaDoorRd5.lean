/- Contracts: the reading of journals. -/
import Derived.Test.YtdibfppmodeiiaaDoorRd4
import Derived.Test.YtdibfppmodeiiaaDoorRow
namespace Go.Proofs.YtdibfppmodeiiaaDoor
open Go.RowKit
set_option linter.unusedVariables false
/-- What read gives: the entries, in a row of the call's own, and the number of bytes that are left. -/
def ReadPost (s : ByteArray) (w : World) (e : Ending) (w' : World) : Prop :=
  ∃ A c, e = .returned (.tuple #[.slice A (rdAll s).1.length c, .int .i64 ((rdAll s).2.size : Nat)]) ∧ w'.ownsRow w.heap.size 25 2 (.slice A (rdAll s).1.length c) (rdAll s).1.length ((rdAll s).1.flatMap entryC) ∧ Below w.heap.size w w' ∧ (rdAll s).1.length ≤ c ∧ c ≤ maxLen
/-- The state of the loop: what has been read, and what is left. -/
def RdInv (s0 : ByteArray) (R : List EntryD) (s : ByteArray) (c : Nat) : Prop := R.length ≤ 20 ∧ rdAll s0 = (R ++ (rdF (20 - R.length) s c).1, (rdF (20 - R.length) s c).2)
theorem rdInv_start (s : ByteArray) : RdInv s [] s 7 := ⟨by simp, by simp [rdAll]⟩
theorem rdInv_stop {s0 : ByteArray} {R : List EntryD} {s : ByteArray} {c : Nat} (h : RdInv s0 R s c) (hn : (∀ y, ¬ rdOk s c y) ∨ R.length = 20) : rdAll s0 = (R, s) := by
  rw [h.2]
  rcases hn with hn | hn
  · rw [rdF_none (rdE_none hn)]; simp
  · rw [hn]; simp [rdF]
theorem rdInv_step {s0 : ByteArray} {R : List EntryD} {s : ByteArray} {c : Nat} {x : EntryD} (h : RdInv s0 R s c) (hl : R.length < 20) (hx : rdOk s c x) : RdInv s0 (R ++ [x]) (dropB s (wrT x.kind x.text c).size) (chkE x c) := by
  refine ⟨by simp; omega, ?_⟩
  rw [h.2, show 20 - R.length = (20 - (R ++ [x]).length) + 1 by simp; omega, rdF_some (rdE_some hx)]
  simp
theorem trim_eq {s q : ByteArray} (h : q.data.toList <+: s.data.toList) : (⟨(Lib.trimPrefix s.data.toList q.data.toList).toArray⟩ : ByteArray) = dropB s q.size := by
  apply ba_ext
  have h2 : Lib.hasPrefix s.data.toList q.data.toList = true := List.isPrefixOf_iff_prefix.2 h
  rw [dropB_list]
  simp only [Lib.trimPrefix, h2, if_true, ba_len]
theorem chkE_lt {x : EntryD} {c : Nat} (h : c < 65521) : chkE x c < 65521 := chkL_lt _ h
theorem rdOk_bds {s : ByteArray} {c : Nat} {x : EntryD} (h : rdOk s c x) : x.text.size ≤ 40 ∧ (65 ≤ x.kind ∧ x.kind ≤ 90) := ⟨(rd_form h).1.1, (rd_form h).1.2⟩


set_option maxRecDepth 100000 in
set_option maxHeartbeats 4000000 in
theorem read_c (s0 : ByteArray) (w : World) (hs0 : s0.size ≤ 2000000) (hE : JEnv w) : Calls Tryd.prog 31 #[.string s0] w (ReadPost s0 w) := by
  obtain ⟨i0, hi, hz0, hz1, hz2⟩ := info_parts entry_info
  have HE := Lib.hid hE
  clear hE
  go_enter Tryd.func31, Tryd.ntmps31
  go_wp2
  have hown0 := World.ownsRow_lit (e := 25) (size := 2) w #[] 0 (Nat.le_refl _) (by unfold maxLen; omega) rfl
  go_loopw [4, 0, 5] (fun v z u wr => ∃ (R : List EntryD) (s : ByteArray) (q : Nat) (A2 : Option Addr) (c2 : Nat), v = .slice A2 R.length c2 ∧ z = .string s ∧ u = .int .i64 q ∧ q < 65521 ∧ R.length ≤ 20 ∧ s.size ≤ 2000000 ∧ Below w.heap.size w wr ∧ Hid (wr.ownsRow w.heap.size 25 2 (.slice A2 R.length c2) R.length (R.flatMap entryC)) ∧ Hid (RdInv s0 R s q)) (fun v _ _ _ => 20 - (match v with | .slice _ n _ => n | _ => 0))
  case atStart => exact ⟨[], s0, 7, _, _, rfl, rfl, rfl, by omega, by simp, hs0, (Below.refl _ _).alloc (Nat.le_refl _) _, hown0, rdInv_start s0⟩
  case round =>
    obtain ⟨R, s, q, A2, c2, rfl, rfl, rfl, hq, hR, hs, hB, HO, HI⟩ := hrel
    clear hown0
    have hwl : IntKind.i64.wrap ((R.length : Int) + 1) = (R.length : Int) + 1 := IntWalk.i64_in _ (by omega)
    by_cases h20 : R.length < 20
    · have h20B : decide ((R.length : Int) + 1 ≤ 20) = true := decide_eq_true (by omega)
      go_wp2_with (first | (go_at_call 43; refine (few_b _ _ _ _ h20B).mono ?_; rintro e w' ⟨rfl, rfl⟩))
      refine (readEntry_c s q wr hs hq (HE.out.below hB)).mono ?_
      rintro e w2 ⟨⟨x0, x1⟩, b, rfl, hb1, hb0, hb2⟩
      have hB2 := bt hB hb2
      have HO2 := Lib.hid (own_below HO.out hb2)
      have hz2' := hb2.size
      cases b
      · have HNO := Lib.hid (hb0 rfl)
        clear hb0 hb1
        go_wp2
        go_ret2
        have HFIN := rdInv_stop HI.out (.inl HNO.out)
        exact ⟨A2, c2, by rw [HFIN]; rfl, by rw [HFIN]; exact own_below HO2.out (Below.alloc (Below.refl _ _) (Nat.le_refl _) _), hB2.alloc hB2.size _, by rw [HFIN]; exact (own_cap HO.out).1, (own_cap HO.out).2⟩
      · have hok := hb1 rfl
        clear hb0 hb1
        obtain ⟨ht, hk⟩ := rdOk_bds hok
        simp only at ht hk
        have HSTEP := Lib.hid (rdInv_step HI.out h20 hok)
        have hq2 := chkE_lt (x := ⟨x0, x1⟩) hq
        have HTR : Hid ((⟨(Lib.trimPrefix s.data.toList (wrT x0 x1 q).data.toList).toArray⟩ : ByteArray) = dropB s (wrT x0 x1 q).size) := trim_eq hok.2
        have hs2 : (dropB s (wrT x0 x1 q).size).size ≤ 2000000 := by unfold dropB; rw [ByteArray.size_extract]; omega
        have HCK : Hid (chkE ⟨x0, x1⟩ q = chkT q (bodyT x0 x1)) := rfl
        clear hok
        go_wp2_with fail
        generalize hW3 : w2.alloc _ = W3
        have hbW3 : Below w2.heap.size w2 W3 := by subst hW3; exact (Below.refl _ _).alloc (Nat.le_refl _) _
        have hsW3 : W3.heap.size = w2.heap.size + 1 := by subst hW3; simp
        have cxW3_0 : ∀ i, W3.cell? ⟨w2.heap.size, i, none⟩ = (#[.int .u8 x0, .string x1] : Array Value)[i]? := by intro i; subst hW3; simp [go_sem]
        have HSW3 := Lib.hid hsW3; clear hW3 hsW3
        have hB3 := bt hB2 hbW3
        have HO3a := Lib.hid (own_below HO2.out hbW3)
        have hg3 := HSW3.out
        refine (written_c x0 x1 q W3 (by omega) hq (HE.out.below hB3).1).mono ?_
        rintro e w5 ⟨rfl, hb5⟩
        have hB5 := bt hB3 hb5
        replace cxW3_0 := fun i => (hb5.cell (by (try simp only); have := HSW3.out; omega)).trans (cxW3_0 i)
        have hg5 := hb5.size
        go_wp2_with fail
        refine (Tryd.strings_TrimPrefix s (wrT x0 x1 q) w5).mono ?_
        rintro e w' ⟨rfl, hww⟩
        have hww := hww.symm
        subst hww
        rw [HTR.out]
        go_wp2_with fail
        refine (check_c x0 x1 q w5 (by omega) hq (HE.out.below hB5).1).mono ?_
        rintro e w6 ⟨rfl, hb6⟩
        have hB6 := bt hB5 hb6
        replace cxW3_0 := fun i => (hb6.cell (by (try simp only); have := HSW3.out; omega)).trans (cxW3_0 i)
        have HO3 := Lib.hid (own_below (own_below HO3a.out hb5) hb6)
        have hz6 := hB6.size
        go_wp2_with (first | (at_builtin; refine wpList_push w6 rfl _ _ 33 rfl w.heap.size 25 i0 _ 2 24 Tryd.underlying33 hi hz0 hz1 hz2 rfl (by decide) (.slice A2 R.length c2) R.length (R.flatMap entryC) (by rfl) HO3.out [.int .u8 x0, .string x1] 25 (by rfl) rfl (by simp [Value.oneCell']) (by unfold maxLen; omega) (by omega) hz6 ?_; intro A4 c4 w4 hown4 hg4))
        go_roundw
        case measure => simp only; omega
        case rel => exact ⟨R ++ [⟨x0, x1⟩], dropB s (wrT x0 x1 q).size, chkE ⟨x0, x1⟩ q, A4, c4, by rw [List.length_append]; rfl, rfl, by rw [HCK.out], hq2, by rw [List.length_append]; simp; omega, hs2, below_grown hB6 hg4 (Nat.le_refl _) (fun g h => (HO3.out.lt g h).1), by rw [List.length_append, List.flatMap_append]; exact hown4, HSTEP⟩
    · have h20B : decide ((R.length : Int) + 1 ≤ 20) = false := decide_eq_false (by omega)
      have HR20 : Hid (R.length = 20) := by unfold Hid; omega
      go_wp2_with (first | (go_at_call 43; refine (few_b _ _ _ _ h20B).mono ?_; rintro e w' ⟨rfl, rfl⟩))
      go_ret2
      have HFIN := rdInv_stop HI.out (.inr HR20.out)
      exact ⟨A2, c2, by rw [HFIN]; rfl, by rw [HFIN]; exact HO.out, hB, by rw [HFIN]; exact (own_cap HO.out).1, (own_cap HO.out).2⟩
set_option maxRecDepth 100000 in
set_option maxHeartbeats 4000000 in
theorem l33Read_c (s0 : ByteArray) (w : World) (hs0 : s0.size ≤ 2000000) : Calls Tryd.prog 32 #[.string s0] w (ReadPost s0 w) := by
  obtain ⟨i0, hi, hz0, hz1, hz2⟩ := info_parts entry_info
  go_enter Tryd.func32, Tryd.ntmps32
  go_wp2
  have hown0 := World.ownsRow_lit (e := 25) (size := 2) w #[] 0 (Nat.le_refl _) (by unfold maxLen; omega) rfl
  go_loopw [4, 0, 5] (fun v z u wr => ∃ (R : List EntryD) (s : ByteArray) (q : Nat) (A2 : Option Addr) (c2 : Nat), v = .slice A2 R.length c2 ∧ z = .string s ∧ u = .int .i64 q ∧ q < 65521 ∧ R.length ≤ 20 ∧ s.size ≤ 2000000 ∧ Below w.heap.size w wr ∧ Hid (wr.ownsRow w.heap.size 25 2 (.slice A2 R.length c2) R.length (R.flatMap entryC)) ∧ Hid (RdInv s0 R s q)) (fun v _ _ _ => 20 - (match v with | .slice _ n _ => n | _ => 0))
  case atStart => exact ⟨[], s0, 7, _, _, rfl, rfl, rfl, by omega, by simp, hs0, (Below.refl _ _).alloc (Nat.le_refl _) _, hown0, rdInv_start s0⟩
  case round =>
    obtain ⟨R, s, q, A2, c2, rfl, rfl, rfl, hq, hR, hs, hB, HO, HI⟩ := hrel
    clear hown0
    by_cases h20 : R.length < 20
    · have h20i : (R.length : Int) < 20 := by omega
      go_wp2_with fail
      refine (l33Next_c s q wr hs hq).mono ?_
      rintro e w2 ⟨⟨x0, x1⟩, own, n, rfl, hcase, hb2⟩
      have hB2 := bt hB hb2
      have HO2 := Lib.hid (own_below HO.out hb2)
      have hz2' := hb2.size
      rcases hcase with ⟨rfl, hno⟩ | ⟨hn0, hok, rfl, rfl⟩
      · have HNO := Lib.hid hno
        clear hno
        go_wp2
        go_ret2
        have HFIN := rdInv_stop HI.out (.inl HNO.out)
        exact ⟨A2, c2, by rw [HFIN]; rfl, by rw [HFIN]; exact own_below HO2.out (Below.alloc (Below.refl _ _) (Nat.le_refl _) _), hB2.alloc hB2.size _, by rw [HFIN]; exact (own_cap HO.out).1, (own_cap HO.out).2⟩
      · simp only at hn0 ⊢
        have HSTEP := Lib.hid (rdInv_step HI.out h20 hok)
        have hq2 := chkE_lt (x := ⟨x0, x1⟩) hq
        have hns : (wrT x0 x1 q).size ≤ s.size := by
          have hok2 : (wrT x0 x1 q).data.toList <+: s.data.toList := hok.2
          obtain ⟨R', hR'⟩ := hok2
          have := congrArg List.length hR'
          rw [List.length_append, ba_len, ba_len] at this
          omega
        have hs2 : (dropB s (wrT x0 x1 q).size).size ≤ 2000000 := by unfold dropB; rw [ByteArray.size_extract]; omega
        have HDR : Hid (dropB s (wrT x0 x1 q).size = s.extract (wrT x0 x1 q).size s.size) := rfl
        generalize chkE ⟨x0, x1⟩ q = q2 at *
        generalize hwn : (wrT x0 x1 q).size = n at *
        have hnI : (n : Int) ≤ (s.size : Int) := by omega
        have hnz : ((n : Int) == 0) = false := by rw [beq_eq_false_iff_ne]; omega
        clear hok hwn
        have hB3 : Below w.heap.size w (w2.alloc (.cells #[.int .u8 x0, .string x1] 25)) := hB2.alloc hB2.size _
        have HO3 := Lib.hid ((HO2.out.alloc (.cells #[.int .u8 x0, .string x1] 25)).alloc (.cells #[.int .u8 x0, .string x1] 25))
        have hB4 : Below w.heap.size w ((w2.alloc (.cells #[.int .u8 x0, .string x1] 25)).alloc (.cells #[.int .u8 x0, .string x1] 25)) := hB3.alloc hB3.size _
        have HRL : Hid (Rd ((w2.alloc (.cells #[.int .u8 x0, .string x1] 25)).alloc (.cells #[.int .u8 x0, .string x1] 25)) ((w2.alloc (.cells #[.int .u8 x0, .string x1] 25)).alloc (.cells #[.int .u8 x0, .string x1] 25)).heap.size (some ⟨w2.heap.size + 1, 0, none⟩) (1 * 2) [.int .u8 x0, .string x1]) := Rd.of_block (heap_alloc2_new w2 _ _)
        have hz6 := Lib.hid hB4.size
        go_wp2_with (first | (at_builtin; refine wpList_cat ((w2.alloc (.cells #[.int .u8 x0, .string x1] 25)).alloc (.cells #[.int .u8 x0, .string x1] 25)) rfl _ _ 33 rfl w.heap.size 25 i0 _ 2 24 Tryd.underlying33 hi hz0 hz1 hz2 rfl (by decide) (.slice A2 R.length c2) (R.length) (R.flatMap entryC) (by rfl) HO3.out (some ⟨w2.heap.size + 1, 0, none⟩) (1) 1 _ ([.int .u8 x0, .string x1]) (by rfl) HRL.out (by simp [Value.oneCell']) (by unfold maxLen; omega) (by omega) hz6.out ?_; intro A4 c4 w4 hown4 hg4))
        go_roundw
        case measure => simp only; omega
        case rel => exact ⟨R ++ [⟨x0, x1⟩], dropB s n, q2, A4, c4, by rw [List.length_append]; rfl, by rw [HDR.out], rfl, hq2, by rw [List.length_append]; simp; omega, hs2, below_grown hB4 hg4 (Nat.le_refl _) (fun g h => (HO3.out.lt g h).1), by rw [List.length_append, List.flatMap_append]; exact hown4, HSTEP⟩
    · have h20i : (20 : Int) ≤ (R.length : Int) := by omega
      have HR20 : Hid (R.length = 20) := by unfold Hid; omega
      go_wp2
      go_ret2
      have HFIN := rdInv_stop HI.out (.inr HR20.out)
      exact ⟨A2, c2, by rw [HFIN]; rfl, by rw [HFIN]; exact HO.out, hB, by rw [HFIN]; exact (own_cap HO.out).1, (own_cap HO.out).2⟩
end Go.Proofs.YtdibfppmodeiiaaDoor

