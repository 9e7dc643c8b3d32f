/- Contract: l34Run of the reference, every line. Contracts: both splittings of a text into lines. Contracts: l34First, l34Lines, l34Fits of the reference. -/
import Derived.Test.YtiamignopfhkfaaGreatDoorZRunS0
import Derived.Test.YtiamignopfhkfaaGreatDoorZRunS1
import Derived.Test.YtiamignopfhkfaaGreatDoorZRunS2
import Derived.Test.YtiamignopfhkfaaGreatDoorZRunS4
import Derived.Test.YtiamignopfhkfaaGreatDoorZRunS5
import Derived.Test.YtiamignopfhkfaaGreatDoorZRunS3
import Derived.Test.YtiamignopfhkfaaGreatDoorZ18
import Derived.Test.YtiamignopfhkfaaGreatDoorZ21
import Derived.Test.YtiamignopfhkfaaGreatDoorZ22
import Derived.Test.YtiamignopfhkfaaGreatDoorZExecS1
import Derived.Test.YtiamignopfhkfaaGreatDoorZ11
section
namespace Go.Proofs.YtiamignopfhkfaaGreatDoor
open Go.RowKit
set_option linter.unusedVariables false
set_option linter.unusedSimpArgs false

theorem l34Run_c (A1 A2 A3 : Option Addr) (c1 c2 c3 : Nat) (d : DeskD) (s : ByteArray) (w : World) (hgd : DGood d) (hrw : RowsW 0 d A1 A2 A3 c1 c2 c3 w) (hs : s.size ≤ 2000000) : Calls Tryz.prog 64 #[.agg #[.slice A1 d.H.length c1, .slice A2 d.K.length c2, .slice A3 d.M.length c3], .string s] w (RunPost d s w) := by
  cases hl : lineB s
  · exact srun_no A1 A2 A3 c1 c2 c3 d s w hgd hrw hs hl
  · obtain ⟨k, m, _, _, hm, _⟩ := cmOf_yes hl
    cases m with
    | hol a => exact srun_hol A1 A2 A3 c1 c2 c3 d s w hgd hrw hs a hm
    | sta a b x => exact srun_sta A1 A2 A3 c1 c2 c3 d s w hgd hrw hs a b x hm
    | cal a b => exact srun_cal A1 A2 A3 c1 c2 c3 d s w hgd hrw hs a b hm
    | mov a b => exact srun_mov A1 A2 A3 c1 c2 c3 d s w hgd hrw hs a b hm
    | fil t a b => exact srun_fil A1 A2 A3 c1 c2 c3 d s w hgd hrw hs t a b hm
    | opn => exact srun_ask A1 A2 A3 c1 c2 c3 d s w hgd hrw hs _ hm rfl
    | onD a => exact srun_ask A1 A2 A3 c1 c2 c3 d s w hgd hrw hs _ hm rfl
    | due a b => exact srun_ask A1 A2 A3 c1 c2 c3 d s w hgd hrw hs _ hm rfl
    | plu a b => exact srun_ask A1 A2 A3 c1 c2 c3 d s w hgd hrw hs _ hm rfl
    | fre a b => exact srun_ask A1 A2 A3 c1 c2 c3 d s w hgd hrw hs _ hm rfl
    | nex a b => exact srun_ask A1 A2 A3 c1 c2 c3 d s w hgd hrw hs _ hm rfl
    | dra a b x => exact srun_ask A1 A2 A3 c1 c2 c3 d s w hgd hrw hs _ hm rfl
    | cha a b x y => exact srun_ask A1 A2 A3 c1 c2 c3 d s w hgd hrw hs _ hm rfl

end Go.Proofs.YtiamignopfhkfaaGreatDoor
end
section
namespace Go.Proofs.YtiamignopfhkfaaGreatDoor
open Go.RowKit
set_option linter.unusedVariables false
/-- The state of the splitting: what has been cut off, where the word at hand begins, how far it has come. -/
def SJ (s : ByteArray) (D : List ByteArray) (f k : Nat) : Prop :=
  (k ≤ s.size ∧ f ≤ k ∧ D ++ (splL ((s.data.toList.take k).drop f) (s.data.toList.drop k)).map mkB = linesB s) ∨ (k = s.size + 1 ∧ D = linesB s)
theorem SJ.start (s : ByteArray) : SJ s [] 0 0 := .inl ⟨by omega, by omega, by simp [linesB]⟩
theorem SJ.bd {s : ByteArray} {D : List ByteArray} {f k : Nat} (h : SJ s D f k) : D.length ≤ (linesB s).length := by
  rcases h with ⟨_, _, h⟩ | ⟨_, h⟩
  · rw [← h]; simp
  · rw [h]; exact Nat.le_refl _
theorem SJ.last {s : ByteArray} {D : List ByteArray} {f : Nat} (h : SJ s D f s.size) : f ≤ s.size ∧ SJ s (D ++ [s.extract f s.size]) (s.size + 1) (s.size + 1) := by
  rcases h with ⟨_, h1, h⟩ | ⟨h, _⟩
  · refine ⟨h1, .inr ⟨rfl, ?_⟩⟩
    have hd : s.data.toList.drop s.size = [] := List.drop_of_length_le (by rw [s_len]; omega)
    rw [← h, hd, splL, List.map_singleton, mk_ext]
  · omega
theorem SJ.cut {s : ByteArray} {D : List ByteArray} {f k : Nat} (h : SJ s D f k) (hk : k < s.size) (hb : s[k] = 10) : f ≤ k ∧ SJ s (D ++ [s.extract f k]) (k + 1) (k + 1) := by
  rcases h with ⟨_, h1, h⟩ | ⟨h, _⟩
  · refine ⟨h1, .inl ⟨by omega, by omega, ?_⟩⟩
    have hd : s.data.toList.drop k = s[k] :: s.data.toList.drop (k + 1) := List.drop_eq_getElem_cons (by rw [s_len]; exact hk)
    have he : (s.data.toList.take (k + 1)).drop (k + 1) = [] := List.drop_of_length_le (by rw [List.length_take]; omega)
    rw [he, ← h, hd, splL, if_pos hb, List.map_cons, mk_ext]
    simp
  · omega
theorem SJ.on {s : ByteArray} {D : List ByteArray} {f k : Nat} (h : SJ s D f k) (hk : k < s.size) (hb : s[k] ≠ 10) : SJ s D f (k + 1) := by
  rcases h with ⟨_, h1, h⟩ | ⟨h, _⟩
  · refine .inl ⟨by omega, by omega, ?_⟩
    have hl : k < s.data.toList.length := by rw [s_len]; exact hk
    have hd : s.data.toList.drop k = s[k] :: s.data.toList.drop (k + 1) := List.drop_eq_getElem_cons hl
    have he : (s.data.toList.take (k + 1)).drop f = (s.data.toList.take k).drop f ++ [s[k]] := by
      rw [List.take_succ_eq_append_getElem hl, List.drop_append_of_le_length (by rw [List.length_take]; omega)]
      rfl
    rw [← h, hd, splL, if_neg hb, he]
  · omega
theorem SJ.done {s : ByteArray} {D : List ByteArray} {f : Nat} (h : SJ s D f (s.size + 1)) : D = linesB s := by
  rcases h with ⟨h, _⟩ | ⟨_, h⟩
  · omega
  · exact h
def SplQ (s : ByteArray) (w : World) (e : Ending) (wr : World) : Prop := ∃ (A : Option Addr) (c : Nat) (D : List ByteArray), e = .returned (.slice A D.length c) ∧ D = linesB s ∧ wr.ownsRow w.heap.size 9 1 (.slice A D.length c) D.length (D.map Value.string) ∧ Below w.heap.size w wr
theorem byte_ne10 {x : UInt8} (h : x ≠ 10) : ((x.toNat : Nat) : Int) ≠ 10 := fun e => h (UInt8.toNat_inj.1 (by have : (10 : UInt8).toNat = 10 := rfl; omega))
theorem byte_eq10 {x : UInt8} (h : x = 10) : ((x.toNat : Nat) : Int) = 10 := by rw [h]; rfl
set_option maxRecDepth 100000 in
set_option maxHeartbeats 4000000 in
theorem l01SplitL_c (s : ByteArray) (w : World) (hs : s.size ≤ 2000000) : Calls Tryz.prog 65 #[.string s, .int .u8 10] w (SplQ s w) := by
  obtain ⟨i0, hi, hz0, hz1, hz2⟩ := info_parts str_info
  have hwl : (linesB s).length ≤ 2000001 := by
    rw [lines_len]
    have := List.count_le_length (a := (10 : UInt8)) (l := s.data.toList)
    rw [s_len] at this; omega
  go_enter Tryz.func65, Tryz.ntmps65
  go_wp2_with fail
  have ho := World.ownsRow_lit (base := w.heap.size) (e := 9) (size := 1) w #[] 0 (Nat.le_refl _) (by unfold maxLen; omega) rfl
  generalize hW2 : w.alloc (.cells #[] 9) = W2 at ho ⊢
  have hb2 : Below w.heap.size w W2 := by subst hW2; exact (Below.refl _ _).alloc (Nat.le_refl _) _
  have HO := Lib.hid ho
  clear hW2 ho
  go_wp2
  go_loopw [5, 6, 7] (fun ov fv iv wr => ∃ (A : Option Addr) (c : Nat) (D : List ByteArray) (f k : Nat), ov = .slice A D.length c ∧ fv = .int .i64 f ∧ iv = .int .i64 k ∧ k ≤ s.size + 1 ∧ f ≤ 2000001 ∧ Hid (SJ s D f k) ∧ Hid (wr.ownsRow w.heap.size 9 1 (.slice A D.length c) D.length (D.map Value.string)) ∧ Below w.heap.size w wr)
    (fun _ _ iv _ => s.size + 1 - (intOf iv).toNat)
  case atStart => exact ⟨_, _, [], 0, 0, rfl, rfl, rfl, by omega, by omega, SJ.start s, HO, hb2⟩
  case round =>
    obtain ⟨A, c, D, f, k, rfl, rfl, rfl, hk, hf, HI, HOr, hB⟩ := hrel
    clear HO hb2
    have hDl := HI.out.bd
    have hzr := hB.size
    by_cases hlt : k ≤ s.size
    · have hki : (k : Int) ≤ (s.size : Int) := by omega
      by_cases hend : k = s.size
      · obtain ⟨hfs, HI2⟩ := (show SJ s D f s.size from hend ▸ HI.out).last
        have HI2 := Lib.hid HI2
        subst hend
        have hfi : (f : Int) ≤ (s.size : Int) := by omega
        have hf0 : (0 : Int) ≤ (f : Int) := by omega
        have hs0 : (0 : Int) ≤ (s.size : Int) := by omega
        go_wp2_with (first | (at_builtin; refine wpList_push wr rfl _ _ 25 rfl w.heap.size 9 i0 _ 1 16 Tryz.underlying25 hi hz0 hz1 hz2 rfl (by decide) (.slice A D.length c) (D.length) (D.map Value.string) (by rfl) HOr.out [.string (s.extract f s.size)] 9 (by rfl) rfl (by simp [Value.oneCell']) (by unfold maxLen; omega) (by omega) (by omega) ?_; intro A7 c7 w7 ho7 hg7; have HO7 := Lib.hid (own_snocS (y := s.extract f s.size) ho7); have hb7 := below_grown hB hg7 (Nat.le_refl _) (fun k hk => HOr.out.lt k hk |>.1); clear ho7 hg7))
        go_roundw
        case rel => exact ⟨A7, c7, D ++ [s.extract f s.size], s.size + 1, s.size + 1, by simp, by go_num, by go_num, by omega, by omega, HI2, HO7, hb7⟩
        case measure => first | (simp [intOf]; done) | (simp [intOf]; omega)
      · have hne : k < s.size := by omega
        have hnei : ((k : Int) == (s.size : Int)) = false := beq_eq_false_iff_ne.2 (by omega)
        have hk1 : (k : Int) < (s.size : Int) := by omega
        have hk0 : (0 : Int) ≤ (k : Int) := by omega
        by_cases hb : s[k] = 10
        · obtain ⟨hfs, HI2⟩ := HI.out.cut hne hb
          have HI2 := Lib.hid HI2
          have hbe := byte_eq10 hb
          have hfi : (f : Int) ≤ (k : Int) := by omega
          have hf0 : (0 : Int) ≤ (f : Int) := by omega
          go_wp2_with (first | (at_builtin; refine wpList_push wr rfl _ _ 25 rfl w.heap.size 9 i0 _ 1 16 Tryz.underlying25 hi hz0 hz1 hz2 rfl (by decide) (.slice A D.length c) (D.length) (D.map Value.string) (by rfl) HOr.out [.string (s.extract f k)] 9 (by rfl) rfl (by simp [Value.oneCell']) (by unfold maxLen; omega) (by omega) (by omega) ?_; intro A7 c7 w7 ho7 hg7; have HO7 := Lib.hid (own_snocS (y := s.extract f k) ho7); have hb7 := below_grown hB hg7 (Nat.le_refl _) (fun k hk => HOr.out.lt k hk |>.1); clear ho7 hg7))
          go_roundw
          case rel => exact ⟨A7, c7, D ++ [s.extract f k], k + 1, k + 1, by simp, by go_num, by go_num, by omega, by omega, HI2, HO7, hb7⟩
          case measure => first | (simp [intOf]; done) | (simp [intOf]; omega)
        · have HI2 := Lib.hid (HI.out.on hne hb)
          have hbe : (((s[k].toNat : Nat) : Int) == 10) = false := beq_eq_false_iff_ne.2 (byte_ne10 hb)
          go_wp2
          go_roundw
          case rel => exact ⟨A, c, D, f, k + 1, rfl, rfl, by go_num, by omega, by omega, HI2, HOr, hB⟩
          case measure => first | (simp [intOf]; done) | (simp [intOf]; omega)
    · obtain rfl : k = s.size + 1 := by omega
      have hnl : ¬ ((s.size : Int) + 1 ≤ (s.size : Int)) := by omega
      have HD := Lib.hid HI.out.done
      go_wp2
      go_ret
      exact ⟨A, c, D, rfl, HD.out, HOr.out, hB⟩
theorem splitL_c (s : ByteArray) (w : World) (hs : s.size ≤ 2000000) (m : Int) (hm : w.cell? ⟨0, 0, none⟩ = some (.int .i64 m)) :
    Calls Tryz.prog 60 #[.string s, .string ⟨#[10]⟩] w fun e w' => ∃ D, e = .returned (.slice (some ⟨w.heap.size, 0, none⟩) D.length D.length) ∧ D = linesB s ∧ w'.ownsRow w.heap.size 9 1 (.slice (some ⟨w.heap.size, 0, none⟩) D.length D.length) D.length (D.map Value.string) ∧ Below w.heap.size w w' := by
  have hwl : (linesB s).length ≤ 2000001 := by
    rw [lines_len]
    have := List.count_le_length (a := (10 : UInt8)) (l := s.data.toList)
    rw [s_len] at this; omega
  refine (Tryz.strings_Split s ⟨#[10]⟩ m w (by omega) hm (by decide)).mono ?_
  rintro e w' ⟨rfl, rfl⟩
  have hc : Lib.countB s ⟨#[10]⟩ + 1 = (linesB s).length := by
    rw [lines_len]
    have : Lib.countB s ⟨#[10]⟩ = s.data.toList.count 10 := Lib.count_one 10 s.data.toList
    omega
  refine ⟨linesB s, by rw [hc], rfl, ?_, (Below.refl _ _).alloc (Nat.le_refl _) _⟩
  rw [lines_lib]
  have h := World.ownsRow_lit (base := w.heap.size) (e := 9) (size := 1) w ((linesB s).map Value.string).toArray (linesB s).length (Nat.le_refl _) (by unfold maxLen; omega) (by simp)
  simpa using h
end Go.Proofs.YtiamignopfhkfaaGreatDoor
end
section
namespace Go.Proofs.YtiamignopfhkfaaGreatDoor
open Go.RowKit
set_option linter.unusedVariables false
theorem rows_nil (B : Nat) (w : World) : RowsW B d0 none none none 0 0 0 w := ⟨World.ownsRow_nil _ _ _ _, World.ownsRow_nil _ _ _ _, World.ownsRow_nil _ _ _ _⟩
/-- A value that is a desk whose rows are the call's own. -/
def DeskB (B : Nat) (v : Value) (d : DeskD) (W : World) : Prop := ∃ A1 A2 A3 c1 c2 c3, v = .agg #[.slice A1 d.H.length c1, .slice A2 d.K.length c2, .slice A3 d.M.length c3] ∧ RowsW B d A1 A2 A3 c1 c2 c3 W
noncomputable def outT (s : ByteArray) : List ByteArray := if fitB s then outD s else []
noncomputable def deskT (s : ByteArray) : DeskD := if fitB s then deskD s else d0
noncomputable def codeT (s : ByteArray) : Int := if fitB s then 0 else 3
theorem deskT_good (s : ByteArray) : DGood (deskT s) := by
  unfold deskT; split
  · exact (runL_good _ _ d0_good).1
  · exact d0_good
theorem outT_sz (s : ByteArray) : ∀ x ∈ outT s, x.size ≤ 100000 := by
  unfold outT; split
  · exact (runL_good _ _ d0_good).2
  · intro x hx; cases hx
theorem outT_len (s : ByteArray) : (outT s).length ≤ 40 := by
  unfold outT; split
  · rename_i h
    have h2 : (linesR s).length ≤ 40 := by unfold fitB at h; simp only [Bool.and_eq_true, decide_eq_true_eq] at h; exact h.2
    unfold outD; rw [runL_len]; exact h2
  · simp
theorem lit_row (W : World) (e : TypeId) (size n : Nat) (h : W.heap.size = n) : (W.alloc (.cells #[] e)).ownsRow 0 e size (.slice (some ⟨n, 0, none⟩) 0 0) 0 [] := by
  subst h
  exact World.ownsRow_lit (base := 0) (e := e) (size := size) W #[] 0 (Nat.zero_le _) (by unfold maxLen; omega) (by simp)
set_option maxHeartbeats 1000000 in
theorem l34First_c (w : World) : Calls Tryz.prog 63 #[] w fun e w' => ∃ v, e = .returned v ∧ DeskV v d0 w' ∧ Below w.heap.size w w' := by
  go_enter Tryz.func63, Tryz.ntmps63
  go_wp2
  refine bodyPost_ret (v := .agg #[.slice (some ⟨w.heap.size + 1, 0, none⟩) 0 0, .slice (some ⟨w.heap.size + 1 + 1, 0, none⟩) 0 0, .slice (some ⟨w.heap.size + 1 + 1 + 1, 0, none⟩) 0 0]) (by simp [results, Tryz.results63, go_sem]) rfl ?_
  refine ⟨_, rfl, ⟨some ⟨w.heap.size + 1, 0, none⟩, some ⟨w.heap.size + 1 + 1, 0, none⟩, some ⟨w.heap.size + 1 + 1 + 1, 0, none⟩, 0, 0, 0, rfl, ⟨?_, ?_, ?_⟩⟩, ((((Below.refl _ _).alloc (Nat.le_refl _) _).alloc (by simp) _).alloc (by simp; omega) _).alloc (by simp; omega) _⟩
  · exact ((lit_row _ 2 1 (w.heap.size + 1) (by simp)).alloc _).alloc _
  · exact (lit_row _ 68 4 (w.heap.size + 1 + 1) (by simp)).alloc _
  · exact lit_row _ 70 6 (w.heap.size + 1 + 1 + 1) (by simp)
def LinQ (s : ByteArray) (w : World) (e : Ending) (w' : World) : Prop :=
  ∃ A c, e = .returned (.slice A (linesR s).length c) ∧ (linesR s).length ≤ c ∧ (linesR s).length ≤ 2000001 ∧ Rd w' w'.heap.size A (linesR s).length ((linesR s).map Value.string) ∧ Below w.heap.size w w'
theorem lines_bd {s : ByteArray} (hs : s.size ≤ 2000000) : (linesB s).length ≤ 2000001 := by
  rw [lines_len]
  have := List.count_le_length (a := (10 : UInt8)) (l := s.data.toList)
  rw [s_len] at this; omega
theorem rd_take {w : World} {B m k : Nat} {A : Option Addr} {xs : List Value} (h : Rd w B A m xs) (hk : k ≤ m) : Rd w B A k (xs.take k) :=
  ⟨by rw [List.length_take, h.1]; omega, fun hn => by
    obtain ⟨b, off, e, hb, hc⟩ := h.2 (by omega)
    refine ⟨b, off, e, hb, fun j u hu => hc j u ?_⟩
    rw [List.getElem?_take] at hu
    split at hu
    · exact hu
    · cases hu⟩
set_option maxRecDepth 100000 in
set_option maxHeartbeats 2000000 in
theorem l34Lines_c (s : ByteArray) (w : World) (hs : s.size ≤ 2000000) : Calls Tryz.prog 35 #[.string s] w (LinQ s w) := by
  have hbd := lines_bd hs
  have HY := Lib.hid (fun h => linesR_yes (s := s) h)
  have HN := Lib.hid (fun h => linesR_no (s := s) h)
  have hp := lines_pos s
  have HSP := Lib.hid (l01SplitL_c s w hs)
  unfold SplQ at HSP
  go_enter Tryz.func35, Tryz.ntmps35
  go_wp2_with fail
  refine HSP.out.mono ?_
  rintro e w1 ⟨A, c, D, rfl, hD, ho, hb1⟩
  subst hD
  have hcap := (own_cap ho).1
  have HR := Lib.hid (Rd.of_own1 ho)
  obtain ⟨b, off, rfl, hbl, hcl⟩ := Rd.strs HR.out hp
  have hl1 : (linesB s).length - 1 < (linesB s).length := by omega
  have hc1 := hcl ((linesB s).length - 1) hl1
  have HZ : Hid (∀ L, linesR s = L → L.length ≤ (linesB s).length → Rd w1 w1.heap.size (some ⟨b, off, none⟩) L.length (L.map Value.string) → LinQ s w (.returned (.slice (some ⟨b, off, none⟩) L.length c)) w1) := fun L hL hle hR => ⟨_, _, by rw [hL], by rw [hL]; omega, by rw [hL]; omega, by rw [hL]; exact hR, hb1⟩
  have HRT := Lib.hid (rd_take HR.out (Nat.le_of_lt hl1))
  clear ho hcl
  by_cases hx : (linesB s)[(linesB s).length - 1] = ⟨#[]⟩
  · have HX := Lib.hid (HY.out hx)
    rw [hx] at hc1
    have HF := Lib.hid (HZ.out ((linesB s).take ((linesB s).length - 1)) HX.out (by simp) (by rw [List.length_take, Nat.min_eq_left (Nat.le_of_lt hl1), List.map_take]; exact HRT.out))
    rw [List.length_take, Nat.min_eq_left (Nat.le_of_lt hl1)] at HF
    clear HX hx HY HN HZ HRT HR HSP
    generalize (linesB s).length = n at *
    obtain ⟨n, rfl⟩ : ∃ k, n = k + 1 := ⟨n - 1, by omega⟩
    rw [Nat.add_sub_cancel] at hc1 HF
    have hni : ((n + 1 : Nat) : Int) - 1 = (n : Int) := by omega
    go_wp2
    go_ret
    exact HF.out
  · have HX := Lib.hid (HN.out hx)
    have HF := Lib.hid (HZ.out (linesB s) HX.out (Nat.le_refl _) HR.out)
    have hne := str_ne (l := []) hx
    clear HX hx HY HN HZ HRT HR HSP
    generalize (linesB s)[(linesB s).length - 1] = x at *
    generalize (linesB s).length = n at *
    obtain ⟨n, rfl⟩ : ∃ k, n = k + 1 := ⟨n - 1, by omega⟩
    rw [Nat.add_sub_cancel] at hc1
    go_wp2
    go_ret
    exact HF.out
set_option maxHeartbeats 2000000 in
theorem l34Fits_c (s : ByteArray) (w : World) (hs : s.size ≤ 2000000) : Calls Tryz.prog 33 #[.string s] w fun e w' => e = .returned (.bool (fitB s)) ∧ Below w.heap.size w w' := by
  have HL := Lib.hid (l34Lines_c s w hs)
  unfold LinQ at HL
  have hf : fitB s = (decide (s.size ≤ 1500) && decide ((linesR s).length ≤ 40)) := rfl
  by_cases h1 : s.size ≤ 1500
  · by_cases h2 : (linesR s).length ≤ 40
    · rw [decide_eq_true h1, decide_eq_true h2] at hf
      have HF := Lib.hid hf
      have h1i : (s.size : Int) ≤ 1500 := by omega
      have h2i : ((linesR s).length : Int) ≤ 40 := by omega
      generalize fitB s = fb at *
      generalize (linesR s) = LR at *
      clear hf
      go_enter Tryz.func33, Tryz.ntmps33
      go_wp2_with fail
      refine HL.out.mono ?_
      rintro e w1 ⟨A, c, rfl, hc, -, -, hb1⟩
      go_wp2
      go_ret
      exact ⟨by rw [HF.out]; rfl, hb1⟩
    · rw [decide_eq_true h1, decide_eq_false h2] at hf
      have HF := Lib.hid hf
      have h1i : (s.size : Int) ≤ 1500 := by omega
      have h2i : decide (((linesR s).length : Int) ≤ 40) = false := decide_eq_false (by omega)
      generalize fitB s = fb at *
      generalize (linesR s) = LR at *
      clear hf
      go_enter Tryz.func33, Tryz.ntmps33
      go_wp2_with fail
      refine HL.out.mono ?_
      rintro e w1 ⟨A, c, rfl, hc, -, -, hb1⟩
      go_wp2
      go_ret
      exact ⟨by rw [HF.out]; first | rfl | (show Ending.returned (.bool (decide _)) = _; rw [h2i]; rfl), hb1⟩
  · rw [decide_eq_false h1] at hf
    have HF := Lib.hid hf
    have h1i : ¬ (s.size : Int) ≤ 1500 := by omega
    generalize fitB s = fb at *
    clear hf
    go_enter Tryz.func33, Tryz.ntmps33
    go_wp2
    go_ret
    exact ⟨by rw [HF.out]; rfl, Below.refl _ _⟩
end Go.Proofs.YtiamignopfhkfaaGreatDoor
end
