/- Contracts: motionCode, mayGo, NextStates of both texts. Contracts: motionCode, mayGo, NextStates of both texts. Plain: a command of the console and what a line says. Plain law: filed and changed motions are motions again. Plain: what a command does to a desk and what it writes. Plain: the lines of a text. Plain: what a text does to a desk and what it writes. What the listed variables give the walks. Contracts: readDecimal and readNumber, at every number of at most thirteen digits. -/
import Derived.Test.YtiamignopfhkfaaGreatDoorZ6
import Derived.Test.YtiamignopfhkfaaGreatDoorZ11
import Derived.Test.YtiamignopfhkfaaGreatDoorZ5
import Derived.Test.YtiamignopfhkfaaGreatDoorZ12
import Derived.Test.YtiamignopfhkfaaGreatDoorZ15
import Derived.Test.YtiamignopfhkfaaGreatDoorZ16
import Derived.Test.YtiamignopfhkfaaGreatDoorZ17
import Derived.Lib.LaidTab
import Derived.Stop.LaidErr
section
namespace Go.Proofs.YtiamignopfhkfaaGreatDoor
open Go.RowKit
set_option linter.unusedVariables false


set_option maxRecDepth 100000 in
set_option maxHeartbeats 4000000 in
theorem impl_NextStates (A : Option Addr) (c : Nat) (L : List MotionD) (n day : Int) (w : World) (hr : Rd w w.heap.size A (L.length * 6) (L.flatMap motionC)) (hl : L.length ≤ 140737488355328) (hcap : L.length ≤ c) (hW : ∀ x ∈ L, MotionW x) :
    Calls Tryz.prog 105 #[.slice A L.length c, .int .i64 n, .int .i64 day] w (RowPost2 2 1 (nextFor L n day).length ((nextFor L n day).map (Value.int .i64)) (codeM L n day) w) := by
  have hcode := motionCode_c A c L n day w hr hl hcap hW
  by_cases h0 : codeM L n day = 0
  · have e1 : nextFor L n day = stsL (fun s => mayM L (getM L (findM n L 0)) s day) 6 := by rw [nextFor, if_pos h0]
    have HT : Hid (motsOk L = true) := by
      rcases hT : motsOk L with _ | _
      · simp [codeM, hT] at h0
      · exact Lib.hid rfl
    have hF : ¬ findM n L 0 < 0 := by
      intro hh
      unfold codeM at h0
      rw [HT.out, if_pos rfl] at h0
      split at h0
      · first | omega | (rw [if_pos hh] at h0; omega)
      · omega
    obtain ⟨j, hj, hjl⟩ := findM_idx hF
    have h12 := mots_len HT.out
    rw [e1, h0, getM_at hj hjl]
    have HBD := Lib.hid (mots_bds HT.out hjl)
    have HAF := Lib.hid (mots_after HT.out hjl)
    have hj0 : (0 : Int) ≤ (j : Int) := by omega
    have hjL : (j : Int) < L.length := by omega
    have hjc : (j : Int) ≤ (c : Int) := by omega
    obtain ⟨i0, hi, hz0, hz1, hz2⟩ := info_parts int_info
    rw [h0] at hcode
    try rw [if_pos rfl] at hcode
    clear e1 h0 hF
    go_enter Tryz.func105, Tryz.ntmps105
    go_wp2_with fail
    refine hcode.mono ?_
    rintro e w1 ⟨rfl, hb1⟩
    try rw [hj]
    clear hcode
    go_wp2
    have hown0 := own_mono (World.ownsRow_lit (e := 2) (size := 1) w1 #[] 0 (Nat.le_refl _) (by unfold maxLen; omega) rfl) hb1.size
    go_loopw [10, 11] (fun v i wr => ∃ (k : Nat) (R : List Int) (A2 : Option Addr) (c2 : Nat), k ≤ 6 ∧ i = .int .i64 k ∧ v = .slice A2 R.length c2 ∧ R.length ≤ k ∧ Below w.heap.size w wr ∧ Hid (wr.ownsRow w.heap.size 2 1 (.slice A2 R.length c2) R.length (R.map (Value.int .i64))) ∧ Hid (R = stsL (fun s => mayM L L[j] s day) k)) (fun _ i _ => 6 - (intOf i).toNat)
    case atStart => exact ⟨0, [], _, _, by omega, rfl, rfl, by simp, hb1.alloc hb1.size _, hown0, by simp [Hid, stsL]⟩
    case round =>
      obtain ⟨k, R, A2, c2, hk, rfl, rfl, hRk, hB, HO, HR⟩ := hrel
      clear hown0
      by_cases hlt : k < 6
      · have HS := Lib.hid (stsL_snoc (fun s => mayM L L[j] s day) k)
        have hk6 : (k : Int) ≤ 5 := by omega
        have hk0 : (0 : Int) ≤ (k : Int) := by omega
        cases hm : mayM L L[j] (k : Int) day
        all_goals
          have HM := Lib.hid hm
          obtain ⟨bf, offf, rfl, hbf, hcf⟩ := Rd.elem motionC 6 (fun _ => rfl) (rdW hB hr) (by omega) hjl
          have f0 : wr.cell? ⟨bf, offf + j * 6, none⟩ = some (.int .i64 L[j].number) := hcf j hjl 0 _ rfl
          have f1 : wr.cell? ⟨bf, offf + j * 6 + 1, none⟩ = some (.string L[j].party) := hcf j hjl 1 _ rfl
          have f2 : wr.cell? ⟨bf, offf + j * 6 + 2, none⟩ = some (.int .i64 L[j].filed) := hcf j hjl 2 _ rfl
          have f3 : wr.cell? ⟨bf, offf + j * 6 + 3, none⟩ = some (.int .i64 L[j].changed) := hcf j hjl 3 _ rfl
          have f4 : wr.cell? ⟨bf, offf + j * 6 + 4, none⟩ = some (.int .i64 L[j].state) := hcf j hjl 4 _ rfl
          have f5 : wr.cell? ⟨bf, offf + j * 6 + 5, none⟩ = some (.int .i64 L[j].after) := hcf j hjl 5 _ rfl
          have hb := HBD.out.2.1
          have hab := HAF.out
          clear hcf
          generalize L[j] = x at *
          obtain ⟨x0, x1, x2, x3, x4, x5⟩ := x
          go_wp2_with fail
          refine (mayGo_c _ c L _ _ _ _ _ _ _ _ _ wr (rdW hB hr) hl hcap hb hab hm).mono ?_
          rintro e w2 ⟨rfl, hb2⟩
          replace HO := Lib.hid (own_below HO.out hb2)
          have hB2 := bt hB hb2
          have hsz2 := hB2.size
          clear hm
          go_wp2_with (first | (at_builtin; refine wpList_push _ rfl _ _ 30 rfl w.heap.size 2 i0 _ 1 8 Tryz.underlying30 hi hz0 hz1 hz2 rfl (by decide) _ _ _ rfl HO.out [.int .i64 (k : Int)] 2 rfl rfl (by simp [Value.oneCell']) (by unfold maxLen; omega) (by omega) (by omega) ?_; intro A3 c3 w3 hown3 hg3))
          go_roundw
          case measure => simp [intOf]; omega
          case rel => first
            | exact ⟨k + 1, R ++ [(k : Int)], A3, c3, by omega, by go_num, by rw [List.length_append]; rfl, by rw [List.length_append]; simp; omega, below_grown hB2 hg3 (Nat.le_refl _) (fun g h => (HO.out.lt g h).1), by rw [List.length_append, List.map_append]; exact hown3, by unfold Hid; rw [HS.out, ← HR.out, if_pos HM.out]⟩
            | exact ⟨k + 1, R, A2, c2, by omega, by go_num, rfl, by omega, hB2, HO, by unfold Hid; rw [HS.out, ← HR.out, if_neg (by rw [HM.out]; simp)]; simp⟩
      · obtain rfl : k = 6 := by omega
        go_wp2
        go_ret2
        obtain rfl : R = stsL (fun s => mayM L L[j] s day) 6 := HR.out
        exact rowPost2_mk HO.out hB
  · have e1 : nextFor L n day = [] := by rw [nextFor, if_neg h0]
    rw [e1]
    rw [if_neg h0] at hcode
    have hne : (codeM L n day == 0) = false := by simp [h0]
    generalize codeM L n day = q at *
    go_enter Tryz.func105, Tryz.ntmps105
    go_wp2_with fail
    refine hcode.mono ?_
    rintro e w1 ⟨rfl, hb1⟩
    go_wp2
    go_ret2
    exact rowPost2_nil hb1

end Go.Proofs.YtiamignopfhkfaaGreatDoor
end
section
namespace Go.Proofs.YtiamignopfhkfaaGreatDoor
open Go.RowKit
set_option linter.unusedVariables false


set_option maxRecDepth 100000 in
set_option maxHeartbeats 4000000 in
theorem spec_NextStates (A : Option Addr) (c : Nat) (L : List MotionD) (n day : Int) (w : World) (hr : Rd w w.heap.size A (L.length * 6) (L.flatMap motionC)) (hl : L.length ≤ 140737488355328) (hcap : L.length ≤ c) (hW : ∀ x ∈ L, MotionW x) :
    Calls Tryz.prog 119 #[.slice A L.length c, .int .i64 n, .int .i64 day] w (RowPost2 2 1 (nextFor L n day).length ((nextFor L n day).map (Value.int .i64)) (codeM L n day) w) := by
  have hcode := l30Code_c A c L n day w hr hl hcap hW
  by_cases h0 : codeM L n day = 0
  · have e1 : nextFor L n day = stsL (fun s => mayM L (getM L (findM n L 0)) s day) 6 := by rw [nextFor, if_pos h0]
    have HT : Hid (motsOk L = true) := by
      rcases hT : motsOk L with _ | _
      · simp [codeM, hT] at h0
      · exact Lib.hid rfl
    have hF : ¬ findM n L 0 < 0 := by
      intro hh
      unfold codeM at h0
      rw [HT.out, if_pos rfl] at h0
      split at h0
      · first | omega | (rw [if_pos hh] at h0; omega)
      · omega
    obtain ⟨j, hj, hjl⟩ := findM_idx hF
    have h12 := mots_len HT.out
    rw [e1, h0, getM_at hj hjl]
    have HBD := Lib.hid (mots_bds HT.out hjl)
    have HAF := Lib.hid (mots_after HT.out hjl)
    have hj0 : (0 : Int) ≤ (j : Int) := by omega
    have hjL : (j : Int) < L.length := by omega
    have hjc : (j : Int) ≤ (c : Int) := by omega
    obtain ⟨i0, hi, hz0, hz1, hz2⟩ := info_parts int_info
    rw [h0] at hcode
    try rw [if_pos rfl] at hcode
    clear e1 h0 hF
    go_enter Tryz.func119, Tryz.ntmps119
    go_wp2_with fail
    refine hcode.mono ?_
    rintro e w1 ⟨rfl, hb1⟩
    try rw [hj]
    clear hcode
    go_wp2
    have hown0 := own_mono (World.ownsRow_lit (e := 2) (size := 1) w1 #[] 0 (Nat.le_refl _) (by unfold maxLen; omega) rfl) hb1.size
    go_loopw [9, 10] (fun v i wr => ∃ (k : Nat) (R : List Int) (A2 : Option Addr) (c2 : Nat), k ≤ 6 ∧ i = .int .i64 k ∧ v = .slice A2 R.length c2 ∧ R.length ≤ k ∧ Below w.heap.size w wr ∧ Hid (wr.ownsRow w.heap.size 2 1 (.slice A2 R.length c2) R.length (R.map (Value.int .i64))) ∧ Hid (R = stsL (fun s => mayM L L[j] s day) k)) (fun _ i _ => 6 - (intOf i).toNat)
    case atStart => exact ⟨0, [], _, _, by omega, rfl, rfl, by simp, hb1.alloc hb1.size _, hown0, by simp [Hid, stsL]⟩
    case round =>
      obtain ⟨k, R, A2, c2, hk, rfl, rfl, hRk, hB, HO, HR⟩ := hrel
      clear hown0
      by_cases hlt : k < 6
      · have HS := Lib.hid (stsL_snoc (fun s => mayM L L[j] s day) k)
        have hk6 : (k : Int) ≤ 5 := by omega
        have hk0 : (0 : Int) ≤ (k : Int) := by omega
        cases hm : mayM L L[j] (k : Int) day
        all_goals
          have HM := Lib.hid hm
          obtain ⟨bf, offf, rfl, hbf, hcf⟩ := Rd.elem motionC 6 (fun _ => rfl) (rdW hB hr) (by omega) hjl
          have f0 : wr.cell? ⟨bf, offf + j * 6, none⟩ = some (.int .i64 L[j].number) := hcf j hjl 0 _ rfl
          have f1 : wr.cell? ⟨bf, offf + j * 6 + 1, none⟩ = some (.string L[j].party) := hcf j hjl 1 _ rfl
          have f2 : wr.cell? ⟨bf, offf + j * 6 + 2, none⟩ = some (.int .i64 L[j].filed) := hcf j hjl 2 _ rfl
          have f3 : wr.cell? ⟨bf, offf + j * 6 + 3, none⟩ = some (.int .i64 L[j].changed) := hcf j hjl 3 _ rfl
          have f4 : wr.cell? ⟨bf, offf + j * 6 + 4, none⟩ = some (.int .i64 L[j].state) := hcf j hjl 4 _ rfl
          have f5 : wr.cell? ⟨bf, offf + j * 6 + 5, none⟩ = some (.int .i64 L[j].after) := hcf j hjl 5 _ rfl
          have hb := HBD.out.2.1
          have hab := HAF.out
          clear hcf
          generalize L[j] = x at *
          obtain ⟨x0, x1, x2, x3, x4, x5⟩ := x
          go_wp2_with fail
          refine (l30Find_c _ L.length c L n wr rfl (rdW hB hr) hl).mono ?_
          rintro e w1 ⟨rfl, rfl⟩
          rw [hj]
          go_wp2_with fail
          refine (l30May_c _ c L _ _ _ _ _ _ _ _ _ wr (rdW hB hr) hl hcap hb hab hm).mono ?_
          rintro e w2 ⟨rfl, hb2⟩
          replace HO := Lib.hid (own_below HO.out hb2)
          have hB2 := bt hB hb2
          have hsz2 := hB2.size
          clear hm
          go_wp2_with (first | (at_builtin; refine wpList_push _ rfl _ _ 30 rfl w.heap.size 2 i0 _ 1 8 Tryz.underlying30 hi hz0 hz1 hz2 rfl (by decide) _ _ _ rfl HO.out [.int .i64 (k : Int)] 2 rfl rfl (by simp [Value.oneCell']) (by unfold maxLen; omega) (by omega) (by omega) ?_; intro A3 c3 w3 hown3 hg3))
          go_roundw
          case measure => simp [intOf]; omega
          case rel => first
            | exact ⟨k + 1, R ++ [(k : Int)], A3, c3, by omega, by go_num, by rw [List.length_append]; rfl, by rw [List.length_append]; simp; omega, below_grown hB2 hg3 (Nat.le_refl _) (fun g h => (HO.out.lt g h).1), by rw [List.length_append, List.map_append]; exact hown3, by unfold Hid; rw [HS.out, ← HR.out, if_pos HM.out]⟩
            | exact ⟨k + 1, R, A2, c2, by omega, by go_num, rfl, by omega, hB2, HO, by unfold Hid; rw [HS.out, ← HR.out, if_neg (by rw [HM.out]; simp)]; simp⟩
      · obtain rfl : k = 6 := by omega
        go_wp2
        go_ret2
        obtain rfl : R = stsL (fun s => mayM L L[j] s day) 6 := HR.out
        exact rowPost2_mk HO.out hB
  · have e1 : nextFor L n day = [] := by rw [nextFor, if_neg h0]
    rw [e1]
    have hne : (codeM L n day == 0) = false := by simp [h0]
    generalize codeM L n day = q at *
    go_enter Tryz.func119, Tryz.ntmps119
    go_wp2_with fail
    refine hcode.mono ?_
    rintro e w1 ⟨rfl, hb1⟩
    go_wp2
    go_ret2
    exact rowPost2_nil hb1
end Go.Proofs.YtiamignopfhkfaaGreatDoor
end
section
namespace Go.Proofs.YtiamignopfhkfaaGreatDoor
open Go.RowKit
set_option linter.unusedVariables false
set_option linter.unusedSimpArgs false
noncomputable def numOf (s : ByteArray) : Int := @dite _ (∃ n, isNum s n) (Classical.propDecidable _) (fun h => ((Classical.choose h : Nat) : Int)) (fun _ => 0)
theorem numOf_eq {s : ByteArray} {n : Nat} (h : isNum s n) : numOf s = n := by
  have he : ∃ n, isNum s n := ⟨n, h⟩
  unfold numOf
  rw [dif_pos he, isNum_uniq (Classical.choose_spec he) h]
theorem numOf_bd (s : ByteArray) : 0 ≤ numOf s ∧ numOf s < 10000000000000 := by
  by_cases he : ∃ n, isNum s n
  · obtain ⟨n, h⟩ := he
    rw [numOf_eq h]
    have := h.1
    omega
  · unfold numOf; rw [dif_neg he]; omega
/-- The numbers among the first words behind a command's. -/
noncomputable def numsK (k : ByteArray) (D : List ByteArray) : Nat → List Int
  | 0 => []
  | i + 1 => if byteOf k i = 73 then numsK k D i ++ [numOf (D.getD (i + 1) default)] else numsK k D i
def textK (k : ByteArray) (D : List ByteArray) : Nat → ByteArray
  | 0 => ⟨#[]⟩
  | i + 1 => if byteOf k i = 84 then D.getD (i + 1) default else textK k D i
theorem numsK_len (k : ByteArray) (D : List ByteArray) : ∀ i, (numsK k D i).length ≤ i
  | 0 => by simp [numsK]
  | i + 1 => by
    have := numsK_len k D i
    rw [numsK]; split
    · rw [List.length_append, List.length_singleton]; omega
    · omega
inductive Cm where
  | opn
  | hol (a : Int)
  | onD (a : Int)
  | due (a b : Int)
  | plu (a b : Int)
  | cal (a b : Int)
  | mov (a b : Int)
  | fre (a b : Int)
  | nex (a b : Int)
  | sta (a b c : Int)
  | dra (a b c : Int)
  | cha (a b c e : Int)
  | fil (t : ByteArray) (a b : Int)
def wordC : Cm → ByteArray
  | .opn => { data := #[111, 112, 101, 110] }
  | .hol _ => { data := #[104, 111, 108, 105, 100, 97, 121] }
  | .onD _ => { data := #[111, 110] }
  | .due _ _ => { data := #[100, 117, 101] }
  | .plu _ _ => { data := #[112, 108, 117, 115] }
  | .cal _ _ => { data := #[99, 97, 108, 108] }
  | .mov _ _ => { data := #[109, 111, 118, 101] }
  | .fre _ _ => { data := #[102, 114, 101, 101] }
  | .nex _ _ => { data := #[110, 101, 120, 116] }
  | .sta _ _ _ => { data := #[115, 101, 116] }
  | .dra _ _ _ => { data := #[100, 114, 97, 119] }
  | .cha _ _ _ _ => { data := #[99, 104, 97, 110, 99, 101] }
  | .fil _ _ _ => { data := #[102, 105, 108, 101] }
def textC : Cm → ByteArray
  | .fil t _ _ => t
  | _ => ⟨#[]⟩
def numsC : Cm → List Int
  | .opn => []
  | .hol a => [a]
  | .onD a => [a]
  | .due a b => [a, b]
  | .plu a b => [a, b]
  | .cal a b => [a, b]
  | .mov a b => [a, b]
  | .fre a b => [a, b]
  | .nex a b => [a, b]
  | .sta a b c => [a, b, c]
  | .dra a b c => [a, b, c]
  | .cha a b c e => [a, b, c, e]
  | .fil _ a b => [a, b]
/-- A command's numbers are such as are written with at most thirteen digits. -/
def CmB (m : Cm) : Prop := ∀ x ∈ numsC m, 0 ≤ x ∧ x < 10000000000000
noncomputable def cmW (D : List ByteArray) : Option Cm :=
  if D.getD 0 default = { data := #[111, 112, 101, 110] } then some (.opn) else
  if D.getD 0 default = { data := #[104, 111, 108, 105, 100, 97, 121] } then some (.hol (numOf (D.getD 1 default))) else
  if D.getD 0 default = { data := #[111, 110] } then some (.onD (numOf (D.getD 1 default))) else
  if D.getD 0 default = { data := #[100, 117, 101] } then some (.due (numOf (D.getD 1 default)) (numOf (D.getD 2 default))) else
  if D.getD 0 default = { data := #[112, 108, 117, 115] } then some (.plu (numOf (D.getD 1 default)) (numOf (D.getD 2 default))) else
  if D.getD 0 default = { data := #[99, 97, 108, 108] } then some (.cal (numOf (D.getD 1 default)) (numOf (D.getD 2 default))) else
  if D.getD 0 default = { data := #[109, 111, 118, 101] } then some (.mov (numOf (D.getD 1 default)) (numOf (D.getD 2 default))) else
  if D.getD 0 default = { data := #[102, 114, 101, 101] } then some (.fre (numOf (D.getD 1 default)) (numOf (D.getD 2 default))) else
  if D.getD 0 default = { data := #[110, 101, 120, 116] } then some (.nex (numOf (D.getD 1 default)) (numOf (D.getD 2 default))) else
  if D.getD 0 default = { data := #[115, 101, 116] } then some (.sta (numOf (D.getD 1 default)) (numOf (D.getD 2 default)) (numOf (D.getD 3 default))) else
  if D.getD 0 default = { data := #[100, 114, 97, 119] } then some (.dra (numOf (D.getD 1 default)) (numOf (D.getD 2 default)) (numOf (D.getD 3 default))) else
  if D.getD 0 default = { data := #[99, 104, 97, 110, 99, 101] } then some (.cha (numOf (D.getD 1 default)) (numOf (D.getD 2 default)) (numOf (D.getD 3 default)) (numOf (D.getD 4 default))) else
  if D.getD 0 default = { data := #[102, 105, 108, 101] } then some (.fil (D.getD 1 default) (numOf (D.getD 2 default)) (numOf (D.getD 3 default))) else
  none
/-- The command that a line says. -/
noncomputable def cmOf (s : ByteArray) : Option Cm := if lineB s then cmW (wordsB s) else none
theorem cmOf_no {s : ByteArray} (h : lineB s = false) : cmOf s = none := by unfold cmOf; rw [h]; rfl
set_option maxHeartbeats 2000000 in
theorem cmW_of {D : List ByteArray} {k : ByteArray} (hk : kindS (D.getD 0 default) = some k) : ∃ m, cmW D = some m ∧ D.getD 0 default = wordC m ∧ textK k D k.size = textC m ∧ numsK k D k.size = numsC m ∧ CmB m ∧ (∀ t a b, m = .fil t a b → D.getD 1 default = t ∧ 1 < k.size + 1) := by
  have hb := numOf_bd
  unfold kindS at hk
  unfold cmW
  by_cases h0 : D.getD 0 default = { data := #[111, 112, 101, 110] }
  · rw [if_pos h0] at hk ⊢
    injection hk with hk
    subst hk
    exact ⟨_, rfl, h0, by simp [textK, byteOf, textC, ByteArray.size], by simp [numsK, byteOf, numsC, ByteArray.size], by intro x hx; simp only [numsC, List.mem_cons, List.not_mem_nil, or_false] at hx; (try (rcases hx with rfl <;> exact hb _)), by intro t a b hm; first | (cases hm; done) | (injection hm with hm _ _; subst hm; exact ⟨rfl, by simp [ByteArray.size]⟩)⟩
  rw [if_neg h0] at hk ⊢
  by_cases h1 : D.getD 0 default = { data := #[104, 111, 108, 105, 100, 97, 121] }
  · rw [if_pos h1] at hk ⊢
    injection hk with hk
    subst hk
    exact ⟨_, rfl, h1, by simp [textK, byteOf, textC, ByteArray.size], by simp [numsK, byteOf, numsC, ByteArray.size], by intro x hx; simp only [numsC, List.mem_cons, List.not_mem_nil, or_false] at hx; (try (rcases hx with rfl <;> exact hb _)), by intro t a b hm; first | (cases hm; done) | (injection hm with hm _ _; subst hm; exact ⟨rfl, by simp [ByteArray.size]⟩)⟩
  rw [if_neg h1] at hk ⊢
  by_cases h2 : D.getD 0 default = { data := #[111, 110] }
  · rw [if_pos h2] at hk ⊢
    injection hk with hk
    subst hk
    exact ⟨_, rfl, h2, by simp [textK, byteOf, textC, ByteArray.size], by simp [numsK, byteOf, numsC, ByteArray.size], by intro x hx; simp only [numsC, List.mem_cons, List.not_mem_nil, or_false] at hx; (try (rcases hx with rfl <;> exact hb _)), by intro t a b hm; first | (cases hm; done) | (injection hm with hm _ _; subst hm; exact ⟨rfl, by simp [ByteArray.size]⟩)⟩
  rw [if_neg h2] at hk ⊢
  by_cases h3 : D.getD 0 default = { data := #[100, 117, 101] }
  · rw [if_pos h3] at hk ⊢
    injection hk with hk
    subst hk
    exact ⟨_, rfl, h3, by simp [textK, byteOf, textC, ByteArray.size], by simp [numsK, byteOf, numsC, ByteArray.size], by intro x hx; simp only [numsC, List.mem_cons, List.not_mem_nil, or_false] at hx; (try (rcases hx with rfl | rfl <;> exact hb _)), by intro t a b hm; first | (cases hm; done) | (injection hm with hm _ _; subst hm; exact ⟨rfl, by simp [ByteArray.size]⟩)⟩
  rw [if_neg h3] at hk ⊢
  by_cases h4 : D.getD 0 default = { data := #[112, 108, 117, 115] }
  · rw [if_pos h4] at hk ⊢
    injection hk with hk
    subst hk
    exact ⟨_, rfl, h4, by simp [textK, byteOf, textC, ByteArray.size], by simp [numsK, byteOf, numsC, ByteArray.size], by intro x hx; simp only [numsC, List.mem_cons, List.not_mem_nil, or_false] at hx; (try (rcases hx with rfl | rfl <;> exact hb _)), by intro t a b hm; first | (cases hm; done) | (injection hm with hm _ _; subst hm; exact ⟨rfl, by simp [ByteArray.size]⟩)⟩
  rw [if_neg h4] at hk ⊢
  by_cases h5 : D.getD 0 default = { data := #[99, 97, 108, 108] }
  · rw [if_pos h5] at hk ⊢
    injection hk with hk
    subst hk
    exact ⟨_, rfl, h5, by simp [textK, byteOf, textC, ByteArray.size], by simp [numsK, byteOf, numsC, ByteArray.size], by intro x hx; simp only [numsC, List.mem_cons, List.not_mem_nil, or_false] at hx; (try (rcases hx with rfl | rfl <;> exact hb _)), by intro t a b hm; first | (cases hm; done) | (injection hm with hm _ _; subst hm; exact ⟨rfl, by simp [ByteArray.size]⟩)⟩
  rw [if_neg h5] at hk ⊢
  by_cases h6 : D.getD 0 default = { data := #[109, 111, 118, 101] }
  · rw [if_pos h6] at hk ⊢
    injection hk with hk
    subst hk
    exact ⟨_, rfl, h6, by simp [textK, byteOf, textC, ByteArray.size], by simp [numsK, byteOf, numsC, ByteArray.size], by intro x hx; simp only [numsC, List.mem_cons, List.not_mem_nil, or_false] at hx; (try (rcases hx with rfl | rfl <;> exact hb _)), by intro t a b hm; first | (cases hm; done) | (injection hm with hm _ _; subst hm; exact ⟨rfl, by simp [ByteArray.size]⟩)⟩
  rw [if_neg h6] at hk ⊢
  by_cases h7 : D.getD 0 default = { data := #[102, 114, 101, 101] }
  · rw [if_pos h7] at hk ⊢
    injection hk with hk
    subst hk
    exact ⟨_, rfl, h7, by simp [textK, byteOf, textC, ByteArray.size], by simp [numsK, byteOf, numsC, ByteArray.size], by intro x hx; simp only [numsC, List.mem_cons, List.not_mem_nil, or_false] at hx; (try (rcases hx with rfl | rfl <;> exact hb _)), by intro t a b hm; first | (cases hm; done) | (injection hm with hm _ _; subst hm; exact ⟨rfl, by simp [ByteArray.size]⟩)⟩
  rw [if_neg h7] at hk ⊢
  by_cases h8 : D.getD 0 default = { data := #[110, 101, 120, 116] }
  · rw [if_pos h8] at hk ⊢
    injection hk with hk
    subst hk
    exact ⟨_, rfl, h8, by simp [textK, byteOf, textC, ByteArray.size], by simp [numsK, byteOf, numsC, ByteArray.size], by intro x hx; simp only [numsC, List.mem_cons, List.not_mem_nil, or_false] at hx; (try (rcases hx with rfl | rfl <;> exact hb _)), by intro t a b hm; first | (cases hm; done) | (injection hm with hm _ _; subst hm; exact ⟨rfl, by simp [ByteArray.size]⟩)⟩
  rw [if_neg h8] at hk ⊢
  by_cases h9 : D.getD 0 default = { data := #[115, 101, 116] }
  · rw [if_pos h9] at hk ⊢
    injection hk with hk
    subst hk
    exact ⟨_, rfl, h9, by simp [textK, byteOf, textC, ByteArray.size], by simp [numsK, byteOf, numsC, ByteArray.size], by intro x hx; simp only [numsC, List.mem_cons, List.not_mem_nil, or_false] at hx; (try (rcases hx with rfl | rfl | rfl <;> exact hb _)), by intro t a b hm; first | (cases hm; done) | (injection hm with hm _ _; subst hm; exact ⟨rfl, by simp [ByteArray.size]⟩)⟩
  rw [if_neg h9] at hk ⊢
  by_cases h10 : D.getD 0 default = { data := #[100, 114, 97, 119] }
  · rw [if_pos h10] at hk ⊢
    injection hk with hk
    subst hk
    exact ⟨_, rfl, h10, by simp [textK, byteOf, textC, ByteArray.size], by simp [numsK, byteOf, numsC, ByteArray.size], by intro x hx; simp only [numsC, List.mem_cons, List.not_mem_nil, or_false] at hx; (try (rcases hx with rfl | rfl | rfl <;> exact hb _)), by intro t a b hm; first | (cases hm; done) | (injection hm with hm _ _; subst hm; exact ⟨rfl, by simp [ByteArray.size]⟩)⟩
  rw [if_neg h10] at hk ⊢
  by_cases h11 : D.getD 0 default = { data := #[99, 104, 97, 110, 99, 101] }
  · rw [if_pos h11] at hk ⊢
    injection hk with hk
    subst hk
    exact ⟨_, rfl, h11, by simp [textK, byteOf, textC, ByteArray.size], by simp [numsK, byteOf, numsC, ByteArray.size], by intro x hx; simp only [numsC, List.mem_cons, List.not_mem_nil, or_false] at hx; (try (rcases hx with rfl | rfl | rfl | rfl <;> exact hb _)), by intro t a b hm; first | (cases hm; done) | (injection hm with hm _ _; subst hm; exact ⟨rfl, by simp [ByteArray.size]⟩)⟩
  rw [if_neg h11] at hk ⊢
  by_cases h12 : D.getD 0 default = { data := #[102, 105, 108, 101] }
  · rw [if_pos h12] at hk ⊢
    injection hk with hk
    subst hk
    exact ⟨_, rfl, h12, by simp [textK, byteOf, textC, ByteArray.size], by simp [numsK, byteOf, numsC, ByteArray.size], by intro x hx; simp only [numsC, List.mem_cons, List.not_mem_nil, or_false] at hx; (try (rcases hx with rfl | rfl <;> exact hb _)), by intro t a b hm; first | (cases hm; done) | (injection hm with hm _ _; subst hm; exact ⟨rfl, by simp [ByteArray.size]⟩)⟩
  rw [if_neg h12] at hk ⊢
  cases hk
theorem cmOf_yes {s : ByteArray} (h : lineB s = true) : ∃ k m, kindS ((wordsB s).getD 0 default) = some k ∧ (wordsB s).length = k.size + 1 ∧ cmOf s = some m ∧ (wordsB s).getD 0 default = wordC m ∧ textK k (wordsB s) k.size = textC m ∧ numsK k (wordsB s) k.size = numsC m ∧ CmB m ∧ (∀ t a b, m = .fil t a b → (wordsB s).getD 1 default = t ∧ 1 < (wordsB s).length) := by
  have hL : LineOk s := by unfold lineB at h; simpa using h
  obtain ⟨k, h1, h2, _⟩ := hL
  obtain ⟨m, h3, h4, h5, h6, h7, h8⟩ := cmW_of h1
  exact ⟨k, m, h1, h2, by unfold cmOf; rw [h, if_pos rfl]; exact h3, h4, h5, h6, h7, by rw [h2]; exact h8⟩
end Go.Proofs.YtiamignopfhkfaaGreatDoor
end
section
namespace Go.Proofs.YtiamignopfhkfaaGreatDoor
open Go.RowKit
set_option linter.unusedVariables false
theorem fileM_good {L : List MotionD} {p : ByteArray} {day after : Int} (h : (fileM L p day after).2 = 0) : motsOk (fileM L p day after).1 = true := by
  unfold fileM at h ⊢
  split at h <;> rename_i h1
  · split at h <;> rename_i h2
    · split at h <;> rename_i h3
      · simp at h
      · split at h <;> rename_i h4
        · rw [if_pos h1, if_pos h2, if_neg h3, if_pos h4]; exact h4
        · simp at h
    · simp at h
  · simp at h
theorem fileM_is {L : List MotionD} {p : ByteArray} {day after : Int} (h : (fileM L p day after).2 = 0) : (fileM L p day after).1 = L ++ [newM L p day after] ∧ motsOk (L ++ [newM L p day after]) = true := by
  unfold fileM at h ⊢
  split at h <;> rename_i h1
  · split at h <;> rename_i h2
    · split at h <;> rename_i h3
      · simp at h
      · split at h <;> rename_i h4
        · rw [if_pos h1, if_pos h2, if_neg h3, if_pos h4]; exact ⟨rfl, h4⟩
        · simp at h
    · simp at h
  · simp at h
theorem findM_nums {q : Int} : ∀ {L M : List MotionD} (i : Int), L.map MotionD.number = M.map MotionD.number → findM q L i = findM q M i
  | [], [], _, _ => rfl
  | [], _ :: _, _, h => by simp at h
  | _ :: _, [], _, h => by simp at h
  | a :: L, b :: M, i, h => by
    simp only [List.map_cons, List.cons.injEq] at h
    rw [findM, findM, h.1, findM_nums (i + 1) h.2]
theorem set_nums {L : List MotionD} {j : Nat} (hj : j < L.length) {x : MotionD} (hx : x.number = L[j].number) : (L.set j x).map MotionD.number = L.map MotionD.number := by
  apply List.ext_getElem (by simp)
  intro n h1 h2
  rw [List.getElem_map, List.getElem_map, List.getElem_set]
  split
  · rename_i e; subst e; exact hx
  · rfl
theorem getD_num (L : List MotionD) (i : Nat) : (L.getD i default).number = (L.map MotionD.number).getD i 0 := by
  rw [List.getD_eq_getElem?_getD, List.getD_eq_getElem?_getD, List.getElem?_map]
  cases L[i]? <;> rfl
theorem mots_of {L : List MotionD} (h : ∀ k, k < L.length → motAt L k = true) (hl : L.length ≤ 12) : motsOk L = true := by
  unfold motsOk
  rw [Bool.and_eq_true, List.all_eq_true, decide_eq_true_eq]
  exact ⟨fun k hk => h k (by simpa using hk), hl⟩
theorem may_facts {L : List MotionD} {m : MotionD} {s day : Int} (h : mayM L m s day = true) : m.changed ≤ day ∧ 1 ≤ s ∧ s ≤ 5 ∧ m.state < 3 := by
  unfold mayM at h
  split at h
  · simp at h
  · rename_i h1
    have hc : m.state < 3 := by
      by_cases h3 : 3 ≤ m.state
      · exact absurd (.inr (by simp [closedB, h3])) h1
      · omega
    have hd : m.changed ≤ day := by
      by_cases h3 : day < m.changed
      · exact absurd (.inl h3) h1
      · omega
    refine ⟨hd, ?_, ?_, hc⟩
    all_goals
      split at h
      · omega
      · split at h
        · omega
        · split at h
          · omega
          · have : s = 5 := by simpa using h
            omega
theorem chg_ok {L : List MotionD} (h : motsOk L = true) {j : Nat} (hj : j < L.length) {s day : Int} (hm : mayM L L[j] s day = true) (hd : inB day 0 20000 = true) : motsOk (L.set j (upM L[j] s day)) = true := by
  obtain ⟨h1, h2, h3, h4⟩ := may_facts hm
  have hd2 := inB_iff.1 hd
  apply mots_of
  · intro k hk
    rw [List.length_set] at hk
    have ho := mots_ok h hk
    rw [motAt_eq hk] at ho
    rw [motAt_eq (by simpa using hk)]
    have hn := set_nums hj (x := upM L[j] s day) rfl
    have hf : ∀ q, findM q ((L.set j (upM L[j] s day)).take k) 0 = findM q (L.take k) 0 := fun q => findM_nums 0 (by rw [List.map_take, List.map_take, hn])
    have hp : ((L.set j (upM L[j] s day)).getD (k-1) default).number = (L.getD (k-1) default).number := by rw [getD_num, getD_num, hn]
    rw [hp, hf]
    simp only [Bool.and_eq_true] at ho ⊢
    obtain ⟨⟨ho1, ho2⟩, ho3⟩ := ho
    by_cases e : j = k
    · subst e
      rw [List.getElem_set_self]
      refine ⟨⟨?_, ho2⟩, ho3⟩
      simp only [motOk, Bool.and_eq_true] at ho1 ⊢
      obtain ⟨⟨⟨⟨⟨a1, a2⟩, a3⟩, a4⟩, a5⟩, a6⟩ := ho1
      have a4' := inB_iff.1 a4
      refine ⟨⟨⟨⟨⟨a1, a2⟩, a3⟩, ?_⟩, ?_⟩, ?_⟩
      · exact inB_iff.2 (by show L[j].filed ≤ day ∧ day ≤ 20000; omega)
      · exact inB_iff.2 (by show 0 ≤ s ∧ s ≤ 5; omega)
      · show (s != 0 || _) = true
        rw [show (s != 0) = true from by simp; omega]; rfl
    · rw [List.getElem_set_ne e]
      exact ⟨⟨ho1, ho2⟩, ho3⟩
  · rw [List.length_set]; exact mots_len h
theorem chgM_is {L : List MotionD} {n s day : Int} (h : (chgM L n s day).2 = 0) : codeM L n day = 0 ∧ ∃ j, ∃ hj : j < L.length, findM n L 0 = (j : Int) ∧ mayM L L[j] s day = true ∧ (chgM L n s day).1 = L.set j (upM L[j] s day) := by
  unfold chgM at h ⊢
  split at h <;> rename_i h1
  · simp at h
  · rw [if_neg h1]
    split at h <;> rename_i h2
    · rw [if_pos h2]
      obtain ⟨hok, hd, j, hj, hjl⟩ := codeM_0 h2
      rw [getM_at hj hjl] at h ⊢
      split at h <;> rename_i h3
      · rw [if_pos h3, hj]
        exact ⟨h2, j, hjl, rfl, h3, rfl⟩
      · simp at h
    · exact absurd h h2
theorem chgM_good {L : List MotionD} {n s day : Int} (h : (chgM L n s day).2 = 0) : motsOk (chgM L n s day).1 = true := by
  obtain ⟨h1, j, hj, _, h2, h3⟩ := chgM_is h
  obtain ⟨hok, hd, _⟩ := codeM_0 h1
  rw [h3]
  exact chg_ok hok hj h2 hd
end Go.Proofs.YtiamignopfhkfaaGreatDoor
end
section
namespace Go.Proofs.YtiamignopfhkfaaGreatDoor
open Go.RowKit
set_option linter.unusedVariables false
set_option linter.unusedSimpArgs false
def okT : ByteArray := { data := #[111, 107] }
def slashT : ByteArray := { data := #[47] }
def errT (code : Int) : ByteArray := ({ data := #[101, 114, 114, 111, 114, 32] } : ByteArray) ++ decI code
/-- What a command makes of a desk: the desk behind it, its text, its code. -/
def exec (d : DeskD) : Cm → DeskD × ByteArray × Int
  | .opn => (d, numsT (openFor d.M), openCode d.M)
  | .hol a => (⟨(holP d.H a).1, d.K, d.M⟩, okT, (holP d.H a).2)
  | .onD a => (d, numsT (onP d.K a), onCode d.K a)
  | .due a b => (d, decI (deadP d.H a b).1, (deadP d.H a b).2)
  | .plu a b => (d, decI (addP d.H a b).1, (addP d.H a b).2)
  | .cal a b => if (addC d.H d.K a b).2 = 0 then (⟨d.H, (addC d.H d.K a b).1, d.M⟩, okT, 0) else (d, okT, (addC d.H d.K a b).2)
  | .mov a b => if (moveC d.H d.K a b).2 = 0 then (⟨d.H, (moveC d.H d.K a b).1, d.M⟩, okT, 0) else (d, okT, (moveC d.H d.K a b).2)
  | .fre a b => (d, decI (roomP d.H d.K a b).1, (roomP d.H d.K a b).2)
  | .nex a b => (d, numsT (nextFor d.M a b), codeM d.M a b)
  | .sta a b c => if (chgM d.M a b c).2 = 0 then (⟨d.H, d.K, (chgM d.M a b c).1⟩, okT, 0) else (d, okT, (chgM d.M a b c).2)
  | .dra a b c => (d, numsT (sampL a b c), sampC a b c)
  | .cha a b c e => (d, decI (topW a b c e) ++ slashT ++ decI (botW a b c e), codeW a b c e)
  | .fil t a b => if (fileM d.M t a b).2 = 0 then (⟨d.H, d.K, (fileM d.M t a b).1⟩, decI (lastNo d.M), 0) else (d, ⟨#[]⟩, (fileM d.M t a b).2)
/-! ### ranges of what is written -/
theorem limP_bd {H : List Int} {d : Int} (h : 0 ≤ d) : 0 ≤ (limP H d).1 ∧ (limP H d).1 ≤ 20000 := by
  have := nx_ge H d
  unfold limP; split <;> simp <;> omega
theorem deadP_bd {H : List Int} {a b : Int} : 0 ≤ (deadP H a b).1 ∧ (deadP H a b).1 ≤ 20000 := by
  unfold deadP
  split
  · rename_i h
    obtain ⟨-, h1, h2⟩ := dayC_0 h
    split
    · rename_i h3
      have := inB_iff.1 h3
      exact limP_bd (by omega)
    · simp
  · simp
theorem addP_bd {H : List Int} {a b : Int} : 0 ≤ (addP H a b).1 ∧ (addP H a b).1 ≤ 20000 := by
  unfold addP
  split
  · rename_i h
    obtain ⟨-, h1, h2⟩ := dayC_0 h
    split
    · cases hh : addO H b.toNat a with
      | none => simp
      | some v =>
        have h3 := addO_le h2 hh
        have h4 := addO_ge hh
        simp only; omega
    · simp
  · simp
theorem roomS_bd {H : List Int} {K : List CallD} {x : CallD} {room : Int} : ∀ {f : Nat} {d v : Int}, roomS H K x room f d = some v → d ≤ v ∧ v < d + f
  | 0, d, v, h => by rw [roomS] at h; cases h
  | f + 1, d, v, h => by
    rw [roomS] at h
    split at h
    · injection h with h; omega
    · have := roomS_bd h; omega
theorem roomP_bd {H : List Int} {K : List CallD} {a b : Int} : 0 ≤ (roomP H K a b).1 ∧ (roomP H K a b).1 ≤ 20000 := by
  by_cases h : codeC H K a (rday b) = 0
  · obtain ⟨h1, -, h3⟩ := codeC_0 h
    simp only [Bool.and_eq_true] at h1
    obtain ⟨hj, -⟩ := hasC_idx h3
    have hb := calls_bds h1.2 hj
    rw [roomP_0 h, getC_at hj]
    cases hh : roomS H K K[idxC a K] b (lastD K[idxC a K] - K[idxC a K].day).toNat (K[idxC a K].day + 1) with
    | none => simp [optR]
    | some v =>
      have h4 := roomS_bd hh
      have h5 : lastD K[idxC a K] ≤ 20000 := by unfold lastD; omega
      show 0 ≤ v ∧ v ≤ 20000
      omega
  · rw [roomP_c h]; simp
theorem topW_bd (a b c e : Int) : 0 ≤ topW a b c e ∧ topW a b c e ≤ 1000000000000000 := by
  unfold topW
  split
  · rename_i h
    obtain ⟨h1, h2, h3, h4⟩ := codeW_0 h
    obtain ⟨X, rfl⟩ := Int.eq_ofNat_of_zero_le h4.1
    rw [Int.toNat_natCast]
    have hw := ways_bd (n := a) (g := b) (k := c) (x := X) h1.2 h2.1 h2.2 (by omega)
    have ha := all_bd (n := a) (k := c) h1.2 h3.1 h3.2
    have hg := gcdF_pos (a := waysF a b c (X + 1)) ha.1
    have := div_in hw.1 (show 0 < gcdF (waysF a b c (X + 1)) (chF a c) by omega) hw.2
    exact this.2
  · omega
theorem botW_bd (a b c e : Int) : 0 ≤ botW a b c e ∧ botW a b c e ≤ 1000000000000000 := by
  unfold botW
  split
  · rename_i h
    obtain ⟨h1, h2, h3, h4⟩ := codeW_0 h
    have ha := all_bd (n := a) (k := c) h1.2 h3.1 h3.2
    have hg := gcdF_pos (a := waysF a b c (e.toNat + 1)) ha.1
    have := div_in (a := chF a c) (by omega) (show 0 < gcdF (waysF a b c (e.toNat + 1)) (chF a c) by omega) ha.2
    exact this.2
  · omega
def NumsB (N : List Int) : Prop := N.length ≤ 1000 ∧ ∀ x ∈ N, 0 ≤ x ∧ x ≤ 1000000000000000
theorem nil_numsB : NumsB [] := ⟨by simp, fun x hx => by cases hx⟩
theorem open_numsB (M : List MotionD) : NumsB (openFor M) := by
  unfold openFor
  split
  · rename_i h
    have := mots_len h
    refine ⟨by have := selM_len openP M; omega, fun x hx => ?_⟩
    simp only [selM, List.mem_map, List.mem_filter] at hx
    obtain ⟨m, ⟨hm, -⟩, rfl⟩ := hx
    obtain ⟨i, hi, rfl⟩ := List.getElem_of_mem hm
    have := (mots_bds h hi).1
    omega
  · exact nil_numsB
theorem on_numsB (K : List CallD) (a : Int) : NumsB (onP K a) := by
  unfold onP
  split
  · rename_i h
    split
    · have := calls_len h
      refine ⟨by have := onC_len K a; omega, fun x hx => ?_⟩
      simp only [onC, List.mem_map, List.mem_filter] at hx
      obtain ⟨m, ⟨hm, -⟩, rfl⟩ := hx
      obtain ⟨i, hi, rfl⟩ := List.getElem_of_mem hm
      have := (calls_bds h hi).1
      omega
    · exact nil_numsB
  · exact nil_numsB
theorem next_numsB (M : List MotionD) (a b : Int) : NumsB (nextFor M a b) := by
  refine ⟨by have := nextFor_len M a b; omega, fun x hx => ?_⟩
  unfold nextFor at hx
  split at hx
  · simp only [stsL, List.mem_map, List.mem_filter, List.mem_range] at hx
    obtain ⟨m, ⟨hm, -⟩, rfl⟩ := hx
    omega
  · cases hx
theorem samp_numsB (a b c : Int) : NumsB (sampL a b c) := ⟨by have := (sampL_mem a b c).1; omega, fun x hx => by have := (sampL_mem a b c).2 x hx; omega⟩
/-! ### the desk stays valid -/
theorem holP_good {H : List Int} {a : Int} (h : holOk H = true) : holOk (holP H a).1 = true := by
  unfold holP; split
  · assumption
  · exact h
theorem fileM_words {L : List MotionD} {p : ByteArray} {day after : Int} (h : (fileM L p day after).2 = 0) (hW : ∀ x ∈ L, MotionW x) (ha : (Lit.int .i64 after).wf = true) : ∀ x ∈ (fileM L p day after).1, MotionW x := by
  have h0 := fileM_is h
  have h1 : (motsOk L && isWordB p) = true := by
    unfold fileM at h
    split at h
    · assumption
    · simp at h
  have h2 : inB day 0 20000 = true := by
    unfold fileM at h
    rw [if_pos h1] at h
    split at h
    · assumption
    · simp at h
  rw [h0.1]
  intro x hx
  rcases List.mem_append.1 hx with h | h
  · exact hW x h
  · rw [List.mem_singleton.1 h]; exact newM_w h1 h2 ha
theorem chgM_words {L : List MotionD} {n s day : Int} (h : (chgM L n s day).2 = 0) (hW : ∀ x ∈ L, MotionW x) : ∀ x ∈ (chgM L n s day).1, MotionW x := by
  obtain ⟨h1, j, hj, _, h2, h3⟩ := chgM_is h
  obtain ⟨hok, hd, _⟩ := codeM_0 h1
  obtain ⟨a1, a2, a3, a4⟩ := may_facts h2
  have hdd := inB_iff.1 hd
  rw [h3]
  intro x hx
  rcases List.mem_or_eq_of_mem_set hx with hm | rfl
  · exact hW x hm
  · obtain ⟨w1, w2, w3, w4, w5, w6⟩ := hW L[j] (List.getElem_mem hj)
    exact ⟨w1, w2, w3, WalkArith.wf_i64 (by constructor <;> simp only [upM] <;> omega), WalkArith.wf_i64 (by constructor <;> simp only [upM] <;> omega), w6⟩
theorem exec_good {d : DeskD} (h : DGood d) {m : Cm} (hm : CmB m) : DGood (exec d m).1 := by
  have hwf : ∀ x : Int, 0 ≤ x ∧ x < 10000000000000 → (Lit.int .i64 x).wf = true := fun x hx => WalkArith.wf_i64 (by constructor <;> omega)
  obtain ⟨g1, g2, g3, g4⟩ := h
  cases m with
  | hol a => exact ⟨holP_good g1, g2, g3, g4⟩
  | cal a b =>
    simp only [exec]; split
    · rename_i h9; exact ⟨g1, addC_good h9, g3, g4⟩
    · exact ⟨g1, g2, g3, g4⟩
  | mov a b =>
    simp only [exec]; split
    · rename_i h9; exact ⟨g1, moveC_good h9, g3, g4⟩
    · exact ⟨g1, g2, g3, g4⟩
  | sta a b c =>
    simp only [exec]; split
    · rename_i h9; exact ⟨g1, g2, chgM_good h9, chgM_words h9 g4⟩
    · exact ⟨g1, g2, g3, g4⟩
  | fil t a b =>
    simp only [exec]; split
    · rename_i h9; exact ⟨g1, g2, fileM_good h9, fileM_words h9 g4 (hwf b (hm b (by simp [numsC])))⟩
    · exact ⟨g1, g2, g3, g4⟩
  | _ => exact ⟨g1, g2, g3, g4⟩
theorem exec_same {d : DeskD} {m : Cm} (h : ¬ (exec d m).2.2 = 0) : (exec d m).1 = d := by
  cases m with
  | hol a =>
    simp only [exec, holP] at h ⊢
    split
    · rename_i h9; rw [if_pos h9] at h; exact absurd rfl h
    · rfl
  | cal a b =>
    simp only [exec] at h ⊢; split
    · rename_i h9; rw [if_pos h9] at h; exact absurd rfl h
    · rfl
  | mov a b =>
    simp only [exec] at h ⊢; split
    · rename_i h9; rw [if_pos h9] at h; exact absurd rfl h
    · rfl
  | sta a b c =>
    simp only [exec] at h ⊢; split
    · rename_i h9; rw [if_pos h9] at h; exact absurd rfl h
    · rfl
  | fil t a b =>
    simp only [exec] at h ⊢; split
    · rename_i h9; rw [if_pos h9] at h; exact absurd rfl h
    · rfl
  | _ => rfl
/-- What a line does to a desk and writes. -/
noncomputable def lineD (d : DeskD) (s : ByteArray) : DeskD × ByteArray :=
  match cmOf s with
  | none => (d, errT 6)
  | some m => if (exec d m).2.2 = 0 then ((exec d m).1, (exec d m).2.1) else (d, errT (exec d m).2.2)
end Go.Proofs.YtiamignopfhkfaaGreatDoor
end
section
namespace Go.Proofs.YtiamignopfhkfaaGreatDoor
open Go.RowKit
set_option linter.unusedVariables false
def splL (pre : List UInt8) : List UInt8 → List (List UInt8)
  | [] => [pre]
  | b :: t => if b = 10 then pre :: splL [] t else splL (pre ++ [b]) t
theorem splL_none : ∀ (l pre : List UInt8), (∀ b ∈ l, b ≠ 10) → splL pre l = [pre ++ l]
  | [], pre, _ => by simp [splL]
  | b :: t, pre, h => by
    rw [splL, if_neg (h b (by simp)), splL_none t _ (fun x hx => h x (by simp [hx]))]
    simp
theorem splL_hit (r : List UInt8) : ∀ (a pre : List UInt8), (∀ b ∈ a, b ≠ 10) → splL pre (a ++ 10 :: r) = (pre ++ a) :: splL [] r
  | [], pre, _ => by simp [splL]
  | b :: t, pre, h => by
    rw [List.cons_append, splL, if_neg (h b (by simp)), splL_hit r t _ (fun x hx => h x (by simp [hx]))]
    simp
theorem splitL_eq : ∀ (k : Nat) (l : List UInt8), l.count 10 = k → Lib.splitK [10] 0 k l = splL [] l
  | 0, l, h => by
    have hn : ∀ b ∈ l, b ≠ 10 := fun b hb e => List.count_eq_zero.1 h (e ▸ hb)
    rw [splL_none l [] hn]; rfl
  | k + 1, l, h => by
    unfold Lib.splitK
    rw [Lib.index_one]
    by_cases hi : 0 ≤ Lib.indexByte l 10
    · obtain ⟨a, r, e1, e2, e3⟩ := idx_at hi
      rw [if_neg (by simp; omega)]
      have ha : a.count 10 = 0 := List.count_eq_zero.2 (fun hm => e3 10 hm rfl)
      have hr : r.count 10 = k := by
        rw [e1, List.count_append, ha, List.count_cons_self] at h
        omega
      have h1 : l.take ((Lib.indexByte l 10).toNat + 0) = a := by
        rw [Nat.add_zero, ← e2]
        have := congrArg (fun (x : List UInt8) => x.take a.length) e1
        simpa using this
      have h2 : l.drop ((Lib.indexByte l 10).toNat + [(10 : UInt8)].length) = r := by
        rw [← e2]
        have := congrArg (fun (x : List UInt8) => x.drop (a.length + 1)) e1
        simpa using this
      rw [h1, h2, splitL_eq k r hr]
      conv => rhs; rw [e1]
      rw [splL_hit r a [] e3]
      simp
    · have hn := idx_no (l := l) (c := 10) (by omega)
      have : l.count 10 = 0 := List.count_eq_zero.2 (fun hm => hn 10 hm rfl)
      omega
/-- The words of a line. -/
def linesB (s : ByteArray) : List ByteArray := (splL [] s.data.toList).map mkB
theorem lines_lib (s : ByteArray) : Lib.splitB ⟨#[10]⟩ 0 (Lib.countB s ⟨#[10]⟩) s = linesB s := by
  have h1 := Lib.splitB_data ⟨#[10]⟩ 0 (Lib.countB s ⟨#[10]⟩) s
  have h2 : Lib.countB s ⟨#[10]⟩ = s.data.toList.count 10 := Lib.count_one 10 s.data.toList
  have h3 := splitL_eq _ s.data.toList rfl
  have h4 : (Lib.splitB ⟨#[10]⟩ 0 (Lib.countB s ⟨#[10]⟩) s).map (fun x => x.data.toList) = splL [] s.data.toList := by
    rw [h1, h2]; exact h3
  unfold linesB
  rw [← h4, List.map_map]
  have : (mkB ∘ fun (x : ByteArray) => x.data.toList) = id := by
    funext x; rfl
  rw [this, List.map_id]
theorem lines_len (s : ByteArray) : (linesB s).length = s.data.toList.count 10 + 1 := by
  have h : ∀ (l pre : List UInt8), (splL pre l).length = l.count 10 + 1 := by
    intro l
    induction l with
    | nil => intro pre; simp [splL]
    | cons b t ih =>
      intro pre
      rw [splL]
      split
      · rename_i hb
        subst hb
        rw [List.length_cons, ih, List.count_cons_self]
      · rename_i hb
        rw [ih, List.count_cons_of_ne (by simpa using hb)]
  unfold linesB
  rw [List.length_map, h]
theorem lines_pos (s : ByteArray) : 0 < (linesB s).length := by rw [lines_len]; omega
theorem lines_sz (s : ByteArray) : ∀ x ∈ linesB s, x.size ≤ s.size := by
  have h : ∀ (l pre : List UInt8), ∀ x ∈ splL pre l, x.length ≤ pre.length + l.length := by
    intro l
    induction l with
    | nil => intro pre x hx; simp [splL] at hx; rw [hx]; simp
    | cons b t ih =>
      intro pre x hx
      rw [splL] at hx
      split at hx
      · rcases List.mem_cons.1 hx with h1 | h1
        · rw [h1]; simp
        · have := ih [] x h1
          simp at this ⊢; omega
      · have := ih _ x hx
        simp at this ⊢; omega
  intro x hx
  obtain ⟨l, hl, rfl⟩ := List.mem_map.1 hx
  have h1 := h _ [] l hl
  have h2 : s.data.toList.length = s.size := Array.length_toList
  have h3 : (mkB l).size = l.length := List.size_toArray
  rw [h3]; simp at h1; omega
end Go.Proofs.YtiamignopfhkfaaGreatDoor
end
section
namespace Go.Proofs.YtiamignopfhkfaaGreatDoor
open Go.RowKit
set_option linter.unusedVariables false
set_option linter.unusedSimpArgs false
/-! ### ranges of codes -/
def CB (q : Int) : Prop := 0 ≤ q ∧ q ≤ 9
theorem cb_ite {p : Prop} [Decidable p] {a b : Int} (h1 : p → CB a) (h2 : ¬ p → CB b) : CB (if p then a else b) := by
  split
  · exact h1 ‹_›
  · exact h2 ‹_›
theorem cb_ite2 {α : Type} {p : Prop} [Decidable p] {a b : α × Int} (h1 : p → CB a.2) (h2 : ¬ p → CB b.2) : CB (if p then a else b).2 := by
  split
  · exact h1 ‹_›
  · exact h2 ‹_›
theorem cb0 : CB 0 := ⟨by decide, by decide⟩
theorem cb1 : CB 1 := ⟨by decide, by decide⟩
theorem cb2 : CB 2 := ⟨by decide, by decide⟩
theorem cb3 : CB 3 := ⟨by decide, by decide⟩
theorem cb4 : CB 4 := ⟨by decide, by decide⟩
theorem cb5 : CB 5 := ⟨by decide, by decide⟩
theorem dayC_cb (H : List Int) (d : Int) : CB (dayC H d) := cb_ite (fun _ => cb_ite (fun _ => cb0) (fun _ => cb2)) (fun _ => cb1)
theorem codeC_cb (H : List Int) (K : List CallD) (n d : Int) : CB (codeC H K n d) := cb_ite (fun _ => cb_ite (fun _ => cb_ite (fun _ => cb0) (fun _ => cb4)) (fun _ => cb2)) (fun _ => cb1)
theorem codeM_cb (L : List MotionD) (n d : Int) : CB (codeM L n d) := cb_ite (fun _ => cb_ite (fun _ => cb_ite (fun _ => cb4) (fun _ => cb0)) (fun _ => cb2)) (fun _ => cb1)
theorem deadP_cb (H : List Int) (d n : Int) : CB (deadP H d n).2 := cb_ite2 (fun _ => cb_ite2 (fun _ => cb_ite2 (fun _ => cb0) (fun _ => cb3)) (fun _ => cb2)) (fun _ => dayC_cb H d)
theorem addP_cb (H : List Int) (d n : Int) : CB (addP H d n).2 := cb_ite2 (fun _ => cb_ite2 (fun _ => by
  cases addO H n.toNat d with
  | some v => exact cb0
  | none => exact cb3) (fun _ => cb2)) (fun _ => dayC_cb H d)
theorem addC_cb (H : List Int) (K : List CallD) (n d : Int) : CB (addC H K n d).2 := cb_ite2 (fun _ => cb_ite2 (fun _ => cb_ite2 (fun _ => cb0) (fun _ => cb5)) (fun _ => cb2)) (fun _ => cb1)
theorem moveC_cb (H : List Int) (K : List CallD) (n d : Int) : CB (moveC H K n d).2 := cb_ite2 (fun _ => cb_ite2 (fun _ => cb0) (fun _ => cb5)) (fun _ => codeC_cb H K n d)
theorem roomP_cb (H : List Int) (K : List CallD) (n r : Int) : CB (roomP H K n r).2 := by
  by_cases h : codeC H K n (rday r) = 0
  · rw [roomP_0 h]
    cases roomS H K (getC K (idxC n K)) r (lastD (getC K (idxC n K)) - (getC K (idxC n K)).day).toNat ((getC K (idxC n K)).day + 1) with
    | some v => exact cb0
    | none => exact cb5
  · rw [roomP_c h]; exact codeC_cb _ _ _ _
theorem chgM_cb (L : List MotionD) (n s d : Int) : CB (chgM L n s d).2 := cb_ite2 (fun _ => cb2) (fun _ => cb_ite2 (fun _ => cb_ite2 (fun _ => cb0) (fun _ => cb5)) (fun _ => codeM_cb L n d))
theorem fileM_cb (L : List MotionD) (p : ByteArray) (d a : Int) : CB (fileM L p d a).2 := cb_ite2 (fun _ => cb_ite2 (fun _ => cb_ite2 (fun _ => cb4) (fun _ => cb_ite2 (fun _ => cb0) (fun _ => cb3))) (fun _ => cb2)) (fun _ => cb1)
theorem exec_cb (d : DeskD) (m : Cm) : CB (exec d m).2.2 := by
  cases m with
  | opn => exact cb_ite (fun _ => cb0) (fun _ => cb1)
  | hol a =>
    show CB (holP d.H a).2
    exact cb_ite2 (fun _ => cb0) (fun _ => cb1)
  | onD a => exact cb_ite (fun _ => cb_ite (fun _ => cb0) (fun _ => cb2)) (fun _ => cb1)
  | due a b => exact deadP_cb _ _ _
  | plu a b => exact addP_cb _ _ _
  | cal a b =>
    simp only [exec]; split
    · exact cb0
    · exact addC_cb _ _ _ _
  | mov a b =>
    simp only [exec]; split
    · exact cb0
    · exact moveC_cb _ _ _ _
  | fre a b => exact roomP_cb _ _ _ _
  | nex a b => exact codeM_cb _ _ _
  | sta a b c =>
    simp only [exec]; split
    · exact cb0
    · exact chgM_cb _ _ _ _
  | dra a b c => exact cb_ite (fun _ => cb0) (fun _ => cb2)
  | cha a b c e => exact cb_ite (fun _ => cb0) (fun _ => cb2)
  | fil t a b =>
    simp only [exec]; split
    · exact cb0
    · exact fileM_cb _ _ _ _
/-! ### how long the texts are -/
theorem numsT_sz {N : List Int} (h : NumsB N) : (numsT N).size ≤ 100000 := by
  by_cases h0 : N.length = 0
  · obtain rfl := List.eq_nil_of_length_eq_zero h0
    rw [numsT_nil]; show 1 ≤ 100000; omega
  · rw [numsT_cons (by omega)]
    have h1 := nums_len N h.2
    have h2 := h.1
    have e : (⟨(Lib.join (numsL N) [44]).toArray⟩ : ByteArray).size = (Lib.join (numsL N) [44]).length := List.size_toArray
    omega
theorem decI_sz {n : Int} (h : 0 ≤ n ∧ n ≤ 1000000000000000) : (decI n).size ≤ 21 := decI_len n (by omega) (by omega)
theorem okT_sz : okT.size ≤ 100000 := by show 2 ≤ 100000; omega
theorem exec_sz {d : DeskD} (h : DGood d) (m : Cm) : (exec d m).2.1.size ≤ 100000 := by
  cases m with
  | opn => exact numsT_sz (open_numsB _)
  | hol a => exact okT_sz
  | onD a => exact numsT_sz (on_numsB _ _)
  | due a b => have := deadP_bd (H := d.H) (a := a) (b := b); exact Nat.le_trans (decI_sz ⟨by omega, by omega⟩) (by omega)
  | plu a b => have := addP_bd (H := d.H) (a := a) (b := b); exact Nat.le_trans (decI_sz ⟨by omega, by omega⟩) (by omega)
  | cal a b =>
    simp only [exec]; split
    · exact okT_sz
    · exact okT_sz
  | mov a b =>
    simp only [exec]; split
    · exact okT_sz
    · exact okT_sz
  | fre a b => have := roomP_bd (H := d.H) (K := d.K) (a := a) (b := b); exact Nat.le_trans (decI_sz ⟨by omega, by omega⟩) (by omega)
  | nex a b => exact numsT_sz (next_numsB _ _ _)
  | sta a b c =>
    simp only [exec]; split
    · exact okT_sz
    · exact okT_sz
  | dra a b c => exact numsT_sz (samp_numsB _ _ _)
  | cha a b c e =>
    have h1 := decI_sz (topW_bd a b c e)
    have h2 := decI_sz (botW_bd a b c e)
    have h3 : slashT.size = 1 := rfl
    show (decI (topW a b c e) ++ slashT ++ decI (botW a b c e)).size ≤ 100000
    rw [ByteArray.size_append, ByteArray.size_append]; omega
  | fil t a b =>
    simp only [exec]; split
    · have := lastNo_bd h.2.2.1
      exact Nat.le_trans (decI_sz (n := lastNo d.M) ⟨by omega, by omega⟩) (by omega)
    · show 0 ≤ 100000; omega
theorem errT_sz {q : Int} (h : CB q) : (errT q).size ≤ 100 := by
  have h1 := decI_sz (n := q) ⟨h.1, by have := h.2; omega⟩
  unfold errT
  rw [ByteArray.size_append]
  have : ({ data := #[101, 114, 114, 111, 114, 32] } : ByteArray).size = 6 := rfl
  omega
/-! ### a line -/
theorem lineD_none {d : DeskD} {s : ByteArray} (h : cmOf s = none) : lineD d s = (d, errT 6) := by unfold lineD; rw [h]
theorem lineD_ok {d : DeskD} {s : ByteArray} {m : Cm} (h : cmOf s = some m) (h0 : (exec d m).2.2 = 0) : lineD d s = ((exec d m).1, (exec d m).2.1) := by unfold lineD; rw [h]; simp only; rw [if_pos h0]
theorem lineD_err {d : DeskD} {s : ByteArray} {m : Cm} (h : cmOf s = some m) (h0 : ¬ (exec d m).2.2 = 0) : lineD d s = (d, errT (exec d m).2.2) := by unfold lineD; rw [h]; simp only; rw [if_neg h0]
theorem cm_bounds {s : ByteArray} {m : Cm} (h : cmOf s = some m) : CmB m := by
  unfold cmOf at h
  split at h
  · rename_i hl
    obtain ⟨k, m2, _, _, h3, _, _, _, h7, _⟩ := cmOf_yes hl
    unfold cmOf at h3
    rw [if_pos hl] at h3
    rw [h] at h3
    injection h3 with h3
    rw [h3]; exact h7
  · cases h
theorem lineD_good {d : DeskD} (h : DGood d) (s : ByteArray) : DGood (lineD d s).1 ∧ (lineD d s).2.size ≤ 100000 := by
  cases hc : cmOf s with
  | none => rw [lineD_none hc]; exact ⟨h, Nat.le_trans (errT_sz (q := 6) ⟨by decide, by decide⟩) (by omega)⟩
  | some m =>
    by_cases h0 : (exec d m).2.2 = 0
    · rw [lineD_ok hc h0]; exact ⟨exec_good h (cm_bounds hc), exec_sz h m⟩
    · rw [lineD_err hc h0]; exact ⟨h, Nat.le_trans (errT_sz (exec_cb d m)) (by omega)⟩
/-! ### a text -/
noncomputable def runL (d : DeskD) : List ByteArray → DeskD × List ByteArray
  | [] => (d, [])
  | s :: t => ((runL (lineD d s).1 t).1, (lineD d s).2 :: (runL (lineD d s).1 t).2)
theorem runL_snoc (s : ByteArray) : ∀ (L : List ByteArray) (d : DeskD), runL d (L ++ [s]) = ((lineD (runL d L).1 s).1, (runL d L).2 ++ [(lineD (runL d L).1 s).2])
  | [], d => rfl
  | x :: L, d => by
    rw [List.cons_append, runL, runL_snoc s L, runL]
    rfl
theorem runL_len : ∀ (L : List ByteArray) (d : DeskD), (runL d L).2.length = L.length
  | [], d => rfl
  | x :: L, d => by rw [runL, List.length_cons, List.length_cons, runL_len L]
theorem runL_good : ∀ (L : List ByteArray) (d : DeskD), DGood d → DGood (runL d L).1 ∧ ∀ x ∈ (runL d L).2, x.size ≤ 100000
  | [], d, h => ⟨h, fun x hx => by cases hx⟩
  | s :: L, d, h => by
    have h1 := lineD_good h s
    have h2 := runL_good L _ h1.1
    rw [runL]
    refine ⟨h2.1, fun x hx => ?_⟩
    rcases List.mem_cons.1 hx with h3 | h3
    · rw [h3]; exact h1.2
    · exact h2.2 x h3
theorem runL_step {L : List ByteArray} {k : Nat} (hk : k < L.length) (d : DeskD) : runL d (L.take (k + 1)) = ((lineD (runL d (L.take k)).1 L[k]).1, (runL d (L.take k)).2 ++ [(lineD (runL d (L.take k)).1 L[k]).2]) := by
  rw [List.take_succ_eq_append_getElem hk, runL_snoc]
/-- The lines of a text; what follows the last newline is one if it is not empty. -/
def linesR (s : ByteArray) : List ByteArray := if (linesB s).getLast? = some ⟨#[]⟩ then (linesB s).dropLast else linesB s
def fitB (s : ByteArray) : Bool := decide (s.size ≤ 1500) && decide ((linesR s).length ≤ 40)
noncomputable def deskD (s : ByteArray) : DeskD := (runL d0 (linesR s)).1
noncomputable def outD (s : ByteArray) : List ByteArray := (runL d0 (linesR s)).2
theorem last_get {L : List ByteArray} (h : 0 < L.length) : L.getLast? = some (L[L.length - 1]'(by omega)) := by
  rw [List.getLast?_eq_getElem?, List.getElem?_eq_getElem]
theorem linesR_yes {s : ByteArray} (h : (linesB s)[(linesB s).length - 1]'(by have := lines_pos s; omega) = ⟨#[]⟩) : linesR s = (linesB s).take ((linesB s).length - 1) := by
  unfold linesR; rw [last_get (lines_pos s), h, if_pos rfl, List.dropLast_eq_take]
theorem linesR_no {s : ByteArray} (h : ¬ (linesB s)[(linesB s).length - 1]'(by have := lines_pos s; omega) = ⟨#[]⟩) : linesR s = linesB s := by
  unfold linesR; rw [last_get (lines_pos s), if_neg (fun e => h (by injection e))]
end Go.Proofs.YtiamignopfhkfaaGreatDoor
end
section
namespace Go.Proofs.YtiamignopfhkfaaGreatDoor
open Go.RowKit
set_option linter.unusedVariables false
theorem tTab : (Tryz.prog.globals[3]?).map (·.type) = some 202 := by kernel_rfl
theorem cTab : Tryz.prog.cellsOf 202 = 20 := by kernel_rfl
theorem cU64 : Tryz.prog.cellsOf 173 = 1 := by kernel_rfl
theorem tab_of_laid {a b : String × DataW Unit} {rest : List (String × DataW Unit)} {W : World} (h : laidMet Tryz.prog (a :: b :: ("internal/strconv.uint64pow10", Rows.laid_internal_strconv_uint64pow10) :: rest) W) : TabW W ∧ laidMet Tryz.prog rest W :=
  ⟨Lib.tabIs_of_head (k := .u64) (zs := Lib.pow10Tab) gTab tTab Tryz.underlying202 Tryz.underlying173 cU64 cTab (show laidMet Tryz.prog (("internal/strconv.uint64pow10", Lib.tabData .u64 Lib.pow10Tab) :: rest) W from h.tail.tail), h.tail.tail.tail⟩
end Go.Proofs.YtiamignopfhkfaaGreatDoor
end
section
namespace Go.Proofs.YtiamignopfhkfaaGreatDoor
open Go.RowKit
set_option linter.unusedVariables false
def JEnv (w : World) : Prop := TabW w ∧ (∃ t p, w.cell? ⟨4, 0, none⟩ = some (.iface t p)) ∧ (∃ t p, w.cell? ⟨5, 0, none⟩ = some (.iface t p))
theorem JEnv.below {w w' : World} (h : JEnv w) (hb : Below w.heap.size w w') : JEnv w' := by
  obtain ⟨h0, ⟨t1, p1, h1⟩, t2, p2, h2⟩ := h
  exact ⟨h0.below hb, ⟨t1, p1, (hb.cell (block_lt_of_cell h1)).trans h1⟩, t2, p2, (hb.cell (block_lt_of_cell h2)).trans h2⟩
theorem parse_ok {l : List UInt8} {v : Int} (h : Lib.parseIntB 64 l = .ok v) : -9223372036854775808 ≤ v ∧ v ≤ 9223372036854775807 := by
  obtain ⟨h1, h2⟩ := Lib.parseIntB_bounds h
  have e : ((2 ^ (64 - 1) : Nat) : Int) = 9223372036854775808 := by decide
  rw [e] at h1 h2
  omega
theorem ba_toList_eq {a b : ByteArray} : (a.toList == b.toList) = true ↔ a = b := by
  rw [beq_iff_eq]
  constructor
  · intro h
    rw [Go.ByteArray.toList_eq, Go.ByteArray.toList_eq] at h
    exact ba_ext h
  · rintro rfl; rfl
def DecX (s : ByteArray) (w : World) (e : Ending) (w' : World) : Prop :=
  ∃ (n : Int) (b : Bool), e = .returned (.tuple #[.int .i64 n, .bool b]) ∧ (-9223372036854775808 ≤ n ∧ n ≤ 9223372036854775807) ∧ (b = true → s = decI n) ∧ (∀ m : Nat, isNum s m → b = true ∧ n = m) ∧ Below w.heap.size w w'
theorem decX_bad {s : ByteArray} {w w' : World} (hb : Below w.heap.size w w') (h : ∀ m : Nat, ¬ isNum s m) : DecX s w (.returned (.tuple #[.int .i64 0, .bool false])) w' :=
  ⟨0, false, rfl, ⟨by omega, by omega⟩, (fun h => by cases h), fun m h1 => (h m h1).elim, hb⟩
set_option maxRecDepth 100000 in
set_option maxHeartbeats 1000000 in
theorem readDecimal_x (s : ByteArray) (w : World) (hs : s.size ≤ 2000000) (hE : JEnv w) : Calls Tryz.prog 90 #[.string s] w (DecX s w) := by
  obtain ⟨ht, ⟨t1, p1, f1⟩, t2, p2, f2⟩ := hE
  have HT := Lib.hid ht
  clear ht
  cases hp : Lib.parseIntB 64 s.data.toList
  · rename_i v
    obtain ⟨hv1, hv2⟩ := parse_ok hp
    have HP : Hid (∀ m : Nat, isNum s m → v = m) := fun m h1 => by
      rw [isNum_list h1, parse_back h1.1] at hp
      injection hp with hp; exact hp.symm
    have HK := Lib.hid (fun w => Tryz.strconv_ParseInt_10_at64_ok s (by omega) v hp w)
    clear hp
    cases hq : ((decI v).toList == s.toList)
    · have HQ : Hid (∀ m : Nat, ¬ isNum s m) := fun m h1 => by
        have := HP.out m h1
        subst this
        have : decI (m : Int) = s := by rw [decI_nat]; exact h1.2.symm
        rw [ba_toList_eq.2 this] at hq; cases hq
      go_enter Tryz.func90, Tryz.ntmps90
      go_wp2_with fail
      refine (HK.out w).mono ?_
      rintro e w1 ⟨rfl, hw⟩
      have hb1 : Below w.heap.size w w1 := by
        rcases hw with rfl | ⟨t, rfl⟩
        · exact Below.refl _ _
        · exact Lib.bytesWorld_below _ _ _
      clear hw
      go_wp2_with fail
      refine (decimalI_c v hv1 hv2 w1 (HT.out.below hb1)).mono ?_
      rintro e w2 ⟨rfl, hb2⟩
      go_wp2
      go_ret2
      exact decX_bad (bt hb1 hb2) HQ.out
    · have HQ : Hid (s = decI v) := (ba_toList_eq.1 hq).symm
      go_enter Tryz.func90, Tryz.ntmps90
      go_wp2_with fail
      refine (HK.out w).mono ?_
      rintro e w1 ⟨rfl, hw⟩
      have hb1 : Below w.heap.size w w1 := by
        rcases hw with rfl | ⟨t, rfl⟩
        · exact Below.refl _ _
        · exact Lib.bytesWorld_below _ _ _
      clear hw
      go_wp2_with fail
      refine (decimalI_c v hv1 hv2 w1 (HT.out.below hb1)).mono ?_
      rintro e w2 ⟨rfl, hb2⟩
      go_wp2
      go_ret2
      exact ⟨v, true, rfl, ⟨hv1, hv2⟩, fun _ => HQ.out, fun m h1 => ⟨rfl, HP.out m h1⟩, bt hb1 hb2⟩
  · have HQ : Hid (∀ m : Nat, ¬ isNum s m) := fun m h1 => by
      rw [isNum_list h1, parse_back h1.1] at hp; cases hp
    have HK := Lib.hid (Any.strconv_ParseInt_10_at64_syntax Tryz.laysC174 s (by omega) hp _ w f1 (.inr ⟨t1, p1, rfl⟩))
    clear hp
    go_enter Tryz.func90, Tryz.ntmps90
    go_wp2_with fail
    refine HK.out.mono ?_
    rintro e w1 ⟨N, rfl, _, _, hb1⟩
    go_wp2
    go_ret2
    exact decX_bad hb1 HQ.out
  · have HQ : Hid (∀ m : Nat, ¬ isNum s m) := fun m h1 => by
      rw [isNum_list h1, parse_back h1.1] at hp; cases hp
    have HK := Lib.hid (Any.strconv_ParseInt_10_at64_range Tryz.laysC174 s (by omega) hp _ w f2 (.inr ⟨t2, p2, rfl⟩))
    clear hp
    go_enter Tryz.func90, Tryz.ntmps90
    go_wp2_with fail
    refine HK.out.mono ?_
    rintro e w1 ⟨N, rfl, _, _, hb1⟩
    go_wp2
    go_ret2
    exact decX_bad hb1 HQ.out
theorem few_x (n m : Int) (b : Bool) (w : World) (h : decide (n ≤ m) = b) : Calls Tryz.prog 61 #[.int .i64 n, .int .i64 m] w fun e w' => e = .returned (.bool b) ∧ w = w' := by
  subst h
  go_enter Tryz.func61, Tryz.ntmps61
  go_wp2
  go_ret
  exact ⟨rfl, rfl⟩
def NumX (s : ByteArray) (w : World) (e : Ending) (w' : World) : Prop :=
  ∃ (n : Int) (b : Bool), e = .returned (.tuple #[.int .i64 n, .bool b]) ∧ (-9223372036854775808 ≤ n ∧ n ≤ 9223372036854775807) ∧ (b = true → ∃ m : Nat, n = m ∧ isNum s m) ∧ (b = false → ∀ m, ¬ isNum s m) ∧ Below w.heap.size w w'
set_option maxHeartbeats 1000000 in
theorem readNumber_c (s : ByteArray) (w : World) (hs : s.size ≤ 2000000) (hE : JEnv w) : Calls Tryz.prog 68 #[.string s] w (NumX s w) := by
  have HC := Lib.hid (readDecimal_x s w hs hE)
  go_enter Tryz.func68, Tryz.ntmps68
  go_wp2_with fail
  refine HC.out.mono ?_
  rintro e w1 ⟨n, b, rfl, hn, hb1, hb2, hbel⟩
  have H1 := Lib.hid hb1; have H2 := Lib.hid hb2
  clear hb1 hb2 HC
  cases b
  · go_wp2
    go_ret2
    exact ⟨n, false, rfl, hn, fun h => (by cases h), fun _ m hm => (by have := (H2.out m hm).1; cases this), hbel⟩
  · by_cases h0 : 0 ≤ n
    · by_cases h13 : (s.size : Int) ≤ 13
      · go_wp2_with (first | (go_at_call 61; refine (few_x _ _ true _ (by simpa using h13)).mono ?_; rintro e w' ⟨rfl, rfl⟩))
        go_ret2
        obtain ⟨m, rfl⟩ := Int.eq_ofNat_of_zero_le h0
        refine ⟨(m : Int), true, rfl, hn, fun _ => ⟨m, rfl, ?_⟩, fun h => (by cases h), hbel⟩
        have hs2 := H1.out (by first | rfl | trivial)
        rw [decI_nat] at hs2
        rw [hs2]
        exact isNum_of (by rw [← hs2]; omega)
      · go_wp2_with (first | (go_at_call 61; refine (few_x _ _ false _ (by simpa using h13)).mono ?_; rintro e w' ⟨rfl, rfl⟩))
        go_ret2
        exact ⟨n, false, rfl, hn, fun h => (by cases h), fun _ m hm => (by have := isNum_size hm; omega), hbel⟩
    · go_wp2
      go_ret2
      exact ⟨n, false, rfl, hn, fun h => (by cases h), fun _ m hm => (by have := (H2.out m hm).2; omega), hbel⟩
end Go.Proofs.YtiamignopfhkfaaGreatDoor
end
