/- Contract: l34Parse, with the command's words and numbers. -/
import Derived.Test.YtiamignopfhkfaaGreatDoorZ11
import Derived.Test.YtiamignopfhkfaaGreatDoorZ18
namespace Go.Proofs.YtiamignopfhkfaaGreatDoor
open Go.RowKit
set_option linter.unusedVariables false
def ParseX (s : ByteArray) (w : World) (e : Ending) (w' : World) : Prop :=
  ∃ v1 v2, e = .returned (.tuple #[v1, v2, .bool (lineB s)]) ∧ Below w.heap.size w w' ∧ (lineB s = true → ∃ A c A2 c2 m, cmOf s = some m ∧ v1 = .slice A (wordsB s).length c ∧ (wordsB s).length ≤ c ∧ 0 < (wordsB s).length ∧ Rd w' w'.heap.size A (wordsB s).length ((wordsB s).map Value.string) ∧
    v2 = .slice A2 (numsC m).length c2 ∧ (numsC m).length ≤ c2 ∧ Rd w' w'.heap.size A2 (numsC m).length ((numsC m).map (Value.int .i64)) ∧ CmB m ∧ (wordsB s).getD 0 default = wordC m ∧ (∀ t a b, m = .fil t a b → (wordsB s).getD 1 default = t ∧ 1 < (wordsB s).length))
theorem parseX_no {s : ByteArray} {w w' : World} {v1 v2 : Value} (h : lineB s = false) (hb : Below w.heap.size w w') : ParseX s w (.returned (.tuple #[v1, v2, .bool false])) w' :=
  ⟨v1, v2, by rw [h], hb, fun hh => by rw [h] at hh; cases hh⟩
theorem parseX_mk {s : ByteArray} {w w' : World} {D : List ByteArray} {k : ByteArray} {A A2 : Option Addr} {c c2 base : Nat} {N : List Int} (hD : D = wordsB s) (hDp : 0 < D.length) (hk : kindS D[0] = some k) (hl : D.length = k.size + 1) (hok : lineB s = true) (hN : N = numsK k D k.size)
    (hR : Rd w' w'.heap.size A D.length (D.map Value.string)) (hc : D.length ≤ c) (ho : w'.ownsRow base 2 1 (.slice A2 N.length c2) N.length (N.map (Value.int .i64))) (hb : Below w.heap.size w w') : ParseX s w (.returned (.tuple #[.slice A D.length c, .slice A2 N.length c2, .bool (lineB s)])) w' := by
  subst hD
  obtain ⟨k2, m, h1, h2, h3, h4, h5, h6, h7, h8⟩ := cmOf_yes hok
  have e : k2 = k := by
    rw [getD_at hDp] at h1
    rw [h1] at hk
    injection hk
  subst e
  rw [← hN] at h6
  subst h6
  exact ⟨_, _, rfl, hb, fun _ => ⟨A, c, A2, c2, m, h3, rfl, hc, hDp, hR, rfl, (own_cap ho).1, Rd.of_own1 ho, h7, h4, h8⟩⟩
attribute [local go_sem ↓ high] run_index_of
set_option maxRecDepth 100000 in
set_option maxHeartbeats 4000000 in
theorem l34Parse_v (s : ByteArray) (w : World) (hs : s.size ≤ 2000000) : Calls Tryz.prog 40 #[.string s] w (ParseX s w) := by
  obtain ⟨i0, hi, hz0, hz1, hz2⟩ := info_parts int_info
  go_enter Tryz.func40, Tryz.ntmps40
  go_wp2_with fail
  refine (l01Split_c s w hs).mono ?_
  rintro e w1 ⟨A, c, D, rfl, hD, ho, hb1⟩
  have hDp : 0 < D.length := by rw [hD]; exact words_pos s
  have HDS := Lib.hid (show ∀ x ∈ D, x.size ≤ 2000000 from fun x hx => by have := words_sz s x (hD ▸ hx); omega)
  have HDW := Lib.hid hD
  have hcap := own_cap ho
  have HR := Lib.hid (Rd.of_own1 ho)
  clear ho hD
  obtain ⟨b, off, rfl, hbB, hcl⟩ := Rd.strs HR.out hDp
  have HCL := Lib.hid hcl
  have c0 := hcl 0 hDp
  simp only [Nat.add_zero] at c0
  clear hcl
  have hDi : (0 : Int) < (D.length : Int) := by omega
  obtain ⟨x0, hx0⟩ : ∃ x, D[0] = x := ⟨_, rfl⟩
  rw [hx0] at c0
  have HX0 := Lib.hid hx0
  clear hx0
  go_wp2_with fail
  refine (l34Kind_c x0 w1).mono ?_
  rintro e w' ⟨rfl, rfl⟩
  cases hk : kindS x0 with
  | none =>
    have HN := Lib.hid (line_none HDW.out hDp (by rw [HX0.out]; exact hk))
    clear hk
    simp only [Option.getD_none]
    go_wp2
    go_ret3
    exact parseX_no HN.out hb1
  | some k =>
    have HK := Lib.hid (show kindS D[0] = some k by rw [HX0.out]; exact hk)
    obtain ⟨hk4, hkb, hkne⟩ := kind_fact hk
    have hkn := str_ne (l := [45]) hkne
    have HKB := Lib.hid hkb
    clear hk hkb hkne
    simp only [Option.getD_some]
    have hw1 : IntKind.i64.wrap ((k.size : Int) + 1) = (k.size : Int) + 1 := IntWalk.i64_in _ (by omega)
    by_cases hl : D.length = k.size + 1
    · have hlb : ((D.length : Int) != (k.size : Int) + 1) = false := by simp; omega
      have HL := Lib.hid hl
      have hle : k.size + 1 ≤ D.length := by omega
      clear hl
      go_wp2_with fail
      have ho := World.ownsRow_lit (base := w1.heap.size) (e := 2) (size := 1) w1 #[] 0 (Nat.le_refl _) (by unfold maxLen; omega) rfl
      generalize hW2 : w1.alloc (.cells #[] 2) = W2 at ho ⊢
      have hb2 : Below w1.heap.size w1 W2 := by subst hW2; exact (Below.refl _ _).alloc (Nat.le_refl _) _
      have HO := Lib.hid ho
      clear hW2 ho
      go_wp2
      go_loopw [7, 8] (fun ov iv wr => ∃ (i : Nat) (A2 : Option Addr) (c2 : Nat) (N : List Int), ov = .slice A2 N.length c2 ∧ iv = .int .i64 i ∧ i ≤ k.size ∧ N.length ≤ i ∧ Hid (∀ j, j < i → byteOf k j = 73 → ∃ n, isNum (D.getD (j + 1) default) n) ∧ Hid (wr.ownsRow w1.heap.size 2 1 (.slice A2 N.length c2) N.length (N.map (Value.int .i64))) ∧ Below w1.heap.size w1 wr ∧ Hid (N = numsK k D i))
        (fun _ iv _ => k.size - (intOf iv).toNat)
      case atStart => exact ⟨0, _, _, [], rfl, rfl, by omega, by simp, Lib.hid (fun j hj => by omega), HO, hb2, rfl⟩
      case round =>
        obtain ⟨i, A2, c2, N, rfl, rfl, hik, hNi, HI, HOr, hB, HNK⟩ := hrel
        clear HO hb2
        have hzr := hB.size
        by_cases hlt : i < k.size
        · have hii : (i : Int) < (k.size : Int) := by omega
          by_cases hI : byteOf k i = 73
          · have hi1 : i + 1 < D.length := by omega
            have hwi : IntKind.i64.wrap ((i : Int) + 1) = ((i + 1 : Nat) : Int) := by rw [IntWalk.i64_in _ (by omega)]; rfl
            have hiD : ((i + 1 : Nat) : Int) < (D.length : Int) := by omega
            have hi0 : (0 : Int) ≤ ((i + 1 : Nat) : Int) := by omega
            have c1 : wr.cell? ⟨b, off + (i + 1), none⟩ = some (.string D[i + 1]) := (hB.cell (by exact hbB)).trans (HCL.out (i + 1) hi1)
            have hxs := HDS.out _ (List.getElem_mem hi1)
            have HNO := Lib.hid (fun hn => line_num HDW.out hDp HK.out hlt hI hi1 hn)
            have HYES := Lib.hid (fun (n : Nat) (hn : isNum D[i + 1] n) => num_step HI (fun _ => ⟨n, by rw [getD_at hi1]; exact hn⟩))
            have HNY := Lib.hid (fun (n : Nat) (hn : isNum D[i + 1] n) => (show N ++ [(n : Int)] = numsK k D (i + 1) from by rw [numsK, if_pos hI, ← HNK.out, getD_at hi1, numOf_eq hn]))
            generalize D[i + 1] = x1 at *
            generalize hm : i + 1 = i2 at *
            have HM := Lib.hid hm
            clear hm
            go_wp2_with fail
            refine (l01Value_c x1 wr hxs).mono ?_
            rintro e w2 ⟨n, bb, rfl, hn, h1, h2, hb2⟩
            have HB2 := Lib.hid (bt hB hb2)
            have HO2 := Lib.hid (own_below HOr.out hb2)
            have hz2b := hb2.size
            cases bb
            · have HN := Lib.hid (HNO.out (h2 rfl))
              clear h1 h2
              go_wp2
              go_ret3
              exact parseX_no HN.out (bt hb1 HB2.out)
            · have HN := Lib.hid (HYES.out n (h1 rfl))
              have HNZ := Lib.hid (HNY.out n (h1 rfl))
              clear h1 h2 hb2
              go_wp2_with (first | (at_builtin; refine wpList_push w2 rfl _ _ 30 rfl w1.heap.size 2 i0 _ 1 8 Tryz.underlying30 hi hz0 hz1 hz2 rfl (by decide) (.slice A2 N.length c2) (N.length) (N.map (Value.int .i64)) (by rfl) HO2.out [.int .i64 n] 2 (by rfl) rfl (by simp [Value.oneCell']) (by unfold maxLen; omega) (by omega) (by omega) ?_; intro A7 c7 w7 ho7 hg7; have HO7 := Lib.hid (own_snocI (y := n) ho7); have hb7 := below_grown HB2.out hg7 (Nat.le_refl _) (fun k hk => HO2.out.lt k hk |>.1); clear ho7 hg7))
              go_roundw
              case rel =>
                have e := HM.out
                exact ⟨i2, A7, c7, N ++ [(n : Int)], by simp, by first | rfl | (rw [← e]; done) | (rw [← e]; go_num), by omega, by simp; omega, HN.out, HO7, hb7, HNZ⟩
              case measure => have e := HM.out; first | (simp [intOf]; done) | (simp [intOf]; omega)
          · have hIb : (byteOf k i == 73) = false := beq_eq_false_iff_ne.2 hI
            go_wp2
            go_roundw
            case rel => exact ⟨i + 1, A2, c2, N, rfl, by go_num, by omega, by omega, num_step HI (fun h => absurd h hI), HOr, hB, Lib.hid (by rw [numsK, if_neg hI]; exact HNK.out)⟩
            case measure => first | (simp [intOf]; done) | (simp [intOf]; omega)
        · obtain rfl : i = k.size := by omega
          have HN := Lib.hid (line_true HDW.out hDp HK.out HL.out HI.out)
          go_wp2
          go_ret3
          rw [← HN.out]
          exact parseX_mk HDW.out hDp HK.out HL.out HN.out HNK.out (rdW hB HR.out) (by omega) HOr.out (bt hb1 hB)
    · have hlb : ((D.length : Int) != (k.size : Int) + 1) = true := by simp; omega
      have HN := Lib.hid (line_len HDW.out hDp HK.out hl)
      clear hl
      go_wp2
      go_ret3
      exact parseX_no HN.out hb1
end Go.Proofs.YtiamignopfhkfaaGreatDoor
