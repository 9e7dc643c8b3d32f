/- Contracts: l34Parse (does it take the line), IsConsoleLine of the reference. -/
import Derived.Test.YtjfohggompnkeaaDoorConS
import Derived.Test.YtjfohggompnkeaaDoorConK
import Derived.Test.YtjfohggompnkeaaDoorConVal
import Derived.Test.YtjfohggompnkeaaDoorInts
namespace Go.Proofs.YtjfohggompnkeaaDoor
open Go.RowKit
set_option linter.unusedVariables false
theorem Rd.strs {w : World} {B : Nat} {A : Option Addr} {L : List ByteArray} (h : Rd w B A L.length (L.map Value.string)) {k : Nat} (hk : k < L.length) :
    ∃ b off, A = some ⟨b, off, none⟩ ∧ b < B ∧ ∀ j (hj : j < L.length), w.cell? ⟨b, off + j, none⟩ = some (.string L[j]) := by
  obtain ⟨b, off, e, hb, hc⟩ := h.2 (by omega)
  exact ⟨b, off, e, hb, fun j hj => hc j _ (by simp [hj])⟩
theorem run_index_of {P : Program} (w : World) (t : TypeId) (s : ByteArray) (d : Nat) (h : P.underlying t = some .string) (hd : d < s.size) :
    (Instr.index t (.string s) (.int .i64 (d : Int))).run P w = .ok (.int .u8 (byteOf s d)) w := by
  rw [run_index_string (w := w) t s _ _ h, dif_pos ⟨by omega, by omega⟩]
  unfold byteOf
  rw [List.getD_eq_getElem?_getD, List.getElem?_eq_getElem (by simpa using hd)]
  rfl
theorem ite_some {c : Prop} [Decidable c] {a k : ByteArray} {r : Option ByteArray} (h : (if c then some a else r) = some k) : a = k ∨ r = some k := by
  by_cases hc : c
  · rw [if_pos hc] at h; exact .inl (Option.some.inj h)
  · rw [if_neg hc] at h; exact .inr h
theorem kind_fact {w k : ByteArray} (h : kindS w = some k) : k.size ≤ 4 ∧ (∀ i, i < k.size → byteOf k i = 73 ∨ byteOf k i = 84) ∧ ¬ k = ⟨#[45]⟩ := by
  unfold kindS at h
  iterate 13
    rcases ite_some h with e | h
    · subst e
      exact ⟨by decide, by decide, by decide⟩
  cases h
theorem line_true {s k : ByteArray} {D : List ByteArray} (hD : D = wordsB s) (h0 : 0 < D.length) (hk : kindS D[0] = some k) (hl : D.length = k.size + 1) (h : ∀ j, j < k.size → byteOf k j = 73 → ∃ n, isNum (D.getD (j + 1) default) n) : lineB s = true := by
  subst hD
  refine lineB_true ⟨k, ?_, hl, h⟩
  rw [List.getD_eq_getElem?_getD, List.getElem?_eq_getElem h0]; exact hk
theorem line_parts {s : ByteArray} {D : List ByteArray} (hD : D = wordsB s) (h0 : 0 < D.length) (h : LineOk s) : ∃ k, kindS D[0] = some k ∧ D.length = k.size + 1 ∧ ∀ j, j < k.size → byteOf k j = 73 → ∃ n, isNum (D.getD (j + 1) default) n := by
  subst hD
  obtain ⟨k, h1, h2, h3⟩ := h
  refine ⟨k, ?_, h2, h3⟩
  rw [List.getD_eq_getElem?_getD, List.getElem?_eq_getElem h0] at h1; exact h1
theorem line_none {s : ByteArray} {D : List ByteArray} (hD : D = wordsB s) (h0 : 0 < D.length) (hk : kindS D[0] = none) : lineB s = false := lineB_false (fun h => by
  obtain ⟨k, h1, _⟩ := line_parts hD h0 h
  rw [hk] at h1; cases h1)
theorem line_len {s k : ByteArray} {D : List ByteArray} (hD : D = wordsB s) (h0 : 0 < D.length) (hk : kindS D[0] = some k) (hl : ¬ D.length = k.size + 1) : lineB s = false := lineB_false (fun h => by
  obtain ⟨k2, h1, h2, _⟩ := line_parts hD h0 h
  rw [hk] at h1; cases h1; exact hl h2)
theorem line_num {s k : ByteArray} {D : List ByteArray} (hD : D = wordsB s) (h0 : 0 < D.length) (hk : kindS D[0] = some k) {j : Nat} (hj : j < k.size) (h73 : byteOf k j = 73) (hj2 : j + 1 < D.length) (hn : ∀ m, ¬ isNum D[j + 1] m) : lineB s = false := lineB_false (fun h => by
  obtain ⟨k2, h1, h2, h3⟩ := line_parts hD h0 h
  rw [hk] at h1; cases h1
  obtain ⟨n, hn2⟩ := h3 j hj h73
  rw [List.getD_eq_getElem?_getD, List.getElem?_eq_getElem hj2] at hn2
  exact hn n hn2)
theorem num_step {k : ByteArray} {D : List ByteArray} {i : Nat} (H : Hid (∀ j, j < i → byteOf k j = 73 → ∃ n, isNum (D.getD (j + 1) default) n)) (h : byteOf k i = 73 → ∃ n, isNum (D.getD (i + 1) default) n) : Hid (∀ j, j < i + 1 → byteOf k j = 73 → ∃ n, isNum (D.getD (j + 1) default) n) := fun j hj h73 => by
  by_cases e : j = i
  · subst e; exact h h73
  · exact H.out j (by omega) h73
theorem getD_at {D : List ByteArray} {j : Nat} (h : j < D.length) : D.getD j default = D[j] := by rw [List.getD_eq_getElem?_getD, List.getElem?_eq_getElem h]; rfl
theorem own_snocI {W : World} {b : Nat} {A : Option Addr} {c : Nat} {D : List Int} {y : Int} (h : W.ownsRow b 2 1 (.slice A (D.length + 1) c) (D.length + 1) (D.map (Value.int .i64) ++ [.int .i64 y])) : W.ownsRow b 2 1 (.slice A (D ++ [y]).length c) (D ++ [y]).length ((D ++ [y]).map (Value.int .i64)) := by
  rw [List.length_append, List.map_append]; exact h
attribute [local go_sem ↓ high] run_index_of
set_option maxRecDepth 100000 in
set_option maxHeartbeats 4000000 in
theorem l34Parse_c (s : ByteArray) (w : World) (hs : s.size ≤ 2000000) : Calls Tryd.prog 6 #[.string s] w fun e w' => ∃ v1 v2, e = .returned (.tuple #[v1, v2, .bool (lineB s)]) ∧ Below w.heap.size w w' := by
  obtain ⟨i0, hi, hz0, hz1, hz2⟩ := info_parts int_info
  go_enter Tryd.func6, Tryd.ntmps6
  go_wp2_with fail
  refine (l01Split_c s w hs).mono ?_
  rintro e w1 ⟨A, c, D, rfl, hD, ho, hb1⟩
  have hDp : 0 < D.length := by rw [hD]; exact words_pos s
  have HDS := Lib.hid (show ∀ x ∈ D, x.size ≤ 2000000 from fun x hx => by have := words_sz s x (hD ▸ hx); omega)
  have HDW := Lib.hid hD
  have hcap := own_cap ho
  have HR := Lib.hid (Rd.of_own1 ho)
  clear ho hD
  obtain ⟨b, off, rfl, hbB, hcl⟩ := Rd.strs HR.out hDp
  have HCL := Lib.hid hcl
  have c0 := hcl 0 hDp
  simp only [Nat.add_zero] at c0
  clear hcl
  have hDi : (0 : Int) < (D.length : Int) := by omega
  obtain ⟨x0, hx0⟩ : ∃ x, D[0] = x := ⟨_, rfl⟩
  rw [hx0] at c0
  have HX0 := Lib.hid hx0
  clear hx0
  go_wp2_with fail
  refine (l34Kind_c x0 w1).mono ?_
  rintro e w' ⟨rfl, rfl⟩
  cases hk : kindS x0 with
  | none =>
    have HN := Lib.hid (line_none HDW.out hDp (by rw [HX0.out]; exact hk))
    clear hk
    simp only [Option.getD_none]
    go_wp2
    go_ret3
    exact ⟨_, _, by rw [HN.out]; rfl, hb1⟩
  | some k =>
    have HK := Lib.hid (show kindS D[0] = some k by rw [HX0.out]; exact hk)
    obtain ⟨hk4, hkb, hkne⟩ := kind_fact hk
    have hkn := str_ne (l := [45]) hkne
    have HKB := Lib.hid hkb
    clear hk hkb hkne
    simp only [Option.getD_some]
    have hw1 : IntKind.i64.wrap ((k.size : Int) + 1) = (k.size : Int) + 1 := IntWalk.i64_in _ (by omega)
    by_cases hl : D.length = k.size + 1
    · have hlb : ((D.length : Int) != (k.size : Int) + 1) = false := by simp; omega
      have HL := Lib.hid hl
      have hle : k.size + 1 ≤ D.length := by omega
      clear hl
      go_wp2_with fail
      have ho := World.ownsRow_lit (base := w1.heap.size) (e := 2) (size := 1) w1 #[] 0 (Nat.le_refl _) (by unfold maxLen; omega) rfl
      generalize hW2 : w1.alloc (.cells #[] 2) = W2 at ho ⊢
      have hb2 : Below w1.heap.size w1 W2 := by subst hW2; exact (Below.refl _ _).alloc (Nat.le_refl _) _
      have HO := Lib.hid ho
      clear hW2 ho
      go_wp2
      go_loopw [7, 8] (fun ov iv wr => ∃ (i : Nat) (A2 : Option Addr) (c2 : Nat) (N : List Int), ov = .slice A2 N.length c2 ∧ iv = .int .i64 i ∧ i ≤ k.size ∧ N.length ≤ i ∧ Hid (∀ j, j < i → byteOf k j = 73 → ∃ n, isNum (D.getD (j + 1) default) n) ∧ Hid (wr.ownsRow w1.heap.size 2 1 (.slice A2 N.length c2) N.length (N.map (Value.int .i64))) ∧ Below w1.heap.size w1 wr)
        (fun _ iv _ => k.size - (intOf iv).toNat)
      case atStart => exact ⟨0, _, _, [], rfl, rfl, by omega, by simp, Lib.hid (fun j hj => by omega), HO, hb2⟩
      case round =>
        obtain ⟨i, A2, c2, N, rfl, rfl, hik, hNi, HI, HOr, hB⟩ := hrel
        clear HO hb2
        have hzr := hB.size
        by_cases hlt : i < k.size
        · have hii : (i : Int) < (k.size : Int) := by omega
          by_cases hI : byteOf k i = 73
          · have hi1 : i + 1 < D.length := by omega
            have hwi : IntKind.i64.wrap ((i : Int) + 1) = ((i + 1 : Nat) : Int) := by rw [IntWalk.i64_in _ (by omega)]; rfl
            have hiD : ((i + 1 : Nat) : Int) < (D.length : Int) := by omega
            have hi0 : (0 : Int) ≤ ((i + 1 : Nat) : Int) := by omega
            have c1 : wr.cell? ⟨b, off + (i + 1), none⟩ = some (.string D[i + 1]) := (hB.cell (by exact hbB)).trans (HCL.out (i + 1) hi1)
            have hxs := HDS.out _ (List.getElem_mem hi1)
            have HNO := Lib.hid (fun hn => line_num HDW.out hDp HK.out hlt hI hi1 hn)
            have HYES := Lib.hid (fun (n : Nat) (hn : isNum D[i + 1] n) => num_step HI (fun _ => ⟨n, by rw [getD_at hi1]; exact hn⟩))
            generalize D[i + 1] = x1 at *
            generalize hm : i + 1 = i2 at *
            have HM := Lib.hid hm
            clear hm
            go_wp2_with fail
            refine (l01Value_c x1 wr hxs).mono ?_
            rintro e w2 ⟨n, bb, rfl, hn, h1, h2, hb2⟩
            have HB2 := Lib.hid (bt hB hb2)
            have HO2 := Lib.hid (own_below HOr.out hb2)
            have hz2b := hb2.size
            cases bb
            · have HN := Lib.hid (HNO.out (h2 rfl))
              clear h1 h2
              go_wp2
              go_ret3
              exact ⟨_, _, by rw [HN.out]; rfl, bt hb1 HB2.out⟩
            · have HN := Lib.hid (HYES.out n (h1 rfl))
              clear h1 h2 hb2
              go_wp2_with (first | (at_builtin; refine wpList_push w2 rfl _ _ 24 rfl w1.heap.size 2 i0 _ 1 8 Tryd.underlying24 hi hz0 hz1 hz2 rfl (by decide) (.slice A2 N.length c2) (N.length) (N.map (Value.int .i64)) (by rfl) HO2.out [.int .i64 n] 2 (by rfl) rfl (by simp [Value.oneCell']) (by unfold maxLen; omega) (by omega) (by omega) ?_; intro A7 c7 w7 ho7 hg7; have HO7 := Lib.hid (own_snocI (y := n) ho7); have hb7 := below_grown HB2.out hg7 (Nat.le_refl _) (fun k hk => HO2.out.lt k hk |>.1); clear ho7 hg7))
              go_roundw
              case rel =>
                have e := HM.out
                exact ⟨i2, A7, c7, N ++ [(n : Int)], by simp, by first | rfl | (rw [← e]; done) | (rw [← e]; go_num), by omega, by simp; omega, HN.out, HO7, hb7⟩
              case measure => have e := HM.out; first | (simp [intOf]; done) | (simp [intOf]; omega)
          · have hIb : (byteOf k i == 73) = false := beq_eq_false_iff_ne.2 hI
            go_wp2
            go_roundw
            case rel => exact ⟨i + 1, A2, c2, N, rfl, by go_num, by omega, by omega, num_step HI (fun h => absurd h hI), HOr, hB⟩
            case measure => first | (simp [intOf]; done) | (simp [intOf]; omega)
        · obtain rfl : i = k.size := by omega
          have HN := Lib.hid (line_true HDW.out hDp HK.out HL.out HI.out)
          go_wp2
          go_ret3
          exact ⟨_, _, by rw [HN.out]; rfl, bt hb1 hB⟩
    · have hlb : ((D.length : Int) != (k.size : Int) + 1) = true := by simp; omega
      have HN := Lib.hid (line_len HDW.out hDp HK.out hl)
      clear hl
      go_wp2
      go_ret3
      exact ⟨_, _, by rw [HN.out]; rfl, hb1⟩
theorem spec_IsConsoleLine (s : ByteArray) (w : World) (hs : s.size ≤ 2000000) : Calls Tryd.prog 4 #[.string s] w fun e w' => e = .returned (.bool (lineB s)) ∧ Below w.heap.size w w' := by
  have HC := Lib.hid (l34Parse_c s w hs)
  generalize lineB s = b at *
  go_enter Tryd.func4, Tryd.ntmps4
  go_wp2_with fail
  refine HC.out.mono ?_
  rintro e w1 ⟨v1, v2, rfl, hb⟩
  go_wp2
  go_ret
  exact ⟨rfl, hb⟩
end Go.Proofs.YtjfohggompnkeaaDoor
