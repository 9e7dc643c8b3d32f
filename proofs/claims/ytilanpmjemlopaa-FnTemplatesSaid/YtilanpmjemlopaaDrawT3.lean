/- Contracts: DrawPlacesOf, DrawMissingOf, DrawFillTemplate; likeTexts, hasText. -/
import Derived.Test.YtilanpmjemlopaaDrawT2
import Derived.Test.YtilanpmjemlopaaFrom
import Derived.Test.YtilanpmjemlopaaStrs
import Derived.Test.YtilanpmjemlopaaVal2
namespace Go.Proofs.Ytilanpmjemlopaa
open Go.RowKit
set_option linter.unusedVariables false
theorem below_src {w w1 w2 : World} (h : Below w.heap.size w w1) (hg : w1.grownBy w2 (some w.heap.size)) : Below w.heap.size w w2 := below_grown h hg (Nat.le_refl _) (fun g h => by injection h with h; omega)
def TplQ (w : World) (e : Ending) (w' : World) : Prop := ∃ t : ByteArray, e = .returned (.string t) ∧ t.size ≤ 700 ∧ Below w.heap.size w w'
set_option maxRecDepth 100000 in
theorem DrawPlacesOf_c (A : Option Addr) (c : Nat) (L : List Int) (w : World) (hr : Rd w w.heap.size A L.length (L.map (Value.int .u8))) (hx : ∀ x ∈ L, 0 ≤ x ∧ x ≤ 255) (hL : L.length ≤ 4096) (hc : L.length ≤ c) : Calls Try.prog 18 #[.slice A L.length c] w (TplQ w) := by
  go_enter Try.func18, Try.ntmps18
  go_wp2_with fail
  refine (l01From_c A c L w hr hx hL hc).mono ?_
  rintro e w1 ⟨rfl, hS, hb1⟩
  have HS1 := Lib.hid hS
  have HB1 := Lib.hid hb1
  clear hr hx hS hb1
  go_wp2_with fail
  refine (l28Draw_c _ _ w1 HS1.out).mono ?_
  rintro e w2 ⟨t, rfl, ht, hq, hg⟩
  have HB2 := Lib.hid (below_src HB1.out hg)
  clear hq hg
  go_wp2
  go_ret
  exact ⟨t, rfl, ht, HB2.out⟩
def MissQ (w : World) (e : Ending) (w' : World) : Prop := ∃ (t : ByteArray) (A : Option Addr) (c : Nat) (D : List ValueD), e = .returned (.tuple #[.string t, .slice A D.length c]) ∧ t.size ≤ 700 ∧ D.length ≤ 20 ∧ GoodV D ∧ w'.ownsRow w.heap.size 50 2 (.slice A D.length c) D.length (D.flatMap valueC) ∧ Below w.heap.size w w'
set_option maxRecDepth 100000 in
theorem DrawMissingOf_c (A : Option Addr) (c : Nat) (L : List Int) (w : World) (hr : Rd w w.heap.size A L.length (L.map (Value.int .u8))) (hx : ∀ x ∈ L, 0 ≤ x ∧ x ≤ 255) (hL : L.length ≤ 4096) (hc : L.length ≤ c) : Calls Try.prog 35 #[.slice A L.length c] w (MissQ w) := by
  go_enter Try.func35, Try.ntmps35
  go_wp2_with fail
  refine (l01From_c A c L w hr hx hL hc).mono ?_
  rintro e w1 ⟨rfl, hS, hb1⟩
  have HS1 := Lib.hid hS
  have HB1 := Lib.hid hb1
  clear hr hx hS hb1
  go_wp2_with fail
  refine (l28Draw_c _ _ w1 HS1.out).mono ?_
  rintro e w2 ⟨t, rfl, ht, hq, hg⟩
  have HB2 := Lib.hid (below_src HB1.out hg)
  have HS2 := Lib.hid hq
  clear hq hg
  go_wp2_with fail
  refine (l28Values_c _ _ w2 HS2.out).mono ?_
  rintro e w3 ⟨A3, c3, D, rfl, ho, hl, hG, hq, hg⟩
  have HO3 := Lib.hid ho
  have HG3 := Lib.hid hG
  have HB3 := Lib.hid (below_src HB2.out hg)
  have hz2 := HB2.out.size
  clear hq hg ho hG
  go_wp2
  go_ret2
  exact ⟨t, A3, c3, D, rfl, ht, hl, HG3.out, own_mono HO3.out hz2, HB3.out⟩
set_option maxRecDepth 100000 in
theorem DrawFillTemplate_c (A : Option Addr) (c : Nat) (L : List Int) (w : World) (hr : Rd w w.heap.size A L.length (L.map (Value.int .u8))) (hx : ∀ x ∈ L, 0 ≤ x ∧ x ≤ 255) (hL : L.length ≤ 4096) (hc : L.length ≤ c) : Calls Try.prog 15 #[.slice A L.length c] w (MissQ w) := by
  have H := Lib.hid (DrawMissingOf_c A c L w hr hx hL hc)
  clear hr hx
  go_enter Try.func15, Try.ntmps15
  go_wp2_with fail
  refine H.out.mono ?_
  rintro e w3 ⟨t, A3, c3, D, rfl, ht, hl, hG, ho, hb⟩
  have HO3 := Lib.hid ho
  have HG3 := Lib.hid hG
  have HB3 := Lib.hid hb
  clear hb ho hG
  go_wp2
  go_ret2
  exact ⟨t, A3, c3, D, rfl, ht, hl, HG3.out, HO3.out, HB3.out⟩
set_option maxRecDepth 100000 in
set_option maxHeartbeats 4000000 in
theorem likeTexts_c (A A' : Option Addr) (n c c' : Nat) (L : List ByteArray) (w : World) (hn : L.length = n) (hr : Rd w w.heap.size A n (L.map Value.string)) (hr' : Rd w w.heap.size A' n (L.map Value.string)) (hl : n ≤ 140737488355328) :
    Calls Try.prog 23 #[.slice A n c, .slice A' n c'] w fun e w' => e = .returned (.bool true) ∧ Below w.heap.size w w' := by
  subst hn
  go_enter Try.func23, Try.ntmps23
  go_wp2
  go_loopw [5] (fun i wr => ∃ k : Nat, k ≤ L.length ∧ i = .int .i64 k ∧ Below w.heap.size w wr) (fun i _ => L.length - (intOf i).toNat)
  case atStart => exact ⟨0, by omega, rfl, Below.refl _ _⟩
  case round =>
    obtain ⟨k, hk, rfl, hB⟩ := hrel
    by_cases hlt : k < L.length
    · obtain ⟨b, off, rfl, hb, hc⟩ := Rd.strs hr hlt
      obtain ⟨b', off', rfl, hb', hc'⟩ := Rd.strs hr' hlt
      have hf0 : wr.cell? ⟨b, off + k, none⟩ = some (.string L[k]) := by rw [hB.cell (by exact hb)]; exact hc k hlt
      have hg0 : wr.cell? ⟨b', off' + k, none⟩ = some (.string L[k]) := by rw [hB.cell (by exact hb')]; exact hc' k hlt
      clear hc hc'
      generalize L[k] = a0 at *
      have hk0 : (0 : Int) ≤ (k : Int) := by omega
      have hk1 : (k : Int) < (L.length : Int) := by omega
      have kf0 := cell_regrown hf0; have kg0 := cell_regrown hg0
      go_wp2_with fail
      refine wp_region_bel mixed (by kernel_rfl) ?_
      repeat (go_big_quiet_step (fail))
      refine wpQuiet_nil ?_
      intro w1 hw1
      have hB2 := bt hB hw1
      go_wp2
      go_roundw
      case rel => exact ⟨k + 1, by omega, by go_num, hB2⟩
      case measure => first | (simp [intOf]; done) | (simp [intOf]; omega)
    · obtain rfl : k = L.length := by omega
      go_wp2
      go_ret
      exact ⟨rfl, hB⟩
set_option maxRecDepth 100000 in
set_option maxHeartbeats 4000000 in
theorem hasText_c (A : Option Addr) (n c : Nat) (L : List ByteArray) (x : ByteArray) (w : World) (hn : L.length = n) (hr : Rd w w.heap.size A n (L.map Value.string)) (hl : n ≤ 140737488355328) (hx : x ∈ L) :
    Calls Try.prog 25 #[.slice A n c, .string x] w fun e w' => e = .returned (.bool true) ∧ Below w.heap.size w w' := by
  subst hn
  have HX := Lib.hid hx
  clear hx
  go_enter Try.func25, Try.ntmps25
  go_wp2
  go_loopw [5] (fun i wr => ∃ k : Nat, k ≤ L.length ∧ i = .int .i64 k ∧ Hid (∀ j (hj : j < L.length), j < k → L[j] ≠ x) ∧ Below w.heap.size w wr) (fun i _ => L.length - (intOf i).toNat)
  case atStart => exact ⟨0, by omega, rfl, fun j hj h => by omega, Below.refl _ _⟩
  case round =>
    obtain ⟨k, hk, rfl, HT, hB⟩ := hrel
    by_cases hlt : k < L.length
    · obtain ⟨b, off, rfl, hb, hc⟩ := Rd.strs hr hlt
      have hf0 : wr.cell? ⟨b, off + k, none⟩ = some (.string L[k]) := by rw [hB.cell (by exact hb)]; exact hc k hlt
      clear hc
      have hk0 : (0 : Int) ≤ (k : Int) := by omega
      have hk1 : (k : Int) < (L.length : Int) := by omega
      by_cases he : L[k] = x
      · rw [he] at hf0
        have hxe : (x.toList == x.toList) = true := by simp
        go_wp2
        go_ret
        exact ⟨rfl, hB⟩
      · have HN : Hid (∀ j (hj : j < L.length), j < k + 1 → L[j] ≠ x) := fun j hj h => by
          by_cases e : j = k
          · subst e; exact he
          · exact HT.out j hj (by omega)
        have hxe := nameNe he
        generalize L[k] = y at *
        clear he
        go_wp2
        go_roundw
        case rel => exact ⟨k + 1, by omega, by go_num, HN, hB⟩
        case measure => first | (simp [intOf]; done) | (simp [intOf]; omega)
    · exfalso
      obtain rfl : k = L.length := by omega
      obtain ⟨i, hi, e⟩ := List.getElem_of_mem HX.out
      exact HT.out i hi hi e
end Go.Proofs.Ytilanpmjemlopaa
