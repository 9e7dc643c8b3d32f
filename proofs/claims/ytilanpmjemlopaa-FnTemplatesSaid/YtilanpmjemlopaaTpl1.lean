/- Contracts: l28Until, l28Next: a text cut at a byte, at the first special byte. -/
import Derived.Test.YtilanpmjemlopaaVal2
import Derived.Deep.RegionWith
namespace Go.Proofs.Ytilanpmjemlopaa
open Go.RowKit
set_option linter.unusedVariables false
def mkB (l : List UInt8) : ByteArray := ⟨l.toArray⟩
/-- A text cut at its first byte with a mark. -/
def cutP (p : UInt8 → Bool) : List UInt8 → Option (List UInt8 × UInt8 × List UInt8)
  | [] => none
  | b :: t => if p b = true then some ([], b, t) else (cutP p t).map (fun x => (b :: x.1, x.2.1, x.2.2))
theorem cutP_none {p : UInt8 → Bool} : ∀ {l : List UInt8}, (∀ b ∈ l, p b = false) → cutP p l = none
  | [], _ => rfl
  | b :: t, h => by
    rw [cutP, if_neg (by rw [h b (by simp)]; simp), cutP_none (fun x hx => h x (by simp [hx]))]; rfl
theorem cutP_hit {p : UInt8 → Bool} {b : UInt8} {r : List UInt8} (hb : p b = true) : ∀ {a : List UInt8}, (∀ x ∈ a, p x = false) → cutP p (a ++ b :: r) = some (a, b, r)
  | [], _ => by simp [cutP, hb]
  | x :: a, h => by
    rw [List.cons_append, cutP, if_neg (by rw [h x (by simp)]; simp), cutP_hit hb (fun y hy => h y (by simp [hy]))]; rfl
theorem len_data (s : ByteArray) : s.data.toList.length = s.size := Array.length_toList
theorem mk_take (s : ByteArray) (k : Nat) : s.extract 0 k = mkB (s.data.toList.take k) := by
  apply ba_ext
  rw [ByteArray.data_extract, Array.toList_extract, List.extract_eq_take_drop]
  simp [mkB]
theorem mk_drop (s : ByteArray) (k : Nat) : s.extract k s.size = mkB (s.data.toList.drop k) := by
  apply ba_ext
  rw [ByteArray.data_extract, Array.toList_extract, List.extract_eq_take_drop, List.take_of_length_le (by rw [List.length_drop, len_data]; omega)]
  rfl
theorem mk_all (s : ByteArray) : mkB s.data.toList = s := rfl
theorem cutP_at {p : UInt8 → Bool} {s : ByteArray} {k : Nat} (hk : k < s.size) (H : ∀ j (hj : j < s.size), j < k → p s[j] = false) (h : p s[k] = true) : cutP p s.data.toList = some (s.data.toList.take k, s[k], s.data.toList.drop (k + 1)) := by
  have hl : k < s.data.toList.length := by rw [len_data]; exact hk
  have e : s.data.toList = s.data.toList.take k ++ s[k] :: s.data.toList.drop (k + 1) := by
    have hd : s.data.toList.drop k = s[k] :: s.data.toList.drop (k + 1) := List.drop_eq_getElem_cons hl
    rw [← hd, List.take_append_drop]
  conv => lhs; rw [e]
  refine cutP_hit h (fun x hx => ?_)
  obtain ⟨i, hi, rfl⟩ := List.getElem_of_mem hx
  rw [List.length_take] at hi
  have hi2 : i < s.size := by rw [← len_data]; omega
  have := H i hi2 (by omega)
  rw [List.getElem_take]; exact this
theorem cutP_end {p : UInt8 → Bool} {s : ByteArray} (H : ∀ j (hj : j < s.size), j < s.size → p s[j] = false) : cutP p s.data.toList = none := by
  refine cutP_none (fun x hx => ?_)
  obtain ⟨i, hi, rfl⟩ := List.getElem_of_mem hx
  have hi2 : i < s.size := by rw [← len_data]; exact hi
  exact H i hi2 hi2
theorem miss_step {p : UInt8 → Bool} {s : ByteArray} {k : Nat} (hk : k < s.size) (H : Hid (∀ j (hj : j < s.size), j < k → p s[j] = false)) (h : p s[k] = false) : Hid (∀ j (hj : j < s.size), j < k + 1 → p s[j] = false) := fun j hj hlt => by
  by_cases e : j = k
  · subst e; exact h
  · exact H.out j hj (by omega)
def isC (c : UInt8) (b : UInt8) : Bool := b == c
def UntP (s : ByteArray) (c : UInt8) : ByteArray × ByteArray × Bool := match cutP (isC c) s.data.toList with
  | none => (⟨#[]⟩, ⟨#[]⟩, false)
  | some x => (mkB x.1, mkB x.2.2, true)
set_option maxRecDepth 100000 in
set_option maxHeartbeats 2000000 in
theorem l28Until_c (s : ByteArray) (c : UInt8) (z : Int) (w : World) (hz : ((c.toNat : Nat) : Int) = z) (hs : s.size ≤ 2000000) :
    Calls Try.prog 44 #[.string s, .int .u8 z] w fun e w' => e = .returned (.tuple #[.string (UntP s c).1, .string (UntP s c).2.1, .bool (UntP s c).2.2]) ∧ Below w.heap.size w w' := by
  go_enter Try.func44, Try.ntmps44
  go_wp2
  go_loopw [7] (fun i wr => ∃ k : Nat, k ≤ s.size ∧ i = .int .i64 k ∧ Hid (∀ j (hj : j < s.size), j < k → isC c s[j] = false) ∧ wr = w) (fun i _ => s.size - (intOf i).toNat)
  case atStart => exact ⟨0, by omega, rfl, fun j hj h => by omega, rfl⟩
  case round =>
    obtain ⟨k, hk, rfl, HT, rfl⟩ := hrel
    by_cases hlt : k < s.size
    · have hki : (k : Int) < (s.size : Int) := by omega
      have hk0 : (0 : Int) ≤ (k : Int) := by omega
      cases hg : isC c s[k] with
      | false =>
        have HN := miss_step hlt HT hg
        have hbe : (((s[k].toNat : Nat) : Int) == z) = false := beq_eq_false_iff_ne.2 (fun e => by
          have : s[k] = c := UInt8.toNat_inj.1 (by omega)
          unfold isC at hg; rw [this] at hg; simp at hg)
        clear hg
        go_wp2
        go_roundw
        case rel => exact ⟨k + 1, by omega, by go_num, HN, by trivial⟩
        case measure => first | (simp [intOf]; done) | (simp [intOf]; omega)
      | true =>
        have hH := cutP_at hlt HT.out hg
        have HU : Hid (UntP s c = (s.extract 0 k, s.extract (k + 1) s.size, true)) := by
          unfold Hid UntP
          rw [hH, mk_take, mk_drop]
        have hbe : ((s[k].toNat : Nat) : Int) = z := by
          have : s[k] = c := by unfold isC at hg; simpa using hg
          rw [this]; exact hz
        clear hg hH hz
        have hwk : IntKind.i64.wrap ((k : Int) + 1) = ((k + 1 : Nat) : Int) := by rw [IntWalk.i64_in _ (by omega)]; rfl
        have hk1 : ((k + 1 : Nat) : Int) ≤ (s.size : Int) := by omega
        have hk10 : (0 : Int) ≤ ((k + 1 : Nat) : Int) := by omega
        have hkl : (k : Int) ≤ (s.size : Int) := by omega
        generalize hm : k + 1 = m at *
        go_wp2_with fail
        refine wp_region_bel mixed (by kernel_rfl) ?_
        repeat (any_goals (first | go_big_quiet_step ((fail)) | quiet_step ((fail)) | (refine wpQuiet_step (fun K hK => ?_); go_simp; (split <;> first | (refine hK _ ?_; clear hK K) | (apply Exists.intro; refine ⟨fun _ => ?_, hK _ ?_⟩; ((fail)); clear hK K)))))
        all_goals (refine wpQuiet_nil ?_; intro w1 hw1)
        all_goals
          go_wp2
          go_ret3
          exact ⟨by rw [HU.out]; rfl, hw1⟩
    · obtain rfl : k = s.size := by omega
      have HU : Hid (UntP s c = (⟨#[]⟩, ⟨#[]⟩, false)) := by
        unfold Hid UntP
        rw [cutP_end HT.out]
      go_wp2
      go_ret3
      exact ⟨by rw [HU.out]; rfl, Below.refl _ _⟩
def badC (b : UInt8) : Bool := !okC b
def NxtP (s : ByteArray) : ByteArray × Int × ByteArray := match cutP badC s.data.toList with
  | none => (s, 0, ⟨#[]⟩)
  | some x => (mkB x.1, (x.2.1.toNat : Int), mkB x.2.2)
theorem plain_one {s : ByteArray} {k : Nat} (hk : k < s.size) : plainS (s.extract k (k + 1)) = okC s[k] := by
  have hl : k < s.data.toList.length := by rw [len_data]; exact hk
  have e : (s.extract k (k + 1)).data.toList = [s[k]] := by
    rw [ByteArray.data_extract, Array.toList_extract, List.extract_eq_take_drop, List.drop_eq_getElem_cons hl, show k + 1 - k = 1 by omega]
    rfl
  unfold plainS
  rw [e]; simp
theorem run_index_tb {P : Program} (w : World) (t : TypeId) (s : ByteArray) (d : Nat) (h : P.underlying t = some .string) (hd : d < s.size) :
    (Instr.index t (.string s) (.int .i64 (d : Int))).run P w = .ok (.int .u8 ((s[d].toNat : Nat) : Int)) w := by
  rw [run_index_string (w := w) t s _ _ h, dif_pos ⟨by omega, by omega⟩]
  rfl
set_option maxRecDepth 100000 in
set_option maxHeartbeats 2000000 in
theorem l28Next_c (s : ByteArray) (w : World) (hs : s.size ≤ 2000000) :
    Calls Try.prog 69 #[.string s] w fun e w' => e = .returned (.tuple #[.string (NxtP s).1, .int .u8 (NxtP s).2.1, .string (NxtP s).2.2]) ∧ Below w.heap.size w w' := by
  go_enter Try.func69, Try.ntmps69
  go_wp2
  go_loopw [5] (fun i wr => ∃ k : Nat, k ≤ s.size ∧ i = .int .i64 k ∧ Hid (∀ j (hj : j < s.size), j < k → badC s[j] = false) ∧ wr = w) (fun i _ => s.size - (intOf i).toNat)
  case atStart => exact ⟨0, by omega, rfl, fun j hj h => by omega, rfl⟩
  case round =>
    obtain ⟨k, hk, rfl, HT, rfl⟩ := hrel
    by_cases hlt : k < s.size
    · have hki : (k : Int) < (s.size : Int) := by omega
      have hk0 : (0 : Int) ≤ (k : Int) := by omega
      have hwk : IntKind.i64.wrap ((k : Int) + 1) = ((k + 1 : Nat) : Int) := by rw [IntWalk.i64_in _ (by omega)]; rfl
      have hk1 : ((k + 1 : Nat) : Int) ≤ (s.size : Int) := by omega
      have hk10 : (0 : Int) ≤ ((k + 1 : Nat) : Int) := by omega
      have hkl : (k : Int) ≤ (s.size : Int) := by omega
      have hkk : (k : Int) ≤ ((k + 1 : Nat) : Int) := by omega
      have HP1 := Lib.hid (plain_one hlt)
      have hsz1 : (s.extract k (k + 1)).size ≤ 9223372036854775807 := by rw [ByteArray.size_extract]; omega
      cases hg : badC s[k] with
      | false =>
        have HN := miss_step hlt HT hg
        have hok : plainS (s.extract k (k + 1)) = true := by rw [HP1.out]; unfold badC at hg; simpa using hg
        have HOK := Lib.hid hok
        clear hg hok HP1
        generalize hm : k + 1 = m at *
        have HM := Lib.hid hm
        clear hm
        go_wp2_with (first | (go_at_call 68; refine (l28Plain_c _ _ _ hsz1 HOK.out).mono ?_; rintro e w' ⟨rfl, rfl⟩))
        go_roundw
        case rel => have e := HM.out; exact ⟨m, by omega, by first | rfl | (rw [← e]; go_num), HN, by trivial⟩
        case measure => have e := HM.out; first | (simp [intOf]; done) | (simp [intOf]; omega)
      | true =>
        have hH := cutP_at hlt HT.out hg
        have HU : Hid (NxtP s = (s.extract 0 k, ((s[k].toNat : Nat) : Int), s.extract (k + 1) s.size)) := by
          unfold Hid NxtP
          rw [hH, mk_take, mk_drop]
        have hok : plainS (s.extract k (k + 1)) = false := by rw [HP1.out]; unfold badC at hg; simpa using hg
        have HOK := Lib.hid hok
        clear hg hok HP1 hH
        generalize hm : k + 1 = m at *
        clear hm
        go_wp2_with (first | (go_at_call 68; refine (l28Plain_c _ _ _ hsz1 HOK.out).mono ?_; rintro e w' ⟨rfl, rfl⟩))
        refine wp_region_bel mixed (by kernel_rfl) ?_
        repeat (any_goals (first | go_big_quiet_step ((fail)) | quiet_step ((fail)) | (refine wpQuiet_step (fun K hK => ?_); go_simp; (split <;> first | (refine hK _ ?_; clear hK K) | (apply Exists.intro; refine ⟨fun _ => ?_, hK _ ?_⟩; ((fail)); clear hK K)))))
        all_goals (refine wpQuiet_nil ?_; intro w1 hw1)
        all_goals
          go_wp2
          go_ret3
          exact ⟨by rw [HU.out]; rfl, hw1⟩
    · obtain rfl : k = s.size := by omega
      have HU : Hid (NxtP s = (s, 0, ⟨#[]⟩)) := by
        unfold Hid NxtP
        rw [cutP_end HT.out]
      go_wp2
      go_ret3
      exact ⟨by rw [HU.out]; rfl, Below.refl _ _⟩
end Go.Proofs.Ytilanpmjemlopaa
