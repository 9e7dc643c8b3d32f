/- Contracts: decimal numerals of both texts. -/
import Derived.Test.YtjfohggompnkeaaDoorNum
import Derived.Test.YtjfohggompnkeaaDoorShelf
import Derived.Lib.ItoaNum
import Derived.Lib.ItoaLen
import Derived.Lib.ItoaMem
import Derived.Lib.AppendIntMem
import Derived.Lib.SmallJoins
import Derived.Deep.RegionWith
namespace Go.Proofs.YtjfohggompnkeaaDoor
open Go.RowKit
set_option linter.unusedVariables false
def TabW (w : World) : Prop := Lib.TabIs Tryd.prog w "internal/strconv.uint64pow10" .u64 Lib.pow10Tab
theorem gTab : Tryd.prog.globalNamed "internal/strconv.uint64pow10" = some 5 := by kernel_rfl
theorem TabW.below {w w' : World} (h : TabW w) (hb : Below w.heap.size w w') : TabW w' := Go.Joins.tab_stays gTab h hb (Nat.le_refl _)
theorem ba_ext_ {a b : ByteArray} (h : a.data.toList = b.data.toList) : a = b := by
  obtain ⟨a⟩ := a; obtain ⟨b⟩ := b
  simp at h
  rw [h]
def decT (n : Nat) : ByteArray := ⟨(Lib.decDigits n).toArray⟩
def decI (n : Int) : ByteArray := ⟨(Lib.itoa n).toArray⟩
theorem decI_nat (n : Nat) : decI (n : Int) = decT n := by unfold decI decT; rw [Lib.itoa_nonneg]
theorem decI_len (n : Int) (h0 : -9223372036854775808 ≤ n) (h1 : n ≤ 9223372036854775807) : (decI n).size ≤ 21 := by
  have := Lib.itoa_length_le n h0 h1
  simpa [decI, ByteArray.size] using this
/-- A byte made into a string, wherever it lies. -/
theorem conv_at {P : Program} (src e dst : TypeId) (hs : P.underlying src = some (.slice e)) (he : P.underlying e = some (.int .u8)) (hd : P.underlying dst = some .string) (z : Int) (w : World) (g : Nat) (hb : w.cell? ⟨g, 0, none⟩ = some (.int .u8 z)) :
    (convert src dst (.slice (some ⟨g, 0, none⟩) 1 1)).run P w = .ok (.string (strOfNums [z])) w :=
  run_convert_bytes_arg (P := P) (w := w) src e hs he g 0 1 1 [z] rfl (fun i hi => by
    have h0 : i = 0 := by omega
    subst h0
    exact hb) dst hd
theorem decimalI_c (n : Int) (h0 : -9223372036854775808 ≤ n) (h1 : n ≤ 9223372036854775807) (w : World) (ht : TabW w) : Calls Tryd.prog 22 #[.int .i64 n] w fun e w' => e = .returned (.string (decI n)) ∧ Below w.heap.size w w' := by
  go_enter Tryd.func22, Tryd.ntmps22
  go_wp2_with fail
  refine (Tryd.strconv_FormatInt_10 n h0 h1 w ht).mono ?_
  rintro e w' ⟨rfl, k, os, rfl⟩
  go_wp2
  go_ret
  exact ⟨rfl, Lib.below_grow _ _ (Nat.le_refl _) _ _⟩
theorem decimal_c (n : Nat) (h1 : n ≤ 1000000000000000) (w : World) (ht : TabW w) : Calls Tryd.prog 22 #[.int .i64 n] w fun e w' => e = .returned (.string (decT n)) ∧ Below w.heap.size w w' := by
  rw [← decI_nat]
  exact decimalI_c n (by omega) (by omega) w ht
theorem decT_small {n : Nat} (h : n < 10) : decT n = strOfNums [48 + (n : Int)] := by
  unfold decT
  rw [Lib.decDigits_one h]
  unfold strOfNums
  have : UInt8.ofNat (48 + n) = UInt8.ofNat (48 + (n : Int)).toNat := by congr 1
  simp [this]
theorem decT_step {n : Nat} (h : ¬ n < 10) : decT n = decT (n / 10) ++ strOfNums [48 + ((n % 10 : Nat) : Int)] := by
  apply ba_ext_
  unfold decT
  rw [Lib.decDigits, dif_neg h]
  have : UInt8.ofNat (48 + n % 10) = UInt8.ofNat (48 + ((n % 10 : Nat) : Int)).toNat := by congr 1
  simp only [strOfNums, ByteArray.data_append, List.map_cons, List.map_nil, Array.toList_append]
  rw [this]
set_option maxRecDepth 100000 in
set_option maxHeartbeats 1000000 in
theorem l01Dec_c (n : Nat) (hn : n ≤ 1000000000000000) (w : World) : Calls Tryd.prog 14 #[.int .i64 n] w fun e w' => e = .returned (.string (decT n)) ∧ Below w.heap.size w w' := by
  induction n using Nat.strongRecOn generalizing w with
  | _ n ih =>
    by_cases h10 : n < 10
    · have hcv := conv_one (P := Tryd.prog) 41 5 9 Tryd.underlying41 Tryd.underlying5 Tryd.underlying9
      have HE := Lib.hid (decT_small h10)
      go_enter Tryd.func14, Tryd.ntmps14
      go_wp2
      go_ret
      exact ⟨by rw [HE.out]; rfl, (Below.refl _ _).alloc (Nat.le_refl _) _⟩
    · have ihc : ∀ W : World, Calls Tryd.prog 14 #[.int .i64 ((n : Int) / 10)] W fun e w' => e = .returned (.string (decT (n / 10))) ∧ Below W.heap.size W w' := fun W => by
        have h := ih (n / 10) (by omega) (by omega) W
        have e : ((n / 10 : Nat) : Int) = (n : Int) / 10 := by omega
        rw [e] at h
        exact h
      have HE := Lib.hid (decT_step h10)
      have HIH := Lib.hid ihc
      have hw1 : IntKind.i64.wrap ((n : Int) / 10) = (n : Int) / 10 := IntWalk.i64_in _ (by omega)
      have hw2 : (n : Int).tmod 10 = (n : Int) % 10 := IntWalk.rem_in _ _ (by omega)
      have hw3 : IntKind.i64.wrap (48 + (n : Int) % 10) = 48 + (n : Int) % 10 := IntWalk.i64_in _ (by omega)
      have hw4 : IntKind.u8.wrap (48 + (n : Int) % 10) = 48 + (n : Int) % 10 := IntWalk.u8_in _ (by omega)
      have hcv := conv_at (P := Tryd.prog) 41 5 9 Tryd.underlying41 Tryd.underlying5 Tryd.underlying9 (48 + (n : Int) % 10)
      have hsum : ¬ 9223372036854775807 < (decT (n / 10)).size + (strOfNums [48 + (n : Int) % 10]).size := by
        have h1 := decI_len ((n / 10 : Nat) : Int) (by omega) (by omega)
        rw [decI_nat] at h1
        rw [strOfNums_size]
        simp only [List.length_cons, List.length_nil]
        omega
      clear ih ihc
      go_enter Tryd.func14, Tryd.ntmps14
      go_wp2_with fail
      go_region_with (first | (go_at_call 14; refine (HIH.out _).mono ?_; rintro e w3 ⟨rfl, hb3⟩; have hB3 : Below w.heap.size w w3 := below_then ((Below.refl _ _).drew) hb3 (Nat.le_refl _); have hs3 := hB3.size) | (go_at_call 14; refine (HIH.out _).mono ?_; rintro e w3 ⟨rfl, hb3⟩; have hB3 : Below w.heap.size w w3 := below_then (((Below.refl _ _).alloc (Nat.le_refl _) _).drew) hb3 (Nat.le_refl _); have hs3 := hB3.size; have hy3 : w3.cell? ⟨w.heap.size, 0, none⟩ = some (.int .u8 (48 + (n : Int) % 10)) := (hb3.cell (p := ⟨w.heap.size, 0, none⟩) (by simp)).trans (by simp [go_sem])))
      all_goals
        go_wp2
        go_ret
        exact ⟨by rw [HE.out]; rfl, by first | exact hB3 | exact hB3.alloc hB3.size _⟩
end Go.Proofs.YtjfohggompnkeaaDoor
