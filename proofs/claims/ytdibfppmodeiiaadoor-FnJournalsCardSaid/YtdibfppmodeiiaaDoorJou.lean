/- Contracts: the bytes of an entry, their check. -/
import Derived.Test.YtdibfppmodeiiaaDoorEnt
import Derived.Test.YtdibfppmodeiiaaDoorDec
namespace Go.Proofs.YtdibfppmodeiiaaDoor
open Go.RowKit
set_option linter.unusedVariables false
theorem decT_len (n : Nat) (h : n ≤ 1000000000000000) : (decT n).size ≤ 21 := by
  rw [← decI_nat]; exact decI_len _ (by omega) (by omega)
def bodyT (a0 : Int) (a1 : ByteArray) : ByteArray := decT a1.size ++ { data := #[58] } ++ strOfNums [a0] ++ a1


set_option maxRecDepth 100000 in
set_option maxHeartbeats 2000000 in
theorem body_c (a0 : Int) (a1 : ByteArray) (w : World) (hs : a1.size ≤ 1000000) (ht : TabW w) : Calls Tryd.prog 53 #[.agg #[.int .u8 a0, .string a1]] w fun e w' => e = .returned (.string (bodyT a0 a1)) ∧ Below w.heap.size w w' := by
  have hcv := conv_at (P := Tryd.prog) 22 5 9 Tryd.underlying22 Tryd.underlying5 Tryd.underlying9 a0
  have hd := decT_len a1.size (by omega)
  have h1 : (strOfNums [a0]).size = 1 := by rw [strOfNums_size]; rfl
  have hsum1 : ¬ 9223372036854775807 < (decT a1.size).size + 1 := by omega
  have hsum2 : ¬ 9223372036854775807 < (decT a1.size).size + 1 + 1 := by omega
  have hsum3 : ¬ 9223372036854775807 < (decT a1.size).size + 1 + 1 + a1.size := by omega
  have HE : Hid (bodyT a0 a1 = decT a1.size ++ { data := #[58] } ++ strOfNums [a0] ++ a1) := rfl
  clear hd
  go_enter Tryd.func53, Tryd.ntmps53
  go_wp2_with fail
  generalize hW0 : w.alloc _ = W0
  have hbW0 : Below w.heap.size w W0 := by subst hW0; exact (Below.refl _ _).alloc (Nat.le_refl _) _
  have hsW0 : W0.heap.size = w.heap.size + 1 := by subst hW0; simp
  have cxW0_0 : ∀ i, W0.cell? ⟨w.heap.size, i, none⟩ = (#[.int .u8 a0, .string a1] : Array Value)[i]? := by intro i; subst hW0; simp [go_sem]
  have HSW0 := Lib.hid hsW0; clear hW0 hsW0
  have hlw : w.heap.size < W0.heap.size := by have := HSW0.out; omega
  have HTT := Lib.hid (ht.below hbW0)
  have HKd : Hid (∀ W1 : World, Below W0.heap.size W0 W1 → ((∀ i, W1.cell? ⟨w.heap.size, i, none⟩ = (#[.int .u8 a0, .string a1] : Array Value)[i]?) ∧ Below W0.heap.size W0 W1)) := fun W1 h => ⟨fun i => (h.cell (p := ⟨w.heap.size, i, none⟩) (by simp only; omega)).trans (cxW0_0 i), h⟩
  rw [show (Op.convert 22 9 (Operand.tmp 10) : Op) = id (Op.convert 22 9 (Operand.tmp 10)) from rfl]
  go_region_held3 (fun W1 => (∀ i, W1.cell? ⟨w.heap.size, i, none⟩ = (#[.int .u8 a0, .string a1] : Array Value)[i]?) ∧ Below W0.heap.size W0 W1) (first | exact HKd.out _ ((Below.refl _ _).drew) | exact HKd.out _ (((Below.refl _ _).alloc (Nat.le_refl _) _).drew) | exact HKd.out _ hB3 | exact HKd.out _ (hB3.alloc hB3.size _))
    ((first
      | (go_at_call 58; refine (decimal_c a1.size (by omega) _ (HTT.out.below ((Below.refl _ _).drew))).mono ?_; rintro e w3 ⟨rfl, hb3⟩; have hB3 : Below W0.heap.size W0 w3 := below_then ((Below.refl _ _).drew) hb3 (Nat.le_refl _); have hs3 := hB3.size)
      | (go_at_call 58; refine (decimal_c a1.size (by omega) _ (HTT.out.below (((Below.refl _ _).alloc (Nat.le_refl _) _).drew))).mono ?_; rintro e w3 ⟨rfl, hb3⟩; have hB3 : Below W0.heap.size W0 w3 := below_then (((Below.refl _ _).alloc (Nat.le_refl _) _).drew) hb3 (Nat.le_refl _); have hs3 := hB3.size; have hy3 : w3.cell? ⟨W0.heap.size, 0, none⟩ = some (.int .u8 a0) := (hb3.cell (p := ⟨W0.heap.size, 0, none⟩) (by simp)).trans (by simp [go_sem]))))
  all_goals
    go_wp2
    go_ret
    exact ⟨by rw [HE.out]; rfl, by first | exact bt hbW0 hB3 | exact bt hbW0 (hB3.alloc hB3.size _)⟩


set_option maxRecDepth 100000 in
set_option maxHeartbeats 2000000 in
theorem l33Head_c (a0 : Int) (a1 : ByteArray) (w : World) (hs : a1.size ≤ 1000000) : Calls Tryd.prog 49 #[.agg #[.int .u8 a0, .string a1]] w fun e w' => e = .returned (.string (bodyT a0 a1)) ∧ Below w.heap.size w w' := by
  have hcv := conv_at (P := Tryd.prog) 22 5 9 Tryd.underlying22 Tryd.underlying5 Tryd.underlying9 a0
  have hd := decT_len a1.size (by omega)
  have h1 : (strOfNums [a0]).size = 1 := by rw [strOfNums_size]; rfl
  have hsum1 : ¬ 9223372036854775807 < (decT a1.size).size + 1 := by omega
  have hsum2 : ¬ 9223372036854775807 < (decT a1.size).size + 1 + 1 := by omega
  have hsum3 : ¬ 9223372036854775807 < (decT a1.size).size + 1 + 1 + a1.size := by omega
  have HE : Hid (bodyT a0 a1 = decT a1.size ++ { data := #[58] } ++ strOfNums [a0] ++ a1) := rfl
  clear hd
  go_enter Tryd.func49, Tryd.ntmps49
  go_wp2_with fail
  generalize hW0 : w.alloc _ = W0
  have hbW0 : Below w.heap.size w W0 := by subst hW0; exact (Below.refl _ _).alloc (Nat.le_refl _) _
  have hsW0 : W0.heap.size = w.heap.size + 1 := by subst hW0; simp
  have cxW0_0 : ∀ i, W0.cell? ⟨w.heap.size, i, none⟩ = (#[.int .u8 a0, .string a1] : Array Value)[i]? := by intro i; subst hW0; simp [go_sem]
  have HSW0 := Lib.hid hsW0; clear hW0 hsW0
  have hlw : w.heap.size < W0.heap.size := by have := HSW0.out; omega
  skip
  have HKd : Hid (∀ W1 : World, Below W0.heap.size W0 W1 → ((∀ i, W1.cell? ⟨w.heap.size, i, none⟩ = (#[.int .u8 a0, .string a1] : Array Value)[i]?) ∧ Below W0.heap.size W0 W1)) := fun W1 h => ⟨fun i => (h.cell (p := ⟨w.heap.size, i, none⟩) (by simp only; omega)).trans (cxW0_0 i), h⟩
  rw [show (Op.convert 22 9 (Operand.tmp 10) : Op) = id (Op.convert 22 9 (Operand.tmp 10)) from rfl]
  go_region_held3 (fun W1 => (∀ i, W1.cell? ⟨w.heap.size, i, none⟩ = (#[.int .u8 a0, .string a1] : Array Value)[i]?) ∧ Below W0.heap.size W0 W1) (first | exact HKd.out _ ((Below.refl _ _).drew) | exact HKd.out _ (((Below.refl _ _).alloc (Nat.le_refl _) _).drew) | exact HKd.out _ hB3 | exact HKd.out _ (hB3.alloc hB3.size _))
    ((first
      | (go_at_call 51; refine (l01Dec_c a1.size (by omega) _).mono ?_; rintro e w3 ⟨rfl, hb3⟩; have hB3 : Below W0.heap.size W0 w3 := below_then ((Below.refl _ _).drew) hb3 (Nat.le_refl _); have hs3 := hB3.size)
      | (go_at_call 51; refine (l01Dec_c a1.size (by omega) _).mono ?_; rintro e w3 ⟨rfl, hb3⟩; have hB3 : Below W0.heap.size W0 w3 := below_then (((Below.refl _ _).alloc (Nat.le_refl _) _).drew) hb3 (Nat.le_refl _); have hs3 := hB3.size; have hy3 : w3.cell? ⟨W0.heap.size, 0, none⟩ = some (.int .u8 a0) := (hb3.cell (p := ⟨W0.heap.size, 0, none⟩) (by simp)).trans (by simp [go_sem]))))
  all_goals
    go_wp2
    go_ret
    exact ⟨by rw [HE.out]; rfl, by first | exact bt hbW0 hB3 | exact bt hbW0 (hB3.alloc hB3.size _)⟩


def chkL (c : Nat) (l : List UInt8) : Nat := l.foldl (fun c b => (c * 131 + b.toNat) % 65521) c
theorem chkL_lt : ∀ (l : List UInt8) {c : Nat}, c < 65521 → chkL c l < 65521
  | [], c, h => h
  | b :: l, c, h => chkL_lt l (Nat.mod_lt _ (by omega))
theorem chkL_snoc {c : Nat} {l : List UInt8} {k : Nat} (hk : k < l.length) : chkL c (l.take (k + 1)) = (chkL c (l.take k) * 131 + (l.getD k 0).toNat) % 65521 := by
  rw [List.take_succ_eq_append_getElem hk, chkL, List.foldl_append, List.getD_eq_getElem?_getD, List.getElem?_eq_getElem hk]; rfl
def chkT (c : Nat) (s : ByteArray) : Nat := chkL c s.data.toList
theorem bodyT_len {a0 : Int} {a1 : ByteArray} (h : a1.size ≤ 1000000) : (bodyT a0 a1).size ≤ a1.size + 23 := by
  have := decT_len a1.size (by omega)
  have h1 : (strOfNums [a0]).size = 1 := by rw [strOfNums_size]; rfl
  unfold bodyT
  rw [ByteArray.size_append, ByteArray.size_append, ByteArray.size_append, h1]
  have : ({ data := #[58] } : ByteArray).size = 1 := rfl
  omega
set_option maxRecDepth 100000 in
set_option maxHeartbeats 2000000 in
theorem check_c (a0 : Int) (a1 : ByteArray) (c : Nat) (w : World) (hs : a1.size ≤ 1000000) (hc : c < 65521) (ht : TabW w) : Calls Tryd.prog 41 #[.agg #[.int .u8 a0, .string a1], .int .i64 c] w fun e w' => e = .returned (.int .i64 (chkT c (bodyT a0 a1) : Nat)) ∧ Below w.heap.size w w' := by
  have hbl := bodyT_len (a0 := a0) hs
  have HH := fun W h => body_c a0 a1 W hs h
  have HT := Lib.hid ht
  clear ht
  generalize bodyT a0 a1 = s at *
  have HB := Lib.hid HH
  clear HH
  have hsl : s.data.toList.length = s.size := Array.length_toList
  have HSL := Lib.hid hsl
  clear hsl
  go_enter Tryd.func41, Tryd.ntmps41
  go_wp2_with fail
  generalize hW0 : w.alloc _ = W0
  have hbW0 : Below w.heap.size w W0 := by subst hW0; exact (Below.refl _ _).alloc (Nat.le_refl _) _
  have hsW0 : W0.heap.size = w.heap.size + 1 := by subst hW0; simp
  have cxW0_0 : ∀ i, W0.cell? ⟨w.heap.size, i, none⟩ = (#[.int .u8 a0, .string a1] : Array Value)[i]? := by intro i; subst hW0; simp [go_sem]
  have HSW0 := Lib.hid hsW0; clear hW0 hsW0
  refine (HB.out W0 (HT.out.below hbW0)).mono ?_
  rintro e w1 ⟨rfl, hb1⟩
  have hB1 := bt hbW0 hb1
  have hcv := Lib.run_convert_string_bytes (P := Tryd.prog) w1 9 22 5 s Tryd.underlying9 Tryd.underlying22 Tryd.underlying5
  have hcell := Lib.bytesWorld_cell w1 5 s
  have hb2 := Lib.bytesWorld_below w1 5 s
  generalize Lib.bytesWorld w1 5 s = w2 at *
  generalize grownCap w1 s.size 0 5 = cp at *
  have hB2 := bt hB1 hb2
  have HC := Lib.hid hcell
  clear hcell
  go_wp2
  go_loop [5, 13] (fun v i => ∃ k : Nat, k ≤ s.size ∧ i = .int .i64 k ∧ v = .int .i64 (chkL c (s.data.toList.take k) : Nat)) (fun _ i => s.size - (intOf i).toNat)
  case atStart => exact ⟨0, by omega, rfl, by simp [chkL]⟩
  case round =>
    obtain ⟨k, hk, rfl, rfl⟩ := hrel
    by_cases hlt : k < s.size
    · have f0 := HC.out k hlt
      have HS := Lib.hid (chkL_snoc (c := c) (l := s.data.toList) (k := k) (by rw [HSL.out]; exact hlt))
      have hq := chkL_lt (s.data.toList.take k) hc
      have hk1 : (k : Int) < (s.size : Int) := by omega
      have hx := (s.data.toList.getD k 0).toNat_lt
      generalize (s.data.toList.getD k 0).toNat = x at *
      generalize hqq : chkL c (s.data.toList.take k) = q at *
      have HQ := Lib.hid hqq
      clear hqq
      go_wp2
      go_round
      case rel => exact ⟨k + 1, by omega, by go_num, by rw [HS.out]; congr 1⟩
      case measure => simp [intOf]; omega
    · obtain rfl : k = s.size := by omega
      have HF : Hid (chkL c (s.data.toList.take s.size) = chkT c s) := by unfold Hid chkT; rw [List.take_of_length_le (by rw [HSL.out]; omega)]
      go_wp2
      go_ret
      exact ⟨ret_int (by rw [HF.out]), hB2⟩
set_option maxHeartbeats 1000000 in
theorem l33Check_c (s : ByteArray) (c : Nat) (w : World) (hs : s.size ≤ 1000000) (hc : c < 65521) : Calls Tryd.prog 50 #[.int .i64 c, .string s] w fun e w' => e = .returned (.int .i64 (chkT c s : Nat)) ∧ w = w' := by
  have hsl : s.data.toList.length = s.size := Array.length_toList
  have HSL := Lib.hid hsl
  clear hsl
  go_enter Tryd.func50, Tryd.ntmps50
  go_wp2
  go_loop [0, 5] (fun v i => ∃ k : Nat, k ≤ s.size ∧ i = .int .i64 k ∧ v = .int .i64 (chkL c (s.data.toList.take k) : Nat)) (fun _ i => s.size - (intOf i).toNat)
  case atStart => exact ⟨0, by omega, rfl, by simp [chkL]⟩
  case round =>
    obtain ⟨k, hk, rfl, rfl⟩ := hrel
    by_cases hlt : k < s.size
    · have HS := Lib.hid (chkL_snoc (c := c) (l := s.data.toList) (k := k) (by rw [HSL.out]; exact hlt))
      have HX : Hid ((s.data.toList.getD k 0).toNat = s[k].toNat) := by
        unfold Hid
        rw [List.getD_eq_getElem?_getD, List.getElem?_eq_getElem (by rw [HSL.out]; exact hlt)]
        rfl
      have hq := chkL_lt (s.data.toList.take k) hc
      have hk1 : (k : Int) < (s.size : Int) := by omega
      have hbd : (s[k].toNat : Int) < 256 := by have := s[k].toNat_lt; omega
      generalize hqq : chkL c (s.data.toList.take k) = q at *
      have HQ := Lib.hid hqq
      clear hqq
      go_wp2_with fail
      go_wp2
      go_round
      case rel => exact ⟨k + 1, by omega, by go_num, by rw [HS.out, HX.out]; congr 1⟩
      case measure => simp [intOf]; omega
    · obtain rfl : k = s.size := by omega
      have HF : Hid (chkL c (s.data.toList.take s.size) = chkT c s) := by unfold Hid chkT; rw [List.take_of_length_le (by rw [HSL.out]; omega)]
      go_wp2
      go_ret
      exact ⟨ret_int (by rw [HF.out]), rfl⟩

end Go.Proofs.YtdibfppmodeiiaaDoor
