/- Contract: l01Split at a space. -/
import Derived.Test.YtjfohggompnkeaaDoorConP2
import Derived.Test.YtjfohggompnkeaaDoorRow
namespace Go.Proofs.YtjfohggompnkeaaDoor
open Go.RowKit
set_option linter.unusedVariables false
theorem str_info : (Tryd.prog.info? 9).map (fun i => (i.zero, i.size, i.bytes)) = some (some (.string ByteArray.empty), 1, 16) := by kernel_rfl
/-- The state of the splitting: what has been cut off, where the word at hand begins, how far it has come. -/
def SI (s : ByteArray) (D : List ByteArray) (f k : Nat) : Prop :=
  (k ≤ s.size ∧ f ≤ k ∧ D ++ (splF ((s.data.toList.take k).drop f) (s.data.toList.drop k)).map mkB = wordsB s) ∨ (k = s.size + 1 ∧ D = wordsB s)
theorem s_len (s : ByteArray) : s.data.toList.length = s.size := Array.length_toList
theorem mk_ext (s : ByteArray) (f k : Nat) : mkB ((s.data.toList.take k).drop f) = s.extract f k := by
  apply ba_ext
  show (mkB _).data.toList = _
  rw [ByteArray.data_extract, Array.toList_extract, List.extract_eq_take_drop, List.drop_take]
  simp [mkB]
theorem SI.start (s : ByteArray) : SI s [] 0 0 := .inl ⟨by omega, by omega, by simp [wordsB]⟩
theorem SI.bd {s : ByteArray} {D : List ByteArray} {f k : Nat} (h : SI s D f k) : D.length ≤ (wordsB s).length := by
  rcases h with ⟨_, _, h⟩ | ⟨_, h⟩
  · rw [← h]; simp
  · rw [h]; exact Nat.le_refl _
theorem SI.last {s : ByteArray} {D : List ByteArray} {f : Nat} (h : SI s D f s.size) : f ≤ s.size ∧ SI s (D ++ [s.extract f s.size]) (s.size + 1) (s.size + 1) := by
  rcases h with ⟨_, h1, h⟩ | ⟨h, _⟩
  · refine ⟨h1, .inr ⟨rfl, ?_⟩⟩
    have hd : s.data.toList.drop s.size = [] := List.drop_of_length_le (by rw [s_len]; omega)
    rw [← h, hd, splF, List.map_singleton, mk_ext]
  · omega
theorem SI.cut {s : ByteArray} {D : List ByteArray} {f k : Nat} (h : SI s D f k) (hk : k < s.size) (hb : s[k] = 32) : f ≤ k ∧ SI s (D ++ [s.extract f k]) (k + 1) (k + 1) := by
  rcases h with ⟨_, h1, h⟩ | ⟨h, _⟩
  · refine ⟨h1, .inl ⟨by omega, by omega, ?_⟩⟩
    have hd : s.data.toList.drop k = s[k] :: s.data.toList.drop (k + 1) := List.drop_eq_getElem_cons (by rw [s_len]; exact hk)
    have he : (s.data.toList.take (k + 1)).drop (k + 1) = [] := List.drop_of_length_le (by rw [List.length_take]; omega)
    rw [he, ← h, hd, splF, if_pos hb, List.map_cons, mk_ext]
    simp
  · omega
theorem SI.on {s : ByteArray} {D : List ByteArray} {f k : Nat} (h : SI s D f k) (hk : k < s.size) (hb : s[k] ≠ 32) : SI s D f (k + 1) := by
  rcases h with ⟨_, h1, h⟩ | ⟨h, _⟩
  · refine .inl ⟨by omega, by omega, ?_⟩
    have hl : k < s.data.toList.length := by rw [s_len]; exact hk
    have hd : s.data.toList.drop k = s[k] :: s.data.toList.drop (k + 1) := List.drop_eq_getElem_cons hl
    have he : (s.data.toList.take (k + 1)).drop f = (s.data.toList.take k).drop f ++ [s[k]] := by
      rw [List.take_succ_eq_append_getElem hl, List.drop_append_of_le_length (by rw [List.length_take]; omega)]
      rfl
    rw [← h, hd, splF, if_neg hb, he]
  · omega
theorem SI.done {s : ByteArray} {D : List ByteArray} {f : Nat} (h : SI s D f (s.size + 1)) : D = wordsB s := by
  rcases h with ⟨h, _⟩ | ⟨_, h⟩
  · omega
  · exact h
def SplP (s : ByteArray) (w : World) (e : Ending) (wr : World) : Prop := ∃ (A : Option Addr) (c : Nat) (D : List ByteArray), e = .returned (.slice A D.length c) ∧ D = wordsB s ∧ wr.ownsRow w.heap.size 9 1 (.slice A D.length c) D.length (D.map Value.string) ∧ Below w.heap.size w wr
theorem own_snocS {W : World} {b : Nat} {A : Option Addr} {c : Nat} {D : List ByteArray} {y : ByteArray} (h : W.ownsRow b 9 1 (.slice A (D.length + 1) c) (D.length + 1) (D.map Value.string ++ [.string y])) : W.ownsRow b 9 1 (.slice A (D ++ [y]).length c) (D ++ [y]).length ((D ++ [y]).map Value.string) := by
  rw [List.length_append, List.map_append]; exact h
theorem byte_ne {x : UInt8} (h : x ≠ 32) : ((x.toNat : Nat) : Int) ≠ 32 := fun e => h (UInt8.toNat_inj.1 (by have : (32 : UInt8).toNat = 32 := rfl; omega))
theorem byte_eq {x : UInt8} (h : x = 32) : ((x.toNat : Nat) : Int) = 32 := by rw [h]; rfl
set_option maxRecDepth 100000 in
set_option maxHeartbeats 4000000 in
theorem l01Split_c (s : ByteArray) (w : World) (hs : s.size ≤ 2000000) : Calls Tryd.prog 8 #[.string s, .int .u8 32] w (SplP s w) := by
  obtain ⟨i0, hi, hz0, hz1, hz2⟩ := info_parts str_info
  have hwl : (wordsB s).length ≤ 2000001 := by
    rw [words_len]
    have := List.count_le_length (a := (32 : UInt8)) (l := s.data.toList)
    rw [s_len] at this; omega
  go_enter Tryd.func8, Tryd.ntmps8
  go_wp2_with fail
  have ho := World.ownsRow_lit (base := w.heap.size) (e := 9) (size := 1) w #[] 0 (Nat.le_refl _) (by unfold maxLen; omega) rfl
  generalize hW2 : w.alloc (.cells #[] 9) = W2 at ho ⊢
  have hb2 : Below w.heap.size w W2 := by subst hW2; exact (Below.refl _ _).alloc (Nat.le_refl _) _
  have HO := Lib.hid ho
  clear hW2 ho
  go_wp2
  go_loopw [5, 6, 7] (fun ov fv iv wr => ∃ (A : Option Addr) (c : Nat) (D : List ByteArray) (f k : Nat), ov = .slice A D.length c ∧ fv = .int .i64 f ∧ iv = .int .i64 k ∧ k ≤ s.size + 1 ∧ f ≤ 2000001 ∧ Hid (SI s D f k) ∧ Hid (wr.ownsRow w.heap.size 9 1 (.slice A D.length c) D.length (D.map Value.string)) ∧ Below w.heap.size w wr)
    (fun _ _ iv _ => s.size + 1 - (intOf iv).toNat)
  case atStart => exact ⟨_, _, [], 0, 0, rfl, rfl, rfl, by omega, by omega, SI.start s, HO, hb2⟩
  case round =>
    obtain ⟨A, c, D, f, k, rfl, rfl, rfl, hk, hf, HI, HOr, hB⟩ := hrel
    clear HO hb2
    have hDl := HI.out.bd
    have hzr := hB.size
    by_cases hlt : k ≤ s.size
    · have hki : (k : Int) ≤ (s.size : Int) := by omega
      by_cases hend : k = s.size
      · obtain ⟨hfs, HI2⟩ := (show SI s D f s.size from hend ▸ HI.out).last
        have HI2 := Lib.hid HI2
        subst hend
        have hfi : (f : Int) ≤ (s.size : Int) := by omega
        have hf0 : (0 : Int) ≤ (f : Int) := by omega
        have hs0 : (0 : Int) ≤ (s.size : Int) := by omega
        go_wp2_with (first | (at_builtin; refine wpList_push wr rfl _ _ 23 rfl w.heap.size 9 i0 _ 1 16 Tryd.underlying23 hi hz0 hz1 hz2 rfl (by decide) (.slice A D.length c) (D.length) (D.map Value.string) (by rfl) HOr.out [.string (s.extract f s.size)] 9 (by rfl) rfl (by simp [Value.oneCell']) (by unfold maxLen; omega) (by omega) (by omega) ?_; intro A7 c7 w7 ho7 hg7; have HO7 := Lib.hid (own_snocS (y := s.extract f s.size) ho7); have hb7 := below_grown hB hg7 (Nat.le_refl _) (fun k hk => HOr.out.lt k hk |>.1); clear ho7 hg7))
        go_roundw
        case rel => exact ⟨A7, c7, D ++ [s.extract f s.size], s.size + 1, s.size + 1, by simp, by go_num, by go_num, by omega, by omega, HI2, HO7, hb7⟩
        case measure => first | (simp [intOf]; done) | (simp [intOf]; omega)
      · have hne : k < s.size := by omega
        have hnei : ((k : Int) == (s.size : Int)) = false := beq_eq_false_iff_ne.2 (by omega)
        have hk1 : (k : Int) < (s.size : Int) := by omega
        have hk0 : (0 : Int) ≤ (k : Int) := by omega
        by_cases hb : s[k] = 32
        · obtain ⟨hfs, HI2⟩ := HI.out.cut hne hb
          have HI2 := Lib.hid HI2
          have hbe := byte_eq hb
          have hfi : (f : Int) ≤ (k : Int) := by omega
          have hf0 : (0 : Int) ≤ (f : Int) := by omega
          go_wp2_with (first | (at_builtin; refine wpList_push wr rfl _ _ 23 rfl w.heap.size 9 i0 _ 1 16 Tryd.underlying23 hi hz0 hz1 hz2 rfl (by decide) (.slice A D.length c) (D.length) (D.map Value.string) (by rfl) HOr.out [.string (s.extract f k)] 9 (by rfl) rfl (by simp [Value.oneCell']) (by unfold maxLen; omega) (by omega) (by omega) ?_; intro A7 c7 w7 ho7 hg7; have HO7 := Lib.hid (own_snocS (y := s.extract f k) ho7); have hb7 := below_grown hB hg7 (Nat.le_refl _) (fun k hk => HOr.out.lt k hk |>.1); clear ho7 hg7))
          go_roundw
          case rel => exact ⟨A7, c7, D ++ [s.extract f k], k + 1, k + 1, by simp, by go_num, by go_num, by omega, by omega, HI2, HO7, hb7⟩
          case measure => first | (simp [intOf]; done) | (simp [intOf]; omega)
        · have HI2 := Lib.hid (HI.out.on hne hb)
          have hbe : (((s[k].toNat : Nat) : Int) == 32) = false := beq_eq_false_iff_ne.2 (byte_ne hb)
          go_wp2
          go_roundw
          case rel => exact ⟨A, c, D, f, k + 1, rfl, rfl, by go_num, by omega, by omega, HI2, HOr, hB⟩
          case measure => first | (simp [intOf]; done) | (simp [intOf]; omega)
    · obtain rfl : k = s.size + 1 := by omega
      have hnl : ¬ ((s.size : Int) + 1 ≤ (s.size : Int)) := by omega
      have HD := Lib.hid HI.out.done
      go_wp2
      go_ret
      exact ⟨A, c, D, rfl, HD.out, HOr.out, hB⟩
end Go.Proofs.YtjfohggompnkeaaDoor
