/- Plain: a line that is no command behind a text for the console. -/
import Derived.Test.YtiamignopfhkfaaGreatDoorZ33
namespace Go.Proofs.YtiamignopfhkfaaGreatDoor
open Go.RowKit
set_option linter.unusedVariables false
theorem splL_app (r : List UInt8) : ∀ (a pre : List UInt8), splL pre (a ++ 10 :: r) = splL pre a ++ splL [] r
  | [], pre => by simp [splL]
  | b :: t, pre => by
    rw [List.cons_append, splL, splL]
    split
    · rw [splL_app r t []]; rfl
    · rw [splL_app r t]
def noiseL : List UInt8 := [110, 111, 105, 115, 101]
def noiseT : ByteArray := { data := #[110, 111, 105, 115, 101] }
def noiseN : ByteArray := { data := #[110, 111, 105, 115, 101, 10] }
def err6T : ByteArray := { data := #[101, 114, 114, 111, 114, 32, 54] }
theorem linesR_nl {s : ByteArray} {l : List UInt8} (h : s.data.toList = l ++ [10]) : linesR s = (splL [] l).map mkB := by
  have e : linesB s = (splL [] l).map mkB ++ [⟨#[]⟩] := by
    unfold linesB
    rw [h, show l ++ [(10 : UInt8)] = l ++ 10 :: [] from rfl, splL_app, List.map_append]
    rfl
  unfold linesR
  rw [e, List.getLast?_concat, if_pos rfl, List.dropLast_concat]
theorem linesR_e {s : ByteArray} (h : s.data.toList = []) : linesR s = [] := by
  have e : linesB s = [⟨#[]⟩] := by unfold linesB; rw [h]; rfl
  unfold linesR; rw [e]; rfl
theorem noise_none : splL [] noiseL = [noiseL] := by decide
theorem linesR_noise {s : ByteArray} (h : s.size = 0 ∨ ∃ l, s.data.toList = l ++ [10]) : linesR (s ++ noiseN) = linesR s ++ [noiseT] := by
  have hd : (s ++ noiseN).data.toList = s.data.toList ++ (noiseL ++ [10]) := by rw [ByteArray.data_append, Array.toList_append]; rfl
  rcases h with h | ⟨l, h⟩
  · have h0 : s.data.toList = [] := List.eq_nil_of_length_eq_zero (by rw [Array.length_toList]; exact h)
    rw [h0, List.nil_append] at hd
    rw [linesR_nl hd, linesR_e h0, noise_none]; rfl
  · rw [h, show l ++ [(10 : UInt8)] ++ (noiseL ++ [10]) = (l ++ 10 :: noiseL) ++ [10] by simp] at hd
    rw [linesR_nl hd, linesR_nl h, splL_app, noise_none, List.map_append]; rfl
theorem noise_line : cmOf noiseT = none := by
  refine cmOf_no (lineB_false ?_)
  rintro ⟨k, hk, _⟩
  have h : kindS ((wordsB noiseT).getD 0 default) = none := by decide
  rw [h] at hk; cases hk
theorem err6 : errT 6 = err6T := by decide +kernel
/-- The outputs behind a line that is no command. -/
theorem out_noise {s : ByteArray} (h : s.size = 0 ∨ ∃ l, s.data.toList = l ++ [10]) (h1 : fitB s = true) (h2 : fitB (s ++ noiseN) = true) : outT (s ++ noiseN) = outT s ++ [err6T] := by
  unfold outT outD
  rw [h1, h2, if_pos rfl, if_pos rfl, linesR_noise h, runL_snoc, lineD_none noise_line, err6]
theorem codeT_0 {s : ByteArray} (h : codeT s = 0) : fitB s = true := by
  unfold codeT at h
  cases hf : fitB s
  · rw [hf] at h; simp at h
  · rfl
theorem codeT_or (s : ByteArray) : codeT s = 0 ∨ codeT s = 3 := by
  unfold codeT; split
  · exact .inl rfl
  · exact .inr rfl
theorem last_nl {s : ByteArray} {n : Nat} (hn : s.size = n + 1) (h : byteOf s n = 10) : ∃ l, s.data.toList = l ++ [10] := by
  have hl : s.data.toList.length = n + 1 := by rw [Array.length_toList]; exact hn
  have hk : n < s.data.toList.length := by omega
  refine ⟨s.data.toList.take n, ?_⟩
  unfold byteOf at h
  rw [List.getD_eq_getElem?_getD, List.getElem?_eq_getElem hk, Option.getD_some] at h
  have e : s.data.toList[n] = 10 := UInt8.toNat_inj.1 (by have : (10 : UInt8).toNat = 10 := rfl; omega)
  have h2 := List.take_succ_eq_append_getElem hk
  rw [List.take_of_length_le (by omega), e] at h2
  exact h2
end Go.Proofs.YtiamignopfhkfaaGreatDoor
