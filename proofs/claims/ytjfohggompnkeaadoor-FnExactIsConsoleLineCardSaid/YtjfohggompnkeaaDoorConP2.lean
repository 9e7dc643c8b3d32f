/- Plain: the words of a line, the kinds of commands, what a line of the console is. -/
import Derived.Test.YtjfohggompnkeaaDoorConP
import Derived.Lib.SplitLaws
import Derived.Lib.IndexBytes
namespace Go.Proofs.YtjfohggompnkeaaDoor
open Go.RowKit
set_option linter.unusedVariables false
def splF (pre : List UInt8) : List UInt8 → List (List UInt8)
  | [] => [pre]
  | b :: t => if b = 32 then pre :: splF [] t else splF (pre ++ [b]) t
theorem splF_none : ∀ (l pre : List UInt8), (∀ b ∈ l, b ≠ 32) → splF pre l = [pre ++ l]
  | [], pre, _ => by simp [splF]
  | b :: t, pre, h => by
    rw [splF, if_neg (h b (by simp)), splF_none t _ (fun x hx => h x (by simp [hx]))]
    simp
theorem splF_hit (r : List UInt8) : ∀ (a pre : List UInt8), (∀ b ∈ a, b ≠ 32) → splF pre (a ++ 32 :: r) = (pre ++ a) :: splF [] r
  | [], pre, _ => by simp [splF]
  | b :: t, pre, h => by
    rw [List.cons_append, splF, if_neg (h b (by simp)), splF_hit r t _ (fun x hx => h x (by simp [hx]))]
    simp
theorem idx_at : ∀ {l : List UInt8} {c : UInt8}, 0 ≤ Lib.indexByte l c → ∃ a r, l = a ++ c :: r ∧ a.length = (Lib.indexByte l c).toNat ∧ ∀ b ∈ a, b ≠ c
  | [], c, h => by simp [Lib.indexByte] at h
  | x :: l, c, h => by
    rw [Lib.indexByte] at h ⊢
    by_cases hx : x = c
    · subst hx; exact ⟨[], l, rfl, by simp, by simp⟩
    · rw [if_neg (by simpa using hx)] at h ⊢
      by_cases h2 : Lib.indexByte l c = -1
      · rw [if_pos (by simpa using h2)] at h; omega
      · rw [if_neg (by simpa using h2)] at h ⊢
        have hg := Lib.indexByte_ge l c
        obtain ⟨a, r, e1, e2, e3⟩ := idx_at (l := l) (c := c) (by omega)
        refine ⟨x :: a, r, by rw [e1]; rfl, by rw [List.length_cons, e2]; omega, fun b hb => ?_⟩
        rcases List.mem_cons.1 hb with h3 | h3
        · rw [h3]; exact hx
        · exact e3 b h3
theorem idx_no : ∀ {l : List UInt8} {c : UInt8}, Lib.indexByte l c < 0 → ∀ b ∈ l, b ≠ c
  | [], c, h => by simp
  | x :: l, c, h => by
    rw [Lib.indexByte] at h
    by_cases hx : x = c
    · rw [if_pos (by simpa using hx)] at h; omega
    · rw [if_neg (by simpa using hx)] at h
      by_cases h2 : Lib.indexByte l c = -1
      · intro b hb
        rcases List.mem_cons.1 hb with h3 | h3
        · rw [h3]; exact hx
        · exact idx_no (l := l) (by omega) b h3
      · rw [if_neg (by simpa using h2)] at h
        have := Lib.indexByte_ge l c
        omega
theorem splitK_eq : ∀ (k : Nat) (l : List UInt8), l.count 32 = k → Lib.splitK [32] 0 k l = splF [] l
  | 0, l, h => by
    have hn : ∀ b ∈ l, b ≠ 32 := fun b hb e => List.count_eq_zero.1 h (e ▸ hb)
    rw [splF_none l [] hn]; rfl
  | k + 1, l, h => by
    unfold Lib.splitK
    rw [Lib.index_one]
    by_cases hi : 0 ≤ Lib.indexByte l 32
    · obtain ⟨a, r, e1, e2, e3⟩ := idx_at hi
      rw [if_neg (by simp; omega)]
      have ha : a.count 32 = 0 := List.count_eq_zero.2 (fun hm => e3 32 hm rfl)
      have hr : r.count 32 = k := by
        rw [e1, List.count_append, ha, List.count_cons_self] at h
        omega
      have h1 : l.take ((Lib.indexByte l 32).toNat + 0) = a := by
        rw [Nat.add_zero, ← e2]
        have := congrArg (fun (x : List UInt8) => x.take a.length) e1
        simpa using this
      have h2 : l.drop ((Lib.indexByte l 32).toNat + [(32 : UInt8)].length) = r := by
        rw [← e2]
        have := congrArg (fun (x : List UInt8) => x.drop (a.length + 1)) e1
        simpa using this
      rw [h1, h2, splitK_eq k r hr]
      conv => rhs; rw [e1]
      rw [splF_hit r a [] e3]
      simp
    · have hn := idx_no (l := l) (c := 32) (by omega)
      have : l.count 32 = 0 := List.count_eq_zero.2 (fun hm => hn 32 hm rfl)
      omega
def mkB (l : List UInt8) : ByteArray := ⟨l.toArray⟩
/-- The words of a line. -/
def wordsB (s : ByteArray) : List ByteArray := (splF [] s.data.toList).map mkB
theorem words_lib (s : ByteArray) : Lib.splitB ⟨#[32]⟩ 0 (Lib.countB s ⟨#[32]⟩) s = wordsB s := by
  have h1 := Lib.splitB_data ⟨#[32]⟩ 0 (Lib.countB s ⟨#[32]⟩) s
  have h2 : Lib.countB s ⟨#[32]⟩ = s.data.toList.count 32 := Lib.count_one 32 s.data.toList
  have h3 := splitK_eq _ s.data.toList rfl
  have h4 : (Lib.splitB ⟨#[32]⟩ 0 (Lib.countB s ⟨#[32]⟩) s).map (fun x => x.data.toList) = splF [] s.data.toList := by
    rw [h1, h2]; exact h3
  unfold wordsB
  rw [← h4, List.map_map]
  have : (mkB ∘ fun (x : ByteArray) => x.data.toList) = id := by
    funext x; rfl
  rw [this, List.map_id]
theorem words_len (s : ByteArray) : (wordsB s).length = s.data.toList.count 32 + 1 := by
  have h : ∀ (l pre : List UInt8), (splF pre l).length = l.count 32 + 1 := by
    intro l
    induction l with
    | nil => intro pre; simp [splF]
    | cons b t ih =>
      intro pre
      rw [splF]
      split
      · rename_i hb
        subst hb
        rw [List.length_cons, ih, List.count_cons_self]
      · rename_i hb
        rw [ih, List.count_cons_of_ne (by simpa using hb)]
  unfold wordsB
  rw [List.length_map, h]
theorem words_pos (s : ByteArray) : 0 < (wordsB s).length := by rw [words_len]; omega
theorem words_sz (s : ByteArray) : ∀ x ∈ wordsB s, x.size ≤ s.size := by
  have h : ∀ (l pre : List UInt8), ∀ x ∈ splF pre l, x.length ≤ pre.length + l.length := by
    intro l
    induction l with
    | nil => intro pre x hx; simp [splF] at hx; rw [hx]; simp
    | cons b t ih =>
      intro pre x hx
      rw [splF] at hx
      split at hx
      · rcases List.mem_cons.1 hx with h1 | h1
        · rw [h1]; simp
        · have := ih [] x h1
          simp at this ⊢; omega
      · have := ih _ x hx
        simp at this ⊢; omega
  intro x hx
  obtain ⟨l, hl, rfl⟩ := List.mem_map.1 hx
  have h1 := h _ [] l hl
  have h2 : s.data.toList.length = s.size := Array.length_toList
  have h3 : (mkB l).size = l.length := List.size_toArray
  rw [h3]; simp at h1; omega
def byteOf (s : ByteArray) (d : Nat) : Int := ((s.data.toList.getD d 0).toNat : Int)
/-- The kinds of the words behind the first one of a command. -/
def kindS (w : ByteArray) : Option ByteArray := if w = { data := #[111, 112, 101, 110] } then some { data := #[] } else if w = { data := #[104, 111, 108, 105, 100, 97, 121] } then some { data := #[73] } else if w = { data := #[111, 110] } then some { data := #[73] } else if w = { data := #[100, 117, 101] } then some { data := #[73, 73] } else if w = { data := #[112, 108, 117, 115] } then some { data := #[73, 73] } else if w = { data := #[99, 97, 108, 108] } then some { data := #[73, 73] } else if w = { data := #[109, 111, 118, 101] } then some { data := #[73, 73] } else if w = { data := #[102, 114, 101, 101] } then some { data := #[73, 73] } else if w = { data := #[110, 101, 120, 116] } then some { data := #[73, 73] } else if w = { data := #[115, 101, 116] } then some { data := #[73, 73, 73] } else if w = { data := #[100, 114, 97, 119] } then some { data := #[73, 73, 73] } else if w = { data := #[99, 104, 97, 110, 99, 101] } then some { data := #[73, 73, 73, 73] } else if w = { data := #[102, 105, 108, 101] } then some { data := #[84, 73, 73] } else none
/-- A line is a command. -/
def LineOk (s : ByteArray) : Prop := ∃ k, kindS ((wordsB s).getD 0 default) = some k ∧ (wordsB s).length = k.size + 1 ∧ ∀ i, i < k.size → byteOf k i = 73 → ∃ n, isNum ((wordsB s).getD (i + 1) default) n
noncomputable def lineB (s : ByteArray) : Bool := @decide (LineOk s) (Classical.propDecidable _)
theorem lineB_true {s : ByteArray} (h : LineOk s) : lineB s = true := by unfold lineB; simpa using h
theorem lineB_false {s : ByteArray} (h : ¬ LineOk s) : lineB s = false := by unfold lineB; simpa using h
end Go.Proofs.YtjfohggompnkeaaDoor
