/- Contracts: decimal numerals of both texts. Plain: a number that is written is parsed again; a line of the console. Plain: the words of a line, the kinds of commands, what a line of the console is. Contract: l01Split at a space. Contracts: the kinds of a command's words, of both texts. Contract: l01Value, at every number of at most thirteen digits. Contracts: l34Parse (does it take the line), IsConsoleLine of the reference. -/
import Derived.Test.YtiamignopfhkfaaGreatDoorZ2
import Derived.Test.YtiamignopfhkfaaGreatDoorZShelf
import Derived.Lib.ItoaNum
import Derived.Lib.ItoaLen
import Derived.Lib.ItoaMem
import Derived.Lib.AppendIntMem
import Derived.Lib.SmallJoins
import Derived.Deep.RegionWith
import Derived.Lib.ParseIntB
import Derived.Lib.ParseIntBTie
import Derived.Lib.Bytealg
import Derived.Lib.SplitLaws
import Derived.Lib.IndexBytes
import Derived.Test.YtiamignopfhkfaaGreatDoorZ4
section
namespace Go.Proofs.YtiamignopfhkfaaGreatDoor
open Go.RowKit
set_option linter.unusedVariables false
def TabW (w : World) : Prop := Lib.TabIs Tryz.prog w "internal/strconv.uint64pow10" .u64 Lib.pow10Tab
theorem gTab : Tryz.prog.globalNamed "internal/strconv.uint64pow10" = some 3 := by kernel_rfl
theorem TabW.below {w w' : World} (h : TabW w) (hb : Below w.heap.size w w') : TabW w' := Go.Joins.tab_stays gTab h hb (Nat.le_refl _)
theorem ba_ext_ {a b : ByteArray} (h : a.data.toList = b.data.toList) : a = b := by
  obtain ⟨a⟩ := a; obtain ⟨b⟩ := b
  simp at h
  rw [h]
def decT (n : Nat) : ByteArray := ⟨(Lib.decDigits n).toArray⟩
def decI (n : Int) : ByteArray := ⟨(Lib.itoa n).toArray⟩
theorem decI_nat (n : Nat) : decI (n : Int) = decT n := by unfold decI decT; rw [Lib.itoa_nonneg]
theorem decI_len (n : Int) (h0 : -9223372036854775808 ≤ n) (h1 : n ≤ 9223372036854775807) : (decI n).size ≤ 21 := by
  have := Lib.itoa_length_le n h0 h1
  simpa [decI, ByteArray.size] using this
/-- A byte made into a string, wherever it lies. -/
theorem conv_at {P : Program} (src e dst : TypeId) (hs : P.underlying src = some (.slice e)) (he : P.underlying e = some (.int .u8)) (hd : P.underlying dst = some .string) (z : Int) (w : World) (g : Nat) (hb : w.cell? ⟨g, 0, none⟩ = some (.int .u8 z)) :
    (convert src dst (.slice (some ⟨g, 0, none⟩) 1 1)).run P w = .ok (.string (strOfNums [z])) w :=
  run_convert_bytes_arg (P := P) (w := w) src e hs he g 0 1 1 [z] rfl (fun i hi => by
    have h0 : i = 0 := by omega
    subst h0
    exact hb) dst hd
theorem decimalI_c (n : Int) (h0 : -9223372036854775808 ≤ n) (h1 : n ≤ 9223372036854775807) (w : World) (ht : TabW w) : Calls Tryz.prog 86 #[.int .i64 n] w fun e w' => e = .returned (.string (decI n)) ∧ Below w.heap.size w w' := by
  go_enter Tryz.func86, Tryz.ntmps86
  go_wp2_with fail
  refine (Tryz.strconv_FormatInt_10 n h0 h1 w ht).mono ?_
  rintro e w' ⟨rfl, k, os, rfl⟩
  go_wp2
  go_ret
  exact ⟨rfl, Lib.below_grow _ _ (Nat.le_refl _) _ _⟩
theorem decimal_c (n : Nat) (h1 : n ≤ 1000000000000000) (w : World) (ht : TabW w) : Calls Tryz.prog 86 #[.int .i64 n] w fun e w' => e = .returned (.string (decT n)) ∧ Below w.heap.size w w' := by
  rw [← decI_nat]
  exact decimalI_c n (by omega) (by omega) w ht
theorem decT_small {n : Nat} (h : n < 10) : decT n = strOfNums [48 + (n : Int)] := by
  unfold decT
  rw [Lib.decDigits_one h]
  unfold strOfNums
  have : UInt8.ofNat (48 + n) = UInt8.ofNat (48 + (n : Int)).toNat := by congr 1
  simp [this]
theorem decT_step {n : Nat} (h : ¬ n < 10) : decT n = decT (n / 10) ++ strOfNums [48 + ((n % 10 : Nat) : Int)] := by
  apply ba_ext_
  unfold decT
  rw [Lib.decDigits, dif_neg h]
  have : UInt8.ofNat (48 + n % 10) = UInt8.ofNat (48 + ((n % 10 : Nat) : Int)).toNat := by congr 1
  simp only [strOfNums, ByteArray.data_append, List.map_cons, List.map_nil, Array.toList_append]
  rw [this]
set_option maxRecDepth 100000 in
set_option maxHeartbeats 1000000 in
theorem l01Dec_c (n : Nat) (hn : n ≤ 1000000000000000) (w : World) : Calls Tryz.prog 66 #[.int .i64 n] w fun e w' => e = .returned (.string (decT n)) ∧ Below w.heap.size w w' := by
  induction n using Nat.strongRecOn generalizing w with
  | _ n ih =>
    by_cases h10 : n < 10
    · have hcv := conv_one (P := Tryz.prog) 22 5 9 Tryz.underlying22 Tryz.underlying5 Tryz.underlying9
      have HE := Lib.hid (decT_small h10)
      go_enter Tryz.func66, Tryz.ntmps66
      go_wp2
      go_ret
      exact ⟨by rw [HE.out]; rfl, (Below.refl _ _).alloc (Nat.le_refl _) _⟩
    · have ihc : ∀ W : World, Calls Tryz.prog 66 #[.int .i64 ((n : Int) / 10)] W fun e w' => e = .returned (.string (decT (n / 10))) ∧ Below W.heap.size W w' := fun W => by
        have h := ih (n / 10) (by omega) (by omega) W
        have e : ((n / 10 : Nat) : Int) = (n : Int) / 10 := by omega
        rw [e] at h
        exact h
      have HE := Lib.hid (decT_step h10)
      have HIH := Lib.hid ihc
      have hw1 : IntKind.i64.wrap ((n : Int) / 10) = (n : Int) / 10 := IntWalk.i64_in _ (by omega)
      have hw2 : (n : Int).tmod 10 = (n : Int) % 10 := IntWalk.rem_in _ _ (by omega)
      have hw3 : IntKind.i64.wrap (48 + (n : Int) % 10) = 48 + (n : Int) % 10 := IntWalk.i64_in _ (by omega)
      have hw4 : IntKind.u8.wrap (48 + (n : Int) % 10) = 48 + (n : Int) % 10 := IntWalk.u8_in _ (by omega)
      have hcv := conv_at (P := Tryz.prog) 22 5 9 Tryz.underlying22 Tryz.underlying5 Tryz.underlying9 (48 + (n : Int) % 10)
      have hsum : ¬ 9223372036854775807 < (decT (n / 10)).size + (strOfNums [48 + (n : Int) % 10]).size := by
        have h1 := decI_len ((n / 10 : Nat) : Int) (by omega) (by omega)
        rw [decI_nat] at h1
        rw [strOfNums_size]
        simp only [List.length_cons, List.length_nil]
        omega
      clear ih ihc
      go_enter Tryz.func66, Tryz.ntmps66
      go_wp2_with fail
      go_region_with (first | (go_at_call 66; refine (HIH.out _).mono ?_; rintro e w3 ⟨rfl, hb3⟩; have hB3 : Below w.heap.size w w3 := below_then ((Below.refl _ _).drew) hb3 (Nat.le_refl _); have hs3 := hB3.size) | (go_at_call 66; refine (HIH.out _).mono ?_; rintro e w3 ⟨rfl, hb3⟩; have hB3 : Below w.heap.size w w3 := below_then (((Below.refl _ _).alloc (Nat.le_refl _) _).drew) hb3 (Nat.le_refl _); have hs3 := hB3.size; have hy3 : w3.cell? ⟨w.heap.size, 0, none⟩ = some (.int .u8 (48 + (n : Int) % 10)) := (hb3.cell (p := ⟨w.heap.size, 0, none⟩) (by simp)).trans (by simp [go_sem])))
      all_goals
        go_wp2
        go_ret
        exact ⟨by rw [HE.out]; rfl, by first | exact hB3 | exact hB3.alloc hB3.size _⟩
end Go.Proofs.YtiamignopfhkfaaGreatDoor
end
section
namespace Go.Proofs.YtiamignopfhkfaaGreatDoor
open Go.RowKit
set_option linter.unusedVariables false
theorem parse_snoc : ∀ (l : List UInt8) (acc v : Nat) (c : UInt8), Lib.parseUint10 acc l = .ok v → Lib.parseUint10 acc (l ++ [c]) = Lib.parseUint10 v [c]
  | [], acc, v, c, h => by
    rw [Lib.parseUint10] at h
    injection h with h
    rw [h]; rfl
  | b :: l, acc, v, c, h => by
    rw [Lib.parseUint10] at h
    rw [List.cons_append, Lib.parseUint10]
    split at h
    · rename_i h1
      rw [if_pos h1]
      split at h
      · cases h
      · rename_i h2
        rw [if_neg h2]
        split at h
        · cases h
        · rename_i h3
          rw [if_neg h3]
          exact parse_snoc l _ v c h
    · cases h
theorem parse_digit {acc d : Nat} (hd : d < 10) (ha : acc < 1000000000000000) : Lib.parseUint10 acc [UInt8.ofNat (48 + d)] = .ok (acc * 10 + d) := by
  have e : (UInt8.ofNat (48 + d)).toNat = 48 + d := by rw [UInt8.toNat_ofNat']; omega
  rw [Lib.parseUint10, e, if_pos (by omega), if_neg (by omega), if_neg (by omega), Lib.parseUint10]
  congr 1; omega
theorem parse_dec : ∀ n : Nat, n < 10000000000000 → Lib.parseUint10 0 (Lib.decDigits n) = .ok n := by
  intro n
  induction n using Nat.strongRecOn with
  | _ n ih =>
    intro hn
    rw [Lib.decDigits]
    split
    · rw [parse_digit (by assumption) (by omega)]; congr 1; omega
    · rw [parse_snoc _ _ _ _ (ih (n / 10) (by omega) (by omega)), parse_digit (by omega) (by omega)]
      congr 1; omega
theorem dec_cons (n : Nat) : ∃ c r, Lib.decDigits n = c :: r ∧ 48 ≤ c.toNat ∧ c.toNat ≤ 57 := by
  induction n using Nat.strongRecOn with
  | _ n ih =>
    rw [Lib.decDigits]
    split
    · exact ⟨_, [], rfl, by rw [UInt8.toNat_ofNat']; omega, by rw [UInt8.toNat_ofNat']; omega⟩
    · obtain ⟨c, r, e, h1, h2⟩ := ih (n / 10) (by omega)
      rw [e]
      exact ⟨c, _, rfl, h1, h2⟩
theorem parse_back {n : Nat} (h : n < 10000000000000) : Lib.parseIntB 64 (Lib.decDigits n) = .ok (n : Int) := by
  rw [Lib.parseIntB_64]
  have hp := parse_dec n h
  obtain ⟨c, r, e, h1, h2⟩ := dec_cons n
  rw [e] at hp ⊢
  have hm : Lib.parseMag (c :: r) = .ok n := by rw [Lib.parseMag, if_neg (by simp)]; exact hp
  simp only [Lib.atoiAll]
  rw [if_neg (by omega), hm]
  simp only []
  rw [if_neg (by omega)]
  split
  · omega
  · rw [if_neg (by omega)]
/-- A text is a number of at most thirteen digits, as it is written. -/
def isNum (s : ByteArray) (n : Nat) : Prop := n < 10000000000000 ∧ s = decT n
theorem dec_len : ∀ (k n : Nat), n < 10 ^ (k + 1) → (Lib.decDigits n).length ≤ k + 1
  | 0, n, h => by rw [Lib.decDigits_one (by simpa using h)]; simp
  | k + 1, n, h => by
    rw [Lib.decDigits]
    split
    · simp
    · rw [List.length_append, List.length_singleton]
      have := dec_len k (n / 10) (by rw [Nat.pow_succ] at h; omega)
      omega
theorem dec_big : ∀ (k n : Nat), 10 ^ k ≤ n → k + 1 ≤ (Lib.decDigits n).length
  | 0, n, h => by
    obtain ⟨c, r, e, _, _⟩ := dec_cons n
    rw [e]; simp
  | k + 1, n, h => by
    rw [Lib.decDigits]
    rw [Nat.pow_succ] at h
    have hk : 1 ≤ 10 ^ k := Nat.one_le_pow _ _ (by omega)
    rw [dif_neg (by omega), List.length_append, List.length_singleton]
    have := dec_big k (n / 10) (by omega)
    omega
theorem isNum_size {s : ByteArray} {n : Nat} (h : isNum s n) : 1 ≤ s.size ∧ s.size ≤ 13 := by
  obtain ⟨h1, rfl⟩ := h
  have e : (decT n).size = (Lib.decDigits n).length := rfl
  obtain ⟨c, r, ec, _, _⟩ := dec_cons n
  have := dec_len 12 n h1
  rw [e]
  exact ⟨by rw [ec]; simp, this⟩
theorem isNum_of {n : Nat} (h : (decT n).size ≤ 13) : isNum (decT n) n := by
  refine ⟨?_, rfl⟩
  have e : (decT n).size = (Lib.decDigits n).length := rfl
  by_cases hn : n < 10000000000000
  · exact hn
  · have := dec_big 13 n (by omega)
    omega
theorem isNum_uniq {s : ByteArray} {n m : Nat} (h : isNum s n) (k : isNum s m) : n = m := by
  have e : Lib.decDigits n = Lib.decDigits m := by
    have := h.2.symm.trans k.2
    have h2 := congrArg (fun (x : ByteArray) => x.data.toList) this
    simpa [decT] using h2
  have h1 := parse_dec n h.1
  rw [e, parse_dec m k.1] at h1
  injection h1 with h1
  exact h1.symm
end Go.Proofs.YtiamignopfhkfaaGreatDoor
end
section
namespace Go.Proofs.YtiamignopfhkfaaGreatDoor
open Go.RowKit
set_option linter.unusedVariables false
def splF (pre : List UInt8) : List UInt8 → List (List UInt8)
  | [] => [pre]
  | b :: t => if b = 32 then pre :: splF [] t else splF (pre ++ [b]) t
theorem splF_none : ∀ (l pre : List UInt8), (∀ b ∈ l, b ≠ 32) → splF pre l = [pre ++ l]
  | [], pre, _ => by simp [splF]
  | b :: t, pre, h => by
    rw [splF, if_neg (h b (by simp)), splF_none t _ (fun x hx => h x (by simp [hx]))]
    simp
theorem splF_hit (r : List UInt8) : ∀ (a pre : List UInt8), (∀ b ∈ a, b ≠ 32) → splF pre (a ++ 32 :: r) = (pre ++ a) :: splF [] r
  | [], pre, _ => by simp [splF]
  | b :: t, pre, h => by
    rw [List.cons_append, splF, if_neg (h b (by simp)), splF_hit r t _ (fun x hx => h x (by simp [hx]))]
    simp
theorem idx_at : ∀ {l : List UInt8} {c : UInt8}, 0 ≤ Lib.indexByte l c → ∃ a r, l = a ++ c :: r ∧ a.length = (Lib.indexByte l c).toNat ∧ ∀ b ∈ a, b ≠ c
  | [], c, h => by simp [Lib.indexByte] at h
  | x :: l, c, h => by
    rw [Lib.indexByte] at h ⊢
    by_cases hx : x = c
    · subst hx; exact ⟨[], l, rfl, by simp, by simp⟩
    · rw [if_neg (by simpa using hx)] at h ⊢
      by_cases h2 : Lib.indexByte l c = -1
      · rw [if_pos (by simpa using h2)] at h; omega
      · rw [if_neg (by simpa using h2)] at h ⊢
        have hg := Lib.indexByte_ge l c
        obtain ⟨a, r, e1, e2, e3⟩ := idx_at (l := l) (c := c) (by omega)
        refine ⟨x :: a, r, by rw [e1]; rfl, by rw [List.length_cons, e2]; omega, fun b hb => ?_⟩
        rcases List.mem_cons.1 hb with h3 | h3
        · rw [h3]; exact hx
        · exact e3 b h3
theorem idx_no : ∀ {l : List UInt8} {c : UInt8}, Lib.indexByte l c < 0 → ∀ b ∈ l, b ≠ c
  | [], c, h => by simp
  | x :: l, c, h => by
    rw [Lib.indexByte] at h
    by_cases hx : x = c
    · rw [if_pos (by simpa using hx)] at h; omega
    · rw [if_neg (by simpa using hx)] at h
      by_cases h2 : Lib.indexByte l c = -1
      · intro b hb
        rcases List.mem_cons.1 hb with h3 | h3
        · rw [h3]; exact hx
        · exact idx_no (l := l) (by omega) b h3
      · rw [if_neg (by simpa using h2)] at h
        have := Lib.indexByte_ge l c
        omega
theorem splitK_eq : ∀ (k : Nat) (l : List UInt8), l.count 32 = k → Lib.splitK [32] 0 k l = splF [] l
  | 0, l, h => by
    have hn : ∀ b ∈ l, b ≠ 32 := fun b hb e => List.count_eq_zero.1 h (e ▸ hb)
    rw [splF_none l [] hn]; rfl
  | k + 1, l, h => by
    unfold Lib.splitK
    rw [Lib.index_one]
    by_cases hi : 0 ≤ Lib.indexByte l 32
    · obtain ⟨a, r, e1, e2, e3⟩ := idx_at hi
      rw [if_neg (by simp; omega)]
      have ha : a.count 32 = 0 := List.count_eq_zero.2 (fun hm => e3 32 hm rfl)
      have hr : r.count 32 = k := by
        rw [e1, List.count_append, ha, List.count_cons_self] at h
        omega
      have h1 : l.take ((Lib.indexByte l 32).toNat + 0) = a := by
        rw [Nat.add_zero, ← e2]
        have := congrArg (fun (x : List UInt8) => x.take a.length) e1
        simpa using this
      have h2 : l.drop ((Lib.indexByte l 32).toNat + [(32 : UInt8)].length) = r := by
        rw [← e2]
        have := congrArg (fun (x : List UInt8) => x.drop (a.length + 1)) e1
        simpa using this
      rw [h1, h2, splitK_eq k r hr]
      conv => rhs; rw [e1]
      rw [splF_hit r a [] e3]
      simp
    · have hn := idx_no (l := l) (c := 32) (by omega)
      have : l.count 32 = 0 := List.count_eq_zero.2 (fun hm => hn 32 hm rfl)
      omega
def mkB (l : List UInt8) : ByteArray := ⟨l.toArray⟩
/-- The words of a line. -/
def wordsB (s : ByteArray) : List ByteArray := (splF [] s.data.toList).map mkB
theorem words_lib (s : ByteArray) : Lib.splitB ⟨#[32]⟩ 0 (Lib.countB s ⟨#[32]⟩) s = wordsB s := by
  have h1 := Lib.splitB_data ⟨#[32]⟩ 0 (Lib.countB s ⟨#[32]⟩) s
  have h2 : Lib.countB s ⟨#[32]⟩ = s.data.toList.count 32 := Lib.count_one 32 s.data.toList
  have h3 := splitK_eq _ s.data.toList rfl
  have h4 : (Lib.splitB ⟨#[32]⟩ 0 (Lib.countB s ⟨#[32]⟩) s).map (fun x => x.data.toList) = splF [] s.data.toList := by
    rw [h1, h2]; exact h3
  unfold wordsB
  rw [← h4, List.map_map]
  have : (mkB ∘ fun (x : ByteArray) => x.data.toList) = id := by
    funext x; rfl
  rw [this, List.map_id]
theorem words_len (s : ByteArray) : (wordsB s).length = s.data.toList.count 32 + 1 := by
  have h : ∀ (l pre : List UInt8), (splF pre l).length = l.count 32 + 1 := by
    intro l
    induction l with
    | nil => intro pre; simp [splF]
    | cons b t ih =>
      intro pre
      rw [splF]
      split
      · rename_i hb
        subst hb
        rw [List.length_cons, ih, List.count_cons_self]
      · rename_i hb
        rw [ih, List.count_cons_of_ne (by simpa using hb)]
  unfold wordsB
  rw [List.length_map, h]
theorem words_pos (s : ByteArray) : 0 < (wordsB s).length := by rw [words_len]; omega
theorem words_sz (s : ByteArray) : ∀ x ∈ wordsB s, x.size ≤ s.size := by
  have h : ∀ (l pre : List UInt8), ∀ x ∈ splF pre l, x.length ≤ pre.length + l.length := by
    intro l
    induction l with
    | nil => intro pre x hx; simp [splF] at hx; rw [hx]; simp
    | cons b t ih =>
      intro pre x hx
      rw [splF] at hx
      split at hx
      · rcases List.mem_cons.1 hx with h1 | h1
        · rw [h1]; simp
        · have := ih [] x h1
          simp at this ⊢; omega
      · have := ih _ x hx
        simp at this ⊢; omega
  intro x hx
  obtain ⟨l, hl, rfl⟩ := List.mem_map.1 hx
  have h1 := h _ [] l hl
  have h2 : s.data.toList.length = s.size := Array.length_toList
  have h3 : (mkB l).size = l.length := List.size_toArray
  rw [h3]; simp at h1; omega
def byteOf (s : ByteArray) (d : Nat) : Int := ((s.data.toList.getD d 0).toNat : Int)
/-- The kinds of the words behind the first one of a command. -/
def kindS (w : ByteArray) : Option ByteArray := if w = { data := #[111, 112, 101, 110] } then some { data := #[] } else if w = { data := #[104, 111, 108, 105, 100, 97, 121] } then some { data := #[73] } else if w = { data := #[111, 110] } then some { data := #[73] } else if w = { data := #[100, 117, 101] } then some { data := #[73, 73] } else if w = { data := #[112, 108, 117, 115] } then some { data := #[73, 73] } else if w = { data := #[99, 97, 108, 108] } then some { data := #[73, 73] } else if w = { data := #[109, 111, 118, 101] } then some { data := #[73, 73] } else if w = { data := #[102, 114, 101, 101] } then some { data := #[73, 73] } else if w = { data := #[110, 101, 120, 116] } then some { data := #[73, 73] } else if w = { data := #[115, 101, 116] } then some { data := #[73, 73, 73] } else if w = { data := #[100, 114, 97, 119] } then some { data := #[73, 73, 73] } else if w = { data := #[99, 104, 97, 110, 99, 101] } then some { data := #[73, 73, 73, 73] } else if w = { data := #[102, 105, 108, 101] } then some { data := #[84, 73, 73] } else none
/-- A line is a command. -/
def LineOk (s : ByteArray) : Prop := ∃ k, kindS ((wordsB s).getD 0 default) = some k ∧ (wordsB s).length = k.size + 1 ∧ ∀ i, i < k.size → byteOf k i = 73 → ∃ n, isNum ((wordsB s).getD (i + 1) default) n
noncomputable def lineB (s : ByteArray) : Bool := @decide (LineOk s) (Classical.propDecidable _)
theorem lineB_true {s : ByteArray} (h : LineOk s) : lineB s = true := by unfold lineB; simpa using h
theorem lineB_false {s : ByteArray} (h : ¬ LineOk s) : lineB s = false := by unfold lineB; simpa using h
end Go.Proofs.YtiamignopfhkfaaGreatDoor
end
section
namespace Go.Proofs.YtiamignopfhkfaaGreatDoor
open Go.RowKit
set_option linter.unusedVariables false
theorem str_info : (Tryz.prog.info? 9).map (fun i => (i.zero, i.size, i.bytes)) = some (some (.string ByteArray.empty), 1, 16) := by kernel_rfl
/-- The state of the splitting: what has been cut off, where the word at hand begins, how far it has come. -/
def SI (s : ByteArray) (D : List ByteArray) (f k : Nat) : Prop :=
  (k ≤ s.size ∧ f ≤ k ∧ D ++ (splF ((s.data.toList.take k).drop f) (s.data.toList.drop k)).map mkB = wordsB s) ∨ (k = s.size + 1 ∧ D = wordsB s)
theorem s_len (s : ByteArray) : s.data.toList.length = s.size := Array.length_toList
theorem mk_ext (s : ByteArray) (f k : Nat) : mkB ((s.data.toList.take k).drop f) = s.extract f k := by
  apply ba_ext
  show (mkB _).data.toList = _
  rw [ByteArray.data_extract, Array.toList_extract, List.extract_eq_take_drop, List.drop_take]
  simp [mkB]
theorem SI.start (s : ByteArray) : SI s [] 0 0 := .inl ⟨by omega, by omega, by simp [wordsB]⟩
theorem SI.bd {s : ByteArray} {D : List ByteArray} {f k : Nat} (h : SI s D f k) : D.length ≤ (wordsB s).length := by
  rcases h with ⟨_, _, h⟩ | ⟨_, h⟩
  · rw [← h]; simp
  · rw [h]; exact Nat.le_refl _
theorem SI.last {s : ByteArray} {D : List ByteArray} {f : Nat} (h : SI s D f s.size) : f ≤ s.size ∧ SI s (D ++ [s.extract f s.size]) (s.size + 1) (s.size + 1) := by
  rcases h with ⟨_, h1, h⟩ | ⟨h, _⟩
  · refine ⟨h1, .inr ⟨rfl, ?_⟩⟩
    have hd : s.data.toList.drop s.size = [] := List.drop_of_length_le (by rw [s_len]; omega)
    rw [← h, hd, splF, List.map_singleton, mk_ext]
  · omega
theorem SI.cut {s : ByteArray} {D : List ByteArray} {f k : Nat} (h : SI s D f k) (hk : k < s.size) (hb : s[k] = 32) : f ≤ k ∧ SI s (D ++ [s.extract f k]) (k + 1) (k + 1) := by
  rcases h with ⟨_, h1, h⟩ | ⟨h, _⟩
  · refine ⟨h1, .inl ⟨by omega, by omega, ?_⟩⟩
    have hd : s.data.toList.drop k = s[k] :: s.data.toList.drop (k + 1) := List.drop_eq_getElem_cons (by rw [s_len]; exact hk)
    have he : (s.data.toList.take (k + 1)).drop (k + 1) = [] := List.drop_of_length_le (by rw [List.length_take]; omega)
    rw [he, ← h, hd, splF, if_pos hb, List.map_cons, mk_ext]
    simp
  · omega
theorem SI.on {s : ByteArray} {D : List ByteArray} {f k : Nat} (h : SI s D f k) (hk : k < s.size) (hb : s[k] ≠ 32) : SI s D f (k + 1) := by
  rcases h with ⟨_, h1, h⟩ | ⟨h, _⟩
  · refine .inl ⟨by omega, by omega, ?_⟩
    have hl : k < s.data.toList.length := by rw [s_len]; exact hk
    have hd : s.data.toList.drop k = s[k] :: s.data.toList.drop (k + 1) := List.drop_eq_getElem_cons hl
    have he : (s.data.toList.take (k + 1)).drop f = (s.data.toList.take k).drop f ++ [s[k]] := by
      rw [List.take_succ_eq_append_getElem hl, List.drop_append_of_le_length (by rw [List.length_take]; omega)]
      rfl
    rw [← h, hd, splF, if_neg hb, he]
  · omega
theorem SI.done {s : ByteArray} {D : List ByteArray} {f : Nat} (h : SI s D f (s.size + 1)) : D = wordsB s := by
  rcases h with ⟨h, _⟩ | ⟨_, h⟩
  · omega
  · exact h
def SplP (s : ByteArray) (w : World) (e : Ending) (wr : World) : Prop := ∃ (A : Option Addr) (c : Nat) (D : List ByteArray), e = .returned (.slice A D.length c) ∧ D = wordsB s ∧ wr.ownsRow w.heap.size 9 1 (.slice A D.length c) D.length (D.map Value.string) ∧ Below w.heap.size w wr
theorem own_snocS {W : World} {b : Nat} {A : Option Addr} {c : Nat} {D : List ByteArray} {y : ByteArray} (h : W.ownsRow b 9 1 (.slice A (D.length + 1) c) (D.length + 1) (D.map Value.string ++ [.string y])) : W.ownsRow b 9 1 (.slice A (D ++ [y]).length c) (D ++ [y]).length ((D ++ [y]).map Value.string) := by
  rw [List.length_append, List.map_append]; exact h
theorem byte_ne {x : UInt8} (h : x ≠ 32) : ((x.toNat : Nat) : Int) ≠ 32 := fun e => h (UInt8.toNat_inj.1 (by have : (32 : UInt8).toNat = 32 := rfl; omega))
theorem byte_eq {x : UInt8} (h : x = 32) : ((x.toNat : Nat) : Int) = 32 := by rw [h]; rfl
set_option maxRecDepth 100000 in
set_option maxHeartbeats 4000000 in
theorem l01Split_c (s : ByteArray) (w : World) (hs : s.size ≤ 2000000) : Calls Tryz.prog 65 #[.string s, .int .u8 32] w (SplP s w) := by
  obtain ⟨i0, hi, hz0, hz1, hz2⟩ := info_parts str_info
  have hwl : (wordsB s).length ≤ 2000001 := by
    rw [words_len]
    have := List.count_le_length (a := (32 : UInt8)) (l := s.data.toList)
    rw [s_len] at this; omega
  go_enter Tryz.func65, Tryz.ntmps65
  go_wp2_with fail
  have ho := World.ownsRow_lit (base := w.heap.size) (e := 9) (size := 1) w #[] 0 (Nat.le_refl _) (by unfold maxLen; omega) rfl
  generalize hW2 : w.alloc (.cells #[] 9) = W2 at ho ⊢
  have hb2 : Below w.heap.size w W2 := by subst hW2; exact (Below.refl _ _).alloc (Nat.le_refl _) _
  have HO := Lib.hid ho
  clear hW2 ho
  go_wp2
  go_loopw [5, 6, 7] (fun ov fv iv wr => ∃ (A : Option Addr) (c : Nat) (D : List ByteArray) (f k : Nat), ov = .slice A D.length c ∧ fv = .int .i64 f ∧ iv = .int .i64 k ∧ k ≤ s.size + 1 ∧ f ≤ 2000001 ∧ Hid (SI s D f k) ∧ Hid (wr.ownsRow w.heap.size 9 1 (.slice A D.length c) D.length (D.map Value.string)) ∧ Below w.heap.size w wr)
    (fun _ _ iv _ => s.size + 1 - (intOf iv).toNat)
  case atStart => exact ⟨_, _, [], 0, 0, rfl, rfl, rfl, by omega, by omega, SI.start s, HO, hb2⟩
  case round =>
    obtain ⟨A, c, D, f, k, rfl, rfl, rfl, hk, hf, HI, HOr, hB⟩ := hrel
    clear HO hb2
    have hDl := HI.out.bd
    have hzr := hB.size
    by_cases hlt : k ≤ s.size
    · have hki : (k : Int) ≤ (s.size : Int) := by omega
      by_cases hend : k = s.size
      · obtain ⟨hfs, HI2⟩ := (show SI s D f s.size from hend ▸ HI.out).last
        have HI2 := Lib.hid HI2
        subst hend
        have hfi : (f : Int) ≤ (s.size : Int) := by omega
        have hf0 : (0 : Int) ≤ (f : Int) := by omega
        have hs0 : (0 : Int) ≤ (s.size : Int) := by omega
        go_wp2_with (first | (at_builtin; refine wpList_push wr rfl _ _ 25 rfl w.heap.size 9 i0 _ 1 16 Tryz.underlying25 hi hz0 hz1 hz2 rfl (by decide) (.slice A D.length c) (D.length) (D.map Value.string) (by rfl) HOr.out [.string (s.extract f s.size)] 9 (by rfl) rfl (by simp [Value.oneCell']) (by unfold maxLen; omega) (by omega) (by omega) ?_; intro A7 c7 w7 ho7 hg7; have HO7 := Lib.hid (own_snocS (y := s.extract f s.size) ho7); have hb7 := below_grown hB hg7 (Nat.le_refl _) (fun k hk => HOr.out.lt k hk |>.1); clear ho7 hg7))
        go_roundw
        case rel => exact ⟨A7, c7, D ++ [s.extract f s.size], s.size + 1, s.size + 1, by simp, by go_num, by go_num, by omega, by omega, HI2, HO7, hb7⟩
        case measure => first | (simp [intOf]; done) | (simp [intOf]; omega)
      · have hne : k < s.size := by omega
        have hnei : ((k : Int) == (s.size : Int)) = false := beq_eq_false_iff_ne.2 (by omega)
        have hk1 : (k : Int) < (s.size : Int) := by omega
        have hk0 : (0 : Int) ≤ (k : Int) := by omega
        by_cases hb : s[k] = 32
        · obtain ⟨hfs, HI2⟩ := HI.out.cut hne hb
          have HI2 := Lib.hid HI2
          have hbe := byte_eq hb
          have hfi : (f : Int) ≤ (k : Int) := by omega
          have hf0 : (0 : Int) ≤ (f : Int) := by omega
          go_wp2_with (first | (at_builtin; refine wpList_push wr rfl _ _ 25 rfl w.heap.size 9 i0 _ 1 16 Tryz.underlying25 hi hz0 hz1 hz2 rfl (by decide) (.slice A D.length c) (D.length) (D.map Value.string) (by rfl) HOr.out [.string (s.extract f k)] 9 (by rfl) rfl (by simp [Value.oneCell']) (by unfold maxLen; omega) (by omega) (by omega) ?_; intro A7 c7 w7 ho7 hg7; have HO7 := Lib.hid (own_snocS (y := s.extract f k) ho7); have hb7 := below_grown hB hg7 (Nat.le_refl _) (fun k hk => HOr.out.lt k hk |>.1); clear ho7 hg7))
          go_roundw
          case rel => exact ⟨A7, c7, D ++ [s.extract f k], k + 1, k + 1, by simp, by go_num, by go_num, by omega, by omega, HI2, HO7, hb7⟩
          case measure => first | (simp [intOf]; done) | (simp [intOf]; omega)
        · have HI2 := Lib.hid (HI.out.on hne hb)
          have hbe : (((s[k].toNat : Nat) : Int) == 32) = false := beq_eq_false_iff_ne.2 (byte_ne hb)
          go_wp2
          go_roundw
          case rel => exact ⟨A, c, D, f, k + 1, rfl, rfl, by go_num, by omega, by omega, HI2, HOr, hB⟩
          case measure => first | (simp [intOf]; done) | (simp [intOf]; omega)
    · obtain rfl : k = s.size + 1 := by omega
      have hnl : ¬ ((s.size : Int) + 1 ≤ (s.size : Int)) := by omega
      have HD := Lib.hid HI.out.done
      go_wp2
      go_ret
      exact ⟨A, c, D, rfl, HD.out, HOr.out, hB⟩
end Go.Proofs.YtiamignopfhkfaaGreatDoor
end
section
namespace Go.Proofs.YtiamignopfhkfaaGreatDoor
open Go.RowKit
set_option linter.unusedVariables false
theorem str_ne {a : ByteArray} {l : List UInt8} (h : ¬ a = ⟨l.toArray⟩) : (a.toList == l) = false := by
  rw [beq_eq_false_iff_ne]
  intro e
  rw [Go.ByteArray.toList_eq] at e
  exact h (ba_ext e)
set_option maxRecDepth 100000 in
set_option maxHeartbeats 4000000 in
theorem shape_c (s : ByteArray) (w : World) : Calls Tryz.prog 67 #[.string s] w fun e w' => e = .returned (.tuple #[.string ((kindS s).getD ⟨#[]⟩), .bool (kindS s).isSome]) ∧ w = w' := by
  by_cases h0 : s = { data := #[111, 112, 101, 110] }
  · subst h0
    go_enter Tryz.func67, Tryz.ntmps67
    go_wp2
    go_ret2
    exact ⟨by simp [kindS], rfl⟩
  by_cases h1 : s = { data := #[104, 111, 108, 105, 100, 97, 121] }
  · subst h1
    go_enter Tryz.func67, Tryz.ntmps67
    go_wp2
    go_ret2
    exact ⟨by simp [kindS], rfl⟩
  by_cases h2 : s = { data := #[111, 110] }
  · subst h2
    go_enter Tryz.func67, Tryz.ntmps67
    go_wp2
    go_ret2
    exact ⟨by simp [kindS], rfl⟩
  by_cases h3 : s = { data := #[100, 117, 101] }
  · subst h3
    go_enter Tryz.func67, Tryz.ntmps67
    go_wp2
    go_ret2
    exact ⟨by simp [kindS], rfl⟩
  by_cases h4 : s = { data := #[112, 108, 117, 115] }
  · subst h4
    go_enter Tryz.func67, Tryz.ntmps67
    go_wp2
    go_ret2
    exact ⟨by simp [kindS], rfl⟩
  by_cases h5 : s = { data := #[99, 97, 108, 108] }
  · subst h5
    go_enter Tryz.func67, Tryz.ntmps67
    go_wp2
    go_ret2
    exact ⟨by simp [kindS], rfl⟩
  by_cases h6 : s = { data := #[109, 111, 118, 101] }
  · subst h6
    go_enter Tryz.func67, Tryz.ntmps67
    go_wp2
    go_ret2
    exact ⟨by simp [kindS], rfl⟩
  by_cases h7 : s = { data := #[102, 114, 101, 101] }
  · subst h7
    go_enter Tryz.func67, Tryz.ntmps67
    go_wp2
    go_ret2
    exact ⟨by simp [kindS], rfl⟩
  by_cases h8 : s = { data := #[110, 101, 120, 116] }
  · subst h8
    go_enter Tryz.func67, Tryz.ntmps67
    go_wp2
    go_ret2
    exact ⟨by simp [kindS], rfl⟩
  by_cases h9 : s = { data := #[115, 101, 116] }
  · subst h9
    go_enter Tryz.func67, Tryz.ntmps67
    go_wp2
    go_ret2
    exact ⟨by simp [kindS], rfl⟩
  by_cases h10 : s = { data := #[100, 114, 97, 119] }
  · subst h10
    go_enter Tryz.func67, Tryz.ntmps67
    go_wp2
    go_ret2
    exact ⟨by simp [kindS], rfl⟩
  by_cases h11 : s = { data := #[99, 104, 97, 110, 99, 101] }
  · subst h11
    go_enter Tryz.func67, Tryz.ntmps67
    go_wp2
    go_ret2
    exact ⟨by simp [kindS], rfl⟩
  by_cases h12 : s = { data := #[102, 105, 108, 101] }
  · subst h12
    go_enter Tryz.func67, Tryz.ntmps67
    go_wp2
    go_ret2
    exact ⟨by simp [kindS], rfl⟩
  have n0 := str_ne (l := [111, 112, 101, 110]) h0
  have n1 := str_ne (l := [104, 111, 108, 105, 100, 97, 121]) h1
  have n2 := str_ne (l := [111, 110]) h2
  have n3 := str_ne (l := [100, 117, 101]) h3
  have n4 := str_ne (l := [112, 108, 117, 115]) h4
  have n5 := str_ne (l := [99, 97, 108, 108]) h5
  have n6 := str_ne (l := [109, 111, 118, 101]) h6
  have n7 := str_ne (l := [102, 114, 101, 101]) h7
  have n8 := str_ne (l := [110, 101, 120, 116]) h8
  have n9 := str_ne (l := [115, 101, 116]) h9
  have n10 := str_ne (l := [100, 114, 97, 119]) h10
  have n11 := str_ne (l := [99, 104, 97, 110, 99, 101]) h11
  have n12 := str_ne (l := [102, 105, 108, 101]) h12
  have hk : kindS s = none := by simp [kindS, h0, h1, h2, h3, h4, h5, h6, h7, h8, h9, h10, h11, h12]
  rw [hk]
  clear h0 h1 h2 h3 h4 h5 h6 h7 h8 h9 h10 h11 h12
  go_enter Tryz.func67, Tryz.ntmps67
  go_wp2
  go_ret2
  exact ⟨rfl, rfl⟩
set_option maxRecDepth 100000 in
set_option maxHeartbeats 4000000 in
theorem l34Kind_c (s : ByteArray) (w : World) : Calls Tryz.prog 69 #[.string s] w fun e w' => e = .returned (.string ((kindS s).getD ⟨#[45]⟩)) ∧ w = w' := by
  by_cases h0 : s = { data := #[111, 112, 101, 110] }
  · subst h0
    go_enter Tryz.func69, Tryz.ntmps69
    go_wp2
    go_ret
    exact ⟨by simp [kindS], rfl⟩
  by_cases h1 : s = { data := #[104, 111, 108, 105, 100, 97, 121] }
  · subst h1
    go_enter Tryz.func69, Tryz.ntmps69
    go_wp2
    go_ret
    exact ⟨by simp [kindS], rfl⟩
  by_cases h2 : s = { data := #[111, 110] }
  · subst h2
    go_enter Tryz.func69, Tryz.ntmps69
    go_wp2
    go_ret
    exact ⟨by simp [kindS], rfl⟩
  by_cases h3 : s = { data := #[100, 117, 101] }
  · subst h3
    go_enter Tryz.func69, Tryz.ntmps69
    go_wp2
    go_ret
    exact ⟨by simp [kindS], rfl⟩
  by_cases h4 : s = { data := #[112, 108, 117, 115] }
  · subst h4
    go_enter Tryz.func69, Tryz.ntmps69
    go_wp2
    go_ret
    exact ⟨by simp [kindS], rfl⟩
  by_cases h5 : s = { data := #[99, 97, 108, 108] }
  · subst h5
    go_enter Tryz.func69, Tryz.ntmps69
    go_wp2
    go_ret
    exact ⟨by simp [kindS], rfl⟩
  by_cases h6 : s = { data := #[109, 111, 118, 101] }
  · subst h6
    go_enter Tryz.func69, Tryz.ntmps69
    go_wp2
    go_ret
    exact ⟨by simp [kindS], rfl⟩
  by_cases h7 : s = { data := #[102, 114, 101, 101] }
  · subst h7
    go_enter Tryz.func69, Tryz.ntmps69
    go_wp2
    go_ret
    exact ⟨by simp [kindS], rfl⟩
  by_cases h8 : s = { data := #[110, 101, 120, 116] }
  · subst h8
    go_enter Tryz.func69, Tryz.ntmps69
    go_wp2
    go_ret
    exact ⟨by simp [kindS], rfl⟩
  by_cases h9 : s = { data := #[115, 101, 116] }
  · subst h9
    go_enter Tryz.func69, Tryz.ntmps69
    go_wp2
    go_ret
    exact ⟨by simp [kindS], rfl⟩
  by_cases h10 : s = { data := #[100, 114, 97, 119] }
  · subst h10
    go_enter Tryz.func69, Tryz.ntmps69
    go_wp2
    go_ret
    exact ⟨by simp [kindS], rfl⟩
  by_cases h11 : s = { data := #[99, 104, 97, 110, 99, 101] }
  · subst h11
    go_enter Tryz.func69, Tryz.ntmps69
    go_wp2
    go_ret
    exact ⟨by simp [kindS], rfl⟩
  by_cases h12 : s = { data := #[102, 105, 108, 101] }
  · subst h12
    go_enter Tryz.func69, Tryz.ntmps69
    go_wp2
    go_ret
    exact ⟨by simp [kindS], rfl⟩
  have n0 := str_ne (l := [111, 112, 101, 110]) h0
  have n1 := str_ne (l := [104, 111, 108, 105, 100, 97, 121]) h1
  have n2 := str_ne (l := [111, 110]) h2
  have n3 := str_ne (l := [100, 117, 101]) h3
  have n4 := str_ne (l := [112, 108, 117, 115]) h4
  have n5 := str_ne (l := [99, 97, 108, 108]) h5
  have n6 := str_ne (l := [109, 111, 118, 101]) h6
  have n7 := str_ne (l := [102, 114, 101, 101]) h7
  have n8 := str_ne (l := [110, 101, 120, 116]) h8
  have n9 := str_ne (l := [115, 101, 116]) h9
  have n10 := str_ne (l := [100, 114, 97, 119]) h10
  have n11 := str_ne (l := [99, 104, 97, 110, 99, 101]) h11
  have n12 := str_ne (l := [102, 105, 108, 101]) h12
  have hk : kindS s = none := by simp [kindS, h0, h1, h2, h3, h4, h5, h6, h7, h8, h9, h10, h11, h12]
  rw [hk]
  clear h0 h1 h2 h3 h4 h5 h6 h7 h8 h9 h10 h11 h12
  go_enter Tryz.func69, Tryz.ntmps69
  go_wp2
  go_ret
  exact ⟨rfl, rfl⟩
end Go.Proofs.YtiamignopfhkfaaGreatDoor
end
section
namespace Go.Proofs.YtiamignopfhkfaaGreatDoor
open Go.RowKit
set_option linter.unusedVariables false
def valL (l : List UInt8) : Nat := l.foldl (fun n b => 10 * n + (b.toNat - 48)) 0
theorem valL_app (l : List UInt8) (c : UInt8) : valL (l ++ [c]) = 10 * valL l + (c.toNat - 48) := by
  rw [valL, List.foldl_append]; rfl
theorem valL_snoc {l : List UInt8} {k : Nat} (hk : k < l.length) : valL (l.take (k + 1)) = 10 * valL (l.take k) + ((l.getD k 0).toNat - 48) := by
  rw [List.take_succ_eq_append_getElem hk, valL, List.foldl_append, List.getD_eq_getElem?_getD, List.getElem?_eq_getElem hk]; rfl
theorem dig_at {d : Nat} (h : d < 10) : (UInt8.ofNat (48 + d)).toNat = 48 + d := by rw [UInt8.toNat_ofNat']; omega
theorem val_all (n : Nat) : valL (Lib.decDigits n) = n := by
  induction n using Nat.strongRecOn with
  | _ n ih =>
    rw [Lib.decDigits]
    split
    · show 10 * 0 + ((UInt8.ofNat (48 + n)).toNat - 48) = n
      rw [dig_at (by assumption)]; omega
    · rw [valL_app, ih (n / 10) (by omega), dig_at (by omega)]; omega
theorem dig_all (n : Nat) : ∀ b ∈ Lib.decDigits n, 48 ≤ b.toNat ∧ b.toNat ≤ 57 := by
  induction n using Nat.strongRecOn with
  | _ n ih =>
    rw [Lib.decDigits]
    split
    · intro b hb
      rw [List.mem_singleton.1 hb, dig_at (by assumption)]; omega
    · intro b hb
      rcases List.mem_append.1 hb with h | h
      · exact ih (n / 10) (by omega) b h
      · rw [List.mem_singleton.1 h, dig_at (by omega)]; omega
theorem isNum_list {s : ByteArray} {n : Nat} (h : isNum s n) : s.data.toList = Lib.decDigits n := by
  rw [h.2]; rfl
def ValX (s : ByteArray) (w : World) (e : Ending) (w' : World) : Prop :=
  ∃ (n : Nat) (b : Bool), e = .returned (.tuple #[.int .i64 n, .bool b]) ∧ n ≤ 10000000000000 ∧ (b = true → isNum s n) ∧ (b = false → ∀ m, ¬ isNum s m) ∧ Below w.heap.size w w'
theorem valX_bad {s : ByteArray} {w w' : World} (hb : Below w.heap.size w w') (h : ∀ m : Nat, ¬ isNum s m) : ValX s w (.returned (.tuple #[.int .i64 0, .bool false])) w' :=
  ⟨0, false, rfl, by omega, fun h => (by cases h), fun _ => h, hb⟩
theorem ba_toList_eq' {a b : ByteArray} : (a.toList == b.toList) = true ↔ a = b := by
  rw [beq_iff_eq]
  constructor
  · intro h
    rw [Go.ByteArray.toList_eq, Go.ByteArray.toList_eq] at h
    exact ba_ext h
  · rintro rfl; rfl
theorem ba_len' (s : ByteArray) : s.data.toList.length = s.size := Array.length_toList
theorem pow_bd : ∀ k : Nat, k ≤ 13 → ∀ v : Nat, v < 10 ^ k → v < 10000000000000 := fun k hk v hv => Nat.lt_of_lt_of_le hv (Nat.pow_le_pow_right (by omega) hk)
set_option maxRecDepth 100000 in
set_option maxHeartbeats 1000000 in
theorem l01Value_c (s : ByteArray) (w : World) (hs : s.size ≤ 2000000) : Calls Tryz.prog 70 #[.string s] w (ValX s w) := by
  by_cases hbad : s.size < 1 ∨ 13 < s.size
  · have HNO : Hid (∀ m : Nat, ¬ isNum s m) := fun m h1 => by
      have := isNum_size h1
      omega
    rcases hbad with h | h
    · have h1 : (s.size : Int) < 1 := by omega
      clear h
      go_enter Tryz.func70, Tryz.ntmps70
      go_wp2
      go_ret2
      exact valX_bad (Below.refl _ _) HNO.out
    · have h1 : (13 : Int) < s.size := by omega
      have h2 : ¬ (s.size : Int) < 1 := by omega
      clear h
      go_enter Tryz.func70, Tryz.ntmps70
      go_wp2
      go_ret2
      exact valX_bad (Below.refl _ _) HNO.out
  · have h1 : (1 : Int) ≤ s.size := by omega
    have h2 : (s.size : Int) ≤ 13 := by omega
    clear hbad
    go_enter Tryz.func70, Tryz.ntmps70
    go_wp2
    go_loop [4, 5] (fun v i => ∃ k : Nat, k ≤ s.size ∧ i = .int .i64 k ∧ v = .int .i64 (valL (s.data.toList.take k) : Nat) ∧ Hid (valL (s.data.toList.take k) < 10 ^ k)) (fun _ i => s.size - (intOf i).toNat)
    case atStart => exact ⟨0, by omega, rfl, rfl, by simp [valL, Hid]⟩
    case round =>
      obtain ⟨k, hk, rfl, rfl, HV⟩ := hrel
      by_cases hlt : k < s.size
      · have hv := pow_bd k (by omega) _ HV.out
        have HS := Lib.hid (valL_snoc (l := s.data.toList) (k := k) (by rw [ba_len']; exact hlt))
        have HX : Hid (s.data.toList.getD k 0 = s[k]) := by
          unfold Hid
          rw [List.getD_eq_getElem?_getD, List.getElem?_eq_getElem (by rw [ba_len']; exact hlt)]
          rfl
        have HM : Hid (s[k] ∈ s.data.toList) := by unfold Hid; exact (show s.data[k] ∈ s.data.toList by simp)
        have hk1 : (k : Int) < (s.size : Int) := by omega
        have hbd : (s[k].toNat : Int) < 256 := by have := s[k].toNat_lt; omega
        generalize hqq : valL (s.data.toList.take k) = q at *
        have HQ := Lib.hid hqq
        clear hqq
        by_cases hd : 48 ≤ s[k].toNat ∧ s[k].toNat ≤ 57
        · have hd1 : (48 : Int) ≤ (s[k].toNat : Int) := by omega
          have hd2 : (s[k].toNat : Int) ≤ 57 := by omega
          go_wp2
          go_round
          case rel =>
            refine ⟨k + 1, by omega, by go_num, ?_, ?_⟩
            · rw [HS.out, HX.out]
              congr 1
              omega
            · unfold Hid
              rw [HS.out, HX.out, Nat.pow_succ]
              have := HV.out
              omega
          case measure => simp [intOf]; omega
        · have HNO : Hid (∀ m : Nat, ¬ isNum s m) := fun m h1 => by
            have h3 := HM.out
            rw [isNum_list h1] at h3
            exact hd (dig_all m _ h3)
          rcases (show s[k].toNat < 48 ∨ 57 < s[k].toNat by omega) with h | h
          · have hd1 : (s[k].toNat : Int) < 48 := by omega
            clear h hd
            go_wp2
            go_ret2
            exact valX_bad (Below.refl _ _) HNO.out
          · have hd1 : (57 : Int) < (s[k].toNat : Int) := by omega
            clear h hd
            go_wp2
            go_ret2
            exact valX_bad (Below.refl _ _) HNO.out
      · obtain rfl : k = s.size := by omega
        have hv := pow_bd s.size (by omega) _ HV.out
        have HF : Hid (s.data.toList.take s.size = s.data.toList) := by unfold Hid; rw [List.take_of_length_le (by rw [ba_len']; omega)]
        rw [HF.out] at hv ⊢
        have HP : Hid (∀ m : Nat, isNum s m → decT (valL s.data.toList) = s) := fun m h1 => by
          have h3 : valL s.data.toList = m := by rw [isNum_list h1]; exact val_all m
          rw [h3]; exact h1.2.symm
        clear HV HF
        generalize valL s.data.toList = q at *
        go_wp2_with fail
        refine (l01Dec_c q (by omega) _).mono ?_
        rintro e w1 ⟨rfl, hb1⟩
        go_wp2
        go_ret2
        exact ⟨q, _, rfl, by omega, fun h => (by have h2 := ba_toList_eq'.1 h; rw [← h2]; exact isNum_of (by rw [h2]; omega)), fun h m h1 => (by rw [ba_toList_eq'.2 (HP.out m h1)] at h; cases h), hb1⟩
end Go.Proofs.YtiamignopfhkfaaGreatDoor
end
section
namespace Go.Proofs.YtiamignopfhkfaaGreatDoor
open Go.RowKit
set_option linter.unusedVariables false
theorem Rd.strs {w : World} {B : Nat} {A : Option Addr} {L : List ByteArray} (h : Rd w B A L.length (L.map Value.string)) {k : Nat} (hk : k < L.length) :
    ∃ b off, A = some ⟨b, off, none⟩ ∧ b < B ∧ ∀ j (hj : j < L.length), w.cell? ⟨b, off + j, none⟩ = some (.string L[j]) := by
  obtain ⟨b, off, e, hb, hc⟩ := h.2 (by omega)
  exact ⟨b, off, e, hb, fun j hj => hc j _ (by simp [hj])⟩
theorem run_index_of {P : Program} (w : World) (t : TypeId) (s : ByteArray) (d : Nat) (h : P.underlying t = some .string) (hd : d < s.size) :
    (Instr.index t (.string s) (.int .i64 (d : Int))).run P w = .ok (.int .u8 (byteOf s d)) w := by
  rw [run_index_string (w := w) t s _ _ h, dif_pos ⟨by omega, by omega⟩]
  unfold byteOf
  rw [List.getD_eq_getElem?_getD, List.getElem?_eq_getElem (by simpa using hd)]
  rfl
theorem ite_some {c : Prop} [Decidable c] {a k : ByteArray} {r : Option ByteArray} (h : (if c then some a else r) = some k) : a = k ∨ r = some k := by
  by_cases hc : c
  · rw [if_pos hc] at h; exact .inl (Option.some.inj h)
  · rw [if_neg hc] at h; exact .inr h
theorem kind_fact {w k : ByteArray} (h : kindS w = some k) : k.size ≤ 4 ∧ (∀ i, i < k.size → byteOf k i = 73 ∨ byteOf k i = 84) ∧ ¬ k = ⟨#[45]⟩ := by
  unfold kindS at h
  iterate 13
    rcases ite_some h with e | h
    · subst e
      exact ⟨by decide, by decide, by decide⟩
  cases h
theorem line_true {s k : ByteArray} {D : List ByteArray} (hD : D = wordsB s) (h0 : 0 < D.length) (hk : kindS D[0] = some k) (hl : D.length = k.size + 1) (h : ∀ j, j < k.size → byteOf k j = 73 → ∃ n, isNum (D.getD (j + 1) default) n) : lineB s = true := by
  subst hD
  refine lineB_true ⟨k, ?_, hl, h⟩
  rw [List.getD_eq_getElem?_getD, List.getElem?_eq_getElem h0]; exact hk
theorem line_parts {s : ByteArray} {D : List ByteArray} (hD : D = wordsB s) (h0 : 0 < D.length) (h : LineOk s) : ∃ k, kindS D[0] = some k ∧ D.length = k.size + 1 ∧ ∀ j, j < k.size → byteOf k j = 73 → ∃ n, isNum (D.getD (j + 1) default) n := by
  subst hD
  obtain ⟨k, h1, h2, h3⟩ := h
  refine ⟨k, ?_, h2, h3⟩
  rw [List.getD_eq_getElem?_getD, List.getElem?_eq_getElem h0] at h1; exact h1
theorem line_none {s : ByteArray} {D : List ByteArray} (hD : D = wordsB s) (h0 : 0 < D.length) (hk : kindS D[0] = none) : lineB s = false := lineB_false (fun h => by
  obtain ⟨k, h1, _⟩ := line_parts hD h0 h
  rw [hk] at h1; cases h1)
theorem line_len {s k : ByteArray} {D : List ByteArray} (hD : D = wordsB s) (h0 : 0 < D.length) (hk : kindS D[0] = some k) (hl : ¬ D.length = k.size + 1) : lineB s = false := lineB_false (fun h => by
  obtain ⟨k2, h1, h2, _⟩ := line_parts hD h0 h
  rw [hk] at h1; cases h1; exact hl h2)
theorem line_num {s k : ByteArray} {D : List ByteArray} (hD : D = wordsB s) (h0 : 0 < D.length) (hk : kindS D[0] = some k) {j : Nat} (hj : j < k.size) (h73 : byteOf k j = 73) (hj2 : j + 1 < D.length) (hn : ∀ m, ¬ isNum D[j + 1] m) : lineB s = false := lineB_false (fun h => by
  obtain ⟨k2, h1, h2, h3⟩ := line_parts hD h0 h
  rw [hk] at h1; cases h1
  obtain ⟨n, hn2⟩ := h3 j hj h73
  rw [List.getD_eq_getElem?_getD, List.getElem?_eq_getElem hj2] at hn2
  exact hn n hn2)
theorem num_step {k : ByteArray} {D : List ByteArray} {i : Nat} (H : Hid (∀ j, j < i → byteOf k j = 73 → ∃ n, isNum (D.getD (j + 1) default) n)) (h : byteOf k i = 73 → ∃ n, isNum (D.getD (i + 1) default) n) : Hid (∀ j, j < i + 1 → byteOf k j = 73 → ∃ n, isNum (D.getD (j + 1) default) n) := fun j hj h73 => by
  by_cases e : j = i
  · subst e; exact h h73
  · exact H.out j (by omega) h73
theorem getD_at {D : List ByteArray} {j : Nat} (h : j < D.length) : D.getD j default = D[j] := by rw [List.getD_eq_getElem?_getD, List.getElem?_eq_getElem h]; rfl
theorem own_snocI {W : World} {b : Nat} {A : Option Addr} {c : Nat} {D : List Int} {y : Int} (h : W.ownsRow b 2 1 (.slice A (D.length + 1) c) (D.length + 1) (D.map (Value.int .i64) ++ [.int .i64 y])) : W.ownsRow b 2 1 (.slice A (D ++ [y]).length c) (D ++ [y]).length ((D ++ [y]).map (Value.int .i64)) := by
  rw [List.length_append, List.map_append]; exact h
attribute [local go_sem ↓ high] run_index_of
set_option maxRecDepth 100000 in
set_option maxHeartbeats 4000000 in
theorem l34Parse_c (s : ByteArray) (w : World) (hs : s.size ≤ 2000000) : Calls Tryz.prog 40 #[.string s] w fun e w' => ∃ v1 v2, e = .returned (.tuple #[v1, v2, .bool (lineB s)]) ∧ Below w.heap.size w w' := by
  obtain ⟨i0, hi, hz0, hz1, hz2⟩ := info_parts int_info
  go_enter Tryz.func40, Tryz.ntmps40
  go_wp2_with fail
  refine (l01Split_c s w hs).mono ?_
  rintro e w1 ⟨A, c, D, rfl, hD, ho, hb1⟩
  have hDp : 0 < D.length := by rw [hD]; exact words_pos s
  have HDS := Lib.hid (show ∀ x ∈ D, x.size ≤ 2000000 from fun x hx => by have := words_sz s x (hD ▸ hx); omega)
  have HDW := Lib.hid hD
  have hcap := own_cap ho
  have HR := Lib.hid (Rd.of_own1 ho)
  clear ho hD
  obtain ⟨b, off, rfl, hbB, hcl⟩ := Rd.strs HR.out hDp
  have HCL := Lib.hid hcl
  have c0 := hcl 0 hDp
  simp only [Nat.add_zero] at c0
  clear hcl
  have hDi : (0 : Int) < (D.length : Int) := by omega
  obtain ⟨x0, hx0⟩ : ∃ x, D[0] = x := ⟨_, rfl⟩
  rw [hx0] at c0
  have HX0 := Lib.hid hx0
  clear hx0
  go_wp2_with fail
  refine (l34Kind_c x0 w1).mono ?_
  rintro e w' ⟨rfl, rfl⟩
  cases hk : kindS x0 with
  | none =>
    have HN := Lib.hid (line_none HDW.out hDp (by rw [HX0.out]; exact hk))
    clear hk
    simp only [Option.getD_none]
    go_wp2
    go_ret3
    exact ⟨_, _, by rw [HN.out]; rfl, hb1⟩
  | some k =>
    have HK := Lib.hid (show kindS D[0] = some k by rw [HX0.out]; exact hk)
    obtain ⟨hk4, hkb, hkne⟩ := kind_fact hk
    have hkn := str_ne (l := [45]) hkne
    have HKB := Lib.hid hkb
    clear hk hkb hkne
    simp only [Option.getD_some]
    have hw1 : IntKind.i64.wrap ((k.size : Int) + 1) = (k.size : Int) + 1 := IntWalk.i64_in _ (by omega)
    by_cases hl : D.length = k.size + 1
    · have hlb : ((D.length : Int) != (k.size : Int) + 1) = false := by simp; omega
      have HL := Lib.hid hl
      have hle : k.size + 1 ≤ D.length := by omega
      clear hl
      go_wp2_with fail
      have ho := World.ownsRow_lit (base := w1.heap.size) (e := 2) (size := 1) w1 #[] 0 (Nat.le_refl _) (by unfold maxLen; omega) rfl
      generalize hW2 : w1.alloc (.cells #[] 2) = W2 at ho ⊢
      have hb2 : Below w1.heap.size w1 W2 := by subst hW2; exact (Below.refl _ _).alloc (Nat.le_refl _) _
      have HO := Lib.hid ho
      clear hW2 ho
      go_wp2
      go_loopw [7, 8] (fun ov iv wr => ∃ (i : Nat) (A2 : Option Addr) (c2 : Nat) (N : List Int), ov = .slice A2 N.length c2 ∧ iv = .int .i64 i ∧ i ≤ k.size ∧ N.length ≤ i ∧ Hid (∀ j, j < i → byteOf k j = 73 → ∃ n, isNum (D.getD (j + 1) default) n) ∧ Hid (wr.ownsRow w1.heap.size 2 1 (.slice A2 N.length c2) N.length (N.map (Value.int .i64))) ∧ Below w1.heap.size w1 wr)
        (fun _ iv _ => k.size - (intOf iv).toNat)
      case atStart => exact ⟨0, _, _, [], rfl, rfl, by omega, by simp, Lib.hid (fun j hj => by omega), HO, hb2⟩
      case round =>
        obtain ⟨i, A2, c2, N, rfl, rfl, hik, hNi, HI, HOr, hB⟩ := hrel
        clear HO hb2
        have hzr := hB.size
        by_cases hlt : i < k.size
        · have hii : (i : Int) < (k.size : Int) := by omega
          by_cases hI : byteOf k i = 73
          · have hi1 : i + 1 < D.length := by omega
            have hwi : IntKind.i64.wrap ((i : Int) + 1) = ((i + 1 : Nat) : Int) := by rw [IntWalk.i64_in _ (by omega)]; rfl
            have hiD : ((i + 1 : Nat) : Int) < (D.length : Int) := by omega
            have hi0 : (0 : Int) ≤ ((i + 1 : Nat) : Int) := by omega
            have c1 : wr.cell? ⟨b, off + (i + 1), none⟩ = some (.string D[i + 1]) := (hB.cell (by exact hbB)).trans (HCL.out (i + 1) hi1)
            have hxs := HDS.out _ (List.getElem_mem hi1)
            have HNO := Lib.hid (fun hn => line_num HDW.out hDp HK.out hlt hI hi1 hn)
            have HYES := Lib.hid (fun (n : Nat) (hn : isNum D[i + 1] n) => num_step HI (fun _ => ⟨n, by rw [getD_at hi1]; exact hn⟩))
            generalize D[i + 1] = x1 at *
            generalize hm : i + 1 = i2 at *
            have HM := Lib.hid hm
            clear hm
            go_wp2_with fail
            refine (l01Value_c x1 wr hxs).mono ?_
            rintro e w2 ⟨n, bb, rfl, hn, h1, h2, hb2⟩
            have HB2 := Lib.hid (bt hB hb2)
            have HO2 := Lib.hid (own_below HOr.out hb2)
            have hz2b := hb2.size
            cases bb
            · have HN := Lib.hid (HNO.out (h2 rfl))
              clear h1 h2
              go_wp2
              go_ret3
              exact ⟨_, _, by rw [HN.out]; rfl, bt hb1 HB2.out⟩
            · have HN := Lib.hid (HYES.out n (h1 rfl))
              clear h1 h2 hb2
              go_wp2_with (first | (at_builtin; refine wpList_push w2 rfl _ _ 30 rfl w1.heap.size 2 i0 _ 1 8 Tryz.underlying30 hi hz0 hz1 hz2 rfl (by decide) (.slice A2 N.length c2) (N.length) (N.map (Value.int .i64)) (by rfl) HO2.out [.int .i64 n] 2 (by rfl) rfl (by simp [Value.oneCell']) (by unfold maxLen; omega) (by omega) (by omega) ?_; intro A7 c7 w7 ho7 hg7; have HO7 := Lib.hid (own_snocI (y := n) ho7); have hb7 := below_grown HB2.out hg7 (Nat.le_refl _) (fun k hk => HO2.out.lt k hk |>.1); clear ho7 hg7))
              go_roundw
              case rel =>
                have e := HM.out
                exact ⟨i2, A7, c7, N ++ [(n : Int)], by simp, by first | rfl | (rw [← e]; done) | (rw [← e]; go_num), by omega, by simp; omega, HN.out, HO7, hb7⟩
              case measure => have e := HM.out; first | (simp [intOf]; done) | (simp [intOf]; omega)
          · have hIb : (byteOf k i == 73) = false := beq_eq_false_iff_ne.2 hI
            go_wp2
            go_roundw
            case rel => exact ⟨i + 1, A2, c2, N, rfl, by go_num, by omega, by omega, num_step HI (fun h => absurd h hI), HOr, hB⟩
            case measure => first | (simp [intOf]; done) | (simp [intOf]; omega)
        · obtain rfl : i = k.size := by omega
          have HN := Lib.hid (line_true HDW.out hDp HK.out HL.out HI.out)
          go_wp2
          go_ret3
          exact ⟨_, _, by rw [HN.out]; rfl, bt hb1 hB⟩
    · have hlb : ((D.length : Int) != (k.size : Int) + 1) = true := by simp; omega
      have HN := Lib.hid (line_len HDW.out hDp HK.out hl)
      clear hl
      go_wp2
      go_ret3
      exact ⟨_, _, by rw [HN.out]; rfl, hb1⟩
theorem spec_IsConsoleLine (s : ByteArray) (w : World) (hs : s.size ≤ 2000000) : Calls Tryz.prog 14 #[.string s] w fun e w' => e = .returned (.bool (lineB s)) ∧ Below w.heap.size w w' := by
  have HC := Lib.hid (l34Parse_c s w hs)
  generalize lineB s = b at *
  go_enter Tryz.func14, Tryz.ntmps14
  go_wp2_with fail
  refine HC.out.mono ?_
  rintro e w1 ⟨v1, v2, rfl, hb⟩
  go_wp2
  go_ret
  exact ⟨rfl, hb⟩
end Go.Proofs.YtiamignopfhkfaaGreatDoor
end
