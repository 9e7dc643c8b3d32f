/- Contracts: readDecimal and readNumber, at every number of at most thirteen digits. -/
import Derived.Test.YtjfohggompnkeaaDoorConVal
import Derived.Test.YtjfohggompnkeaaDoorTab
namespace Go.Proofs.YtjfohggompnkeaaDoor
open Go.RowKit
set_option linter.unusedVariables false
def JEnv (w : World) : Prop := TabW w ∧ (∃ t p, w.cell? ⟨3, 0, none⟩ = some (.iface t p)) ∧ (∃ t p, w.cell? ⟨4, 0, none⟩ = some (.iface t p))
theorem JEnv.below {w w' : World} (h : JEnv w) (hb : Below w.heap.size w w') : JEnv w' := by
  obtain ⟨h0, ⟨t1, p1, h1⟩, t2, p2, h2⟩ := h
  exact ⟨h0.below hb, ⟨t1, p1, (hb.cell (block_lt_of_cell h1)).trans h1⟩, t2, p2, (hb.cell (block_lt_of_cell h2)).trans h2⟩
theorem parse_ok {l : List UInt8} {v : Int} (h : Lib.parseIntB 64 l = .ok v) : -9223372036854775808 ≤ v ∧ v ≤ 9223372036854775807 := by
  obtain ⟨h1, h2⟩ := Lib.parseIntB_bounds h
  have e : ((2 ^ (64 - 1) : Nat) : Int) = 9223372036854775808 := by decide
  rw [e] at h1 h2
  omega
theorem ba_toList_eq {a b : ByteArray} : (a.toList == b.toList) = true ↔ a = b := by
  rw [beq_iff_eq]
  constructor
  · intro h
    rw [Go.ByteArray.toList_eq, Go.ByteArray.toList_eq] at h
    exact ba_ext h
  · rintro rfl; rfl
def DecX (s : ByteArray) (w : World) (e : Ending) (w' : World) : Prop :=
  ∃ (n : Int) (b : Bool), e = .returned (.tuple #[.int .i64 n, .bool b]) ∧ (-9223372036854775808 ≤ n ∧ n ≤ 9223372036854775807) ∧ (b = true → s = decI n) ∧ (∀ m : Nat, isNum s m → b = true ∧ n = m) ∧ Below w.heap.size w w'
theorem decX_bad {s : ByteArray} {w w' : World} (hb : Below w.heap.size w w') (h : ∀ m : Nat, ¬ isNum s m) : DecX s w (.returned (.tuple #[.int .i64 0, .bool false])) w' :=
  ⟨0, false, rfl, ⟨by omega, by omega⟩, (fun h => by cases h), fun m h1 => (h m h1).elim, hb⟩
set_option maxRecDepth 100000 in
set_option maxHeartbeats 1000000 in
theorem readDecimal_x (s : ByteArray) (w : World) (hs : s.size ≤ 2000000) (hE : JEnv w) : Calls Tryd.prog 16 #[.string s] w (DecX s w) := by
  obtain ⟨ht, ⟨t1, p1, f1⟩, t2, p2, f2⟩ := hE
  have HT := Lib.hid ht
  clear ht
  cases hp : Lib.parseIntB 64 s.data.toList
  · rename_i v
    obtain ⟨hv1, hv2⟩ := parse_ok hp
    have HP : Hid (∀ m : Nat, isNum s m → v = m) := fun m h1 => by
      rw [isNum_list h1, parse_back h1.1] at hp
      injection hp with hp; exact hp.symm
    have HK := Lib.hid (fun w => Tryd.strconv_ParseInt_10_at64_ok s (by omega) v hp w)
    clear hp
    cases hq : ((decI v).toList == s.toList)
    · have HQ : Hid (∀ m : Nat, ¬ isNum s m) := fun m h1 => by
        have := HP.out m h1
        subst this
        have : decI (m : Int) = s := by rw [decI_nat]; exact h1.2.symm
        rw [ba_toList_eq.2 this] at hq; cases hq
      go_enter Tryd.func16, Tryd.ntmps16
      go_wp2_with fail
      refine (HK.out w).mono ?_
      rintro e w1 ⟨rfl, hw⟩
      have hb1 : Below w.heap.size w w1 := by
        rcases hw with rfl | ⟨t, rfl⟩
        · exact Below.refl _ _
        · exact Lib.bytesWorld_below _ _ _
      clear hw
      go_wp2_with fail
      refine (decimalI_c v hv1 hv2 w1 (HT.out.below hb1)).mono ?_
      rintro e w2 ⟨rfl, hb2⟩
      go_wp2
      go_ret2
      exact decX_bad (bt hb1 hb2) HQ.out
    · have HQ : Hid (s = decI v) := (ba_toList_eq.1 hq).symm
      go_enter Tryd.func16, Tryd.ntmps16
      go_wp2_with fail
      refine (HK.out w).mono ?_
      rintro e w1 ⟨rfl, hw⟩
      have hb1 : Below w.heap.size w w1 := by
        rcases hw with rfl | ⟨t, rfl⟩
        · exact Below.refl _ _
        · exact Lib.bytesWorld_below _ _ _
      clear hw
      go_wp2_with fail
      refine (decimalI_c v hv1 hv2 w1 (HT.out.below hb1)).mono ?_
      rintro e w2 ⟨rfl, hb2⟩
      go_wp2
      go_ret2
      exact ⟨v, true, rfl, ⟨hv1, hv2⟩, fun _ => HQ.out, fun m h1 => ⟨rfl, HP.out m h1⟩, bt hb1 hb2⟩
  · have HQ : Hid (∀ m : Nat, ¬ isNum s m) := fun m h1 => by
      rw [isNum_list h1, parse_back h1.1] at hp; cases hp
    have HK := Lib.hid (Any.strconv_ParseInt_10_at64_syntax Tryd.laysC174 s (by omega) hp _ w f1 (.inr ⟨t1, p1, rfl⟩))
    clear hp
    go_enter Tryd.func16, Tryd.ntmps16
    go_wp2_with fail
    refine HK.out.mono ?_
    rintro e w1 ⟨N, rfl, _, _, hb1⟩
    go_wp2
    go_ret2
    exact decX_bad hb1 HQ.out
  · have HQ : Hid (∀ m : Nat, ¬ isNum s m) := fun m h1 => by
      rw [isNum_list h1, parse_back h1.1] at hp; cases hp
    have HK := Lib.hid (Any.strconv_ParseInt_10_at64_range Tryd.laysC174 s (by omega) hp _ w f2 (.inr ⟨t2, p2, rfl⟩))
    clear hp
    go_enter Tryd.func16, Tryd.ntmps16
    go_wp2_with fail
    refine HK.out.mono ?_
    rintro e w1 ⟨N, rfl, _, _, hb1⟩
    go_wp2
    go_ret2
    exact decX_bad hb1 HQ.out
theorem few_x (n m : Int) (b : Bool) (w : World) (h : decide (n ≤ m) = b) : Calls Tryd.prog 17 #[.int .i64 n, .int .i64 m] w fun e w' => e = .returned (.bool b) ∧ w = w' := by
  subst h
  go_enter Tryd.func17, Tryd.ntmps17
  go_wp2
  go_ret
  exact ⟨rfl, rfl⟩
def NumX (s : ByteArray) (w : World) (e : Ending) (w' : World) : Prop :=
  ∃ (n : Int) (b : Bool), e = .returned (.tuple #[.int .i64 n, .bool b]) ∧ (-9223372036854775808 ≤ n ∧ n ≤ 9223372036854775807) ∧ (b = true → ∃ m : Nat, n = m ∧ isNum s m) ∧ (b = false → ∀ m, ¬ isNum s m) ∧ Below w.heap.size w w'
set_option maxHeartbeats 1000000 in
theorem readNumber_c (s : ByteArray) (w : World) (hs : s.size ≤ 2000000) (hE : JEnv w) : Calls Tryd.prog 13 #[.string s] w (NumX s w) := by
  have HC := Lib.hid (readDecimal_x s w hs hE)
  go_enter Tryd.func13, Tryd.ntmps13
  go_wp2_with fail
  refine HC.out.mono ?_
  rintro e w1 ⟨n, b, rfl, hn, hb1, hb2, hbel⟩
  have H1 := Lib.hid hb1; have H2 := Lib.hid hb2
  clear hb1 hb2 HC
  cases b
  · go_wp2
    go_ret2
    exact ⟨n, false, rfl, hn, fun h => (by cases h), fun _ m hm => (by have := (H2.out m hm).1; cases this), hbel⟩
  · by_cases h0 : 0 ≤ n
    · by_cases h13 : (s.size : Int) ≤ 13
      · go_wp2_with (first | (go_at_call 17; refine (few_x _ _ true _ (by simpa using h13)).mono ?_; rintro e w' ⟨rfl, rfl⟩))
        go_ret2
        obtain ⟨m, rfl⟩ := Int.eq_ofNat_of_zero_le h0
        refine ⟨(m : Int), true, rfl, hn, fun _ => ⟨m, rfl, ?_⟩, fun h => (by cases h), hbel⟩
        have hs2 := H1.out (by first | rfl | trivial)
        rw [decI_nat] at hs2
        rw [hs2]
        exact isNum_of (by rw [← hs2]; omega)
      · go_wp2_with (first | (go_at_call 17; refine (few_x _ _ false _ (by simpa using h13)).mono ?_; rintro e w' ⟨rfl, rfl⟩))
        go_ret2
        exact ⟨n, false, rfl, hn, fun h => (by cases h), fun _ m hm => (by have := isNum_size hm; omega), hbel⟩
    · go_wp2
      go_ret2
      exact ⟨n, false, rfl, hn, fun h => (by cases h), fun _ m hm => (by have := (H2.out m hm).2; omega), hbel⟩
end Go.Proofs.YtjfohggompnkeaaDoor
