/- Contracts: the cut at a colon, a number read. -/
import Derived.Test.YtdibfppmodeiiaaDoorRdP
import Derived.Test.YtdibfppmodeiiaaDoorShelf2
import Derived.Test.YtdibfppmodeiiaaDoorTab
namespace Go.Proofs.YtdibfppmodeiiaaDoor
open Go.RowKit
set_option linter.unusedVariables false
def JEnv (w : World) : Prop := TabW w ∧ (∃ t p, w.cell? ⟨1, 0, none⟩ = some (.iface t p)) ∧ (∃ t p, w.cell? ⟨2, 0, none⟩ = some (.iface t p))
theorem JEnv.below {w w' : World} (h : JEnv w) (hb : Below w.heap.size w w') : JEnv w' := by
  obtain ⟨h0, ⟨t1, p1, h1⟩, t2, p2, h2⟩ := h
  exact ⟨h0.below hb, ⟨t1, p1, (hb.cell (block_lt_of_cell h1)).trans h1⟩, t2, p2, (hb.cell (block_lt_of_cell h2)).trans h2⟩
set_option maxRecDepth 100000 in
theorem slCut_t (s : ByteArray) (n : Nat) (w : World) (hs : s.size ≤ 2000000) (h : Lib.indexByte s.data.toList 58 = (n : Int)) (hn : n < s.size) :
    Calls Tryd.prog 62 #[.string s, .string ⟨#[58]⟩] w fun e w' => e = .returned (.tuple #[.string (s.extract 0 n), .string (s.extract (n + 1) s.size), .bool true]) ∧ Below w.heap.size w w' := by
  have HI := Lib.hid h
  have h1 : (n : Int) < (s.size : Int) := by omega
  have h0 : (0 : Int) ≤ (n : Int) := by omega
  have hw : IntKind.i64.wrap ((n : Int) + 1) = (n : Int) + 1 := IntWalk.i64_in _ (by omega)
  clear h
  go_enter Tryd.func62, Tryd.ntmps62
  go_wp2_with fail
  refine (Tryd.stringslite_Index_one s 58 w).mono ?_
  rintro e w' ⟨rfl, rfl⟩
  rw [HI.out]
  go_wp2
  go_quiet (fail)
  go_wp2
  go_ret3
  exact ⟨rfl, below_drewN (Below.refl _ _) _⟩
theorem slCut_f (s : ByteArray) (w : World) (h : Lib.indexByte s.data.toList 58 = -1) :
    Calls Tryd.prog 62 #[.string s, .string ⟨#[58]⟩] w fun e w' => e = .returned (.tuple #[.string s, .string ⟨#[]⟩, .bool false]) ∧ Below w.heap.size w w' := by
  have HI := Lib.hid h
  clear h
  go_enter Tryd.func62, Tryd.ntmps62
  go_wp2_with fail
  refine (Tryd.stringslite_Index_one s 58 w).mono ?_
  rintro e w' ⟨rfl, rfl⟩
  rw [HI.out]
  go_wp2
  go_ret3
  exact ⟨rfl, Below.refl _ _⟩
theorem cut_t (s : ByteArray) (n : Nat) (w : World) (hs : s.size ≤ 2000000) (h : Lib.indexByte s.data.toList 58 = (n : Int)) (hn : n < s.size) :
    Calls Tryd.prog 54 #[.string s, .string ⟨#[58]⟩] w fun e w' => e = .returned (.tuple #[.string (s.extract 0 n), .string (s.extract (n + 1) s.size), .bool true]) ∧ Below w.heap.size w w' := by
  have HC := Lib.hid (slCut_t s n w hs h hn)
  clear h
  go_enter Tryd.func54, Tryd.ntmps54
  go_wp2_with fail
  refine HC.out.mono ?_
  rintro e w1 ⟨rfl, hb1⟩
  go_wp2
  go_ret3
  exact ⟨rfl, hb1⟩
theorem cut_f (s : ByteArray) (w : World) (h : Lib.indexByte s.data.toList 58 = -1) :
    Calls Tryd.prog 54 #[.string s, .string ⟨#[58]⟩] w fun e w' => e = .returned (.tuple #[.string s, .string ⟨#[]⟩, .bool false]) ∧ Below w.heap.size w w' := by
  have HC := Lib.hid (slCut_f s w h)
  clear h
  go_enter Tryd.func54, Tryd.ntmps54
  go_wp2_with fail
  refine HC.out.mono ?_
  rintro e w1 ⟨rfl, hb1⟩
  go_wp2
  go_ret3
  exact ⟨rfl, hb1⟩
def DecPost (s : ByteArray) (w : World) (e : Ending) (w' : World) : Prop :=
  ∃ (n : Int) (b : Bool), e = .returned (.tuple #[.int .i64 n, .bool b]) ∧ (-9223372036854775808 ≤ n ∧ n ≤ 9223372036854775807) ∧ (b = true → s = decI n) ∧ (∀ m : Nat, m ≤ 40 → s.data.toList = Lib.decDigits m → b = true ∧ n = m) ∧ Below w.heap.size w w'
theorem decPost_bad {s : ByteArray} {w w' : World} (hb : Below w.heap.size w w') (h : ∀ m : Nat, m ≤ 40 → s.data.toList = Lib.decDigits m → False) : DecPost s w (.returned (.tuple #[.int .i64 0, .bool false])) w' :=
  ⟨0, false, rfl, ⟨by omega, by omega⟩, (fun h => by cases h), fun m h1 h2 => (h m h1 h2).elim, hb⟩
theorem ba_toList_eq {a b : ByteArray} : (a.toList == b.toList) = true ↔ a = b := by
  rw [beq_iff_eq]
  constructor
  · intro h
    rw [Go.ByteArray.toList_eq, Go.ByteArray.toList_eq] at h
    exact ba_ext h
  · rintro rfl; rfl
set_option maxRecDepth 100000 in
set_option maxHeartbeats 1000000 in
theorem readDecimal_c (s : ByteArray) (w : World) (hs : s.size ≤ 2000000) (hE : JEnv w) : Calls Tryd.prog 55 #[.string s] w (DecPost s w) := by
  obtain ⟨ht, ⟨t1, p1, f1⟩, t2, p2, f2⟩ := hE
  have HT := Lib.hid ht
  clear ht
  cases hp : Lib.parseIntB 64 s.data.toList
  · rename_i v
    obtain ⟨hv1, hv2⟩ := parse_ok hp
    have HP : Hid (∀ m : Nat, m ≤ 40 → s.data.toList = Lib.decDigits m → v = m) := fun m h1 h2 => by
      rw [h2, dig_parse h1] at hp
      injection hp with hp; exact hp.symm
    have HK := Lib.hid (fun w => Tryd.strconv_ParseInt_10_at64_ok s (by omega) v hp w)
    clear hp
    cases hq : ((decI v).toList == s.toList)
    · have HQ : Hid (∀ m : Nat, m ≤ 40 → s.data.toList = Lib.decDigits m → False) := fun m h1 h2 => by
        have := HP.out m h1 h2
        subst this
        have : decI (m : Int) = s := by rw [decI_nat]; exact ba_ext (by rw [h2]; rfl)
        rw [ba_toList_eq.2 this] at hq; cases hq
      go_enter Tryd.func55, Tryd.ntmps55
      go_wp2_with fail
      refine (HK.out w).mono ?_
      rintro e w1 ⟨rfl, hw⟩
      have hb1 : Below w.heap.size w w1 := by
        rcases hw with rfl | ⟨t, rfl⟩
        · exact Below.refl _ _
        · exact Lib.bytesWorld_below _ _ _
      clear hw
      go_wp2_with fail
      refine (decimalI_c v hv1 hv2 w1 (HT.out.below hb1)).mono ?_
      rintro e w2 ⟨rfl, hb2⟩
      go_wp2
      go_ret2
      exact decPost_bad (bt hb1 hb2) HQ.out
    · have HQ : Hid (s = decI v) := (ba_toList_eq.1 hq).symm
      go_enter Tryd.func55, Tryd.ntmps55
      go_wp2_with fail
      refine (HK.out w).mono ?_
      rintro e w1 ⟨rfl, hw⟩
      have hb1 : Below w.heap.size w w1 := by
        rcases hw with rfl | ⟨t, rfl⟩
        · exact Below.refl _ _
        · exact Lib.bytesWorld_below _ _ _
      clear hw
      go_wp2_with fail
      refine (decimalI_c v hv1 hv2 w1 (HT.out.below hb1)).mono ?_
      rintro e w2 ⟨rfl, hb2⟩
      go_wp2
      go_ret2
      exact ⟨v, true, rfl, ⟨hv1, hv2⟩, fun _ => HQ.out, fun m h1 h2 => ⟨rfl, HP.out m h1 h2⟩, bt hb1 hb2⟩
  · have HQ : Hid (∀ m : Nat, m ≤ 40 → s.data.toList = Lib.decDigits m → False) := fun m h1 h2 => by
      rw [h2, dig_parse h1] at hp; cases hp
    have HK := Lib.hid (Any.strconv_ParseInt_10_at64_syntax Tryd.laysC174 s (by omega) hp _ w f1 (.inr ⟨t1, p1, rfl⟩))
    clear hp
    go_enter Tryd.func55, Tryd.ntmps55
    go_wp2_with fail
    refine HK.out.mono ?_
    rintro e w1 ⟨N, rfl, _, _, hb1⟩
    go_wp2
    go_ret2
    exact decPost_bad hb1 HQ.out
  · have HQ : Hid (∀ m : Nat, m ≤ 40 → s.data.toList = Lib.decDigits m → False) := fun m h1 h2 => by
      rw [h2, dig_parse h1] at hp; cases hp
    have HK := Lib.hid (Any.strconv_ParseInt_10_at64_range Tryd.laysC174 s (by omega) hp _ w f2 (.inr ⟨t2, p2, rfl⟩))
    clear hp
    go_enter Tryd.func55, Tryd.ntmps55
    go_wp2_with fail
    refine HK.out.mono ?_
    rintro e w1 ⟨N, rfl, _, _, hb1⟩
    go_wp2
    go_ret2
    exact decPost_bad hb1 HQ.out
end Go.Proofs.YtdibfppmodeiiaaDoor
