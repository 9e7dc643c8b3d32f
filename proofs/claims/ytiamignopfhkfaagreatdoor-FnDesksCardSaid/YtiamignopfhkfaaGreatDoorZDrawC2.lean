/- Contracts of the draws of texts for the console: l34Draw, DrawRunConsole, DrawDeskAfter, DrawIsConsoleLine. -/
import Derived.Test.YtiamignopfhkfaaGreatDoorZDrawC
import Derived.Test.YtiamignopfhkfaaGreatDoorZDamage
import Derived.Test.YtiamignopfhkfaaGreatDoorZFrom
namespace Go.Proofs.YtiamignopfhkfaaGreatDoor
open Go.RowKit
set_option linter.unusedVariables false
set_option maxRecDepth 100000 in
set_option maxHeartbeats 4000000 in
theorem l34Draw_c (B g : Nat) (w : World) (hS : Src w B g) : Calls Tryz.prog 30 #[.pointer (some ⟨g, 0, none⟩)] w (TxtP 2100 B g w) := by
  have hgB := hS.ge; have hgl := hS.lt
  have HQw := Lib.hid hS; have HGw := Lib.hid (World.grownBy.refl w (some g)); clear hS
  go_enter Tryz.func30, Tryz.ntmps30
  go_wp2_with fail
  refine (l01Next_c B g (14) w HQw.out (by omega)).mono ?_
  rintro e w1 ⟨n, rfl, ⟨hn0, hn1⟩, hqw1, hgw1⟩
  have HQw1 := Lib.hid hqw1; have HGw1 := Lib.hid (grown_trans' HGw.out hgw1); have hzw1 := hgw1.size
  clear hqw1
  obtain ⟨n, rfl⟩ := Int.eq_ofNat_of_zero_le hn0
  go_wp2
  go_loopw [3, 4] (fun tv nv wr => ∃ (t : ByteArray) (j : Nat), tv = .string t ∧ nv = .int .i64 j ∧ j ≤ 13 ∧ t.size + 132 * j ≤ 1716 ∧ Hid (Src wr B g) ∧ Hid (w.grownBy wr (some g)))
    (fun _ nv _ => (intOf nv).toNat)
  case atStart => exact ⟨_, n, rfl, rfl, by omega, by show 0 + 132 * n ≤ 1716; omega, HQw1, HGw1⟩
  case round =>
    obtain ⟨t, j, rfl, rfl, hj, ht, HQwr, HGwr⟩ := hrel
    clear HQw1 HGw1
    by_cases hj0 : 0 < j
    · have hji : (0 : Int) < (j : Int) := by omega
      go_wp2_with fail
      refine (l34Command_c B g wr HQwr.out).mono ?_
      rintro e w2 ⟨t2, rfl, hz2, hq2, hg2⟩
      have HQw2 := Lib.hid hq2; have HGw2 := Lib.hid (grown_trans' HGwr.out hg2)
      clear hq2 hg2
      go_wp2_with fail
      refine (l01Next_c B g (16) w2 HQw2.out (by omega)).mono ?_
      rintro e w3 ⟨k, rfl, ⟨hk0, hk1⟩, hqw3, hgw3⟩
      have HQw3 := Lib.hid hqw3; have HGw3 := Lib.hid (grown_trans' HGw2.out hgw3); have hzw3 := hgw3.size
      clear hqw3
      by_cases hk : k = 0
      · subst hk
        go_wp2_with fail
        refine (l01Damage_c B g t2 w3 HQw3.out (by omega)).mono ?_
        rintro e w4 ⟨t4, rfl, hz4, hq4, hg4⟩
        have HQw4 := Lib.hid hq4; have HGw4 := Lib.hid (grown_trans' HGw3.out hg4)
        clear hq4 hg4
        have hz : (t ++ t4).size = t.size + t4.size := ByteArray.size_append
        have hz' : (t ++ t4 ++ ({ data := #[10] } : ByteArray)).size = t.size + t4.size + 1 := by rw [ByteArray.size_append, hz]; rfl
        go_wp2
        go_roundw
        case rel => exact ⟨t ++ t4 ++ { data := #[10] }, j - 1, rfl, by go_num, by omega, by omega, HQw4, HGw4⟩
        case measure => first | (simp [intOf]; done) | (simp [intOf]; omega)
      · have hz : (t ++ t2).size = t.size + t2.size := ByteArray.size_append
        have hz' : (t ++ t2 ++ ({ data := #[10] } : ByteArray)).size = t.size + t2.size + 1 := by rw [ByteArray.size_append, hz]; rfl
        go_wp2
        go_roundw
        case rel => exact ⟨t ++ t2 ++ { data := #[10] }, j - 1, rfl, by go_num, by omega, by omega, HQw3, HGw3⟩
        case measure => first | (simp [intOf]; done) | (simp [intOf]; omega)
    · obtain rfl : j = 0 := by omega
      go_wp2_with fail
      refine (l01Next_c B g (40) wr HQwr.out (by omega)).mono ?_
      rintro e w2 ⟨k, rfl, ⟨hk0, hk1⟩, hqw2, hgw2⟩
      have HQw2 := Lib.hid hqw2; have HGw2 := Lib.hid (grown_trans' HGwr.out hgw2); have hzw2 := hgw2.size
      clear hqw2
      by_cases hk : k = 0
      · subst hk
        have HT := Lib.hid ht
        go_wp2
        go_loopw [3, 6] (fun tv nv wr => ∃ (x : ByteArray) (i : Nat), tv = .string x ∧ nv = .int .i64 i ∧ i ≤ 36 ∧ x.size ≤ t.size + 5 * i ∧ wr = w2)
          (fun _ nv _ => 36 - (intOf nv).toNat)
        case atStart => exact ⟨t, 0, rfl, rfl, by omega, by omega, rfl⟩
        case round =>
          obtain ⟨x, i, rfl, rfl, hi, hx, rfl⟩ := hrel
          by_cases hi0 : i < 36
          · have hii : (i : Int) < 36 := by omega
            have hz : (x ++ ({ data := #[111, 112, 101, 110, 10] } : ByteArray)).size = x.size + 5 := by rw [ByteArray.size_append]; rfl
            go_wp2
            go_roundw
            case rel => exact ⟨x ++ { data := #[111, 112, 101, 110, 10] }, i + 1, rfl, by go_num, by omega, by omega, by first | rfl | trivial⟩
            case measure => first | (simp [intOf]; done) | (simp [intOf]; omega)
          · obtain rfl : i = 36 := by omega
            have h9 := HT.out
            go_wp2
            go_ret
            exact ⟨x, rfl, by omega, HQw2.out, HGw2.out⟩
      · by_cases hk1 : k = 1
        · subst hk1
          have hz : (t ++ ({ data := #[111, 112, 101, 110] } : ByteArray)).size = t.size + 4 := by rw [ByteArray.size_append]; rfl
          go_wp2
          go_ret
          exact ⟨_, rfl, by show (t ++ ({ data := #[111, 112, 101, 110] } : ByteArray)).size ≤ 2100; omega, HQw2.out, HGw2.out⟩
        · have hkn : 2 ≤ k := by omega
          go_wp2
          go_ret
          exact ⟨t, rfl, by omega, HQw2.out, HGw2.out⟩
theorem below_srcC {w w1 w2 : World} (h : Below w.heap.size w w1) (hg : w1.grownBy w2 (some w.heap.size)) : Below w.heap.size w w2 := below_grown h hg (Nat.le_refl _) (fun g h => by injection h with h; omega)
def ConT (n : Nat) (w : World) (e : Ending) (w' : World) : Prop := ∃ t : ByteArray, e = .returned (.string t) ∧ t.size ≤ n ∧ Below w.heap.size w w'
set_option maxRecDepth 100000 in
theorem DrawRunConsole_c (A : Option Addr) (c : Nat) (L : List Int) (w : World) (hr : Rd w w.heap.size A L.length (L.map (Value.int .u8))) (hx : ∀ x ∈ L, 0 ≤ x ∧ x ≤ 255) (hL : L.length ≤ 4096) (hc : L.length ≤ c) : Calls Tryz.prog 8 #[.slice A L.length c] w (ConT 2100 w) := by
  go_enter Tryz.func8, Tryz.ntmps8
  go_wp2_with fail
  refine (l01From_c A c L w hr hx hL hc).mono ?_
  rintro e w1 ⟨rfl, hS, hb1⟩
  have HS1 := Lib.hid hS
  have HB1 := Lib.hid hb1
  clear hr hx hS hb1
  go_wp2_with fail
  refine (l34Draw_c _ _ w1 HS1.out).mono ?_
  rintro e w2 ⟨t, rfl, ht, hq, hg⟩
  have HB2 := Lib.hid (below_srcC HB1.out hg)
  clear hq hg
  go_wp2
  go_ret
  exact ⟨t, rfl, ht, HB2.out⟩
set_option maxRecDepth 100000 in
theorem DrawDeskAfter_c (A : Option Addr) (c : Nat) (L : List Int) (w : World) (hr : Rd w w.heap.size A L.length (L.map (Value.int .u8))) (hx : ∀ x ∈ L, 0 ≤ x ∧ x ≤ 255) (hL : L.length ≤ 4096) (hc : L.length ≤ c) : Calls Tryz.prog 20 #[.slice A L.length c] w (ConT 2100 w) := by
  go_enter Tryz.func20, Tryz.ntmps20
  go_wp2_with fail
  refine (l01From_c A c L w hr hx hL hc).mono ?_
  rintro e w1 ⟨rfl, hS, hb1⟩
  have HS1 := Lib.hid hS
  have HB1 := Lib.hid hb1
  clear hr hx hS hb1
  go_wp2_with fail
  refine (l34Draw_c _ _ w1 HS1.out).mono ?_
  rintro e w2 ⟨t, rfl, ht, hq, hg⟩
  have HB2 := Lib.hid (below_srcC HB1.out hg)
  clear hq hg
  go_wp2
  go_ret
  exact ⟨t, rfl, ht, HB2.out⟩
set_option maxRecDepth 100000 in
theorem DrawIsConsoleLine_c (A : Option Addr) (c : Nat) (L : List Int) (w : World) (hr : Rd w w.heap.size A L.length (L.map (Value.int .u8))) (hx : ∀ x ∈ L, 0 ≤ x ∧ x ≤ 255) (hL : L.length ≤ 4096) (hc : L.length ≤ c) : Calls Tryz.prog 11 #[.slice A L.length c] w (ConT 200 w) := by
  go_enter Tryz.func11, Tryz.ntmps11
  go_wp2_with fail
  refine (l01From_c A c L w hr hx hL hc).mono ?_
  rintro e w1 ⟨rfl, hS, hb1⟩
  have HQw1 := Lib.hid hS
  have HB1 := Lib.hid hb1
  clear hr hx hS hb1
  go_wp2_with fail
  refine (l34Command_c _ _ w1 HQw1.out).mono ?_
  rintro e w2 ⟨t, rfl, ht, hq, hg⟩
  have HB2 := Lib.hid (below_srcC HB1.out hg)
  have HQw2 := Lib.hid hq
  clear hq hg
  go_wp2_with fail
  refine (l01Next_c _ _ 2 w2 HQw2.out (by omega)).mono ?_
  rintro e w3 ⟨k, rfl, ⟨hk0, hk1⟩, hq, hg⟩
  have HB3 := Lib.hid (below_srcC HB2.out hg)
  have HQw3 := Lib.hid hq
  clear hq hg
  by_cases hk : k = 0
  · subst hk
    go_wp2_with fail
    refine (l01Damage_c _ _ t w3 HQw3.out (by omega)).mono ?_
    rintro e w4 ⟨t4, rfl, hz4, hq4, hg4⟩
    have HB4 := Lib.hid (below_srcC HB3.out hg4)
    clear hq4 hg4
    go_wp2
    go_ret
    exact ⟨t4, rfl, by omega, HB4.out⟩
  · go_wp2
    go_ret
    exact ⟨t, rfl, by omega, HB3.out⟩
end Go.Proofs.YtiamignopfhkfaaGreatDoor
