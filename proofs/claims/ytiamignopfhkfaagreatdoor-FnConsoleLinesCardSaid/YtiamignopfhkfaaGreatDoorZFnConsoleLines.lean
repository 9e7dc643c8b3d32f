/- The walk of the law FnConsoleLines: it returns true, and nothing that was there is changed. -/
import Derived.Test.YtiamignopfhkfaaGreatDoorZConLaw
import Derived.Test.YtiamignopfhkfaaGreatDoorZFnRunConsole
import Derived.Test.YtiamignopfhkfaaGreatDoorZDrawC2
import Derived.Test.YtiamignopfhkfaaGreatDoorZLikeC
namespace Go.Proofs.YtiamignopfhkfaaGreatDoor
open Go.RowKit
set_option linter.unusedVariables false
attribute [local go_sem ↓ high] run_index_of
theorem rd_takeS {w : World} {B n k : Nat} {A : Option Addr} {X Y : List ByteArray} (h : Rd w B A n ((X ++ Y).map Value.string)) (hk : X.length = k) (hn : k ≤ n) : Rd w B A k (X.map Value.string) := by
  have h2 := rd_take h hn
  rw [List.map_append, List.take_append_of_le_length (by simp; omega), List.take_of_length_le (by simp; omega)] at h2
  exact h2
set_option maxRecDepth 100000 in
set_option maxHeartbeats 8000000 in
theorem law_ConsoleLines (A : Option Addr) (c : Nat) (L : List Int) (w : World) (hr : Rd w w.heap.size A L.length (L.map (Value.int .u8))) (hl : L.length ≤ maxLen) (hx : ∀ x ∈ L, 0 ≤ x ∧ x ≤ 255) (hc : L.length ≤ c) (hE : JEnv w ∧ MaxW w) :
    Calls Tryz.prog 3 #[.slice A L.length c] w fun e w' => e = .returned (.bool true) ∧ Below w.heap.size w w' := by
  unfold maxLen at hl
  have HRB := Lib.hid hr; have HXB := Lib.hid hx; have HE := Lib.hid (fun (W : World) (hb : Below w.heap.size w W) => JEnvM.below hE hb); clear hr hx hE
  by_cases hbig : 4096 < L.length
  · go_enter Tryz.func3, Tryz.ntmps3
    go_wp2_with fail
    refine (big_c A L.length c true w (by omega) (by simp [hbig])).mono ?_
    rintro e w' ⟨rfl, rfl⟩
    go_wp2
    go_ret
    exact ⟨rfl, Below.refl _ _⟩
  go_enter Tryz.func3, Tryz.ntmps3
  go_wp2_with fail
  refine (big_c A L.length c false w (by omega) (by simp; omega)).mono ?_
  rintro e w0 ⟨rfl, rfl⟩
  go_wp2_with fail
  refine (DrawRunConsole_c A c L w HRB.out HXB.out (by omega) hc).mono ?_
  rintro e w1 ⟨t, rfl, ht, hb1⟩
  have HI := Lib.hid (fun (W : World) (hb : Below w.heap.size w W) => impl_RunConsole t W (by omega) (HE.out W hb).1 (HE.out W hb).2)
  have HS := Lib.hid (fun W => spec_RunConsole t W (by omega))
  unfold ConP at HI HS
  have hn := outT_len t
  have hq := codeT_or t
  have HF0 := Lib.hid (fun h => codeT_0 (s := t) h)
  have HOT := Lib.hid (fun h h1 h2 => out_noise (s := t) h h1 h2)
  have HI2 := Lib.hid (fun (W : World) (hb : Below w.heap.size w W) (hz : (t ++ noiseN).size ≤ 2000000) => impl_RunConsole (t ++ noiseN) W hz (HE.out W hb).1 (HE.out W hb).2)
  have HS2 := Lib.hid (fun W (hz : (t ++ noiseN).size ≤ 2000000) => spec_RunConsole (t ++ noiseN) W hz)
  unfold ConP at HI2 HS2
  have hn2 := outT_len (t ++ noiseN)
  have hq2 := codeT_or (t ++ noiseN)
  have HF2 := Lib.hid (fun h => codeT_0 (s := t ++ noiseN) h)
  have hsz : (t ++ noiseN).size = t.size + 6 := by rw [ByteArray.size_append]; rfl
  have HNS := Lib.hid (show t ++ ({ data := #[110, 111, 105, 115, 101, 10] } : ByteArray) = t ++ noiseN from rfl)
  generalize hX : outT t = X at *
  generalize hq0 : codeT t = q at *
  generalize outT (t ++ noiseN) = Y at *
  generalize codeT (t ++ noiseN) = r at *
  have HLN := Lib.hid (fun n (hn : t.size = n + 1) h => last_nl (s := t) hn h)
  clear hX hq0
  go_wp2_with fail
  refine (HI.out w1 hb1).mono ?_
  rintro e w2 ⟨A2, c2, rfl, ho2, hb2, hc2, -⟩
  have hB2 := bt hb1 hb2
  go_wp2_with fail
  refine (HS.out w2).mono ?_
  rintro e w3 ⟨A3, c3, rfl, ho3, hb3, hc3, -⟩
  have hB3 := bt hB2 hb3
  replace ho2 := own_below ho2 hb3
  go_wp2_with fail
  refine (DrawIsConsoleLine_c A c L w3 (rdW hB3 HRB.out) HXB.out (by omega) hc).mono ?_
  rintro e w4 ⟨l, rfl, hlz, hb4⟩
  have hB4 := bt hB3 hb4
  replace ho2 := own_below ho2 hb4
  replace ho3 := own_below ho3 hb4
  go_wp2_with fail
  refine (likeTexts_c A2 A3 X.length c2 c3 X w4 rfl (Rd.of_own1 ho2) (Rd.of_own1 ho3) (by omega)).mono ?_
  rintro e w5 ⟨rfl, hb5⟩
  have hB5 := bt hB4 hb5
  replace ho2 := own_below ho2 hb5
  have HIL := Lib.hid (fun (W : World) (hb : Below w.heap.size w W) => (HE.out W hb).2.elim fun m hm => impl_IsConsoleLine l W (by omega) (HE.out W hb).1 m hm)
  have HSL := Lib.hid (fun W => spec_IsConsoleLine l W (by omega))
  generalize lineB l = lb at *
  go_wp2_with fail
  refine (HIL.out w5 hB5).mono ?_
  rintro e w6 ⟨rfl, hb6⟩
  have hB6 := bt hB5 hb6
  replace ho2 := own_below ho2 hb6
  go_wp2_with fail
  refine (HSL.out w6).mono ?_
  rintro e w7 ⟨rfl, hb7⟩
  have hB7 := bt hB6 hb7
  have HO2 := Lib.hid (own_below ho2 hb7)
  clear ho2 ho3
  by_cases h0 : q = 0
  · subst h0
    have hf1 := HF0.out rfl
    have HFT := Lib.hid hf1
    have GO : Hid (t.size = 0 ∨ (∃ l, t.data.toList = l ++ [10])) ∨ Hid (∃ n, t.size = n + 1 ∧ byteOf t n ≠ 10) := by
      by_cases hz : t.size = 0
      · exact .inl (Lib.hid (.inl hz))
      · obtain ⟨n, hn⟩ : ∃ n, t.size = n + 1 := ⟨t.size - 1, by omega⟩
        by_cases hb : byteOf t n = 10
        · exact .inl (Lib.hid (.inr (HLN.out n hn hb)))
        · exact .inr (Lib.hid ⟨n, hn, hb⟩)
    clear hf1
    rcases GO with HG | HG
    · have HY : Hid (Hid (fitB (t ++ noiseN) = true) → Y = X ++ [err6T]) := fun h => HOT.out HG.out HFT.out h.out
      have GC : Hid (t.size = 0) ∨ Hid (∃ n, t.size = n + 1 ∧ byteOf t n = 10) := by
        rcases HG.out with hz | ⟨l, hl⟩
        · exact .inl hz
        · have hlen : t.size = l.length + 1 := by rw [← s_len, hl]; simp
          refine .inr ⟨l.length, hlen, ?_⟩
          unfold byteOf; rw [hl]; simp
      have hcz : (t ++ ({ data := #[110, 111, 105, 115, 101, 10] } : ByteArray)).size = t.size + 6 := hsz
      clear HOT HG HNS
      rcases GC with HC | HC
      · have hz0 : ¬ (0 : Int) < (t.size : Int) := by have := HC.out; omega
        clear HC
        go_wp2_with fail
        refine (HI2.out w7 hB7 (by omega)).mono ?_
        rintro e w8 ⟨A8, c8, rfl, ho8, hb8, hc8, -⟩
        have hB8 := bt hB7 hb8
        replace HO2 := Lib.hid (own_below HO2.out hb8)
        go_wp2_with fail
        refine (HS2.out w8 (by omega)).mono ?_
        rintro e w9 ⟨A9, c9, rfl, ho9, hb9, hc9, -⟩
        have hB9 := bt hB8 hb9
        replace HO2 := Lib.hid (own_below HO2.out hb9)
        replace ho8 := own_below ho8 hb9
        go_wp2_with fail
        refine (likeTexts_c A8 A9 Y.length c8 c9 Y w9 rfl (Rd.of_own1 ho8) (Rd.of_own1 ho9) (by omega)).mono ?_
        rintro e w10 ⟨rfl, hb10⟩
        have hB10 := bt hB9 hb10
        replace HO2 := Lib.hid (own_below HO2.out hb10)
        have HO8 := Lib.hid (own_below ho8 hb10)
        clear ho8 ho9
        by_cases hr0 : r = 0
        · subst hr0
          have hYX := HY.out (Lib.hid (HF2.out rfl))
          have hYl : Y.length = X.length + 1 := by rw [hYX]; simp
          have hYp : 0 < Y.length := by omega
          obtain ⟨h8, rfl, _, _⟩ := own_head HO8.out hYp
          have hce : w10.cell? ⟨h8, X.length, none⟩ = some (.string err6T) := by
            have h9 := HO8.out.cellAt X.length (by omega)
            rw [h9, hYX]; simp
          have hRY : Rd w10 w10.heap.size (some ⟨h8, 0, none⟩) Y.length ((X ++ [err6T]).map Value.string) := by rw [← hYX]; exact Rd.of_own1 HO8.out
          have HRT := Lib.hid (rd_takeS hRY rfl (by omega))
          clear hRY
          have hXc : X.length ≤ c8 := by omega
          have hXi : (X.length : Int) < (Y.length : Int) := by omega
          have hX0 : (0 : Int) ≤ (X.length : Int) := by omega
          have hXci : (X.length : Int) ≤ (c8 : Int) := by omega
          have hli : ((Y.length : Int) == (X.length : Int) + 1) = true := by rw [beq_iff_eq]; omega
          have HRO := Lib.hid (Rd.of_own1 HO2.out)
          unfold err6T at hce
          clear hYX hYl hYp HY HF2 HO2 HO8
          go_wp2_with fail
          refine (likeTexts_c (some ⟨h8, 0, none⟩) A2 X.length c8 c2 X w10 rfl HRT.out HRO.out (by omega)).mono ?_
          rintro e w11 ⟨rfl, hb11⟩
          go_wp2
          go_ret
          exact ⟨rfl, bt hB10 hb11⟩
        · have hr3 : r = 3 := by omega
          subst hr3
          go_wp2
          go_ret
          exact ⟨rfl, hB10⟩
      · obtain ⟨n, hn1, hb⟩ := HC.out
        have hti : (0 : Int) < (t.size : Int) := by omega
        have hni : (t.size : Int) - 1 = (n : Int) := by omega
        have hnt : n < t.size := by omega
        have hbn : (byteOf t n != 10) = false := by rw [hb]; rfl
        clear hb HC
        go_wp2_with fail
        refine (HI2.out w7 hB7 (by omega)).mono ?_
        rintro e w8 ⟨A8, c8, rfl, ho8, hb8, hc8, -⟩
        have hB8 := bt hB7 hb8
        replace HO2 := Lib.hid (own_below HO2.out hb8)
        go_wp2_with fail
        refine (HS2.out w8 (by omega)).mono ?_
        rintro e w9 ⟨A9, c9, rfl, ho9, hb9, hc9, -⟩
        have hB9 := bt hB8 hb9
        replace HO2 := Lib.hid (own_below HO2.out hb9)
        replace ho8 := own_below ho8 hb9
        go_wp2_with fail
        refine (likeTexts_c A8 A9 Y.length c8 c9 Y w9 rfl (Rd.of_own1 ho8) (Rd.of_own1 ho9) (by omega)).mono ?_
        rintro e w10 ⟨rfl, hb10⟩
        have hB10 := bt hB9 hb10
        replace HO2 := Lib.hid (own_below HO2.out hb10)
        have HO8 := Lib.hid (own_below ho8 hb10)
        clear ho8 ho9
        by_cases hr0 : r = 0
        · subst hr0
          have hYX := HY.out (Lib.hid (HF2.out rfl))
          have hYl : Y.length = X.length + 1 := by rw [hYX]; simp
          have hYp : 0 < Y.length := by omega
          obtain ⟨h8, rfl, _, _⟩ := own_head HO8.out hYp
          have hce : w10.cell? ⟨h8, X.length, none⟩ = some (.string err6T) := by
            have h9 := HO8.out.cellAt X.length (by omega)
            rw [h9, hYX]; simp
          have hRY : Rd w10 w10.heap.size (some ⟨h8, 0, none⟩) Y.length ((X ++ [err6T]).map Value.string) := by rw [← hYX]; exact Rd.of_own1 HO8.out
          have HRT := Lib.hid (rd_takeS hRY rfl (by omega))
          clear hRY
          have hXc : X.length ≤ c8 := by omega
          have hXi : (X.length : Int) < (Y.length : Int) := by omega
          have hX0 : (0 : Int) ≤ (X.length : Int) := by omega
          have hXci : (X.length : Int) ≤ (c8 : Int) := by omega
          have hli : ((Y.length : Int) == (X.length : Int) + 1) = true := by rw [beq_iff_eq]; omega
          have HRO := Lib.hid (Rd.of_own1 HO2.out)
          unfold err6T at hce
          clear hYX hYl hYp HY HF2 HO2 HO8
          go_wp2_with fail
          refine (likeTexts_c (some ⟨h8, 0, none⟩) A2 X.length c8 c2 X w10 rfl HRT.out HRO.out (by omega)).mono ?_
          rintro e w11 ⟨rfl, hb11⟩
          go_wp2
          go_ret
          exact ⟨rfl, bt hB10 hb11⟩
        · have hr3 : r = 3 := by omega
          subst hr3
          go_wp2
          go_ret
          exact ⟨rfl, hB10⟩
    · obtain ⟨n, hn1, hb⟩ := HG.out
      have hti : (0 : Int) < (t.size : Int) := by omega
      have hni : (t.size : Int) - 1 = (n : Int) := by omega
      have hnt : n < t.size := by omega
      have hbn : (byteOf t n != 10) = true := bne_iff_ne.2 hb
      clear hb HG
      go_wp2
      go_ret
      exact ⟨rfl, hB7⟩
  · have hq3 : q = 3 := by omega
    subst hq3
    go_wp2
    go_ret
    exact ⟨rfl, hB7⟩
end Go.Proofs.YtiamignopfhkfaaGreatDoor
