/- Contracts: l33Next. -/
import Derived.Test.YtdibfppmodeiiaaDoorRd2
import Derived.Test.YtdibfppmodeiiaaDoorRd3
namespace Go.Proofs.YtdibfppmodeiiaaDoor
open Go.RowKit
set_option linter.unusedVariables false
def NextPost (s : ByteArray) (c : Nat) (w : World) (e : Ending) (w' : World) : Prop :=
  ∃ (x : EntryD) (own n : Nat), e = .returned (.tuple #[.agg #[.int .u8 x.kind, .string x.text], .int .i64 own, .int .i64 n]) ∧ ((n = 0 ∧ ∀ y, ¬ rdOk s c y) ∨ (0 < n ∧ rdOk s c x ∧ own = chkE x c ∧ n = (wrT x.kind x.text c).size)) ∧ Below w.heap.size w w'
theorem nextPost_no {s : ByteArray} {c : Nat} {w w' : World} (hb : Below w.heap.size w w') (h : ∀ y, ¬ rdOk s c y) : NextPost s c w (.returned (.tuple #[.agg #[.int .u8 0, .string ⟨#[]⟩], .int .i64 0, .int .i64 0])) w' :=
  ⟨⟨0, ⟨#[]⟩⟩, 0, 0, rfl, .inl ⟨rfl, h⟩, hb⟩
theorem list_get {s : ByteArray} {j : Nat} (hj : j < s.size) : s.data.toList[j]? = some s[j] := by
  rw [List.getElem?_eq_getElem (by rw [ba_len]; exact hj)]; rfl
theorem rd_at {s : ByteArray} {c : Nat} {y : EntryD} (hy : rdOk s c y) : ∃ n : Nat, n < s.size ∧ (s.extract 0 n).data.toList = Lib.decDigits y.text.size ∧ y.text.size ≤ 40 ∧ (65 ≤ y.kind ∧ y.kind ≤ 90) ∧ (1 ≤ n ∧ n ≤ 2) ∧ (∀ j (hj : j < s.size), j < n → s[j] ≠ 58) ∧ (∀ hj : n < s.size, s[n] = 58) ∧
    ∃ R, (s.extract (n + 1) s.size).data.toList = UInt8.ofNat y.kind.toNat :: (y.text.data.toList ++ 58 :: R) := by
  obtain ⟨n, h1, h2, h3, h4, h5, R, h6⟩ := rd_parts hy
  have hl : n = (Lib.decDigits y.text.size).length := by
    rw [← h3, ba_len, ByteArray.size_extract]; omega
  have hd := dig_bds h4
  have hsp := idx_split (l := s.data.toList) (by rw [h1]; omega)
  rw [h1] at hsp
  simp only [Int.toNat_natCast] at hsp
  refine ⟨n, h2, h3, h4, h5, by omega, fun j hj hlt => ?_, fun hj => ?_, R, h6⟩
  · have h7 : s[j] ∈ (s.extract 0 n).data.toList := by
      rw [ext_list _ _ _ (by omega), Nat.sub_zero, List.drop_zero]
      refine List.mem_iff_getElem?.2 ⟨j, ?_⟩
      rw [List.getElem?_take_of_lt hlt]; exact list_get hj
    rw [h3] at h7
    exact dig_no _ _ h7
  · have h8 := list_get hj
    rw [hsp.1, List.getElem?_append_right (by rw [List.length_take]; omega)] at h8
    rw [List.length_take, Nat.min_eq_left (by omega), Nat.sub_self] at h8
    simpa using h8.symm


set_option maxRecDepth 100000 in
set_option maxHeartbeats 4000000 in
theorem l33Next_c (s : ByteArray) (c : Nat) (w : World) (hs : s.size ≤ 2000000) (hc : c < 65521) : Calls Tryd.prog 47 #[.string s, .int .i64 c] w (NextPost s c w) := by
  go_enter Tryd.func47, Tryd.ntmps47
  go_wp2_with fail
  generalize hW0 : w.alloc _ = W0
  have hbW0 : Below w.heap.size w W0 := by subst hW0; exact (Below.refl _ _).alloc (Nat.le_refl _) _
  have hsW0 : W0.heap.size = w.heap.size + 1 := by subst hW0; simp
  have cxW0_0 : ∀ i, W0.cell? ⟨w.heap.size, i, none⟩ = (#[.int .u8 0, .string ⟨#[]⟩] : Array Value)[i]? := by intro i; subst hW0; simp [go_sem]
  have fzW0_0 : ∀ i, W0.frozen? ⟨w.heap.size, i, none⟩ = false := by intro i; subst hW0; simp [go_sem]
  have HSW0 := Lib.hid hsW0; clear hW0 hsW0
  go_wp2
  go_loop [7] (fun i => ∃ k : Nat, k ≤ s.size ∧ k ≤ 3 ∧ i = .int .i64 k ∧ Hid (∀ j (hj : j < s.size), j < k → s[j] ≠ 58)) (fun i => s.size - (intOf i).toNat)
  case atStart => exact ⟨0, by omega, by omega, rfl, fun j _ hj => absurd hj (by omega)⟩
  case round =>
    obtain ⟨k, hk, hk3, rfl, HT⟩ := hrel
    have hk0 : (0 : Int) ≤ (k : Int) := by omega
    have hks : (k : Int) ≤ (s.size : Int) := by omega
    by_cases hlt : k < s.size
    · have hlt1 : (k : Int) < (s.size : Int) := by omega
      by_cases h3 : k < 3
      · have h31 : (k : Int) < 3 := by omega
        cases h58 : ((s[k].toNat : Int) == 58)
        · go_wp2
          go_round
          case rel => exact ⟨k + 1, by omega, by omega, by go_num, fun j hj h => by
            by_cases e : j = k
            · subst e
              intro e2
              rw [e2] at h58
              revert h58; decide
            · exact HT.out j hj (by omega)⟩
          case measure => simp [intOf]; omega
        · skip
          have HKN : Hid (∀ y, rdOk s c y → (s.extract 0 k).data.toList = Lib.decDigits y.text.size ∧ y.text.size ≤ 40 ∧ (65 ≤ y.kind ∧ y.kind ≤ 90) ∧ s[k] = 58 ∧ ∃ R, (s.extract (k + 1) s.size).data.toList = UInt8.ofNat y.kind.toNat :: (y.text.data.toList ++ 58 :: R)) := fun y hy => by
            obtain ⟨n, q1, q2, q3, q4, q5, q6, q7, R, hR⟩ := rd_at hy
            have hnk : n = k := by
              rcases Nat.lt_trichotomy n k with h | h | h
              · exact absurd (q7 q1) (HT.out n q1 h)
              · exact h
              · exact absurd h58 (by rw [show ((s[k].toNat : Int) == 58) = false from beq_eq_false_iff_ne.2 (fun e => q6 k hlt h (UInt8.toNat.inj (by have e58 : (58 : UInt8).toNat = 58 := rfl; omega)))]; decide)
            subst hnk
            exact ⟨q2, q3, q4, q7 q1, R, hR⟩
          go_wp2_with fail
          refine (l01Value_c (s.extract 0 k) W0 (by rw [ByteArray.size_extract]; omega)).mono ?_
          rintro e w2 ⟨m, b, rfl, hm, hm2, hb2⟩
          have hB2 := bt hbW0 hb2
          replace cxW0_0 := fun i => (hb2.cell (by (try simp only); have := HSW0.out; omega)).trans (cxW0_0 i)
          replace fzW0_0 := fun i => (hb2.frozen (by (try simp only); have := HSW0.out; omega)).trans (fzW0_0 i)
          have HMM : Hid (∀ y, rdOk s c y → b = true ∧ m = y.text.size) := fun y hy => by
            obtain ⟨q2, q3, _⟩ := HKN.out y hy
            exact hm2 _ q3 q2
          have HM2 := Lib.hid hm2
          clear hm2
          cases b
          · have HNO : Hid (∀ y, ¬ rdOk s c y) := fun y hy => by have := (HMM.out y hy).1; cases this
            go_wp2
            exact bodyPost_ret (v := .tuple #[.agg #[.int .u8 0, .string ⟨#[]⟩], .int .i64 0, .int .i64 0]) (by simp [results, Tryd.results47, go_sem, cxW0_0]) rfl (nextPost_no ((hB2.setCell (Nat.le_refl _) _).setCell (Nat.le_refl _) _) HNO.out)
          · by_cases h40 : (40 : Int) < (m : Int)
            · have HNO : Hid (∀ y, ¬ rdOk s c y) := fun y hy => by
                have h1 := (HMM.out y hy).2
                obtain ⟨q2, q3, _⟩ := HKN.out y hy
                omega
              go_wp2
              exact bodyPost_ret (v := .tuple #[.agg #[.int .u8 0, .string ⟨#[]⟩], .int .i64 0, .int .i64 0]) (by simp [results, Tryd.results47, go_sem, cxW0_0]) rfl (nextPost_no ((hB2.setCell (Nat.le_refl _) _).setCell (Nat.le_refl _) _) HNO.out)
            · by_cases hle : (s.size : Int) < (k : Int) + 2 + (m : Int)
              · have HNO : Hid (∀ y, ¬ rdOk s c y) := fun y hy => by
                  have h1 := (HMM.out y hy).2
                  obtain ⟨q2, q3, q4, q7, R, hR⟩ := HKN.out y hy
                  have := congrArg List.length hR
                  rw [ba_len, ByteArray.size_extract] at this
                  simp only [List.length_cons, List.length_append, ba_len] at this
                  omega
                go_wp2
                exact bodyPost_ret (v := .tuple #[.agg #[.int .u8 0, .string ⟨#[]⟩], .int .i64 0, .int .i64 0]) (by simp [results, Tryd.results47, go_sem, cxW0_0]) rfl (nextPost_no ((hB2.setCell (Nat.le_refl _) _).setCell (Nat.le_refl _) _) HNO.out)
              · skip
                have hwk : IntKind.i64.wrap ((k : Int) + 1) = (k : Int) + 1 := IntWalk.i64_in _ (by omega)
                have hwk2 : IntKind.i64.wrap ((k : Int) + 2) = (k : Int) + 2 := IntWalk.i64_in _ (by omega)
                have hwk3 : IntKind.i64.wrap ((k : Int) + 2 + (m : Int)) = (k : Int) + 2 + (m : Int) := IntWalk.i64_in _ (by omega)
                have hr1 : k + 1 < s.size := by omega
                have hr2 : k + 2 ≤ s.size := by omega
                have hr3 : k + 2 + m ≤ s.size := by omega
                have hr1' : (k : Int) + 1 < (s.size : Int) := by omega
                have hr3' : (k : Int) + 2 + (m : Int) ≤ (s.size : Int) := by omega
                have hm0 : (0 : Int) ≤ (m : Int) := by omega
                have hr4 : (0 : Int) ≤ (k : Int) + 1 := by omega
                have hr5 : (0 : Int) ≤ (k : Int) + 2 := by omega
                have hr6 : (k : Int) + 2 ≤ (k : Int) + 2 + (m : Int) := by omega
                have hr7 : (0 : Int) ≤ (k : Int) + 2 + (m : Int) := by omega
                have h58n : ((s[k].toNat : Int) != 58) = false := by simp only [bne, h58]; rfl
                go_wp2
                go_region
                have HXU : Hid (∀ y, rdOk s c y → y = ⟨(s[k + 1].toNat : Int), s.extract (k + 2) (k + 2 + m)⟩) := fun y hy => by
                  have h1 := (HMM.out y hy).2
                  obtain ⟨q2, q3, q4, q7, R, hR⟩ := HKN.out y hy
                  obtain ⟨y0, y1⟩ := y
                  simp only at hR q4 h1 q3
                  have hd : s.data.toList.drop (k + 1) = UInt8.ofNat y0.toNat :: (y1.data.toList ++ 58 :: R) := by
                    rw [← hR, ext_list _ _ _ (Nat.le_refl _), List.take_of_length_le (by rw [List.length_drop, ba_len]; omega)]
                  have e0 : s[k + 1] = UInt8.ofNat y0.toNat := by
                    have h3 := list_get hr1
                    have h4 : (s.data.toList.drop (k + 1))[0]? = some (UInt8.ofNat y0.toNat) := by rw [hd]; rfl
                    rw [List.getElem?_drop, Nat.add_zero, h3] at h4
                    exact Option.some.inj h4
                  have e1 : (s[k + 1].toNat : Int) = y0 := by rw [e0, UInt8.toNat_ofNat']; omega
                  have e2 : s.extract (k + 2) (k + 2 + m) = y1 := by
                    apply ba_ext
                    rw [ext_list _ _ _ (by omega), show k + 2 + m - (k + 2) = m by omega, show k + 2 = (k + 1) + 1 by omega, ← List.drop_drop, hd, List.drop_succ_cons, List.drop_zero]
                    rw [List.take_append_of_le_length (by rw [ba_len]; omega), List.take_of_length_le (by rw [ba_len]; omega)]
                  rw [e1, e2]
                have hx0 : 0 ≤ (s[k + 1].toNat : Int) ∧ (s[k + 1].toNat : Int) ≤ 255 := by have := s[k + 1].toNat_lt; omega
                have hx1 : (s.extract (k + 2) (k + 2 + m)).size ≤ 40 := by rw [ByteArray.size_extract]; omega
                generalize (s[k + 1].toNat : Int) = x0 at *
                generalize s.extract (k + 2) (k + 2 + m) = x1 at *
                have hB5 : Below w.heap.size w (w2.alloc (.cells #[.int .u8 x0, .string x1] 25)).drew := (hB2.alloc hB2.size _).drew
                have hl2 : w.heap.size < w2.heap.size := by have := HSW0.out; have := hb2.size; omega
                have hl5 : w2.heap.size < (w2.alloc (.cells #[.int .u8 x0, .string x1] 25)).drew.heap.size := by simp
                have cy : ∀ i, (w2.alloc (.cells #[.int .u8 x0, .string x1] 25)).drew.cell? ⟨w2.heap.size, i, none⟩ = (#[.int .u8 x0, .string x1] : Array Value)[i]? := by intro i; simp [go_sem]
                have hb5 : Below w2.heap.size w2 (w2.alloc (.cells #[.int .u8 x0, .string x1] 25)).drew := ((Below.refl _ _).alloc (Nat.le_refl _) _).drew
                have cz : ∀ i, (w2.alloc (.cells #[.int .u8 x0, .string x1] 25)).drew.cell? ⟨w.heap.size, i, none⟩ = (#[.int .u8 0, .string ⟨#[]⟩] : Array Value)[i]? := fun i => (hb5.cell (p := ⟨w.heap.size, i, none⟩) hl2).trans (cxW0_0 i)
                have fz : ∀ i, (w2.alloc (.cells #[.int .u8 x0, .string x1] 25)).drew.frozen? ⟨w.heap.size, i, none⟩ = false := fun i => (hb5.frozen (p := ⟨w.heap.size, i, none⟩) hl2).trans (fzW0_0 i)
                generalize (w2.alloc (.cells #[.int .u8 x0, .string x1] 25)).drew = W5 at *
                clear hb5 cxW0_0 fzW0_0 hle hwk hwk2 hwk3 hr1' hr3' h40 hr4 hr5 hr6 hr7 h58n
                have hbl := bodyT_len (a0 := x0) (a1 := x1) (by omega)
                have hwl := wrT_len (a0 := x0) (a1 := x1) (by omega) hc
                have hcl := chkL_lt (bodyT x0 x1).data.toList hc
                have hcl2 : chkT c (bodyT x0 x1) < 65521 := hcl
                clear hcl
                have hdl := decT_len (chkT c (bodyT x0 x1)) (by omega)
                have HHD := Lib.hid (fun W => l33Head_c x0 x1 W (by omega))
                obtain ⟨q, hq⟩ : ∃ q, bodyT x0 x1 ++ { data := #[58] } ++ decT (chkT c (bodyT x0 x1)) ++ { data := #[10] } = q := ⟨_, rfl⟩
                have HWQ : Hid (wrT x0 x1 c = q) := hq
                have hqs : q.size ≤ 86 := by have := HWQ.out; rw [this] at hwl; omega
                have hq0 : 0 < q.size := by rw [← hq, ByteArray.size_append]; have : ({ data := #[10] } : ByteArray).size = 1 := rfl; omega
                have HCK : Hid (chkE ⟨x0, x1⟩ c = chkT c (bodyT x0 x1)) := rfl
                generalize bodyT x0 x1 = B at *
                have HDO := Lib.hid (fun W => l01Dec_c (chkT c B) (by omega) W)
                generalize hown : chkT c B = own at *
                have HOWN := Lib.hid hown
                clear hown
                generalize decT own = D at *
                have hsum1 : ¬ 9223372036854775807 < B.size + 1 := by omega
                have hsum2 : ¬ 9223372036854775807 < B.size + 1 + D.size := by omega
                have hsum3 : ¬ 9223372036854775807 < B.size + 1 + D.size + 1 := by omega
                go_wp2_with fail
                refine (HHD.out W5).mono ?_
                rintro e w3 ⟨rfl, hb3⟩
                have hB3 := bt hB5 hb3
                replace cy := fun i => (hb3.cell (by (try simp only); have := HSW0.out; omega)).trans (cy i)
                replace cz := fun i => (hb3.cell (by (try simp only); have := HSW0.out; omega)).trans (cz i)
                replace fz := fun i => (hb3.frozen (by (try simp only); have := HSW0.out; omega)).trans (fz i)
                have hz3 := hb3.size
                go_wp2_with fail
                refine (l33Check_c B c w3 (by omega) hc).mono ?_
                rintro e w' ⟨rfl, rfl⟩
                rw [HOWN.out]
                go_wp2_with fail
                refine (HDO.out w3).mono ?_
                rintro e w4 ⟨rfl, hb4⟩
                have hB4 := bt hB3 hb4
                replace cy := fun i => (hb4.cell (by (try simp only); have := HSW0.out; omega)).trans (cy i)
                replace cz := fun i => (hb4.cell (by (try simp only); have := HSW0.out; omega)).trans (cz i)
                replace fz := fun i => (hb4.frozen (by (try simp only); have := HSW0.out; omega)).trans (fz i)
                have hz4 := hb4.size
                cases hO : entOk ⟨x0, x1⟩
                · have HNO : Hid (∀ y, ¬ rdOk s c y) := fun y hy => by
                    have := HXU.out y hy
                    subst this
                    rw [hy.1] at hO; cases hO
                  go_wp2_with fail
                  refine (l33Is_b x0 x1 _ w4 hx0 (by omega) hO).mono ?_
                  rintro e w6 ⟨rfl, hb6⟩
                  have hB6 := bt hB4 hb6
                  replace cy := fun i => (hb6.cell (by (try simp only); have := HSW0.out; omega)).trans (cy i)
                  replace cz := fun i => (hb6.cell (by (try simp only); have := HSW0.out; omega)).trans (cz i)
                  replace fz := fun i => (hb6.frozen (by (try simp only); have := HSW0.out; omega)).trans (fz i)
                  go_wp2
                  exact bodyPost_ret (v := .tuple #[.agg #[.int .u8 0, .string ⟨#[]⟩], .int .i64 0, .int .i64 0]) (by simp [results, Tryd.results47, go_sem, cz]) rfl (nextPost_no ((hB6.setCell (Nat.le_refl _) _).setCell (Nat.le_refl _) _) HNO.out)
                · by_cases hsq : (s.size : Int) < (q.size : Int)
                  · have HNO : Hid (∀ y, ¬ rdOk s c y) := fun y hy => by
                      have := HXU.out y hy
                      subst this
                      obtain ⟨_, R, hR⟩ := hy
                      have := congrArg List.length hR
                      rw [HWQ.out, List.length_append, ba_len, ba_len] at this
                      omega
                    go_wp2_with fail
                    refine (l33Is_b x0 x1 _ w4 hx0 (by omega) hO).mono ?_
                    rintro e w6 ⟨rfl, hb6⟩
                    have hB6 := bt hB4 hb6
                    replace cy := fun i => (hb6.cell (by (try simp only); have := HSW0.out; omega)).trans (cy i)
                    replace cz := fun i => (hb6.cell (by (try simp only); have := HSW0.out; omega)).trans (cz i)
                    replace fz := fun i => (hb6.frozen (by (try simp only); have := HSW0.out; omega)).trans (fz i)
                    go_wp2
                    exact bodyPost_ret (v := .tuple #[.agg #[.int .u8 0, .string ⟨#[]⟩], .int .i64 0, .int .i64 0]) (by simp [results, Tryd.results47, go_sem, cz]) rfl (nextPost_no ((hB6.setCell (Nat.le_refl _) _).setCell (Nat.le_refl _) _) HNO.out)
                  · have HPQ : Hid (s.extract 0 q.size = q ↔ q.data.toList <+: s.data.toList) := by
                      constructor
                      · intro h
                        rw [← h, ext_list _ _ _ (by omega), Nat.sub_zero, List.drop_zero]
                        exact List.take_prefix _ _
                      · rintro ⟨R, hR⟩
                        apply ba_ext
                        rw [ext_list _ _ _ (by omega), Nat.sub_zero, List.drop_zero, ← hR, List.take_append_of_le_length (by rw [ba_len]; exact Nat.le_refl _), List.take_of_length_le (by rw [ba_len]; exact Nat.le_refl _)]
                    have hsq1 : (q.size : Int) ≤ (s.size : Int) := by omega
                    have hsq2 : q.size ≤ s.size := by omega
                    cases hE : ((s.extract 0 q.size).toList == q.toList)
                    · have HNO : Hid (∀ y, ¬ rdOk s c y) := fun y hy => by
                        have := HXU.out y hy
                        subst this
                        have h1 := hy.2
                        rw [show wrT x0 x1 c = q from HWQ.out] at h1
                        rw [ba_toList_eq.2 (HPQ.out.2 h1)] at hE; cases hE
                      go_wp2_with fail
                      refine (l33Is_b x0 x1 _ w4 hx0 (by omega) hO).mono ?_
                      rintro e w6 ⟨rfl, hb6⟩
                      have hB6 := bt hB4 hb6
                      replace cy := fun i => (hb6.cell (by (try simp only); have := HSW0.out; omega)).trans (cy i)
                      replace cz := fun i => (hb6.cell (by (try simp only); have := HSW0.out; omega)).trans (cz i)
                      replace fz := fun i => (hb6.frozen (by (try simp only); have := HSW0.out; omega)).trans (fz i)
                      go_wp2
                      exact bodyPost_ret (v := .tuple #[.agg #[.int .u8 0, .string ⟨#[]⟩], .int .i64 0, .int .i64 0]) (by simp [results, Tryd.results47, go_sem, cz]) rfl (nextPost_no ((hB6.setCell (Nat.le_refl _) _).setCell (Nat.le_refl _) _) HNO.out)
                    · have HYES : Hid (rdOk s c ⟨x0, x1⟩) := ⟨hO, by
                        show (wrT x0 x1 c).data.toList <+: _
                        rw [HWQ.out]; exact HPQ.out.1 (ba_toList_eq.1 hE)⟩
                      go_wp2_with fail
                      refine (l33Is_b x0 x1 _ w4 hx0 (by omega) hO).mono ?_
                      rintro e w6 ⟨rfl, hb6⟩
                      have hB6 := bt hB4 hb6
                      have hz6 := hb6.size
                      replace cy := fun i => (hb6.cell (by (try simp only); have := HSW0.out; omega)).trans (cy i)
                      replace cz := fun i => (hb6.cell (by (try simp only); have := HSW0.out; omega)).trans (cz i)
                      replace fz := fun i => (hb6.frozen (by (try simp only); have := HSW0.out; omega)).trans (fz i)
                      go_wp2
                      exact bodyPost_ret (v := .tuple #[.agg #[.int .u8 x0, .string x1], .int .i64 (own : Nat), .int .i64 (q.size : Nat)]) (by simp [results, Tryd.results47, go_sem, cz]) rfl ⟨⟨x0, x1⟩, own, q.size, rfl, .inr ⟨hq0, HYES.out, HCK.out.symm, by rw [show wrT x0 x1 c = q from HWQ.out]⟩, (hB6.setCell (Nat.le_refl _) _).setCell (Nat.le_refl _) _⟩
      · have h31 : ¬ (k : Int) < 3 := by omega
        have HKN : Hid (∀ y, rdOk s c y → (s.extract 0 k).data.toList = Lib.decDigits y.text.size ∧ y.text.size ≤ 40 ∧ (65 ≤ y.kind ∧ y.kind ≤ 90) ∧ s[k] = 58 ∧ ∃ R, (s.extract (k + 1) s.size).data.toList = UInt8.ofNat y.kind.toNat :: (y.text.data.toList ++ 58 :: R)) := fun y hy => by
          obtain ⟨n, q1, q2, q3, q4, q5, q6, q7, R, hR⟩ := rd_at hy
          have hnk : n = k := by
            rcases Nat.lt_trichotomy n k with h | h | h
            · exact absurd (q7 q1) (HT.out n q1 h)
            · exact h
            · omega
          subst hnk
          exact ⟨q2, q3, q4, q7 q1, R, hR⟩
        go_wp2_with fail
        refine (l01Value_c (s.extract 0 k) W0 (by rw [ByteArray.size_extract]; omega)).mono ?_
        rintro e w2 ⟨m, b, rfl, hm, hm2, hb2⟩
        have hB2 := bt hbW0 hb2
        replace cxW0_0 := fun i => (hb2.cell (by (try simp only); have := HSW0.out; omega)).trans (cxW0_0 i)
        replace fzW0_0 := fun i => (hb2.frozen (by (try simp only); have := HSW0.out; omega)).trans (fzW0_0 i)
        have HMM : Hid (∀ y, rdOk s c y → b = true ∧ m = y.text.size) := fun y hy => by
          obtain ⟨q2, q3, _⟩ := HKN.out y hy
          exact hm2 _ q3 q2
        have HM2 := Lib.hid hm2
        clear hm2
        cases b
        · have HNO : Hid (∀ y, ¬ rdOk s c y) := fun y hy => by have := (HMM.out y hy).1; cases this
          go_wp2
          exact bodyPost_ret (v := .tuple #[.agg #[.int .u8 0, .string ⟨#[]⟩], .int .i64 0, .int .i64 0]) (by simp [results, Tryd.results47, go_sem, cxW0_0]) rfl (nextPost_no ((hB2.setCell (Nat.le_refl _) _).setCell (Nat.le_refl _) _) HNO.out)
        · by_cases h40 : (40 : Int) < (m : Int)
          · have HNO : Hid (∀ y, ¬ rdOk s c y) := fun y hy => by
              have h1 := (HMM.out y hy).2
              obtain ⟨q2, q3, _⟩ := HKN.out y hy
              omega
            go_wp2
            exact bodyPost_ret (v := .tuple #[.agg #[.int .u8 0, .string ⟨#[]⟩], .int .i64 0, .int .i64 0]) (by simp [results, Tryd.results47, go_sem, cxW0_0]) rfl (nextPost_no ((hB2.setCell (Nat.le_refl _) _).setCell (Nat.le_refl _) _) HNO.out)
          · by_cases hle : (s.size : Int) < (k : Int) + 2 + (m : Int)
            · have HNO : Hid (∀ y, ¬ rdOk s c y) := fun y hy => by
                have h1 := (HMM.out y hy).2
                obtain ⟨q2, q3, q4, q7, R, hR⟩ := HKN.out y hy
                have := congrArg List.length hR
                rw [ba_len, ByteArray.size_extract] at this
                simp only [List.length_cons, List.length_append, ba_len] at this
                omega
              go_wp2
              exact bodyPost_ret (v := .tuple #[.agg #[.int .u8 0, .string ⟨#[]⟩], .int .i64 0, .int .i64 0]) (by simp [results, Tryd.results47, go_sem, cxW0_0]) rfl (nextPost_no ((hB2.setCell (Nat.le_refl _) _).setCell (Nat.le_refl _) _) HNO.out)
            · cases h58 : ((s[k].toNat : Int) == 58)
              · have HNO : Hid (∀ y, ¬ rdOk s c y) := fun y hy => by
                  obtain ⟨q2, q3, q4, q7, R, hR⟩ := HKN.out y hy
                  rw [q7] at h58
                  revert h58; decide
                have h58n : ((s[k].toNat : Int) != 58) = true := by simp only [bne, h58]; rfl
                go_wp2
                exact bodyPost_ret (v := .tuple #[.agg #[.int .u8 0, .string ⟨#[]⟩], .int .i64 0, .int .i64 0]) (by simp [results, Tryd.results47, go_sem, cxW0_0]) rfl (nextPost_no ((hB2.setCell (Nat.le_refl _) _).setCell (Nat.le_refl _) _) HNO.out)
              · skip
                have hwk : IntKind.i64.wrap ((k : Int) + 1) = (k : Int) + 1 := IntWalk.i64_in _ (by omega)
                have hwk2 : IntKind.i64.wrap ((k : Int) + 2) = (k : Int) + 2 := IntWalk.i64_in _ (by omega)
                have hwk3 : IntKind.i64.wrap ((k : Int) + 2 + (m : Int)) = (k : Int) + 2 + (m : Int) := IntWalk.i64_in _ (by omega)
                have hr1 : k + 1 < s.size := by omega
                have hr2 : k + 2 ≤ s.size := by omega
                have hr3 : k + 2 + m ≤ s.size := by omega
                have hr1' : (k : Int) + 1 < (s.size : Int) := by omega
                have hr3' : (k : Int) + 2 + (m : Int) ≤ (s.size : Int) := by omega
                have hm0 : (0 : Int) ≤ (m : Int) := by omega
                have hr4 : (0 : Int) ≤ (k : Int) + 1 := by omega
                have hr5 : (0 : Int) ≤ (k : Int) + 2 := by omega
                have hr6 : (k : Int) + 2 ≤ (k : Int) + 2 + (m : Int) := by omega
                have hr7 : (0 : Int) ≤ (k : Int) + 2 + (m : Int) := by omega
                have h58n : ((s[k].toNat : Int) != 58) = false := by simp only [bne, h58]; rfl
                go_wp2
                go_region
                have HXU : Hid (∀ y, rdOk s c y → y = ⟨(s[k + 1].toNat : Int), s.extract (k + 2) (k + 2 + m)⟩) := fun y hy => by
                  have h1 := (HMM.out y hy).2
                  obtain ⟨q2, q3, q4, q7, R, hR⟩ := HKN.out y hy
                  obtain ⟨y0, y1⟩ := y
                  simp only at hR q4 h1 q3
                  have hd : s.data.toList.drop (k + 1) = UInt8.ofNat y0.toNat :: (y1.data.toList ++ 58 :: R) := by
                    rw [← hR, ext_list _ _ _ (Nat.le_refl _), List.take_of_length_le (by rw [List.length_drop, ba_len]; omega)]
                  have e0 : s[k + 1] = UInt8.ofNat y0.toNat := by
                    have h3 := list_get hr1
                    have h4 : (s.data.toList.drop (k + 1))[0]? = some (UInt8.ofNat y0.toNat) := by rw [hd]; rfl
                    rw [List.getElem?_drop, Nat.add_zero, h3] at h4
                    exact Option.some.inj h4
                  have e1 : (s[k + 1].toNat : Int) = y0 := by rw [e0, UInt8.toNat_ofNat']; omega
                  have e2 : s.extract (k + 2) (k + 2 + m) = y1 := by
                    apply ba_ext
                    rw [ext_list _ _ _ (by omega), show k + 2 + m - (k + 2) = m by omega, show k + 2 = (k + 1) + 1 by omega, ← List.drop_drop, hd, List.drop_succ_cons, List.drop_zero]
                    rw [List.take_append_of_le_length (by rw [ba_len]; omega), List.take_of_length_le (by rw [ba_len]; omega)]
                  rw [e1, e2]
                have hx0 : 0 ≤ (s[k + 1].toNat : Int) ∧ (s[k + 1].toNat : Int) ≤ 255 := by have := s[k + 1].toNat_lt; omega
                have hx1 : (s.extract (k + 2) (k + 2 + m)).size ≤ 40 := by rw [ByteArray.size_extract]; omega
                generalize (s[k + 1].toNat : Int) = x0 at *
                generalize s.extract (k + 2) (k + 2 + m) = x1 at *
                have hB5 : Below w.heap.size w (w2.alloc (.cells #[.int .u8 x0, .string x1] 25)).drew := (hB2.alloc hB2.size _).drew
                have hl2 : w.heap.size < w2.heap.size := by have := HSW0.out; have := hb2.size; omega
                have hl5 : w2.heap.size < (w2.alloc (.cells #[.int .u8 x0, .string x1] 25)).drew.heap.size := by simp
                have cy : ∀ i, (w2.alloc (.cells #[.int .u8 x0, .string x1] 25)).drew.cell? ⟨w2.heap.size, i, none⟩ = (#[.int .u8 x0, .string x1] : Array Value)[i]? := by intro i; simp [go_sem]
                have hb5 : Below w2.heap.size w2 (w2.alloc (.cells #[.int .u8 x0, .string x1] 25)).drew := ((Below.refl _ _).alloc (Nat.le_refl _) _).drew
                have cz : ∀ i, (w2.alloc (.cells #[.int .u8 x0, .string x1] 25)).drew.cell? ⟨w.heap.size, i, none⟩ = (#[.int .u8 0, .string ⟨#[]⟩] : Array Value)[i]? := fun i => (hb5.cell (p := ⟨w.heap.size, i, none⟩) hl2).trans (cxW0_0 i)
                have fz : ∀ i, (w2.alloc (.cells #[.int .u8 x0, .string x1] 25)).drew.frozen? ⟨w.heap.size, i, none⟩ = false := fun i => (hb5.frozen (p := ⟨w.heap.size, i, none⟩) hl2).trans (fzW0_0 i)
                generalize (w2.alloc (.cells #[.int .u8 x0, .string x1] 25)).drew = W5 at *
                clear hb5 cxW0_0 fzW0_0 hle hwk hwk2 hwk3 hr1' hr3' h40 hr4 hr5 hr6 hr7 h58n
                have hbl := bodyT_len (a0 := x0) (a1 := x1) (by omega)
                have hwl := wrT_len (a0 := x0) (a1 := x1) (by omega) hc
                have hcl := chkL_lt (bodyT x0 x1).data.toList hc
                have hcl2 : chkT c (bodyT x0 x1) < 65521 := hcl
                clear hcl
                have hdl := decT_len (chkT c (bodyT x0 x1)) (by omega)
                have HHD := Lib.hid (fun W => l33Head_c x0 x1 W (by omega))
                obtain ⟨q, hq⟩ : ∃ q, bodyT x0 x1 ++ { data := #[58] } ++ decT (chkT c (bodyT x0 x1)) ++ { data := #[10] } = q := ⟨_, rfl⟩
                have HWQ : Hid (wrT x0 x1 c = q) := hq
                have hqs : q.size ≤ 86 := by have := HWQ.out; rw [this] at hwl; omega
                have hq0 : 0 < q.size := by rw [← hq, ByteArray.size_append]; have : ({ data := #[10] } : ByteArray).size = 1 := rfl; omega
                have HCK : Hid (chkE ⟨x0, x1⟩ c = chkT c (bodyT x0 x1)) := rfl
                generalize bodyT x0 x1 = B at *
                have HDO := Lib.hid (fun W => l01Dec_c (chkT c B) (by omega) W)
                generalize hown : chkT c B = own at *
                have HOWN := Lib.hid hown
                clear hown
                generalize decT own = D at *
                have hsum1 : ¬ 9223372036854775807 < B.size + 1 := by omega
                have hsum2 : ¬ 9223372036854775807 < B.size + 1 + D.size := by omega
                have hsum3 : ¬ 9223372036854775807 < B.size + 1 + D.size + 1 := by omega
                go_wp2_with fail
                refine (HHD.out W5).mono ?_
                rintro e w3 ⟨rfl, hb3⟩
                have hB3 := bt hB5 hb3
                replace cy := fun i => (hb3.cell (by (try simp only); have := HSW0.out; omega)).trans (cy i)
                replace cz := fun i => (hb3.cell (by (try simp only); have := HSW0.out; omega)).trans (cz i)
                replace fz := fun i => (hb3.frozen (by (try simp only); have := HSW0.out; omega)).trans (fz i)
                have hz3 := hb3.size
                go_wp2_with fail
                refine (l33Check_c B c w3 (by omega) hc).mono ?_
                rintro e w' ⟨rfl, rfl⟩
                rw [HOWN.out]
                go_wp2_with fail
                refine (HDO.out w3).mono ?_
                rintro e w4 ⟨rfl, hb4⟩
                have hB4 := bt hB3 hb4
                replace cy := fun i => (hb4.cell (by (try simp only); have := HSW0.out; omega)).trans (cy i)
                replace cz := fun i => (hb4.cell (by (try simp only); have := HSW0.out; omega)).trans (cz i)
                replace fz := fun i => (hb4.frozen (by (try simp only); have := HSW0.out; omega)).trans (fz i)
                have hz4 := hb4.size
                cases hO : entOk ⟨x0, x1⟩
                · have HNO : Hid (∀ y, ¬ rdOk s c y) := fun y hy => by
                    have := HXU.out y hy
                    subst this
                    rw [hy.1] at hO; cases hO
                  go_wp2_with fail
                  refine (l33Is_b x0 x1 _ w4 hx0 (by omega) hO).mono ?_
                  rintro e w6 ⟨rfl, hb6⟩
                  have hB6 := bt hB4 hb6
                  replace cy := fun i => (hb6.cell (by (try simp only); have := HSW0.out; omega)).trans (cy i)
                  replace cz := fun i => (hb6.cell (by (try simp only); have := HSW0.out; omega)).trans (cz i)
                  replace fz := fun i => (hb6.frozen (by (try simp only); have := HSW0.out; omega)).trans (fz i)
                  go_wp2
                  exact bodyPost_ret (v := .tuple #[.agg #[.int .u8 0, .string ⟨#[]⟩], .int .i64 0, .int .i64 0]) (by simp [results, Tryd.results47, go_sem, cz]) rfl (nextPost_no ((hB6.setCell (Nat.le_refl _) _).setCell (Nat.le_refl _) _) HNO.out)
                · by_cases hsq : (s.size : Int) < (q.size : Int)
                  · have HNO : Hid (∀ y, ¬ rdOk s c y) := fun y hy => by
                      have := HXU.out y hy
                      subst this
                      obtain ⟨_, R, hR⟩ := hy
                      have := congrArg List.length hR
                      rw [HWQ.out, List.length_append, ba_len, ba_len] at this
                      omega
                    go_wp2_with fail
                    refine (l33Is_b x0 x1 _ w4 hx0 (by omega) hO).mono ?_
                    rintro e w6 ⟨rfl, hb6⟩
                    have hB6 := bt hB4 hb6
                    replace cy := fun i => (hb6.cell (by (try simp only); have := HSW0.out; omega)).trans (cy i)
                    replace cz := fun i => (hb6.cell (by (try simp only); have := HSW0.out; omega)).trans (cz i)
                    replace fz := fun i => (hb6.frozen (by (try simp only); have := HSW0.out; omega)).trans (fz i)
                    go_wp2
                    exact bodyPost_ret (v := .tuple #[.agg #[.int .u8 0, .string ⟨#[]⟩], .int .i64 0, .int .i64 0]) (by simp [results, Tryd.results47, go_sem, cz]) rfl (nextPost_no ((hB6.setCell (Nat.le_refl _) _).setCell (Nat.le_refl _) _) HNO.out)
                  · have HPQ : Hid (s.extract 0 q.size = q ↔ q.data.toList <+: s.data.toList) := by
                      constructor
                      · intro h
                        rw [← h, ext_list _ _ _ (by omega), Nat.sub_zero, List.drop_zero]
                        exact List.take_prefix _ _
                      · rintro ⟨R, hR⟩
                        apply ba_ext
                        rw [ext_list _ _ _ (by omega), Nat.sub_zero, List.drop_zero, ← hR, List.take_append_of_le_length (by rw [ba_len]; exact Nat.le_refl _), List.take_of_length_le (by rw [ba_len]; exact Nat.le_refl _)]
                    have hsq1 : (q.size : Int) ≤ (s.size : Int) := by omega
                    have hsq2 : q.size ≤ s.size := by omega
                    cases hE : ((s.extract 0 q.size).toList == q.toList)
                    · have HNO : Hid (∀ y, ¬ rdOk s c y) := fun y hy => by
                        have := HXU.out y hy
                        subst this
                        have h1 := hy.2
                        rw [show wrT x0 x1 c = q from HWQ.out] at h1
                        rw [ba_toList_eq.2 (HPQ.out.2 h1)] at hE; cases hE
                      go_wp2_with fail
                      refine (l33Is_b x0 x1 _ w4 hx0 (by omega) hO).mono ?_
                      rintro e w6 ⟨rfl, hb6⟩
                      have hB6 := bt hB4 hb6
                      replace cy := fun i => (hb6.cell (by (try simp only); have := HSW0.out; omega)).trans (cy i)
                      replace cz := fun i => (hb6.cell (by (try simp only); have := HSW0.out; omega)).trans (cz i)
                      replace fz := fun i => (hb6.frozen (by (try simp only); have := HSW0.out; omega)).trans (fz i)
                      go_wp2
                      exact bodyPost_ret (v := .tuple #[.agg #[.int .u8 0, .string ⟨#[]⟩], .int .i64 0, .int .i64 0]) (by simp [results, Tryd.results47, go_sem, cz]) rfl (nextPost_no ((hB6.setCell (Nat.le_refl _) _).setCell (Nat.le_refl _) _) HNO.out)
                    · have HYES : Hid (rdOk s c ⟨x0, x1⟩) := ⟨hO, by
                        show (wrT x0 x1 c).data.toList <+: _
                        rw [HWQ.out]; exact HPQ.out.1 (ba_toList_eq.1 hE)⟩
                      go_wp2_with fail
                      refine (l33Is_b x0 x1 _ w4 hx0 (by omega) hO).mono ?_
                      rintro e w6 ⟨rfl, hb6⟩
                      have hB6 := bt hB4 hb6
                      have hz6 := hb6.size
                      replace cy := fun i => (hb6.cell (by (try simp only); have := HSW0.out; omega)).trans (cy i)
                      replace cz := fun i => (hb6.cell (by (try simp only); have := HSW0.out; omega)).trans (cz i)
                      replace fz := fun i => (hb6.frozen (by (try simp only); have := HSW0.out; omega)).trans (fz i)
                      go_wp2
                      exact bodyPost_ret (v := .tuple #[.agg #[.int .u8 x0, .string x1], .int .i64 (own : Nat), .int .i64 (q.size : Nat)]) (by simp [results, Tryd.results47, go_sem, cz]) rfl ⟨⟨x0, x1⟩, own, q.size, rfl, .inr ⟨hq0, HYES.out, HCK.out.symm, by rw [show wrT x0 x1 c = q from HWQ.out]⟩, (hB6.setCell (Nat.le_refl _) _).setCell (Nat.le_refl _) _⟩
    · skip
      have HNO : Hid (∀ y, ¬ rdOk s c y) := fun y hy => by
        obtain ⟨n, q1, q2, q3, q4, q5, q6, q7, R, hR⟩ := rd_at hy
        exact absurd (q7 q1) (HT.out n q1 (by omega))
      have hge : (s.size : Int) ≤ (k : Int) := by omega
      go_wp2_with fail
      refine (l01Value_c (s.extract 0 k) W0 (by rw [ByteArray.size_extract]; omega)).mono ?_
      rintro e w2 ⟨m, b, rfl, hm, hm2, hb2⟩
      have hB2 := bt hbW0 hb2
      replace cxW0_0 := fun i => (hb2.cell (by (try simp only); have := HSW0.out; omega)).trans (cxW0_0 i)
      replace fzW0_0 := fun i => (hb2.frozen (by (try simp only); have := HSW0.out; omega)).trans (fzW0_0 i)
      clear hm2 hlt
      cases b
      · go_wp2
        exact bodyPost_ret (v := .tuple #[.agg #[.int .u8 0, .string ⟨#[]⟩], .int .i64 0, .int .i64 0]) (by simp [results, Tryd.results47, go_sem, cxW0_0]) rfl (nextPost_no ((hB2.setCell (Nat.le_refl _) _).setCell (Nat.le_refl _) _) HNO.out)
      · by_cases h40 : (40 : Int) < (m : Int)
        · go_wp2
          exact bodyPost_ret (v := .tuple #[.agg #[.int .u8 0, .string ⟨#[]⟩], .int .i64 0, .int .i64 0]) (by simp [results, Tryd.results47, go_sem, cxW0_0]) rfl (nextPost_no ((hB2.setCell (Nat.le_refl _) _).setCell (Nat.le_refl _) _) HNO.out)
        · have hle : (s.size : Int) < (k : Int) + 2 + (m : Int) := by omega
          go_wp2
          exact bodyPost_ret (v := .tuple #[.agg #[.int .u8 0, .string ⟨#[]⟩], .int .i64 0, .int .i64 0]) (by simp [results, Tryd.results47, go_sem, cxW0_0]) rfl (nextPost_no ((hB2.setCell (Nat.le_refl _) _).setCell (Nat.le_refl _) _) HNO.out)

end Go.Proofs.YtdibfppmodeiiaaDoor
