/- Contract: l07Insert, what it hands back being the argument itself or new. -/
import Derived.Test.YtiamignopfhkfaaGreatDoorZL07
namespace Go.Proofs.YtiamignopfhkfaaGreatDoor
open Go.RowKit
set_option linter.unusedVariables false
set_option maxRecDepth 100000 in
set_option maxHeartbeats 8000000 in
theorem l07Insert_x (base : Nat) (A : Option Addr) (c : Nat) (D : List Int) (n : Int) (w : World) (ho : w.ownsRow base 2 1 (.slice A D.length c) D.length (D.map (Value.int .i64))) (hbase : base ≤ w.heap.size) (hl : D.length ≤ 1000) :
    Calls Tryz.prog 111 #[.slice A D.length c, .int .i64 n] w fun e w' => ∃ (A' : Option Addr) (c' : Nat), e = .returned (.slice A' (insN D n).length c') ∧ ((A' = A ∧ c' = c ∧ insN D n = D) ∨ w'.ownsRow w.heap.size 2 1 (.slice A' (insN D n).length c') (insN D n).length ((insN D n).map (Value.int .i64))) ∧ Below w.heap.size w w' := by
  obtain ⟨i0, hi, hz0, hz1, hz2⟩ := info_parts int_info
  have HO := Lib.hid ho
  have HRD := Lib.hid (Rd.of_own1 ho)
  have hcap := own_cap ho
  have HA := Lib.hid (own_hA1 ho)
  clear ho
  go_enter Tryz.func111, Tryz.ntmps111
  go_wp2
  go_loopw [5] (fun i wr => ∃ k : Nat, k ≤ D.length ∧ i = .int .i64 k ∧ Below w.heap.size w wr ∧ Hid (∀ j (hj : j < D.length), j < k → D[j] < n)) (fun i _ => D.length - (intOf i).toNat)
  case atStart => exact ⟨0, by omega, rfl, Below.refl _ _, Lib.hid (fun j hj h => by omega)⟩
  case round =>
    obtain ⟨k, hk, rfl, hB, HT⟩ := hrel
    have hk0 : (0 : Int) ≤ (k : Int) := by omega
    by_cases hlt : k < D.length
    · have hk1 : (k : Int) < (D.length : Int) := by omega
      have hkI : (k : Int) ≤ (D.length : Int) := by omega
      have hkc : (k : Int) ≤ (c : Int) := by omega
      obtain ⟨b, off, rfl, hb, hcell⟩ := Rd.ints (HRD.out.below hB) hlt
      have f0 := hcell k hlt
      clear hcell
      by_cases hx : D[k] < n
      · have HT2 : Hid (∀ j (hj : j < D.length), j < k + 1 → D[j] < n) := fun j hj h => by
          by_cases e : j = k
          · subst e; exact hx
          · exact HT.out j hj (by omega)
        generalize D[k] = x0 at *
        go_wp2
        go_roundw
        case rel => exact ⟨k + 1, by omega, by go_num, hB, HT2⟩
        case measure => simp [intOf]; omega
      · have HAT := Lib.hid (atN_eq hk HT.out (fun _ => hx))
        by_cases he : D[k] = n
        · have HIN := Lib.hid (insN_same HAT.out hlt he)
          rw [he] at f0
          clear hx he
          go_wp2
          go_ret
          rw [HIN.out]
          exact ⟨_, _, rfl, .inl ⟨rfl, rfl, rfl⟩, hB⟩
        · have HIN := Lib.hid (insN_new HAT.out (fun _ => he))
          generalize D[k] = x0 at *
          have hck : ¬ c = k := by omega
          have hxb : (x0 == n) = false := beq_eq_false_iff_ne.2 he
          have hxl : ¬ x0 < n := hx
          obtain ⟨v1, rfl⟩ : ∃ x, x = wr := ⟨_, rfl⟩
          have hBo := hB
          clear hB
          have HTK : Hid (∀ W1 : World, Below v1.heap.size v1 W1 → Rd W1 v1.heap.size (some ⟨b, off, none⟩) (k * 1) ((D.take k).map (Value.int .i64))) := fun W1 h => (rd1_take (rdW hBo HRD.out) hk).below h
          have HTO : Hid (∀ u ∈ (D.take k).map (Value.int .i64), u.oneCell' = true) := one_ints _ _
          have HT3O : Hid (∀ u ∈ (D.drop k).map (Value.int .i64), u.oneCell' = true) := one_ints _ _
          have hwk : IntKind.i64.wrap (k : Int) = (k : Int) := IntWalk.i64_in _ (by omega)
          have HT3 : Hid (∀ W1 : World, Below v1.heap.size v1 W1 → Rd W1 v1.heap.size (some ⟨b, off + k, none⟩) ((D.length - k) * 1) ((D.drop k).map (Value.int .i64))) := fun W1 h => (rd1_drop (rdW hBo HRD.out) hk).below h
          go_wp2_with fail
          have HKd : Hid (∀ W1 : World, Below v1.heap.size v1 W1 → Below v1.heap.size v1 W1) := fun W1 h => h
          go_region_held3 (fun W1 => Below v1.heap.size v1 W1) (first | exact HKd.out _ ((Below.refl _ _).drew) | exact HKd.out _ (((Below.refl _ _).alloc (Nat.le_refl _) _).drew) | exact HKd.out _ ((((Below.refl _ _).alloc (Nat.le_refl _) _).alloc (by simp) _).drew) | exact HKd.out _ (hB1) | exact HKd.out _ (hB1.alloc hB1.size _) | exact HKd.out _ (hB2) | exact HKd.out _ (hB3))
            ((first
              | (refine step_cat _ (by rfl) (.tmp 33) (.tmp 36) 30 (by rfl) v1.heap.size 2 i0 _ 1 8 Tryz.underlying30 hi hz0 hz1 hz2 rfl (by omega) (.slice (some ⟨v1.heap.size, 0, none⟩) 0 0) 0 [] (by rfl) (own_empty (heap_alloc_new v1 _) (Nat.le_refl _)) (some ⟨b, off, none⟩) (k) (c) (v1.heap.size) ((D.take k).map (Value.int .i64)) (by rfl) (HTK.out _ (((Below.refl _ _).alloc (Nat.le_refl _) _).drew)) HTO.out (by unfold maxLen; omega) (by omega) (by first | omega | (simp; done) | (simp; omega)) (k) (by omega) ?_; intro A2 c2 w1 ho1 hg1; have hB1 : Below v1.heap.size v1 w1 := below_grown (((Below.refl _ _).alloc (Nat.le_refl _) _).drew) hg1 (Nat.le_refl _) (fun k hk => by have h3 : v1.heap.size = k := Option.some.inj hk; omega); have hs1 := hB1.size; simp only [List.nil_append] at ho1)
              | (refine step_cat _ (by rfl) (.tmp 33) (.tmp 36) 30 (by rfl) v1.heap.size 2 i0 _ 1 8 Tryz.underlying30 hi hz0 hz1 hz2 rfl (by omega) (.slice (some ⟨v1.heap.size, 0, none⟩) 0 0) 0 [] (by rfl) (own_empty (heap_at1 v1 _ _) (Nat.le_refl _)) (some ⟨b, off, none⟩) (k) (c) (v1.heap.size) ((D.take k).map (Value.int .i64)) (by rfl) (HTK.out _ ((((Below.refl _ _).alloc (Nat.le_refl _) _).alloc (by simp) _).drew)) HTO.out (by unfold maxLen; omega) (by omega) (by first | omega | (simp; done) | (simp; omega)) (k) (by omega) ?_; intro A2 c2 w1 ho1 hg1; have hB1 : Below v1.heap.size v1 w1 := below_grown ((((Below.refl _ _).alloc (Nat.le_refl _) _).alloc (by simp) _).drew) hg1 (Nat.le_refl _) (fun k hk => by have h3 : v1.heap.size = k := Option.some.inj hk; omega); have hs1 := hB1.size; simp only [List.nil_append] at ho1; have hy1 : w1.heap[v1.heap.size + 1]? = some (.cells #[.int .i64 n] 2) := (hg1.block _ (by simp <;> omega) (fun e => by have h3 : v1.heap.size + 1 = v1.heap.size := Option.some.inj e; omega)).trans (heap_alloc2_new v1 _ _))
              | (refine step_cat _ (by rfl) (.tmp 33) (.tmp 36) 30 (by rfl) v1.heap.size 2 i0 _ 1 8 Tryz.underlying30 hi hz0 hz1 hz2 rfl (by omega) (.slice (some ⟨v1.heap.size + 1, 0, none⟩) 0 0) 0 [] (by rfl) (own_empty (heap_alloc2_new v1 _ _) (Nat.le_succ _)) (some ⟨b, off, none⟩) (k) (c) (v1.heap.size) ((D.take k).map (Value.int .i64)) (by rfl) (HTK.out _ ((((Below.refl _ _).alloc (Nat.le_refl _) _).alloc (by simp) _).drew)) HTO.out (by unfold maxLen; omega) (by omega) (by first | omega | (simp; done) | (simp; omega)) (k) (by omega) ?_; intro A2 c2 w1 ho1 hg1; have hB1 : Below v1.heap.size v1 w1 := below_grown ((((Below.refl _ _).alloc (Nat.le_refl _) _).alloc (by simp) _).drew) hg1 (Nat.le_refl _) (fun k hk => by have h3 : v1.heap.size + 1 = k := Option.some.inj hk; omega); have hs1 := hB1.size; simp only [List.nil_append] at ho1; have hy1 : w1.heap[v1.heap.size]? = some (.cells #[.int .i64 n] 2) := (hg1.block _ (by simp <;> omega) (fun e => by have h3 : v1.heap.size = v1.heap.size + 1 := Option.some.inj e; omega)).trans (heap_at1 v1 _ _))
              | (refine step_cat _ (by rfl) (.tmp 37) (.tmp 39) 30 (by rfl) v1.heap.size 2 i0 _ 1 8 Tryz.underlying30 hi hz0 hz1 hz2 rfl (by omega) (.slice A2 (k) c2) (k) ((D.take k).map (Value.int .i64)) (by rfl) (ho1.alloc _) (some ⟨w1.heap.size, 0, none⟩) 1 1 _ [.int .i64 n] (by rfl) (Rd.of_block (heap_alloc_new w1 (.cells #[.int .i64 n] 2))) (by simp [Value.oneCell']) (by unfold maxLen; omega) (by omega) (by first | omega | (simp; done) | (simp; omega)) (k + 1) (by omega) ?_; intro A3 c3 w2 ho2 hg2; have hB2 : Below v1.heap.size v1 w2 := below_grown (hB1.alloc hB1.size _) hg2 (Nat.le_refl _) (fun k hk => (World.ownsRow.lt ho1 k hk).1); have hs2 := hB2.size)
              | (refine step_cat _ (by rfl) (.tmp 37) (.tmp 39) 30 (by rfl) v1.heap.size 2 i0 _ 1 8 Tryz.underlying30 hi hz0 hz1 hz2 rfl (by omega) (.slice A2 (k) c2) (k) ((D.take k).map (Value.int .i64)) (by rfl) (ho1) (some ⟨v1.heap.size + 1, 0, none⟩) 1 1 _ [.int .i64 n] (by rfl) (Rd.of_block (hy1)) (by simp [Value.oneCell']) (by unfold maxLen; omega) (by omega) (by first | omega | (simp; done) | (simp; omega)) (k + 1) (by omega) ?_; intro A3 c3 w2 ho2 hg2; have hB2 : Below v1.heap.size v1 w2 := below_grown (hB1) hg2 (Nat.le_refl _) (fun k hk => (World.ownsRow.lt ho1 k hk).1); have hs2 := hB2.size)
              | (refine step_cat _ (by rfl) (.tmp 37) (.tmp 39) 30 (by rfl) v1.heap.size 2 i0 _ 1 8 Tryz.underlying30 hi hz0 hz1 hz2 rfl (by omega) (.slice A2 (k) c2) (k) ((D.take k).map (Value.int .i64)) (by rfl) (ho1) (some ⟨v1.heap.size, 0, none⟩) 1 1 _ [.int .i64 n] (by rfl) (Rd.of_block (hy1)) (by simp [Value.oneCell']) (by unfold maxLen; omega) (by omega) (by first | omega | (simp; done) | (simp; omega)) (k + 1) (by omega) ?_; intro A3 c3 w2 ho2 hg2; have hB2 : Below v1.heap.size v1 w2 := below_grown (hB1) hg2 (Nat.le_refl _) (fun k hk => (World.ownsRow.lt ho1 k hk).1); have hs2 := hB2.size)
              | (refine step_cat _ (by rfl) (.tmp 40) (.tmp 43) 30 (by rfl) v1.heap.size 2 i0 _ 1 8 Tryz.underlying30 hi hz0 hz1 hz2 rfl (by omega) (.slice A3 (k + 1) c3) (k + 1) ((D.take k).map (Value.int .i64) ++ [.int .i64 n]) (by rfl) ho2 (some ⟨b, off + k, none⟩) (D.length - k) (c - k) (v1.heap.size) ((D.drop k).map (Value.int .i64)) (by rfl) (HT3.out _ hB2) HT3O.out (by unfold maxLen; omega) (by omega) (by first | omega | (simp; done) | (simp; omega)) (D.length + 1) (by omega) ?_; intro A4 c4 w3 ho3 hg3; have hB3 : Below v1.heap.size v1 w3 := below_grown hB2 hg3 (Nat.le_refl _) (fun k hk => (World.ownsRow.lt ho2 k hk).1); have hs3 := hB3.size)))
          all_goals
            go_wp2
            go_ret
            rw [HIN.out]
            have hlen : (D.take k ++ n :: D.drop k).length = D.length + 1 := by first | rfl | (simp; done) | (simp; omega)
            have e5 : (D.take k).map (Value.int .i64) ++ [.int .i64 n] ++ (D.drop k).map (Value.int .i64) = (D.take k ++ n :: D.drop k).map (Value.int .i64) := by simp
            rw [e5] at ho3
            refine ⟨A4, c4, by rw [hlen]; rfl, .inr (by rw [hlen]; exact own_mono ho3 hBo.size), bt hBo hB3⟩
    · have HAT := Lib.hid (atN_eq hk HT.out (fun h => absurd h hlt))
      have HIN := Lib.hid (insN_new HAT.out (fun h => absurd h hlt))
      have hge : ¬ ((k : Int) < (D.length : Int)) := by omega
      rcases HA.out with ⟨hAn, hc0⟩ | ⟨b, off, hAs⟩
      · subst hAn
        subst hc0
        obtain rfl : k = 0 := by omega
        obtain rfl : D = [] := List.length_eq_zero_iff.1 (by omega)
        obtain ⟨v1, rfl⟩ : ∃ x, x = wr := ⟨_, rfl⟩
        have hBo := hB
        clear hB
        have HTK : Hid (∀ W1 : World, Below v1.heap.size v1 W1 → Rd W1 v1.heap.size (none) (0 * 1) (([] : List Value))) := fun W1 h => Rd.nil_
        have HTO : Hid (∀ u ∈ ([] : List Value), u.oneCell' = true) := fun u hu => by simp at hu
        have HT3O : Hid (∀ u ∈ ([] : List Value), u.oneCell' = true) := fun u hu => by simp at hu
        have hwk : IntKind.i64.wrap (0 : Int) = (0 : Int) := IntWalk.i64_in _ (by omega)
        have HT3 : Hid (∀ W1 : World, Below v1.heap.size v1 W1 → Rd W1 v1.heap.size (none) ((0) * 1) (([] : List Value))) := fun W1 h => Rd.nil_
        go_wp2_with fail
        have HKd : Hid (∀ W1 : World, Below v1.heap.size v1 W1 → Below v1.heap.size v1 W1) := fun W1 h => h
        go_region_held3 (fun W1 => Below v1.heap.size v1 W1) (first | exact HKd.out _ ((Below.refl _ _).drew) | exact HKd.out _ (((Below.refl _ _).alloc (Nat.le_refl _) _).drew) | exact HKd.out _ ((((Below.refl _ _).alloc (Nat.le_refl _) _).alloc (by simp) _).drew) | exact HKd.out _ (hB1) | exact HKd.out _ (hB1.alloc hB1.size _) | exact HKd.out _ (hB2) | exact HKd.out _ (hB3))
          ((first
            | (refine step_cat _ (by rfl) (.tmp 33) (.tmp 36) 30 (by rfl) v1.heap.size 2 i0 _ 1 8 Tryz.underlying30 hi hz0 hz1 hz2 rfl (by omega) (.slice (some ⟨v1.heap.size, 0, none⟩) 0 0) 0 [] (by rfl) (own_empty (heap_alloc_new v1 _) (Nat.le_refl _)) (none) (0) (0) (v1.heap.size) (([] : List Value)) (by rfl) (HTK.out _ (((Below.refl _ _).alloc (Nat.le_refl _) _).drew)) HTO.out (by unfold maxLen; omega) (by omega) (by first | omega | (simp; done) | (simp; omega)) (0) (by omega) ?_; intro A2 c2 w1 ho1 hg1; have hB1 : Below v1.heap.size v1 w1 := below_grown (((Below.refl _ _).alloc (Nat.le_refl _) _).drew) hg1 (Nat.le_refl _) (fun k hk => by have h3 : v1.heap.size = k := Option.some.inj hk; omega); have hs1 := hB1.size; simp only [List.nil_append] at ho1)
            | (refine step_cat _ (by rfl) (.tmp 33) (.tmp 36) 30 (by rfl) v1.heap.size 2 i0 _ 1 8 Tryz.underlying30 hi hz0 hz1 hz2 rfl (by omega) (.slice (some ⟨v1.heap.size, 0, none⟩) 0 0) 0 [] (by rfl) (own_empty (heap_at1 v1 _ _) (Nat.le_refl _)) (none) (0) (0) (v1.heap.size) (([] : List Value)) (by rfl) (HTK.out _ ((((Below.refl _ _).alloc (Nat.le_refl _) _).alloc (by simp) _).drew)) HTO.out (by unfold maxLen; omega) (by omega) (by first | omega | (simp; done) | (simp; omega)) (0) (by omega) ?_; intro A2 c2 w1 ho1 hg1; have hB1 : Below v1.heap.size v1 w1 := below_grown ((((Below.refl _ _).alloc (Nat.le_refl _) _).alloc (by simp) _).drew) hg1 (Nat.le_refl _) (fun k hk => by have h3 : v1.heap.size = k := Option.some.inj hk; omega); have hs1 := hB1.size; simp only [List.nil_append] at ho1; have hy1 : w1.heap[v1.heap.size + 1]? = some (.cells #[.int .i64 n] 2) := (hg1.block _ (by simp <;> omega) (fun e => by have h3 : v1.heap.size + 1 = v1.heap.size := Option.some.inj e; omega)).trans (heap_alloc2_new v1 _ _))
            | (refine step_cat _ (by rfl) (.tmp 33) (.tmp 36) 30 (by rfl) v1.heap.size 2 i0 _ 1 8 Tryz.underlying30 hi hz0 hz1 hz2 rfl (by omega) (.slice (some ⟨v1.heap.size + 1, 0, none⟩) 0 0) 0 [] (by rfl) (own_empty (heap_alloc2_new v1 _ _) (Nat.le_succ _)) (none) (0) (0) (v1.heap.size) (([] : List Value)) (by rfl) (HTK.out _ ((((Below.refl _ _).alloc (Nat.le_refl _) _).alloc (by simp) _).drew)) HTO.out (by unfold maxLen; omega) (by omega) (by first | omega | (simp; done) | (simp; omega)) (0) (by omega) ?_; intro A2 c2 w1 ho1 hg1; have hB1 : Below v1.heap.size v1 w1 := below_grown ((((Below.refl _ _).alloc (Nat.le_refl _) _).alloc (by simp) _).drew) hg1 (Nat.le_refl _) (fun k hk => by have h3 : v1.heap.size + 1 = k := Option.some.inj hk; omega); have hs1 := hB1.size; simp only [List.nil_append] at ho1; have hy1 : w1.heap[v1.heap.size]? = some (.cells #[.int .i64 n] 2) := (hg1.block _ (by simp <;> omega) (fun e => by have h3 : v1.heap.size = v1.heap.size + 1 := Option.some.inj e; omega)).trans (heap_at1 v1 _ _))
            | (refine step_cat _ (by rfl) (.tmp 37) (.tmp 39) 30 (by rfl) v1.heap.size 2 i0 _ 1 8 Tryz.underlying30 hi hz0 hz1 hz2 rfl (by omega) (.slice A2 (0) c2) (0) (([] : List Value)) (by rfl) (ho1.alloc _) (some ⟨w1.heap.size, 0, none⟩) 1 1 _ [.int .i64 n] (by rfl) (Rd.of_block (heap_alloc_new w1 (.cells #[.int .i64 n] 2))) (by simp [Value.oneCell']) (by unfold maxLen; omega) (by omega) (by first | omega | (simp; done) | (simp; omega)) (1) (by omega) ?_; intro A3 c3 w2 ho2 hg2; have hB2 : Below v1.heap.size v1 w2 := below_grown (hB1.alloc hB1.size _) hg2 (Nat.le_refl _) (fun k hk => (World.ownsRow.lt ho1 k hk).1); have hs2 := hB2.size)
            | (refine step_cat _ (by rfl) (.tmp 37) (.tmp 39) 30 (by rfl) v1.heap.size 2 i0 _ 1 8 Tryz.underlying30 hi hz0 hz1 hz2 rfl (by omega) (.slice A2 (0) c2) (0) (([] : List Value)) (by rfl) (ho1) (some ⟨v1.heap.size + 1, 0, none⟩) 1 1 _ [.int .i64 n] (by rfl) (Rd.of_block (hy1)) (by simp [Value.oneCell']) (by unfold maxLen; omega) (by omega) (by first | omega | (simp; done) | (simp; omega)) (1) (by omega) ?_; intro A3 c3 w2 ho2 hg2; have hB2 : Below v1.heap.size v1 w2 := below_grown (hB1) hg2 (Nat.le_refl _) (fun k hk => (World.ownsRow.lt ho1 k hk).1); have hs2 := hB2.size)
            | (refine step_cat _ (by rfl) (.tmp 37) (.tmp 39) 30 (by rfl) v1.heap.size 2 i0 _ 1 8 Tryz.underlying30 hi hz0 hz1 hz2 rfl (by omega) (.slice A2 (0) c2) (0) (([] : List Value)) (by rfl) (ho1) (some ⟨v1.heap.size, 0, none⟩) 1 1 _ [.int .i64 n] (by rfl) (Rd.of_block (hy1)) (by simp [Value.oneCell']) (by unfold maxLen; omega) (by omega) (by first | omega | (simp; done) | (simp; omega)) (1) (by omega) ?_; intro A3 c3 w2 ho2 hg2; have hB2 : Below v1.heap.size v1 w2 := below_grown (hB1) hg2 (Nat.le_refl _) (fun k hk => (World.ownsRow.lt ho1 k hk).1); have hs2 := hB2.size)
            | (refine step_cat _ (by rfl) (.tmp 40) (.tmp 43) 30 (by rfl) v1.heap.size 2 i0 _ 1 8 Tryz.underlying30 hi hz0 hz1 hz2 rfl (by omega) (.slice A3 (1) c3) (1) (([] : List Value) ++ [.int .i64 n]) (by rfl) ho2 (none) (0) (0) (v1.heap.size) (([] : List Value)) (by rfl) (HT3.out _ hB2) HT3O.out (by unfold maxLen; omega) (by omega) (by first | omega | (simp; done) | (simp; omega)) (1) (by omega) ?_; intro A4 c4 w3 ho3 hg3; have hB3 : Below v1.heap.size v1 w3 := below_grown hB2 hg3 (Nat.le_refl _) (fun k hk => (World.ownsRow.lt ho2 k hk).1); have hs3 := hB3.size)))
        all_goals
          go_wp2
          go_ret
          rw [HIN.out]
          have hlen : (([] : List Int).take 0 ++ n :: ([] : List Int).drop 0).length = 1 := by first | rfl | (simp; done) | (simp; omega)
          have e5 : ([] : List Value) ++ [.int .i64 n] ++ ([] : List Value) = (([] : List Int).take 0 ++ n :: ([] : List Int).drop 0).map (Value.int .i64) := by simp
          rw [e5] at ho3
          refine ⟨A4, c4, by rw [hlen]; rfl, .inr (by rw [hlen]; exact own_mono ho3 hBo.size), bt hBo hB3⟩
      · subst hAs
        have HD0 : Hid (D.drop k = []) := List.drop_of_length_le (by omega)
        by_cases hck : c = k
        · have hck2 := hck.symm
          clear hck
          subst hck2
          have hkI : (k : Int) ≤ (D.length : Int) := by omega
          obtain ⟨v1, rfl⟩ : ∃ x, x = wr := ⟨_, rfl⟩
          have hBo := hB
          clear hB
          have HTK : Hid (∀ W1 : World, Below v1.heap.size v1 W1 → Rd W1 v1.heap.size (some ⟨b, off, none⟩) (k * 1) ((D.take k).map (Value.int .i64))) := fun W1 h => (rd1_take (rdW hBo HRD.out) hk).below h
          have HTO : Hid (∀ u ∈ (D.take k).map (Value.int .i64), u.oneCell' = true) := one_ints _ _
          have HT3O : Hid (∀ u ∈ (D.drop k).map (Value.int .i64), u.oneCell' = true) := one_ints _ _
          have hwk : IntKind.i64.wrap (k : Int) = (k : Int) := IntWalk.i64_in _ (by omega)
          have HT3 : Hid (∀ W1 : World, Below v1.heap.size v1 W1 → Rd W1 v1.heap.size (some ⟨b, off, none⟩) ((0) * 1) ((D.drop k).map (Value.int .i64))) := fun W1 h => (by rw [HD0.out]; simpa using (Rd.nil_ : Rd W1 v1.heap.size (some ⟨b, off, none⟩) 0 []))
          go_wp2_with fail
          have HKd : Hid (∀ W1 : World, Below v1.heap.size v1 W1 → Below v1.heap.size v1 W1) := fun W1 h => h
          go_region_held3 (fun W1 => Below v1.heap.size v1 W1) (first | exact HKd.out _ ((Below.refl _ _).drew) | exact HKd.out _ (((Below.refl _ _).alloc (Nat.le_refl _) _).drew) | exact HKd.out _ ((((Below.refl _ _).alloc (Nat.le_refl _) _).alloc (by simp) _).drew) | exact HKd.out _ (hB1) | exact HKd.out _ (hB1.alloc hB1.size _) | exact HKd.out _ (hB2) | exact HKd.out _ (hB3))
            ((first
              | (refine step_cat _ (by rfl) (.tmp 33) (.tmp 36) 30 (by rfl) v1.heap.size 2 i0 _ 1 8 Tryz.underlying30 hi hz0 hz1 hz2 rfl (by omega) (.slice (some ⟨v1.heap.size, 0, none⟩) 0 0) 0 [] (by rfl) (own_empty (heap_alloc_new v1 _) (Nat.le_refl _)) (some ⟨b, off, none⟩) (k) (k) (v1.heap.size) ((D.take k).map (Value.int .i64)) (by rfl) (HTK.out _ (((Below.refl _ _).alloc (Nat.le_refl _) _).drew)) HTO.out (by unfold maxLen; omega) (by omega) (by first | omega | (simp; done) | (simp; omega)) (k) (by omega) ?_; intro A2 c2 w1 ho1 hg1; have hB1 : Below v1.heap.size v1 w1 := below_grown (((Below.refl _ _).alloc (Nat.le_refl _) _).drew) hg1 (Nat.le_refl _) (fun k hk => by have h3 : v1.heap.size = k := Option.some.inj hk; omega); have hs1 := hB1.size; simp only [List.nil_append] at ho1)
              | (refine step_cat _ (by rfl) (.tmp 33) (.tmp 36) 30 (by rfl) v1.heap.size 2 i0 _ 1 8 Tryz.underlying30 hi hz0 hz1 hz2 rfl (by omega) (.slice (some ⟨v1.heap.size, 0, none⟩) 0 0) 0 [] (by rfl) (own_empty (heap_at1 v1 _ _) (Nat.le_refl _)) (some ⟨b, off, none⟩) (k) (k) (v1.heap.size) ((D.take k).map (Value.int .i64)) (by rfl) (HTK.out _ ((((Below.refl _ _).alloc (Nat.le_refl _) _).alloc (by simp) _).drew)) HTO.out (by unfold maxLen; omega) (by omega) (by first | omega | (simp; done) | (simp; omega)) (k) (by omega) ?_; intro A2 c2 w1 ho1 hg1; have hB1 : Below v1.heap.size v1 w1 := below_grown ((((Below.refl _ _).alloc (Nat.le_refl _) _).alloc (by simp) _).drew) hg1 (Nat.le_refl _) (fun k hk => by have h3 : v1.heap.size = k := Option.some.inj hk; omega); have hs1 := hB1.size; simp only [List.nil_append] at ho1; have hy1 : w1.heap[v1.heap.size + 1]? = some (.cells #[.int .i64 n] 2) := (hg1.block _ (by simp <;> omega) (fun e => by have h3 : v1.heap.size + 1 = v1.heap.size := Option.some.inj e; omega)).trans (heap_alloc2_new v1 _ _))
              | (refine step_cat _ (by rfl) (.tmp 33) (.tmp 36) 30 (by rfl) v1.heap.size 2 i0 _ 1 8 Tryz.underlying30 hi hz0 hz1 hz2 rfl (by omega) (.slice (some ⟨v1.heap.size + 1, 0, none⟩) 0 0) 0 [] (by rfl) (own_empty (heap_alloc2_new v1 _ _) (Nat.le_succ _)) (some ⟨b, off, none⟩) (k) (k) (v1.heap.size) ((D.take k).map (Value.int .i64)) (by rfl) (HTK.out _ ((((Below.refl _ _).alloc (Nat.le_refl _) _).alloc (by simp) _).drew)) HTO.out (by unfold maxLen; omega) (by omega) (by first | omega | (simp; done) | (simp; omega)) (k) (by omega) ?_; intro A2 c2 w1 ho1 hg1; have hB1 : Below v1.heap.size v1 w1 := below_grown ((((Below.refl _ _).alloc (Nat.le_refl _) _).alloc (by simp) _).drew) hg1 (Nat.le_refl _) (fun k hk => by have h3 : v1.heap.size + 1 = k := Option.some.inj hk; omega); have hs1 := hB1.size; simp only [List.nil_append] at ho1; have hy1 : w1.heap[v1.heap.size]? = some (.cells #[.int .i64 n] 2) := (hg1.block _ (by simp <;> omega) (fun e => by have h3 : v1.heap.size = v1.heap.size + 1 := Option.some.inj e; omega)).trans (heap_at1 v1 _ _))
              | (refine step_cat _ (by rfl) (.tmp 37) (.tmp 39) 30 (by rfl) v1.heap.size 2 i0 _ 1 8 Tryz.underlying30 hi hz0 hz1 hz2 rfl (by omega) (.slice A2 (k) c2) (k) ((D.take k).map (Value.int .i64)) (by rfl) (ho1.alloc _) (some ⟨w1.heap.size, 0, none⟩) 1 1 _ [.int .i64 n] (by rfl) (Rd.of_block (heap_alloc_new w1 (.cells #[.int .i64 n] 2))) (by simp [Value.oneCell']) (by unfold maxLen; omega) (by omega) (by first | omega | (simp; done) | (simp; omega)) (k + 1) (by omega) ?_; intro A3 c3 w2 ho2 hg2; have hB2 : Below v1.heap.size v1 w2 := below_grown (hB1.alloc hB1.size _) hg2 (Nat.le_refl _) (fun k hk => (World.ownsRow.lt ho1 k hk).1); have hs2 := hB2.size)
              | (refine step_cat _ (by rfl) (.tmp 37) (.tmp 39) 30 (by rfl) v1.heap.size 2 i0 _ 1 8 Tryz.underlying30 hi hz0 hz1 hz2 rfl (by omega) (.slice A2 (k) c2) (k) ((D.take k).map (Value.int .i64)) (by rfl) (ho1) (some ⟨v1.heap.size + 1, 0, none⟩) 1 1 _ [.int .i64 n] (by rfl) (Rd.of_block (hy1)) (by simp [Value.oneCell']) (by unfold maxLen; omega) (by omega) (by first | omega | (simp; done) | (simp; omega)) (k + 1) (by omega) ?_; intro A3 c3 w2 ho2 hg2; have hB2 : Below v1.heap.size v1 w2 := below_grown (hB1) hg2 (Nat.le_refl _) (fun k hk => (World.ownsRow.lt ho1 k hk).1); have hs2 := hB2.size)
              | (refine step_cat _ (by rfl) (.tmp 37) (.tmp 39) 30 (by rfl) v1.heap.size 2 i0 _ 1 8 Tryz.underlying30 hi hz0 hz1 hz2 rfl (by omega) (.slice A2 (k) c2) (k) ((D.take k).map (Value.int .i64)) (by rfl) (ho1) (some ⟨v1.heap.size, 0, none⟩) 1 1 _ [.int .i64 n] (by rfl) (Rd.of_block (hy1)) (by simp [Value.oneCell']) (by unfold maxLen; omega) (by omega) (by first | omega | (simp; done) | (simp; omega)) (k + 1) (by omega) ?_; intro A3 c3 w2 ho2 hg2; have hB2 : Below v1.heap.size v1 w2 := below_grown (hB1) hg2 (Nat.le_refl _) (fun k hk => (World.ownsRow.lt ho1 k hk).1); have hs2 := hB2.size)
              | (refine step_cat _ (by rfl) (.tmp 40) (.tmp 43) 30 (by rfl) v1.heap.size 2 i0 _ 1 8 Tryz.underlying30 hi hz0 hz1 hz2 rfl (by omega) (.slice A3 (k + 1) c3) (k + 1) ((D.take k).map (Value.int .i64) ++ [.int .i64 n]) (by rfl) ho2 (some ⟨b, off, none⟩) (0) (0) (v1.heap.size) ((D.drop k).map (Value.int .i64)) (by rfl) (HT3.out _ hB2) HT3O.out (by unfold maxLen; omega) (by omega) (by first | omega | (simp; done) | (simp; omega)) (D.length + 1) (by omega) ?_; intro A4 c4 w3 ho3 hg3; have hB3 : Below v1.heap.size v1 w3 := below_grown hB2 hg3 (Nat.le_refl _) (fun k hk => (World.ownsRow.lt ho2 k hk).1); have hs3 := hB3.size)))
          all_goals
            go_wp2
            go_ret
            rw [HIN.out]
            have hlen : (D.take k ++ n :: D.drop k).length = D.length + 1 := by first | rfl | (simp; done) | (simp; omega)
            have e5 : (D.take k).map (Value.int .i64) ++ [.int .i64 n] ++ (D.drop k).map (Value.int .i64) = (D.take k ++ n :: D.drop k).map (Value.int .i64) := by simp
            rw [e5] at ho3
            refine ⟨A4, c4, by rw [hlen]; rfl, .inr (by rw [hlen]; exact own_mono ho3 hBo.size), bt hBo hB3⟩
        · have hkI : (k : Int) ≤ (D.length : Int) := by omega
          have hkc : (k : Int) ≤ (c : Int) := by omega
          obtain ⟨v1, rfl⟩ : ∃ x, x = wr := ⟨_, rfl⟩
          have hBo := hB
          clear hB
          have HTK : Hid (∀ W1 : World, Below v1.heap.size v1 W1 → Rd W1 v1.heap.size (some ⟨b, off, none⟩) (k * 1) ((D.take k).map (Value.int .i64))) := fun W1 h => (rd1_take (rdW hBo HRD.out) hk).below h
          have HTO : Hid (∀ u ∈ (D.take k).map (Value.int .i64), u.oneCell' = true) := one_ints _ _
          have HT3O : Hid (∀ u ∈ (D.drop k).map (Value.int .i64), u.oneCell' = true) := one_ints _ _
          have hwk : IntKind.i64.wrap (k : Int) = (k : Int) := IntWalk.i64_in _ (by omega)
          have HT3 : Hid (∀ W1 : World, Below v1.heap.size v1 W1 → Rd W1 v1.heap.size (some ⟨b, off + k, none⟩) ((D.length - k) * 1) ((D.drop k).map (Value.int .i64))) := fun W1 h => (by rw [show D.length - k = 0 from by omega, HD0.out]; simpa using (Rd.nil_ : Rd W1 v1.heap.size (some ⟨b, off + k, none⟩) 0 []))
          go_wp2_with fail
          have HKd : Hid (∀ W1 : World, Below v1.heap.size v1 W1 → Below v1.heap.size v1 W1) := fun W1 h => h
          go_region_held3 (fun W1 => Below v1.heap.size v1 W1) (first | exact HKd.out _ ((Below.refl _ _).drew) | exact HKd.out _ (((Below.refl _ _).alloc (Nat.le_refl _) _).drew) | exact HKd.out _ ((((Below.refl _ _).alloc (Nat.le_refl _) _).alloc (by simp) _).drew) | exact HKd.out _ (hB1) | exact HKd.out _ (hB1.alloc hB1.size _) | exact HKd.out _ (hB2) | exact HKd.out _ (hB3))
            ((first
              | (refine step_cat _ (by rfl) (.tmp 33) (.tmp 36) 30 (by rfl) v1.heap.size 2 i0 _ 1 8 Tryz.underlying30 hi hz0 hz1 hz2 rfl (by omega) (.slice (some ⟨v1.heap.size, 0, none⟩) 0 0) 0 [] (by rfl) (own_empty (heap_alloc_new v1 _) (Nat.le_refl _)) (some ⟨b, off, none⟩) (k) (c) (v1.heap.size) ((D.take k).map (Value.int .i64)) (by rfl) (HTK.out _ (((Below.refl _ _).alloc (Nat.le_refl _) _).drew)) HTO.out (by unfold maxLen; omega) (by omega) (by first | omega | (simp; done) | (simp; omega)) (k) (by omega) ?_; intro A2 c2 w1 ho1 hg1; have hB1 : Below v1.heap.size v1 w1 := below_grown (((Below.refl _ _).alloc (Nat.le_refl _) _).drew) hg1 (Nat.le_refl _) (fun k hk => by have h3 : v1.heap.size = k := Option.some.inj hk; omega); have hs1 := hB1.size; simp only [List.nil_append] at ho1)
              | (refine step_cat _ (by rfl) (.tmp 33) (.tmp 36) 30 (by rfl) v1.heap.size 2 i0 _ 1 8 Tryz.underlying30 hi hz0 hz1 hz2 rfl (by omega) (.slice (some ⟨v1.heap.size, 0, none⟩) 0 0) 0 [] (by rfl) (own_empty (heap_at1 v1 _ _) (Nat.le_refl _)) (some ⟨b, off, none⟩) (k) (c) (v1.heap.size) ((D.take k).map (Value.int .i64)) (by rfl) (HTK.out _ ((((Below.refl _ _).alloc (Nat.le_refl _) _).alloc (by simp) _).drew)) HTO.out (by unfold maxLen; omega) (by omega) (by first | omega | (simp; done) | (simp; omega)) (k) (by omega) ?_; intro A2 c2 w1 ho1 hg1; have hB1 : Below v1.heap.size v1 w1 := below_grown ((((Below.refl _ _).alloc (Nat.le_refl _) _).alloc (by simp) _).drew) hg1 (Nat.le_refl _) (fun k hk => by have h3 : v1.heap.size = k := Option.some.inj hk; omega); have hs1 := hB1.size; simp only [List.nil_append] at ho1; have hy1 : w1.heap[v1.heap.size + 1]? = some (.cells #[.int .i64 n] 2) := (hg1.block _ (by simp <;> omega) (fun e => by have h3 : v1.heap.size + 1 = v1.heap.size := Option.some.inj e; omega)).trans (heap_alloc2_new v1 _ _))
              | (refine step_cat _ (by rfl) (.tmp 33) (.tmp 36) 30 (by rfl) v1.heap.size 2 i0 _ 1 8 Tryz.underlying30 hi hz0 hz1 hz2 rfl (by omega) (.slice (some ⟨v1.heap.size + 1, 0, none⟩) 0 0) 0 [] (by rfl) (own_empty (heap_alloc2_new v1 _ _) (Nat.le_succ _)) (some ⟨b, off, none⟩) (k) (c) (v1.heap.size) ((D.take k).map (Value.int .i64)) (by rfl) (HTK.out _ ((((Below.refl _ _).alloc (Nat.le_refl _) _).alloc (by simp) _).drew)) HTO.out (by unfold maxLen; omega) (by omega) (by first | omega | (simp; done) | (simp; omega)) (k) (by omega) ?_; intro A2 c2 w1 ho1 hg1; have hB1 : Below v1.heap.size v1 w1 := below_grown ((((Below.refl _ _).alloc (Nat.le_refl _) _).alloc (by simp) _).drew) hg1 (Nat.le_refl _) (fun k hk => by have h3 : v1.heap.size + 1 = k := Option.some.inj hk; omega); have hs1 := hB1.size; simp only [List.nil_append] at ho1; have hy1 : w1.heap[v1.heap.size]? = some (.cells #[.int .i64 n] 2) := (hg1.block _ (by simp <;> omega) (fun e => by have h3 : v1.heap.size = v1.heap.size + 1 := Option.some.inj e; omega)).trans (heap_at1 v1 _ _))
              | (refine step_cat _ (by rfl) (.tmp 37) (.tmp 39) 30 (by rfl) v1.heap.size 2 i0 _ 1 8 Tryz.underlying30 hi hz0 hz1 hz2 rfl (by omega) (.slice A2 (k) c2) (k) ((D.take k).map (Value.int .i64)) (by rfl) (ho1.alloc _) (some ⟨w1.heap.size, 0, none⟩) 1 1 _ [.int .i64 n] (by rfl) (Rd.of_block (heap_alloc_new w1 (.cells #[.int .i64 n] 2))) (by simp [Value.oneCell']) (by unfold maxLen; omega) (by omega) (by first | omega | (simp; done) | (simp; omega)) (k + 1) (by omega) ?_; intro A3 c3 w2 ho2 hg2; have hB2 : Below v1.heap.size v1 w2 := below_grown (hB1.alloc hB1.size _) hg2 (Nat.le_refl _) (fun k hk => (World.ownsRow.lt ho1 k hk).1); have hs2 := hB2.size)
              | (refine step_cat _ (by rfl) (.tmp 37) (.tmp 39) 30 (by rfl) v1.heap.size 2 i0 _ 1 8 Tryz.underlying30 hi hz0 hz1 hz2 rfl (by omega) (.slice A2 (k) c2) (k) ((D.take k).map (Value.int .i64)) (by rfl) (ho1) (some ⟨v1.heap.size + 1, 0, none⟩) 1 1 _ [.int .i64 n] (by rfl) (Rd.of_block (hy1)) (by simp [Value.oneCell']) (by unfold maxLen; omega) (by omega) (by first | omega | (simp; done) | (simp; omega)) (k + 1) (by omega) ?_; intro A3 c3 w2 ho2 hg2; have hB2 : Below v1.heap.size v1 w2 := below_grown (hB1) hg2 (Nat.le_refl _) (fun k hk => (World.ownsRow.lt ho1 k hk).1); have hs2 := hB2.size)
              | (refine step_cat _ (by rfl) (.tmp 37) (.tmp 39) 30 (by rfl) v1.heap.size 2 i0 _ 1 8 Tryz.underlying30 hi hz0 hz1 hz2 rfl (by omega) (.slice A2 (k) c2) (k) ((D.take k).map (Value.int .i64)) (by rfl) (ho1) (some ⟨v1.heap.size, 0, none⟩) 1 1 _ [.int .i64 n] (by rfl) (Rd.of_block (hy1)) (by simp [Value.oneCell']) (by unfold maxLen; omega) (by omega) (by first | omega | (simp; done) | (simp; omega)) (k + 1) (by omega) ?_; intro A3 c3 w2 ho2 hg2; have hB2 : Below v1.heap.size v1 w2 := below_grown (hB1) hg2 (Nat.le_refl _) (fun k hk => (World.ownsRow.lt ho1 k hk).1); have hs2 := hB2.size)
              | (refine step_cat _ (by rfl) (.tmp 40) (.tmp 43) 30 (by rfl) v1.heap.size 2 i0 _ 1 8 Tryz.underlying30 hi hz0 hz1 hz2 rfl (by omega) (.slice A3 (k + 1) c3) (k + 1) ((D.take k).map (Value.int .i64) ++ [.int .i64 n]) (by rfl) ho2 (some ⟨b, off + k, none⟩) (D.length - k) (c - k) (v1.heap.size) ((D.drop k).map (Value.int .i64)) (by rfl) (HT3.out _ hB2) HT3O.out (by unfold maxLen; omega) (by omega) (by first | omega | (simp; done) | (simp; omega)) (D.length + 1) (by omega) ?_; intro A4 c4 w3 ho3 hg3; have hB3 : Below v1.heap.size v1 w3 := below_grown hB2 hg3 (Nat.le_refl _) (fun k hk => (World.ownsRow.lt ho2 k hk).1); have hs3 := hB3.size)))
          all_goals
            go_wp2
            go_ret
            rw [HIN.out]
            have hlen : (D.take k ++ n :: D.drop k).length = D.length + 1 := by first | rfl | (simp; done) | (simp; omega)
            have e5 : (D.take k).map (Value.int .i64) ++ [.int .i64 n] ++ (D.drop k).map (Value.int .i64) = (D.take k ++ n :: D.drop k).map (Value.int .i64) := by simp
            rw [e5] at ho3
            refine ⟨A4, c4, by rw [hlen]; rfl, .inr (by rw [hlen]; exact own_mono ho3 hBo.size), bt hBo hB3⟩
end Go.Proofs.YtiamignopfhkfaaGreatDoor
