/- Contract: DrawShareCosts. -/
import Derived.Test.YthkobjadfeidmaaDrawG
namespace Go.Proofs.Ythkobjadfeidmaa
open Go.RowKit
set_option linter.unusedVariables false
def DrawIS (w : World) (e : Ending) (w' : World) : Prop := ∃ (x : Int) (A' : Option Addr) (c' : Nat) (D : List Int), e = .returned (.tuple #[.int .i64 x, .slice A' D.length c']) ∧
  w'.ownsRow w.heap.size 2 1 (.slice A' D.length c') D.length (D.map (Value.int .i64)) ∧ D.length ≤ 100 ∧ Below w.heap.size w w'
theorem own_snocI {W : World} {base c : Nat} {e : TypeId} {A : Option Addr} {D : List Int} {x : Int} (h : W.ownsRow base e 1 (.slice A (D.length + 1) c) (D.length + 1) (D.map (Value.int .i64) ++ [.int .i64 x])) : W.ownsRow base e 1 (.slice A (D ++ [x]).length c) (D ++ [x]).length ((D ++ [x]).map (Value.int .i64)) := by
  simpa using h
set_option maxRecDepth 100000 in
set_option maxHeartbeats 4000000 in
theorem DrawShareCosts_c (A : Option Addr) (c : Nat) (L : List Int) (w : World) (hr : Rd w w.heap.size A L.length (L.map (Value.int .u8))) (hx : ∀ x ∈ L, 0 ≤ x ∧ x ≤ 255) (hL : L.length ≤ 4096) (hc : L.length ≤ c) : Calls Try.prog 21 #[.slice A L.length c] w (DrawIS w) := by
  obtain ⟨i0, hi, hz0, hz1, hz2⟩ := info_parts int_info
  have HR := Lib.hid hr; have HX := Lib.hid hx
  clear hr hx
  go_enter Try.func21, Try.ntmps21
  go_wp2_with fail
  refine (l01From_c A c L w HR.out HX.out hL hc).mono ?_
  rintro e w1 ⟨rfl, hS, hb1⟩
  have HQw1 := Lib.hid hS; have hl1 := hS.lt; have HGw1 := Lib.hid (grown_of_below hb1 (some w.heap.size)); have hz1' := hb1.size; clear hS
  go_wp2_with fail
  have ho := World.ownsRow_lit (base := w1.heap.size) (e := 2) (size := 1) w1 #[] 0 (Nat.le_refl _) (by unfold maxLen; omega) rfl
  generalize hW2 : w1.alloc (.cells #[] 2) = W2 at ho ⊢
  have hb2 : Below w1.heap.size w1 W2 := by subst hW2; exact (Below.refl _ _).alloc (Nat.le_refl _) _
  have hzW2 := hb2.size
  have HQW2 := Lib.hid (HQw1.out.below hb2); have HGW2 := Lib.hid (grown_trans' HGw1.out (grown_of_below hb2 _))
  clear hW2
  refine (l01Next_c w.heap.size w.heap.size 6 W2 HQW2.out (by omega)).mono ?_
  rintro e w3 ⟨n, rfl, ⟨hn0, hn1⟩, hqw3, hgw3⟩
  have HQw3 := Lib.hid hqw3; have HGw3 := Lib.hid (grown_trans' HGW2.out hgw3); have hzw3 := hgw3.size
  clear hqw3
  have HO := Lib.hid (ho.kept hgw3 (.inr (by simp [Value.ownBlock]; omega)))
  clear ho
  obtain ⟨n, rfl⟩ := Int.eq_ofNat_of_zero_le hn0
  go_wp2
  go_loopw [5, 6] (fun ov nv wr => ∃ (A' : Option Addr) (c' : Nat) (D : List Int) (j : Nat), nv = .int .i64 j ∧ ov = .slice A' D.length c' ∧ D.length + j ≤ 7 ∧ w1.heap.size ≤ wr.heap.size ∧ Hid (wr.ownsRow w1.heap.size 2 1 (.slice A' D.length c') D.length (D.map (Value.int .i64))) ∧ Hid (Src wr w.heap.size w.heap.size) ∧ Hid (w.grownBy wr (some w.heap.size)))
    (fun _ nv _ => (intOf nv).toNat)
  case atStart => exact ⟨_, _, [], n + 1, by go_num, rfl, by simp; omega, by omega, HO.out, HQw3, HGw3⟩
  case round =>
    obtain ⟨A', c', D, j, rfl, rfl, hj, hzr, HO', HQwr, HGwr⟩ := hrel
    clear HO
    by_cases hj0 : 0 < j
    · go_wp2_with fail
      refine (l01Next_c w.heap.size w.heap.size 12 wr HQwr.out (by omega)).mono ?_
      rintro e w4 ⟨q, rfl, ⟨hq0, hq1⟩, hqw4, hgw4⟩
      have HQw4 := Lib.hid hqw4; have HGw4 := Lib.hid (grown_trans' HGwr.out hgw4); have hzw4 := hgw4.size
      clear hqw4
      have HO4 := Lib.hid (HO'.out.kept hgw4 (.inr (fun e => by have := HO'.out.lt _ e; omega)))
      go_wp2_with (first | (at_builtin; refine wpList_push w4 rfl _ _ 22 rfl w1.heap.size 2 i0 _ 1 8 Try.underlying22 hi hz0 hz1 hz2 rfl (by decide) (.slice A' D.length c') (D.length) (D.map (Value.int .i64)) (by rfl) HO4.out [.int .i64 q] 2 (by rfl) rfl (by simp [Value.oneCell']) (by unfold maxLen; omega) (by omega) (by omega) ?_; intro A5 c5 w5 ho5 hg5; have HO5 := Lib.hid (own_snocI ho5); have HQ5 := Lib.hid (HQw4.out.other hg5 (fun k hk => by have := HO4.out.lt k hk; omega)); have HG5 := Lib.hid (HGw4.out.andThen hg5 (fun k hk => .inl (by have := HO4.out.lt k hk; omega))); have hz5 := hg5.size; clear ho5 hg5))
      go_roundw
      case rel => exact ⟨A5, c5, D ++ [q], j - 1, by go_num, by simp, by simp; omega, by omega, HO5, HQ5, HG5⟩
      case measure => simp [intOf]; omega
    · obtain rfl : j = 0 := by omega
      go_wp2_with fail
      refine (l01Next_c w.heap.size w.heap.size 24 wr HQwr.out (by omega)).mono ?_
      rintro e w4 ⟨r, rfl, ⟨hr0, hr1⟩, hqw4, hgw4⟩
      have HQw4 := Lib.hid hqw4; have HGw4 := Lib.hid (grown_trans' HGwr.out hgw4); have hzw4 := hgw4.size
      clear hqw4
      have HO4 := Lib.hid (HO'.out.kept hgw4 (.inr (fun e => by have := HO'.out.lt _ e; omega)))
      have hD7 : D.length ≤ 7 := by omega
      by_cases hr0 : r = 0
      · subst hr0
        go_wp2_with fail
        generalize hW5 : w4.alloc _ = W5
        have hbW5 : Below w4.heap.size w4 W5 := by subst hW5; exact (Below.refl _ _).alloc (Nat.le_refl _) _
        have hsW5 : W5.heap.size = w4.heap.size + 1 := by subst hW5; simp
        have cxW5_0 : ∀ i, W5.cell? ⟨w4.heap.size, i, none⟩ = (#[.int .i64 1000, .int .i64 1001, .int .i64 (-1)] : Array Value)[i]? := by intro i; subst hW5; simp [go_sem]
        have fzW5_0 : ∀ i, W5.frozen? ⟨w4.heap.size, i, none⟩ = false := by intro i; subst hW5; simp [go_sem]
        have HSW5 := Lib.hid hsW5; clear hW5 hsW5
        have HQW5 := Lib.hid (HQw4.out.below hbW5); have HGW5 := Lib.hid (grown_trans' HGw4.out (grown_of_below hbW5 _)); have hzW5 : W5.heap.size = w4.heap.size + 1 := HSW5.out
        clear HSW5
        have HO5 := Lib.hid (own_below HO4.out hbW5)
        refine (l01Pick_c w.heap.size w.heap.size (w4.heap.size) 0 _ [1000, 1001, -1] W5 HQW5.out (by omega) (pick_box (L := [1000, 1001, -1]) (fun i => by exact cxW5_0 i)) (by simp) (by simp) (by simp)).mono ?_
        rintro e w6 ⟨x, rfl, hxm, hqw6, hgw6⟩
        have HQw6 := Lib.hid hqw6; have HGw6 := Lib.hid (grown_trans' HGW5.out hgw6); have hzw6 := hgw6.size; have Hxm := Lib.hid hxm
        clear hqw6 hxm
        have HO6 := Lib.hid (HO5.out.kept hgw6 (.inr (fun e => by have := HO5.out.lt _ e; omega)))
        go_wp2_with (first | (at_builtin; refine wpList_push w6 rfl _ _ 22 rfl w1.heap.size 2 i0 _ 1 8 Try.underlying22 hi hz0 hz1 hz2 rfl (by decide) (.slice A' D.length c') (D.length) (D.map (Value.int .i64)) (by rfl) HO6.out [.int .i64 x] 2 (by rfl) rfl (by simp [Value.oneCell']) (by unfold maxLen; omega) (by omega) (by omega) ?_; intro A7 c7 w7 ho7 hg7; have HO7 := Lib.hid (own_snocI ho7); have HQw7 := Lib.hid (HQw6.out.other hg7 (fun k hk => by have := HO6.out.lt k hk; omega)); have HGw7 := Lib.hid (HGw6.out.andThen hg7 (fun k hk => .inl (by have := HO6.out.lt k hk; omega))); have hz7 := hg7.size; clear ho7 hg7))
        refine (l01Next_c w.heap.size w.heap.size 100000 w7 HQw7.out (by omega)).mono ?_
        rintro e x1 ⟨a, rfl, ⟨ha0, ha1⟩, hqx1, hgx1⟩
        have HQx1 := Lib.hid hqx1; have HGx1 := Lib.hid (grown_trans' HGw7.out hgx1); have hzx1 := hgx1.size
        clear hqx1
        have HP1 := Lib.hid (HO7.out.kept hgx1 (.inr (fun e => by have := HO7.out.lt _ e; omega)))
        go_wp2_with fail
        refine (l01Next_c w.heap.size w.heap.size 100000 x1 HQx1.out (by omega)).mono ?_
        rintro e x2 ⟨b, rfl, ⟨hb0, hb1⟩, hqx2, hgx2⟩
        have HQx2 := Lib.hid hqx2; have HGx2 := Lib.hid (grown_trans' HGx1.out hgx2); have hzx2 := hgx2.size
        clear hqx2
        have HP2 := Lib.hid (HP1.out.kept hgx2 (.inr (fun e => by have := HP1.out.lt _ e; omega)))
        go_wp2_with fail
        refine (l01Next_c w.heap.size w.heap.size 50 x2 HQx2.out (by omega)).mono ?_
        rintro e x3 ⟨d, rfl, ⟨hd0, hd1⟩, hqx3, hgx3⟩
        have HQx3 := Lib.hid hqx3; have HGx3 := Lib.hid (grown_trans' HGx2.out hgx3); have hzx3 := hgx3.size
        clear hqx3
        have HP3 := Lib.hid (HP2.out.kept hgx3 (.inr (fun e => by have := HP2.out.lt _ e; omega)))
        go_wp2_with fail
        generalize hX4 : x3.alloc _ = X4
        have hbX4 : Below x3.heap.size x3 X4 := by subst hX4; exact (Below.refl _ _).alloc (Nat.le_refl _) _
        have hsX4 : X4.heap.size = x3.heap.size + 1 := by subst hX4; simp
        have cxX4_0 : ∀ i, X4.cell? ⟨x3.heap.size, i, none⟩ = (#[.int .i64 a, .int .i64 b, .int .i64 0, .int .i64 1000000000, .int .i64 1000000001, .int .i64 d] : Array Value)[i]? := by intro i; subst hX4; simp [go_sem]
        have fzX4_0 : ∀ i, X4.frozen? ⟨x3.heap.size, i, none⟩ = false := by intro i; subst hX4; simp [go_sem]
        have HSX4 := Lib.hid hsX4; clear hX4 hsX4
        have HQX4 := Lib.hid (HQx3.out.below hbX4); have HGX4 := Lib.hid (grown_trans' HGx3.out (grown_of_below hbX4 _)); have hzX4 : X4.heap.size = x3.heap.size + 1 := HSX4.out
        clear HSX4
        have HP4 := Lib.hid (own_below HP3.out hbX4)
        refine (l01Pick_c w.heap.size w.heap.size (x3.heap.size) 0 _ [a, b, 0, 1000000000, 1000000001, d] X4 HQX4.out (by omega) (pick_box (L := [a, b, 0, 1000000000, 1000000001, d]) (fun i => by exact cxX4_0 i)) (by simp) (by simp) (by simp)).mono ?_
        rintro e x5 ⟨y, rfl, hym, hqx5, hgx5⟩
        have HQx5 := Lib.hid hqx5; have HGx5 := Lib.hid (grown_trans' HGX4.out hgx5); have hzx5 := hgx5.size; have Hym := Lib.hid hym
        clear hqx5 hym
        have HP5 := Lib.hid (HP4.out.kept hgx5 (.inr (fun e => by have := HP4.out.lt _ e; omega)))
        go_wp2
        go_ret2
        exact ⟨y, A7, c7, (D ++ [x]), by rw [List.length_append]; rfl, own_mono HP5.out (by omega), by first | omega | (simp; done) | (simp; omega), below_grown (Below.refl _ _) HGx5.out (Nat.le_refl _) (fun k hk => by injection hk with hk; omega)⟩
      · by_cases hr1 : r = 1
        · subst hr1
          go_wp2_with fail
          refine (l01Next_c w.heap.size w.heap.size 2 w4 HQw4.out (by omega)).mono ?_
          rintro e w5 ⟨s, rfl, ⟨hs0, hs1⟩, hqw5, hgw5⟩
          have HQw5 := Lib.hid hqw5; have HGw5 := Lib.hid (grown_trans' HGw4.out hgw5); have hzw5 := hgw5.size
          clear hqw5
          have hs2 : s = 0 ∨ s = 1 := by omega
          rcases hs2 with rfl | rfl
          · go_wp2_with (first | (at_make; refine wpList_make_full _ rfl _ _ 22 rfl w5.heap.size 2 i0 _ 1 Try.underlying22 hi hz0 hz1 _ _ _ _ 60 rfl rfl rfl rfl (by rw [hz2]; omega) (by unfold maxLen; omega) (Nat.le_refl _) ?_; intro w6 hown6 hg6; have hzw6 := hg6.size; have HQw6 := Lib.hid (HQw5.out.other hg6 (fun k hk => by cases hk)); have HGw6 := Lib.hid (HGw5.out.andThen hg6 (fun k hk => by cases hk)); have hlt6 := (hown6.lt _ rfl).2; have hc6 : w6.cell? ⟨w5.heap.size, 0, none⟩ = some (.int .i64 0) := (by rw [hown6.cellAt 0 (by omega)]; rw [show (Value.int .i64 0).cells = #[.int .i64 0] from rfl, toList_madeCells_one]; rfl); have hf6 := hown6.frozenAt 0; have HO6 : Hid (w6.ownsRow w5.heap.size 2 1 (.slice (some ⟨w5.heap.size, 0, none⟩) 60 60) 60 ((List.replicate 60 (0 : Int)).map (Value.int .i64))) := (by have h := hown6; rw [show (Value.int .i64 0).cells = #[.int .i64 0] from rfl, Nat.mul_one, toList_madeCells_one] at h; rw [List.map_replicate]; exact h); clear hown6))
            have HO7 : Hid ((w6.setCell ⟨w5.heap.size, 0, none⟩ (.int .i64 5)).ownsRow w5.heap.size 2 1 (.slice (some ⟨w5.heap.size, 0, none⟩) (5 :: List.replicate 59 (0 : Int)).length 60) (5 :: List.replicate 59 (0 : Int)).length ((5 :: List.replicate 59 (0 : Int)).map (Value.int .i64))) := (HO6.out.stored 0 (.int .i64 5)).1
            have HQw7 := Lib.hid (HQw6.out.setOther (b := w5.heap.size) (by omega) (by omega) 0 (.int .i64 5))
            have HGw7 := Lib.hid (grown_own HGw6.out (b := w5.heap.size) (by omega) 0 (.int .i64 5))
            have hzw7 : w5.heap.size < (w6.setCell ⟨w5.heap.size, 0, none⟩ (.int .i64 5)).heap.size := by simpa [World.setCell] using hlt6
            generalize w6.setCell ⟨w5.heap.size, 0, none⟩ (.int .i64 5) = w7 at *
            refine (l01Next_c w.heap.size w.heap.size 100000 w7 HQw7.out (by omega)).mono ?_
            rintro e x1 ⟨a, rfl, ⟨ha0, ha1⟩, hqx1, hgx1⟩
            have HQx1 := Lib.hid hqx1; have HGx1 := Lib.hid (grown_trans' HGw7.out hgx1); have hzx1 := hgx1.size
            clear hqx1
            have HP1 := Lib.hid (HO7.out.kept hgx1 (.inr (fun e => by have := HO7.out.lt _ e; omega)))
            go_wp2_with fail
            refine (l01Next_c w.heap.size w.heap.size 100000 x1 HQx1.out (by omega)).mono ?_
            rintro e x2 ⟨b, rfl, ⟨hb0, hb1⟩, hqx2, hgx2⟩
            have HQx2 := Lib.hid hqx2; have HGx2 := Lib.hid (grown_trans' HGx1.out hgx2); have hzx2 := hgx2.size
            clear hqx2
            have HP2 := Lib.hid (HP1.out.kept hgx2 (.inr (fun e => by have := HP1.out.lt _ e; omega)))
            go_wp2_with fail
            refine (l01Next_c w.heap.size w.heap.size 50 x2 HQx2.out (by omega)).mono ?_
            rintro e x3 ⟨d, rfl, ⟨hd0, hd1⟩, hqx3, hgx3⟩
            have HQx3 := Lib.hid hqx3; have HGx3 := Lib.hid (grown_trans' HGx2.out hgx3); have hzx3 := hgx3.size
            clear hqx3
            have HP3 := Lib.hid (HP2.out.kept hgx3 (.inr (fun e => by have := HP2.out.lt _ e; omega)))
            go_wp2_with fail
            generalize hX4 : x3.alloc _ = X4
            have hbX4 : Below x3.heap.size x3 X4 := by subst hX4; exact (Below.refl _ _).alloc (Nat.le_refl _) _
            have hsX4 : X4.heap.size = x3.heap.size + 1 := by subst hX4; simp
            have cxX4_0 : ∀ i, X4.cell? ⟨x3.heap.size, i, none⟩ = (#[.int .i64 a, .int .i64 b, .int .i64 0, .int .i64 1000000000, .int .i64 1000000001, .int .i64 d] : Array Value)[i]? := by intro i; subst hX4; simp [go_sem]
            have fzX4_0 : ∀ i, X4.frozen? ⟨x3.heap.size, i, none⟩ = false := by intro i; subst hX4; simp [go_sem]
            have HSX4 := Lib.hid hsX4; clear hX4 hsX4
            have HQX4 := Lib.hid (HQx3.out.below hbX4); have HGX4 := Lib.hid (grown_trans' HGx3.out (grown_of_below hbX4 _)); have hzX4 : X4.heap.size = x3.heap.size + 1 := HSX4.out
            clear HSX4
            have HP4 := Lib.hid (own_below HP3.out hbX4)
            refine (l01Pick_c w.heap.size w.heap.size (x3.heap.size) 0 _ [a, b, 0, 1000000000, 1000000001, d] X4 HQX4.out (by omega) (pick_box (L := [a, b, 0, 1000000000, 1000000001, d]) (fun i => by exact cxX4_0 i)) (by simp) (by simp) (by simp)).mono ?_
            rintro e x5 ⟨y, rfl, hym, hqx5, hgx5⟩
            have HQx5 := Lib.hid hqx5; have HGx5 := Lib.hid (grown_trans' HGX4.out hgx5); have hzx5 := hgx5.size; have Hym := Lib.hid hym
            clear hqx5 hym
            have HP5 := Lib.hid (HP4.out.kept hgx5 (.inr (fun e => by have := HP4.out.lt _ e; omega)))
            go_wp2
            go_ret2
            exact ⟨y, _, 60, (5 :: List.replicate 59 (0 : Int)), rfl, own_mono HP5.out (by omega), by first | omega | (simp; done) | (simp; omega), below_grown (Below.refl _ _) HGx5.out (Nat.le_refl _) (fun k hk => by injection hk with hk; omega)⟩
          · go_wp2_with (first | (at_make; refine wpList_make_full _ rfl _ _ 22 rfl w5.heap.size 2 i0 _ 1 Try.underlying22 hi hz0 hz1 _ _ _ _ 61 rfl rfl rfl rfl (by rw [hz2]; omega) (by unfold maxLen; omega) (Nat.le_refl _) ?_; intro w6 hown6 hg6; have hzw6 := hg6.size; have HQw6 := Lib.hid (HQw5.out.other hg6 (fun k hk => by cases hk)); have HGw6 := Lib.hid (HGw5.out.andThen hg6 (fun k hk => by cases hk)); have hlt6 := (hown6.lt _ rfl).2; have hc6 : w6.cell? ⟨w5.heap.size, 0, none⟩ = some (.int .i64 0) := (by rw [hown6.cellAt 0 (by omega)]; rw [show (Value.int .i64 0).cells = #[.int .i64 0] from rfl, toList_madeCells_one]; rfl); have hf6 := hown6.frozenAt 0; have HO6 : Hid (w6.ownsRow w5.heap.size 2 1 (.slice (some ⟨w5.heap.size, 0, none⟩) 61 61) 61 ((List.replicate 61 (0 : Int)).map (Value.int .i64))) := (by have h := hown6; rw [show (Value.int .i64 0).cells = #[.int .i64 0] from rfl, Nat.mul_one, toList_madeCells_one] at h; rw [List.map_replicate]; exact h); clear hown6))
            have HO7 : Hid ((w6.setCell ⟨w5.heap.size, 0, none⟩ (.int .i64 5)).ownsRow w5.heap.size 2 1 (.slice (some ⟨w5.heap.size, 0, none⟩) (5 :: List.replicate 60 (0 : Int)).length 61) (5 :: List.replicate 60 (0 : Int)).length ((5 :: List.replicate 60 (0 : Int)).map (Value.int .i64))) := (HO6.out.stored 0 (.int .i64 5)).1
            have HQw7 := Lib.hid (HQw6.out.setOther (b := w5.heap.size) (by omega) (by omega) 0 (.int .i64 5))
            have HGw7 := Lib.hid (grown_own HGw6.out (b := w5.heap.size) (by omega) 0 (.int .i64 5))
            have hzw7 : w5.heap.size < (w6.setCell ⟨w5.heap.size, 0, none⟩ (.int .i64 5)).heap.size := by simpa [World.setCell] using hlt6
            generalize w6.setCell ⟨w5.heap.size, 0, none⟩ (.int .i64 5) = w7 at *
            refine (l01Next_c w.heap.size w.heap.size 100000 w7 HQw7.out (by omega)).mono ?_
            rintro e x1 ⟨a, rfl, ⟨ha0, ha1⟩, hqx1, hgx1⟩
            have HQx1 := Lib.hid hqx1; have HGx1 := Lib.hid (grown_trans' HGw7.out hgx1); have hzx1 := hgx1.size
            clear hqx1
            have HP1 := Lib.hid (HO7.out.kept hgx1 (.inr (fun e => by have := HO7.out.lt _ e; omega)))
            go_wp2_with fail
            refine (l01Next_c w.heap.size w.heap.size 100000 x1 HQx1.out (by omega)).mono ?_
            rintro e x2 ⟨b, rfl, ⟨hb0, hb1⟩, hqx2, hgx2⟩
            have HQx2 := Lib.hid hqx2; have HGx2 := Lib.hid (grown_trans' HGx1.out hgx2); have hzx2 := hgx2.size
            clear hqx2
            have HP2 := Lib.hid (HP1.out.kept hgx2 (.inr (fun e => by have := HP1.out.lt _ e; omega)))
            go_wp2_with fail
            refine (l01Next_c w.heap.size w.heap.size 50 x2 HQx2.out (by omega)).mono ?_
            rintro e x3 ⟨d, rfl, ⟨hd0, hd1⟩, hqx3, hgx3⟩
            have HQx3 := Lib.hid hqx3; have HGx3 := Lib.hid (grown_trans' HGx2.out hgx3); have hzx3 := hgx3.size
            clear hqx3
            have HP3 := Lib.hid (HP2.out.kept hgx3 (.inr (fun e => by have := HP2.out.lt _ e; omega)))
            go_wp2_with fail
            generalize hX4 : x3.alloc _ = X4
            have hbX4 : Below x3.heap.size x3 X4 := by subst hX4; exact (Below.refl _ _).alloc (Nat.le_refl _) _
            have hsX4 : X4.heap.size = x3.heap.size + 1 := by subst hX4; simp
            have cxX4_0 : ∀ i, X4.cell? ⟨x3.heap.size, i, none⟩ = (#[.int .i64 a, .int .i64 b, .int .i64 0, .int .i64 1000000000, .int .i64 1000000001, .int .i64 d] : Array Value)[i]? := by intro i; subst hX4; simp [go_sem]
            have fzX4_0 : ∀ i, X4.frozen? ⟨x3.heap.size, i, none⟩ = false := by intro i; subst hX4; simp [go_sem]
            have HSX4 := Lib.hid hsX4; clear hX4 hsX4
            have HQX4 := Lib.hid (HQx3.out.below hbX4); have HGX4 := Lib.hid (grown_trans' HGx3.out (grown_of_below hbX4 _)); have hzX4 : X4.heap.size = x3.heap.size + 1 := HSX4.out
            clear HSX4
            have HP4 := Lib.hid (own_below HP3.out hbX4)
            refine (l01Pick_c w.heap.size w.heap.size (x3.heap.size) 0 _ [a, b, 0, 1000000000, 1000000001, d] X4 HQX4.out (by omega) (pick_box (L := [a, b, 0, 1000000000, 1000000001, d]) (fun i => by exact cxX4_0 i)) (by simp) (by simp) (by simp)).mono ?_
            rintro e x5 ⟨y, rfl, hym, hqx5, hgx5⟩
            have HQx5 := Lib.hid hqx5; have HGx5 := Lib.hid (grown_trans' HGX4.out hgx5); have hzx5 := hgx5.size; have Hym := Lib.hid hym
            clear hqx5 hym
            have HP5 := Lib.hid (HP4.out.kept hgx5 (.inr (fun e => by have := HP4.out.lt _ e; omega)))
            go_wp2
            go_ret2
            exact ⟨y, _, 61, (5 :: List.replicate 60 (0 : Int)), rfl, own_mono HP5.out (by omega), by first | omega | (simp; done) | (simp; omega), below_grown (Below.refl _ _) HGx5.out (Nat.le_refl _) (fun k hk => by injection hk with hk; omega)⟩
        · go_wp2_with fail
          refine (l01Next_c w.heap.size w.heap.size 100000 w4 HQw4.out (by omega)).mono ?_
          rintro e x1 ⟨a, rfl, ⟨ha0, ha1⟩, hqx1, hgx1⟩
          have HQx1 := Lib.hid hqx1; have HGx1 := Lib.hid (grown_trans' HGw4.out hgx1); have hzx1 := hgx1.size
          clear hqx1
          have HP1 := Lib.hid (HO4.out.kept hgx1 (.inr (fun e => by have := HO4.out.lt _ e; omega)))
          go_wp2_with fail
          refine (l01Next_c w.heap.size w.heap.size 100000 x1 HQx1.out (by omega)).mono ?_
          rintro e x2 ⟨b, rfl, ⟨hb0, hb1⟩, hqx2, hgx2⟩
          have HQx2 := Lib.hid hqx2; have HGx2 := Lib.hid (grown_trans' HGx1.out hgx2); have hzx2 := hgx2.size
          clear hqx2
          have HP2 := Lib.hid (HP1.out.kept hgx2 (.inr (fun e => by have := HP1.out.lt _ e; omega)))
          go_wp2_with fail
          refine (l01Next_c w.heap.size w.heap.size 50 x2 HQx2.out (by omega)).mono ?_
          rintro e x3 ⟨d, rfl, ⟨hd0, hd1⟩, hqx3, hgx3⟩
          have HQx3 := Lib.hid hqx3; have HGx3 := Lib.hid (grown_trans' HGx2.out hgx3); have hzx3 := hgx3.size
          clear hqx3
          have HP3 := Lib.hid (HP2.out.kept hgx3 (.inr (fun e => by have := HP2.out.lt _ e; omega)))
          go_wp2_with fail
          generalize hX4 : x3.alloc _ = X4
          have hbX4 : Below x3.heap.size x3 X4 := by subst hX4; exact (Below.refl _ _).alloc (Nat.le_refl _) _
          have hsX4 : X4.heap.size = x3.heap.size + 1 := by subst hX4; simp
          have cxX4_0 : ∀ i, X4.cell? ⟨x3.heap.size, i, none⟩ = (#[.int .i64 a, .int .i64 b, .int .i64 0, .int .i64 1000000000, .int .i64 1000000001, .int .i64 d] : Array Value)[i]? := by intro i; subst hX4; simp [go_sem]
          have fzX4_0 : ∀ i, X4.frozen? ⟨x3.heap.size, i, none⟩ = false := by intro i; subst hX4; simp [go_sem]
          have HSX4 := Lib.hid hsX4; clear hX4 hsX4
          have HQX4 := Lib.hid (HQx3.out.below hbX4); have HGX4 := Lib.hid (grown_trans' HGx3.out (grown_of_below hbX4 _)); have hzX4 : X4.heap.size = x3.heap.size + 1 := HSX4.out
          clear HSX4
          have HP4 := Lib.hid (own_below HP3.out hbX4)
          refine (l01Pick_c w.heap.size w.heap.size (x3.heap.size) 0 _ [a, b, 0, 1000000000, 1000000001, d] X4 HQX4.out (by omega) (pick_box (L := [a, b, 0, 1000000000, 1000000001, d]) (fun i => by exact cxX4_0 i)) (by simp) (by simp) (by simp)).mono ?_
          rintro e x5 ⟨y, rfl, hym, hqx5, hgx5⟩
          have HQx5 := Lib.hid hqx5; have HGx5 := Lib.hid (grown_trans' HGX4.out hgx5); have hzx5 := hgx5.size; have Hym := Lib.hid hym
          clear hqx5 hym
          have HP5 := Lib.hid (HP4.out.kept hgx5 (.inr (fun e => by have := HP4.out.lt _ e; omega)))
          go_wp2
          go_ret2
          exact ⟨y, A', c', D, rfl, own_mono HP5.out (by omega), by first | omega | (simp; done) | (simp; omega), below_grown (Below.refl _ _) HGx5.out (Nat.le_refl _) (fun k hk => by injection hk with hk; omega)⟩
end Go.Proofs.Ythkobjadfeidmaa
