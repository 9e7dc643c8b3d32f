/- Contracts of the draws of motions: DrawChangeMotion, DrawFileMotion. -/
import Derived.Test.YtdohegpbdlcnjaaDrawM4
import Derived.Test.YtdohegpbdlcnjaaDrawW
namespace Go.Proofs.Ytdohegpbdlcnjaa
open Go.RowKit
set_option linter.unusedVariables false
attribute [local go_sem ↓] Go.wp_at_zero Go.wp_at_succ
set_option maxRecDepth 100000 in
set_option maxHeartbeats 4000000 in
theorem DrawChangeMotion_c (A : Option Addr) (c : Nat) (L : List Int) (w : World) (hr : Rd w w.heap.size A L.length (L.map (Value.int .u8))) (hx : ∀ x ∈ L, 0 ≤ x ∧ x ≤ 255) (hL : L.length ≤ 4096) (hc : L.length ≤ c) : Calls Try.prog 24 #[.slice A L.length c] w fun e w' => ∃ (A2 : Option Addr) (c2 : Nat) (M : List MotionD) (n s day : Int), e = .returned (.tuple #[.slice A2 M.length c2, .int .i64 n, .int .i64 s, .int .i64 day]) ∧ (w'.ownsRow w.heap.size 46 6 (.slice A2 M.length c2) M.length (M.flatMap motionC) ∧ M.length ≤ 13 ∧ (∀ x ∈ M, MotionW x)) ∧ Below w.heap.size w w' := by
  go_enter Try.func24, Try.ntmps24
  go_wp2_with fail
  refine (l01From_c A c L w hr hx hL hc).mono ?_
  rintro e w1 ⟨rfl, hS, hb1⟩
  have HS1 := Lib.hid hS
  have hlt1 := hS.lt
  have HB1 := Lib.hid hb1
  have hbs := hb1.size
  have HR1 := Lib.hid (rdW hb1 hr)
  clear hr hS hb1
  go_wp2_with fail
  refine (DrawNextStates_c A c L w1 HR1.out hx hL hc).mono ?_
  rintro e w2 ⟨A2, c2, M, n, day, rfl, ⟨ho, hl, hW⟩, hwf, hb2⟩
  have HO2 := Lib.hid ho; have HB2 := Lib.hid (bt HB1.out hb2); have hz2 := hb2.size; have HW := Lib.hid hW
  have hS := HS1.out.below hb2
  clear ho hb2 HR1 HS1 hx hW hwf
  have HQw2 := Lib.hid hS; have HGw2 := Lib.hid (World.grownBy.refl w2 (some w.heap.size)); clear hS
  go_wp2_with fail
  generalize hW3 : w2.alloc _ = W3
  have hbW3 : Below w2.heap.size w2 W3 := by subst hW3; exact (Below.refl _ _).alloc (Nat.le_refl _) _
  have hsW3 : W3.heap.size = w2.heap.size + 1 := by subst hW3; simp
  have cxW3_0 : ∀ i, W3.cell? ⟨w2.heap.size, i, none⟩ = (#[.int .i64 1, .int .i64 2, .int .i64 3, .int .i64 4, .int .i64 5, .int .i64 0, .int .i64 6, .int .i64 2] : Array Value)[i]? := by intro i; subst hW3; simp [go_sem]
  have fzW3_0 : ∀ i, W3.frozen? ⟨w2.heap.size, i, none⟩ = false := by intro i; subst hW3; simp [go_sem]
  have HSW3 := Lib.hid hsW3; clear hW3 hsW3
  have HQW3 := Lib.hid (HQw2.out.below hbW3); have HGW3 := Lib.hid (grown_trans' HGw2.out (grown_of_below hbW3 _)); have hzW3 : W3.heap.size = w2.heap.size + 1 := HSW3.out
  clear HSW3
  have HO3 := Lib.hid (own_below HO2.out hbW3)
  refine (l01Pick_c w.heap.size w.heap.size (w2.heap.size) 0 _ [1, 2, 3, 4, 5, 0, 6, 2] W3 HQW3.out (by omega) (pick_box (L := [1, 2, 3, 4, 5, 0, 6, 2]) (fun i => by exact cxW3_0 i)) (by simp) (by simp) (by simp)).mono ?_
  rintro e w4 ⟨p, rfl, hpm, hqw4, hgw4⟩
  have HQw4 := Lib.hid hqw4; have HGw4 := Lib.hid (grown_trans' HGW3.out hgw4); have hzw4 := hgw4.size; have Hpm := Lib.hid hpm
  clear hqw4 hpm
  have HO4 := Lib.hid (HO3.out.kept hgw4 (.inr (fun e => by have := HO3.out.lt _ e; omega)))
  go_wp2
  refine bodyPost_ret (v := .tuple #[.slice A2 M.length c2, .int .i64 n, .int .i64 p, .int .i64 day]) (by simp [results, Try.results24, go_sem]) rfl ?_
  exact ⟨A2, c2, M, n, p, day, rfl, ⟨own_mono HO4.out HB1.out.size, hl, HW.out⟩, below_src HB2.out HGw4.out⟩
set_option maxRecDepth 100000 in
set_option maxHeartbeats 4000000 in
theorem DrawFileMotion_c (A : Option Addr) (c : Nat) (L : List Int) (w : World) (hr : Rd w w.heap.size A L.length (L.map (Value.int .u8))) (hx : ∀ x ∈ L, 0 ≤ x ∧ x ≤ 255) (hL : L.length ≤ 4096) (hc : L.length ≤ c) : Calls Try.prog 27 #[.slice A L.length c] w fun e w' => ∃ (A2 : Option Addr) (c2 : Nat) (M : List MotionD) (p : ByteArray) (day after : Int), e = .returned (.tuple #[.slice A2 M.length c2, .string p, .int .i64 day, .int .i64 after]) ∧ (w'.ownsRow w.heap.size 46 6 (.slice A2 M.length c2) M.length (M.flatMap motionC) ∧ M.length ≤ 13 ∧ (∀ x ∈ M, MotionW x)) ∧ p.size ≤ 100 ∧ (Lit.int .i64 after).wf = true ∧ Below w.heap.size w w' := by
  go_enter Try.func27, Try.ntmps27
  go_wp2_with fail
  refine (l01From_c A c L w hr hx hL hc).mono ?_
  rintro e w1 ⟨rfl, hS, hb1⟩
  have HS1 := Lib.hid hS
  have hlt1 := hS.lt
  have HB1 := Lib.hid hb1
  have hbs := hb1.size
  clear hr hx hS hb1
  go_wp2_with fail
  refine (l30List_c _ _ w1 HS1.out).mono ?_
  rintro e w2 ⟨A2, c2, M, rfl, ho, hl, hW, hq, hg⟩
  have HO2 := Lib.hid ho; have HQw2 := Lib.hid hq; have HGw2 := Lib.hid hg; have HW := Lib.hid hW
  have hcap := own_cap ho
  have hz2 := hg.size
  clear ho hq hg hW
  go_wp2_with fail
  refine (l01DrawWord_c _ _ w2 HQw2.out).mono ?_
  rintro e w3 ⟨p, rfl, hp, hq3, hg3⟩
  have HO3 := Lib.hid (HO2.out.kept hg3 (.inr (fun e => by have := HO2.out.lt _ e; omega)))
  have HQw3 := Lib.hid hq3; have HGw3 := Lib.hid (grown_trans' HGw2.out hg3); have hz3 := hg3.size
  clear hq3 hg3
  go_wp2_with fail
  refine (l01Next_c w.heap.size w.heap.size 60 w3 HQw3.out (by omega)).mono ?_
  rintro e w4 ⟨k, rfl, ⟨hk0, hk1⟩, hqw4, hgw4⟩
  have HQw4 := Lib.hid hqw4; have HGw4 := Lib.hid (grown_trans' HGw3.out hgw4); have hzw4 := hgw4.size
  clear hqw4
  have HO4 := Lib.hid (HO3.out.kept hgw4 (.inr (fun e => by have := HO3.out.lt _ e; omega)))
  go_wp2_with fail
  generalize hW5 : w4.alloc _ = W5
  have hbW5 : Below w4.heap.size w4 W5 := by subst hW5; exact (Below.refl _ _).alloc (Nat.le_refl _) _
  have hsW5 : W5.heap.size = w4.heap.size + 1 := by subst hW5; simp
  have cxW5_0 : ∀ i, W5.cell? ⟨w4.heap.size, i, none⟩ = (#[.int .i64 (100 + k), .int .i64 20000, .int .i64 20001, .int .i64 120] : Array Value)[i]? := by intro i; subst hW5; simp [go_sem]
  have fzW5_0 : ∀ i, W5.frozen? ⟨w4.heap.size, i, none⟩ = false := by intro i; subst hW5; simp [go_sem]
  have HSW5 := Lib.hid hsW5; clear hW5 hsW5
  have HQW5 := Lib.hid (HQw4.out.below hbW5); have HGW5 := Lib.hid (grown_trans' HGw4.out (grown_of_below hbW5 _)); have hzW5 : W5.heap.size = w4.heap.size + 1 := HSW5.out
  clear HSW5
  have HO5 := Lib.hid (own_below HO4.out hbW5)
  refine (l01Pick_c w.heap.size w.heap.size (w4.heap.size) 0 _ [100 + k, 20000, 20001, 120] W5 HQW5.out (by omega) (pick_box (L := [100 + k, 20000, 20001, 120]) (fun i => by exact cxW5_0 i)) (by simp) (by simp) (by simp)).mono ?_
  rintro e w6 ⟨day, rfl, hdaym, hqw6, hgw6⟩
  have HQw6 := Lib.hid hqw6; have HGw6 := Lib.hid (grown_trans' HGW5.out hgw6); have hzw6 := hgw6.size; have Hdaym := Lib.hid hdaym
  clear hqw6 hdaym
  have HO6 := Lib.hid (HO5.out.kept hgw6 (.inr (fun e => by have := HO5.out.lt _ e; omega)))
  go_wp2_with fail
  refine (l30Number_c _ _ A2 c2 M w6 HQw6.out (Rd.of_own HO6.out) (by omega) hcap.1 HW.out (not_src HO6.out hlt1)).mono ?_
  rintro e w7 ⟨n, rfl, hwf, hq7, hg7⟩
  have HO7 := Lib.hid (HO6.out.kept hg7 (.inr (fun e => by have := HO6.out.lt _ e; omega)))
  have HQw7 := Lib.hid hq7; have HGw7 := Lib.hid (grown_trans' HGw6.out hg7); have hz7 := hg7.size; have HWF := Lib.hid hwf
  clear hq7 hg7 hwf
  go_wp2_with fail
  generalize hW8 : w7.alloc _ = W8
  have hbW8 : Below w7.heap.size w7 W8 := by subst hW8; exact (Below.refl _ _).alloc (Nat.le_refl _) _
  have hsW8 : W8.heap.size = w7.heap.size + 1 := by subst hW8; simp
  have cxW8_0 : ∀ i, W8.cell? ⟨w7.heap.size, i, none⟩ = (#[.int .i64 0, .int .i64 n] : Array Value)[i]? := by intro i; subst hW8; simp [go_sem]
  have fzW8_0 : ∀ i, W8.frozen? ⟨w7.heap.size, i, none⟩ = false := by intro i; subst hW8; simp [go_sem]
  have HSW8 := Lib.hid hsW8; clear hW8 hsW8
  have HQW8 := Lib.hid (HQw7.out.below hbW8); have HGW8 := Lib.hid (grown_trans' HGw7.out (grown_of_below hbW8 _)); have hzW8 : W8.heap.size = w7.heap.size + 1 := HSW8.out
  clear HSW8
  have HO8 := Lib.hid (own_below HO7.out hbW8)
  refine (l01Pick_c w.heap.size w.heap.size (w7.heap.size) 0 _ [0, n] W8 HQW8.out (by omega) (pick_box (L := [0, n]) (fun i => by exact cxW8_0 i)) (by simp) (by simp) (by simp)).mono ?_
  rintro e w9 ⟨af, rfl, hafm, hqw9, hgw9⟩
  have HQw9 := Lib.hid hqw9; have HGw9 := Lib.hid (grown_trans' HGW8.out hgw9); have hzw9 := hgw9.size; have Hafm := Lib.hid hafm
  clear hqw9 hafm
  have HO9 := Lib.hid (HO8.out.kept hgw9 (.inr (fun e => by have := HO8.out.lt _ e; omega)))
  have haf : af = 0 ∨ af = n := by simpa using Hafm.out
  go_wp2
  refine bodyPost_ret (v := .tuple #[.slice A2 M.length c2, .string p, .int .i64 day, .int .i64 af]) (by simp [results, Try.results27, go_sem]) rfl ?_
  exact ⟨A2, c2, M, p, day, af, rfl, ⟨own_mono HO9.out HB1.out.size, hl, HW.out⟩, hp, by rcases haf with h | h <;> rw [h]; exact wf_small (by omega); exact HWF.out, below_src HB1.out HGw9.out⟩
end Go.Proofs.Ytdohegpbdlcnjaa
