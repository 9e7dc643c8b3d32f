/- Contracts: the closures of missing and PlacesOf; places. -/
import Derived.Test.YtilanpmjemlopaaTpl7
import Derived.Test.YtilanpmjemlopaaStrs
namespace Go.Proofs.Ytilanpmjemlopaa
open Go.RowKit
set_option linter.unusedVariables false
def accV (V : List ValueD) (n : ByteArray) : Bool := decide (((txtOf V n).getD ⟨#[]⟩).size ≠ 0)
theorem ne_empty (x : ByteArray) : (!x.toList.isEmpty) = decide (x.size ≠ 0) := by
  rw [Go.ByteArray.toList_eq, ← len_data]
  cases x.data.toList <;> rfl
set_option maxRecDepth 100000 in
set_option maxHeartbeats 2000000 in
theorem miss1_c (n : ByteArray) (b : Nat) (vA : Option Addr) (vc : Nat) (V : List ValueD) (w : World) (h0 : w.cell? ⟨b, 0, none⟩ = some (.slice vA V.length vc)) (hv : Rd w w.heap.size vA (V.length * 2) (V.flatMap valueC)) (hvl : V.length ≤ 140737488355328) (hvc : V.length ≤ vc) :
    Calls Try.prog 58 #[.string n, .pointer (some ⟨b, 0, none⟩)] w fun e w' => e = .returned (.bool (accV V n)) ∧ Below w.heap.size w w' := by
  have HV := Lib.hid hv
  clear hv
  have HE := Lib.hid (ne_empty ((txtOf V n).getD ⟨#[]⟩))
  go_enter Try.func58, Try.ntmps58
  go_wp2_with (first | (go_at_call 59; refine (textOf_c _ _ _ _ _ HV.out hvl hvc).mono ?_; rintro e w2 ⟨rfl, hb2⟩))
  go_ret
  exact ⟨ret_bool HE.out, hb2⟩
set_option maxRecDepth 100000 in
set_option maxHeartbeats 2000000 in
theorem miss2_c (n : ByteArray) (b : Nat) (vA : Option Addr) (vc : Nat) (V : List ValueD) (w : World) (h0 : w.cell? ⟨b, 0, none⟩ = some (.slice vA V.length vc)) (hv : Rd w w.heap.size vA (V.length * 2) (V.flatMap valueC)) (hvl : V.length ≤ 140737488355328) (hvc : V.length ≤ vc) :
    Calls Try.prog 61 #[.string n, .pointer (some ⟨b, 0, none⟩)] w fun e w' => e = .returned (.bool (txtOf V n).isSome) ∧ Below w.heap.size w w' := by
  have HV := Lib.hid hv
  clear hv
  go_enter Try.func61, Try.ntmps61
  go_wp2_with (first | (go_at_call 59; refine (textOf_c _ _ _ _ _ HV.out hvl hvc).mono ?_; rintro e w2 ⟨rfl, hb2⟩))
  go_ret
  exact ⟨rfl, hb2⟩
set_option maxRecDepth 100000 in
set_option maxHeartbeats 2000000 in
theorem placesOf1_c (n : ByteArray) (w : World) : Calls Try.prog 41 #[.string n] w fun e w' => e = .returned (.bool true) ∧ Below w.heap.size w w' := by
  go_enter Try.func41, Try.ntmps41
  go_wp2
  go_ret
  exact ⟨rfl, Below.refl _ _⟩
/-- The names of the places among texts and places. -/
def nmP (x : PlD) : List ByteArray := if x.name.size = 0 then [] else [x.name]
def nmsD (D : List PlD) : List ByteArray := D.flatMap nmP
theorem nmP_0 {x : PlD} (h : x.name.size = 0) : nmP x = [] := if_pos h
theorem nmP_1 {x : PlD} (h : ¬ x.name.size = 0) : nmP x = [x.name] := if_neg h
theorem flat_step {α β : Type} (f : α → List β) {D : List α} {k : Nat} (hk : k < D.length) : (D.take (k + 1)).flatMap f = (D.take k).flatMap f ++ f D[k] := by
  rw [List.take_succ_eq_append_getElem hk, List.flatMap_append]; simp
theorem nmsD_len : ∀ D : List PlD, (nmsD D).length ≤ D.length
  | [] => Nat.le_refl _
  | x :: D => by
    have := nmsD_len D
    unfold nmsD at this ⊢
    rw [List.flatMap_cons, List.length_append, List.length_cons]
    have h1 : (nmP x).length ≤ 1 := by unfold nmP; split <;> simp
    omega
theorem nmsD_take {D : List PlD} (k : Nat) : (nmsD (D.take k)).length ≤ D.length := Nat.le_trans (nmsD_len _) (by rw [List.length_take]; omega)
theorem own_names {W : World} {b c : Nat} {A : Option Addr} {X Y : List ByteArray} {x : ByteArray} (h : Y = X ++ [x]) (ho : W.ownsRow b 9 1 (.slice A (X.length + 1) c) (X.length + 1) (X.map Value.string ++ [.string x])) : W.ownsRow b 9 1 (.slice A Y.length c) Y.length (Y.map Value.string) := by
  subst h
  rw [List.length_append, List.map_append]; exact ho
set_option maxRecDepth 100000 in
set_option maxHeartbeats 4000000 in
theorem placesF_c (A : Option Addr) (c : Nat) (D : List PlD) (F : Value) (w : World) (hr : Rd w w.heap.size A (D.length * 4) (D.flatMap plC)) (hl : D.length ≤ 4000000) :
    Calls Try.prog 40 #[.slice A D.length c, F] w fun e w' => ∃ (A' : Option Addr) (c' : Nat), e = .returned (.slice A' (nmsD D).length c') ∧ w'.ownsRow w.heap.size 9 1 (.slice A' (nmsD D).length c') (nmsD D).length ((nmsD D).map Value.string) ∧ Below w.heap.size w w' := by
  obtain ⟨i0, hi, hz0, hz1, hz2⟩ := info_parts str_info
  have HR := Lib.hid hr
  clear hr
  go_enter Try.func40, Try.ntmps40
  go_wp2_with fail
  have ho := World.ownsRow_lit (base := w.heap.size) (e := 9) (size := 1) w #[] 0 (Nat.le_refl _) (by unfold maxLen; omega) rfl
  have HO0 := Lib.hid ho
  have HB0 := Lib.hid ((Below.refl w.heap.size w).alloc (Nat.le_refl _) (.cells #[] 9))
  clear ho
  go_wp2
  go_loopw [5, 11] (fun ov i wr => ∃ (k : Nat) (A1 : Option Addr) (c1 : Nat), k ≤ D.length ∧ i = .int .i64 k ∧ ov = .slice A1 (nmsD (D.take k)).length c1 ∧ Hid (wr.ownsRow w.heap.size 9 1 (.slice A1 (nmsD (D.take k)).length c1) (nmsD (D.take k)).length ((nmsD (D.take k)).map Value.string)) ∧ Hid (Below w.heap.size w wr)) (fun _ i _ => D.length - (intOf i).toNat)
  case atStart => exact ⟨0, _, _, by omega, rfl, rfl, HO0, HB0⟩
  case round =>
    obtain ⟨k, A1, c1, hk, rfl, rfl, HO, HB⟩ := hrel
    clear HO0 HB0
    have hzr := HB.out.size
    have hnl := nmsD_take (D := D) k
    by_cases hlt : k < D.length
    · obtain ⟨bf, offf, rfl, hbf, hcf⟩ := Rd.elem plC 4 (fun _ => rfl) (rdW HB.out HR.out) (by omega) hlt
      have f0 : wr.cell? ⟨bf, offf + k * 4, none⟩ = some (.string D[k].text) := hcf k hlt 0 _ rfl
      have f1 : wr.cell? ⟨bf, offf + k * 4 + 1, none⟩ = some (.string D[k].name) := hcf k hlt 1 _ rfl
      have f2 : wr.cell? ⟨bf, offf + k * 4 + 2, none⟩ = some (.bool false) := hcf k hlt 2 _ rfl
      have f3 : wr.cell? ⟨bf, offf + k * 4 + 3, none⟩ = some (.slice none 0 0) := hcf k hlt 3 _ rfl
      clear hcf
      have hki : (k : Int) < (D.length : Int) := by omega
      have hk0 : (0 : Int) ≤ (k : Int) := by omega
      have HSTEP := Lib.hid (show nmsD (D.take (k + 1)) = nmsD (D.take k) ++ nmP D[k] from flat_step nmP hlt)
      by_cases hn : D[k].name.size = 0
      · have HS := Lib.hid (HSTEP.out.trans (by rw [nmP_0 hn]))
        have hne : D[k].name = ⟨#[]⟩ := ba_ext (List.length_eq_zero_iff.1 (by rw [len_data]; exact hn))
        rw [hne] at f1
        clear hn hne HSTEP
        have hbW1 := (Below.refl wr.heap.size wr).alloc (Nat.le_refl _) (.cells #[.string D[k].text, .string ⟨#[]⟩, .bool false, .slice none 0 0] 66)
        go_wp2
        go_roundw
        case rel => exact ⟨k + 1, A1, c1, by omega, by go_num, by rw [HS.out]; simp, by unfold Hid; rw [HS.out, List.append_nil]; exact own_below HO.out hbW1, Lib.hid (bt HB.out hbW1)⟩
        case measure => first | (simp [intOf]; done) | (simp [intOf]; omega)
      · have HS := Lib.hid (HSTEP.out.trans (by rw [nmP_1 hn]))
        have hcb : (D[k].name.toList == ([] : List UInt8)) = false := by
          rw [beq_eq_false_iff_ne, Go.ByteArray.toList_eq]
          intro e
          exact hn (by rw [← len_data, e]; rfl)
        clear hn HSTEP
        go_upto_region 5 with fail
        generalize hW1 : wr.alloc _ = W1
        have hbW1 : Below wr.heap.size wr W1 := by subst hW1; exact (Below.refl _ _).alloc (Nat.le_refl _) _
        have hsW1 : W1.heap.size = wr.heap.size + 1 := by subst hW1; simp
        have cxW1_0 : ∀ i, W1.cell? ⟨wr.heap.size, i, none⟩ = (#[.string D[k].text, .string D[k].name, .bool false, .slice none 0 0] : Array Value)[i]? := by intro i; subst hW1; simp [go_sem]
        have HSW1 := Lib.hid hsW1; clear hW1 hsW1
        have HOW := Lib.hid (own_below HO.out hbW1)
        have HBW := Lib.hid (bt HB.out hbW1)
        have hzW : wr.heap.size < W1.heap.size := by have := HSW1.out; omega
        have cx0 := cxW1_0 0
        have cx1 := cxW1_0 1
        have cx2 := cxW1_0 2
        have cx3 := cxW1_0 3
        clear HSW1 cxW1_0
        go_wp2_with (first | (at_builtin; refine wpList_push W1 rfl _ _ 24 rfl w.heap.size 9 i0 _ 1 16 Try.underlying24 hi hz0 hz1 hz2 rfl (by decide) (.slice A1 (nmsD (D.take k)).length c1) ((nmsD (D.take k)).length) ((nmsD (D.take k)).map Value.string) (by rfl) HOW.out [.string D[k].name] 9 (by rfl) rfl (by simp [Value.oneCell']) (by unfold maxLen; omega) (by omega) (by omega) ?_; intro A7 c7 w7 ho7 hg7; have HO7 := Lib.hid (own_names HS.out ho7); have HB7 := Lib.hid (below_grown HBW.out hg7 (Nat.le_refl _) (fun k hk => HOW.out.lt k hk |>.1)); clear ho7 hg7))
        go_roundw
        case rel => exact ⟨k + 1, A7, c7, by omega, by go_num, by rw [HS.out]; simp, HO7, HB7⟩
        case measure => first | (simp [intOf]; done) | (simp [intOf]; omega)
    · obtain rfl : k = D.length := by omega
      have HE := Lib.hid (congrArg nmsD (List.take_of_length_le (Nat.le_refl D.length)))
      go_wp2
      go_ret
      rw [HE.out] at HO ⊢
      exact ⟨A1, c1, rfl, HO.out, HB.out⟩
end Go.Proofs.Ytilanpmjemlopaa
