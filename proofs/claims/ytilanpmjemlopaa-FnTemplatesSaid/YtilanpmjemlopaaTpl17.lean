/- Contracts: l28Join, l28Fill. -/
import Derived.Test.YtilanpmjemlopaaTpl16
namespace Go.Proofs.Ytilanpmjemlopaa
open Go.RowKit
set_option linter.unusedVariables false
theorem join_step {X Y : List ByteArray} {k : Nat} (hk : k < Y.length) : insS (setT (X ++ Y.take k)) Y[k] = setT (X ++ Y.take (k + 1)) := by
  rw [insS_setT, List.take_succ_eq_append_getElem hk, List.append_assoc]
theorem join_len {X Y : List ByteArray} (k : Nat) : (setT (X ++ Y.take k)).length ≤ X.length + Y.length := by
  refine Nat.le_trans (setT_len _) ?_
  rw [List.length_append, List.length_take]; omega
set_option maxRecDepth 100000 in
set_option maxHeartbeats 2000000 in
theorem l28Join_c (base : Nat) (A : Option Addr) (c : Nat) (X : List ByteArray) (A' : Option Addr) (c' : Nat) (Y : List ByteArray) (w : World) (ho : w.ownsRow base 9 1 (.slice A (setT X).length c) (setT X).length ((setT X).map Value.string)) (hbase : base ≤ w.heap.size) (hr : Rd w w.heap.size A' Y.length (Y.map Value.string)) (hl : X.length + Y.length ≤ 2000000) :
    Calls Try.prog 46 #[.slice A (setT X).length c, .slice A' Y.length c'] w fun e w' => ∃ (A2 : Option Addr) (c2 : Nat), e = .returned (.slice A2 (setT (X ++ Y)).length c2) ∧ w'.ownsRow base 9 1 (.slice A2 (setT (X ++ Y)).length c2) (setT (X ++ Y)).length ((setT (X ++ Y)).map Value.string) ∧ Below w.heap.size w w' := by
  have HO := Lib.hid ho; have HR := Lib.hid hr
  have HX : Hid (setT X = setT (X ++ Y.take 0)) := by unfold Hid; simp
  clear ho hr
  rw [HX.out] at HO ⊢
  go_enter Try.func46, Try.ntmps46
  go_wp2
  go_loopw [0, 5] (fun ov i wr => ∃ (k : Nat) (A1 : Option Addr) (c1 : Nat), k ≤ Y.length ∧ i = .int .i64 k ∧ ov = .slice A1 (setT (X ++ Y.take k)).length c1 ∧ Hid (wr.ownsRow base 9 1 (.slice A1 (setT (X ++ Y.take k)).length c1) (setT (X ++ Y.take k)).length ((setT (X ++ Y.take k)).map Value.string)) ∧ Hid (Below w.heap.size w wr)) (fun _ i _ => Y.length - (intOf i).toNat)
  case atStart => exact ⟨0, A, c, by omega, rfl, rfl, HO, Below.refl _ _⟩
  case round =>
    obtain ⟨k, A1, c1, hk, rfl, rfl, HO1, HB⟩ := hrel
    clear HX HO
    have hzr := HB.out.size
    have hjl := join_len (X := X) (Y := Y) k
    by_cases hlt : k < Y.length
    · obtain ⟨bf, offf, rfl, hbf, hcf⟩ := Rd.strs (rdW HB.out HR.out) hlt
      have f0 : wr.cell? ⟨bf, offf + k, none⟩ = some (.string Y[k]) := hcf k hlt
      clear hcf
      have HS := Lib.hid (join_step (X := X) hlt)
      have hki : (k : Int) < (Y.length : Int) := by omega
      have hk0 : (0 : Int) ≤ (k : Int) := by omega
      go_wp2_with fail
      refine (l13Insert_c base A1 c1 (setT (X ++ Y.take k)) Y[k] wr HO1.out (by omega) (by omega)).mono ?_
      rintro e w2 ⟨A2, c2, rfl, ho2, hb2⟩
      rw [HS.out] at ho2
      have HO2 := Lib.hid ho2
      have HB2 := Lib.hid (bt HB.out hb2)
      clear ho2 hb2
      rw [HS.out]
      go_wp2
      go_roundw
      case rel => exact ⟨k + 1, A2, c2, by omega, by go_num, rfl, HO2, HB2⟩
      case measure => first | (simp [intOf]; done) | (simp [intOf]; omega)
    · obtain rfl : k = Y.length := by omega
      have HE : Hid (setT (X ++ Y.take Y.length) = setT (X ++ Y)) := by unfold Hid; rw [List.take_of_length_le (Nat.le_refl _)]
      rw [HE.out] at HO1 ⊢
      go_wp2
      go_ret
      exact ⟨A1, c1, rfl, HO1.out, HB.out⟩
def ReadF (V : List ValueD) (s : ByteArray) (w : World) (e : Ending) (wr : World) : Prop :=
  (fS V s.data.toList = none ∧ e = .returned (.tuple #[.string ⟨#[]⟩, .slice none 0 0, .slice none 0 0, .bool false]) ∧ Below w.heap.size w wr) ∨
  ∃ (d : FD) (A : Option Addr) (c : Nat) (A' : Option Addr) (c' : Nat), fS V s.data.toList = some d ∧ e = .returned (.tuple #[.string (mkB d.text), .slice A (setT d.names).length c, .slice A' (setT (keptN V d.names)).length c', .bool true]) ∧
    wr.ownsRow w.heap.size 9 1 (.slice A (setT d.names).length c) (setT d.names).length ((setT d.names).map Value.string) ∧ wr.ownsRow w.heap.size 9 1 (.slice A' (setT (keptN V d.names)).length c') (setT (keptN V d.names)).length ((setT (keptN V d.names)).map Value.string) ∧ Below w.heap.size w wr
theorem mkB_app (a : List UInt8) (x : ByteArray) : mkB a ++ x = mkB (a ++ x.data.toList) := ba_ext (by simp [mkB])
theorem mkB_app2 (a b : List UInt8) : mkB a ++ mkB b = mkB (a ++ b) := mkB_app a (mkB b)
theorem fd_cases : ∀ (V : List ValueD) (n : ByteArray) (i : Int), (txtOf V n = none ∧ fdV V n i = -1) ∨ ∃ k, ∃ hk : k < V.length, fdV V n i = i + (k : Int) ∧ txtOf V n = some V[k].text
  | [], n, i => .inl ⟨rfl, rfl⟩
  | x :: V, n, i => by
    rw [txtOf, fdV]
    by_cases h : x.name = n
    · rw [if_pos h, if_pos h]; exact .inr ⟨0, by simp, by simp, rfl⟩
    · rw [if_neg h, if_neg h]
      rcases fd_cases V n (i + 1) with h1 | ⟨k, hk, h1, h2⟩
      · exact .inl h1
      · exact .inr ⟨k + 1, by simpa using hk, by rw [h1]; simp; omega, by simpa using h2⟩
theorem kept_snoc_yes {V : List ValueD} {L : List ByteArray} {n : ByteArray} (h : txtOf V n = none) : keptN V (L ++ [n]) = keptN V L ++ [n] := by
  unfold keptN lackB; rw [List.filter_append, List.filter_cons_of_pos (by rw [h]; rfl)]; rfl
theorem kept_snoc_no {V : List ValueD} {L : List ByteArray} {n t : ByteArray} (h : txtOf V n = some t) : keptN V (L ++ [n]) = keptN V L := by
  unfold keptN lackB; rw [List.filter_append, List.filter_cons_of_neg (by rw [h]; simp)]; simp
end Go.Proofs.Ytilanpmjemlopaa
