/- Contracts: readCommand (does it take the line), IsConsoleLine of the program. Contract: readCommand, with the command that the line says. -/
import Derived.Test.YtiamignopfhkfaaGreatDoorZ11
import Derived.Test.YtiamignopfhkfaaGreatDoorZ18
section
namespace Go.Proofs.YtiamignopfhkfaaGreatDoor
open Go.RowKit
set_option linter.unusedVariables false
def B3 (W : World) (b : Nat) (u0 u1 u2 : Value) : Prop := W.cell? ⟨b, 0, none⟩ = some u0 ∧ W.cell? ⟨b, 1, none⟩ = some u1 ∧ W.cell? ⟨b, 2, none⟩ = some u2 ∧ ∀ i, W.frozen? ⟨b, i, none⟩ = false
theorem B3.below {W W' : World} {b : Nat} {u0 u1 u2 : Value} (h : B3 W b u0 u1 u2) (hb : Below W.heap.size W W') (hl : b < W.heap.size) : B3 W' b u0 u1 u2 :=
  ⟨(hb.cell (p := ⟨b, 0, none⟩) hl).trans h.1, (hb.cell (p := ⟨b, 1, none⟩) hl).trans h.2.1, (hb.cell (p := ⟨b, 2, none⟩) hl).trans h.2.2.1, fun i => (hb.frozen (p := ⟨b, i, none⟩) hl).trans (h.2.2.2 i)⟩
theorem B3.far {W W' : World} {b : Nat} {row : Option Nat} {u0 u1 u2 : Value} (h : B3 W b u0 u1 u2) (hg : W.grownBy W' row) (hb : b < W.heap.size) (hne : some b ≠ row) : B3 W' b u0 u1 u2 :=
  ⟨(hg.cell_far ⟨b, 0, none⟩ hb hne).trans h.1, (hg.cell_far ⟨b, 1, none⟩ hb hne).trans h.2.1, (hg.cell_far ⟨b, 2, none⟩ hb hne).trans h.2.2.1, fun i => (hg.frozen_far ⟨b, i, none⟩ hb hne).trans (h.2.2.2 i)⟩
theorem B3.set1 {W : World} {b : Nat} {u0 u1 u2 : Value} (h : B3 W b u0 u1 u2) (x : Value) : B3 (W.setCell ⟨b, 1, none⟩ x) b u0 x u2 :=
  ⟨by simp [go_sem, h.1], by simp [go_sem, h.2.1], by simp [go_sem, h.2.2.1], fun i => by simp [go_sem, h.2.2.2 i]⟩
theorem B3.set2 {W : World} {b : Nat} {u0 u1 u2 : Value} (h : B3 W b u0 u1 u2) (x : Value) : B3 (W.setCell ⟨b, 2, none⟩ x) b u0 u1 x :=
  ⟨by simp [go_sem, h.1], by simp [go_sem, h.2.1], by simp [go_sem, h.2.2.1], fun i => by simp [go_sem, h.2.2.2 i]⟩
theorem B3.new (W : World) (u0 u1 u2 : Value) (t : TypeId) : B3 (W.alloc (.cells #[u0, u1, u2] t)) W.heap.size u0 u1 u2 := ⟨by simp [go_sem], by simp [go_sem], by simp [go_sem], fun i => by simp [go_sem]⟩
theorem B3.other {W : World} {b c j : Nat} {u0 u1 u2 x : Value} (h : B3 W b u0 u1 u2) (hne : b ≠ c) : B3 (W.setCell ⟨c, j, none⟩ x) b u0 u1 u2 :=
  ⟨by simp [go_sem, h.1], by simp [go_sem, h.2.1], by simp [go_sem, h.2.2.1], fun i => by simp [go_sem, h.2.2.2 i]⟩
theorem cell_other {W : World} {g c i j : Nat} {x u : Value} (h : W.cell? ⟨g, i, none⟩ = some u) (hne : g ≠ c) : (W.setCell ⟨c, j, none⟩ x).cell? ⟨g, i, none⟩ = some u :=
  (World.cell?_of_block (a := ⟨g, i, none⟩) (Below.heap_setCell _ _ _ _ hne)).trans h
theorem own_other {W : World} {base : Nat} {e : TypeId} {size n : Nat} {v : Value} {xs : List Value} (h : W.ownsRow base e size v n xs) {b : Nat} (hne : b < base) (j : Nat) (u : Value) : (W.setCell ⟨b, j, none⟩ u).ownsRow base e size v n xs :=
  h.kept (grown_set (World.grownBy.refl _ _)) (.inr (fun e => by have := (h.lt _ e).1; omega))
/-- The memory of the loop: the command's variable, the result, the words, the numbers. -/
def CW (w : World) (g b B0 : Nat) (D : List ByteArray) (x0 xt : ByteArray) (A2 : Option Addr) (c2 : Nat) (N : List Int) (W : World) : Prop :=
  B3 W b (.string x0) (.string xt) (.slice A2 N.length c2) ∧ B3 W w.heap.size (.string ⟨#[]⟩) (.string ⟨#[]⟩) (.slice none 0 0) ∧ W.ownsRow B0 2 1 (.slice A2 N.length c2) N.length (N.map (Value.int .i64)) ∧
  Below w.heap.size w W ∧ (∀ j (hj : j < D.length), W.cell? ⟨g, j, none⟩ = some (.string D[j])) ∧ (w.heap.size < g ∧ g < b ∧ b < B0 ∧ B0 ≤ W.heap.size)
theorem CW.below {w W : World} {g b B0 : Nat} {D : List ByteArray} {x0 xt : ByteArray} {A2 : Option Addr} {c2 : Nat} {N : List Int} {W' : World} (h : CW w g b B0 D x0 xt A2 c2 N W) (hb : Below W.heap.size W W') : CW w g b B0 D x0 xt A2 c2 N W' := by
  obtain ⟨h1, h2, h3, h4, h5, h6, h7, h8, h9⟩ := h
  have hz := hb.size
  exact ⟨h1.below hb (by omega), h2.below hb (by omega), own_below h3 hb, bt h4 hb, fun j hj => (hb.cell (p := ⟨g, j, none⟩) (by simp only; omega)).trans (h5 j hj), h6, h7, h8, by omega⟩
theorem CW.text {w W : World} {g b B0 : Nat} {D : List ByteArray} {x0 xt : ByteArray} {A2 : Option Addr} {c2 : Nat} {N : List Int} (h : CW w g b B0 D x0 xt A2 c2 N W) (y : ByteArray) : CW w g b B0 D x0 y A2 c2 N (W.setCell ⟨b, 1, none⟩ (.string y)) := by
  obtain ⟨h1, h2, h3, h4, h5, h6, h7, h8, h9⟩ := h
  exact ⟨h1.set1 _, h2.other (by omega), own_other h3 (by omega) _ _, h4.setCell (by simp only; omega) _, fun j hj => cell_other (h5 j hj) (by omega), h6, h7, h8, by simpa [World.setCell] using h9⟩
theorem CW.push {w W : World} {g b B0 : Nat} {D : List ByteArray} {x0 xt : ByteArray} {A2 : Option Addr} {c2 : Nat} {N : List Int} {w7 : World} {A7 : Option Addr} {c7 : Nat} {y : Int} (h : CW w g b B0 D x0 xt A2 c2 N W) (hg : W.grownBy w7 (Value.slice A2 N.length c2).ownBlock)
    (ho : w7.ownsRow B0 2 1 (.slice A7 (N ++ [y]).length c7) (N ++ [y]).length ((N ++ [y]).map (Value.int .i64))) :
    B3 w7 b (.string x0) (.string xt) (.slice A2 N.length c2) ∧ CW w g b B0 D x0 xt A7 c7 (N ++ [y]) (w7.setCell ⟨b, 2, none⟩ (.slice A7 (N ++ [y]).length c7)) := by
  obtain ⟨h1, h2, h3, h4, h5, h6, h7, h8, h9⟩ := h
  have hz := hg.size
  have hne : ∀ q, q < B0 → some q ≠ (Value.slice A2 N.length c2).ownBlock := fun q hq e => by have := (h3.lt _ e.symm).1; omega
  have k1 := h1.far hg (by omega) (hne _ (by omega))
  refine ⟨k1, k1.set2 _, (h2.far hg (by omega) (hne _ (by omega))).other (by omega), own_other ho (by omega) _ _, (below_grown h4 hg (Nat.le_refl _) (fun q e => by have := (h3.lt _ e).1; omega)).setCell (by simp only; omega) _, fun j hj => ?_, h6, h7, h8, by simp [World.setCell]; omega⟩
  exact cell_other ((hg.cell_far ⟨g, j, none⟩ (show g < W.heap.size by omega) (hne g (by omega))).trans (h5 j hj)) (by omega)
theorem split_c (s : ByteArray) (w : World) (hs : s.size ≤ 2000000) (m : Int) (hm : w.cell? ⟨0, 0, none⟩ = some (.int .i64 m)) :
    Calls Tryz.prog 60 #[.string s, .string ⟨#[32]⟩] w fun e w' => ∃ D, e = .returned (.slice (some ⟨w.heap.size, 0, none⟩) D.length D.length) ∧ D = wordsB s ∧ w'.ownsRow w.heap.size 9 1 (.slice (some ⟨w.heap.size, 0, none⟩) D.length D.length) D.length (D.map Value.string) ∧ Below w.heap.size w w' := by
  have hwl : (wordsB s).length ≤ 2000001 := by
    rw [words_len]
    have := List.count_le_length (a := (32 : UInt8)) (l := s.data.toList)
    rw [s_len] at this; omega
  refine (Tryz.strings_Split s ⟨#[32]⟩ m w (by omega) hm (by decide)).mono ?_
  rintro e w' ⟨rfl, rfl⟩
  have hc : Lib.countB s ⟨#[32]⟩ + 1 = (wordsB s).length := by
    rw [words_len]
    have : Lib.countB s ⟨#[32]⟩ = s.data.toList.count 32 := Lib.count_one 32 s.data.toList
    omega
  refine ⟨wordsB s, by rw [hc], rfl, ?_, (Below.refl _ _).alloc (Nat.le_refl _) _⟩
  rw [words_lib]
  have h := World.ownsRow_lit (base := w.heap.size) (e := 9) (size := 1) w ((wordsB s).map Value.string).toArray (wordsB s).length (Nat.le_refl _) (by unfold maxLen; omega) (by simp)
  simpa using h
attribute [local go_sem ↓ high] run_index_of
set_option maxRecDepth 100000 in
set_option maxHeartbeats 4000000 in
theorem readCommand_c (s : ByteArray) (w : World) (hs : s.size ≤ 2000000) (hE : JEnv w) (m : Int) (hm : w.cell? ⟨0, 0, none⟩ = some (.int .i64 m)) : Calls Tryz.prog 39 #[.string s] w fun e w' => ∃ (a1 a2 : ByteArray) (A3 : Option Addr) (n3 c3 : Nat), e = .returned (.tuple #[.agg #[.string a1, .string a2, .slice A3 n3 c3], .bool (lineB s)]) ∧ Below w.heap.size w w' := by
  obtain ⟨i0, hi, hz0, hz1, hz2⟩ := info_parts int_info
  have HE := Lib.hid hE
  have hml := block_lt_of_cell hm
  clear hE
  go_enter Tryz.func39, Tryz.ntmps39
  go_wp2_with fail
  generalize hW0 : w.alloc _ = W0
  have hbW0 : Below w.heap.size w W0 := by subst hW0; exact (Below.refl _ _).alloc (Nat.le_refl _) _
  have hsW0 : W0.heap.size = w.heap.size + 1 := by subst hW0; simp
  have cxW0_0 : ∀ i, W0.cell? ⟨w.heap.size, i, none⟩ = (#[.string ⟨#[]⟩, .string ⟨#[]⟩, .slice none 0 0] : Array Value)[i]? := by intro i; subst hW0; simp [go_sem]
  have fzW0_0 : ∀ i, W0.frozen? ⟨w.heap.size, i, none⟩ = false := by intro i; subst hW0; simp [go_sem]
  have HSW0 := Lib.hid hsW0; clear hW0 hsW0
  have hz0' : w.heap.size + 1 ≤ W0.heap.size := by have := HSW0.out; omega
  have HX0 := Lib.hid (show B3 W0 w.heap.size (.string ⟨#[]⟩) (.string ⟨#[]⟩) (.slice none 0 0) from ⟨cxW0_0 0, cxW0_0 1, cxW0_0 2, fzW0_0⟩)
  clear cxW0_0 fzW0_0 HSW0
  refine (split_c s W0 hs m ((hbW0.cell hml).trans hm)).mono ?_
  rintro e w1 ⟨D, rfl, hD, ho, hb1⟩
  have hDp : 0 < D.length := by rw [hD]; exact words_pos s
  have HDS := Lib.hid (show ∀ x ∈ D, x.size ≤ 2000000 from fun x hx => by have := words_sz s x (hD ▸ hx); omega)
  have hDle : D.length ≤ 2000001 := by
    rw [hD, words_len]
    have := List.count_le_length (a := (32 : UInt8)) (l := s.data.toList)
    rw [s_len] at this; omega
  have HDW := Lib.hid hD
  have hcap := own_cap ho
  have HR := Lib.hid (Rd.of_own1 ho)
  have HB1 := Lib.hid (bt hbW0 hb1)
  have HX1 := Lib.hid (HX0.out.below hb1 (by omega))
  have hz1' := hb1.size
  obtain ⟨g, hg⟩ : ∃ g, W0.heap.size = g := ⟨_, rfl⟩
  rw [hg] at ho HR ⊢
  have hgl : g < w1.heap.size := (own_lt ho).2
  have hgw : w.heap.size < g := by omega
  have HCL : Hid (∀ j (hj : j < D.length), w1.cell? ⟨g, j, none⟩ = some (.string D[j])) := fun j hj => by
    obtain ⟨b, off, e, _, hc⟩ := Rd.strs HR.out hDp
    have h1 := hc j hj
    injection e with e; injection e with e1 e2 _
    subst e1; subst e2
    simpa using h1
  clear ho hD hg hm HX0 hb1 hbW0
  have c0 := HCL.out 0 hDp
  have hDi : (0 : Int) < (D.length : Int) := by omega
  obtain ⟨x0, hx0⟩ : ∃ x, D[0] = x := ⟨_, rfl⟩
  rw [hx0] at c0
  have HXX := Lib.hid hx0
  clear hx0
  have hwd : IntKind.i64.wrap ((D.length : Int) - 1) = (D.length : Int) - 1 := IntWalk.i64_in _ (by omega)
  go_wp2_with fail
  refine (shape_c x0 w1).mono ?_
  rintro e w' ⟨rfl, rfl⟩
  cases hk : kindS x0 with
  | none =>
    have HN := Lib.hid (line_none HDW.out hDp (by rw [HXX.out]; exact hk))
    clear hk
    simp only [Option.getD_none, Option.isSome_none]
    obtain ⟨r0, r1, r2, rz⟩ := HX1.out
    go_wp2
    refine bodyPost_ret (v := .tuple #[.agg #[.string ⟨#[]⟩, .string ⟨#[]⟩, .slice none 0 0], .bool false]) (by simp [results, Tryz.results39, go_sem, r0, r1, r2]) rfl ?_
    exact ⟨⟨#[]⟩, ⟨#[]⟩, none, 0, 0, by first | (rw [HN.out]; done) | (rw [HN.out]; rfl), ((HB1.out.setCell (p := ⟨w.heap.size, 0, none⟩) (Nat.le_refl _) _).setCell (p := ⟨w.heap.size, 1, none⟩) (Nat.le_refl _) _).setCell (p := ⟨w.heap.size, 2, none⟩) (Nat.le_refl _) _⟩
  | some k =>
    have HK := Lib.hid (show kindS D[0] = some k by rw [HXX.out]; exact hk)
    obtain ⟨hk4, hkb, hkne⟩ := kind_fact hk
    have HKB := Lib.hid hkb
    clear hk hkb hkne
    simp only [Option.getD_some, Option.isSome_some]
    by_cases hl : D.length = k.size + 1
    · have hlb : ((D.length : Int) - 1 != (k.size : Int)) = false := by first | (simp; done) | (simp; omega)
      have HL := Lib.hid hl
      have hle : k.size + 1 ≤ D.length := by omega
      clear hl
      obtain ⟨B0, hB0⟩ : ∃ b, w1.heap.size + 1 = b := ⟨_, rfl⟩
      have hbB : w1.heap.size < B0 := by omega
      have HCW := Lib.hid (show ∀ (t : TypeId), CW w g w1.heap.size B0 D x0 ⟨#[]⟩ none 0 [] (w1.alloc (.cells #[.string x0, .string ⟨#[]⟩, .slice none 0 0] t)) from fun t => by
        have hba := (Below.refl w1.heap.size w1).alloc (Nat.le_refl _) (.cells #[.string x0, .string ⟨#[]⟩, .slice none 0 0] t)
        exact ⟨B3.new _ _ _ _ _, HX1.out.below hba (by omega), ⟨by simp, .inl ⟨rfl, rfl⟩⟩, bt HB1.out hba, fun j hj => (hba.cell (p := ⟨g, j, none⟩) hgl).trans (HCL.out j hj), hgw, hgl, hbB, by simp; omega⟩)
      clear hB0
      have FIN : Hid (∀ (W : World) (xt : ByteArray) (A2 : Option Addr) (c2 : Nat) (N : List Int), CW w g w1.heap.size B0 D x0 xt A2 c2 N W → Below w.heap.size w (((W.setCell ⟨w.heap.size, 0, none⟩ (.string x0)).setCell ⟨w.heap.size, 1, none⟩ (.string xt)).setCell ⟨w.heap.size, 2, none⟩ (.slice A2 N.length c2))) := fun W xt A2 c2 N h =>
        ((h.2.2.2.1.setCell (p := ⟨w.heap.size, 0, none⟩) (Nat.le_refl _) _).setCell (p := ⟨w.heap.size, 1, none⟩) (Nat.le_refl _) _).setCell (p := ⟨w.heap.size, 2, none⟩) (Nat.le_refl _) _
      have hwb : w.heap.size ≠ w1.heap.size := by omega
      have hbw : w1.heap.size ≠ w.heap.size := by omega
      by_cases hk0 : k.size = 0
      · have hD1 : D.length = 1 := by have := HL.out; omega
        have HN := Lib.hid (line_true HDW.out hDp HK.out HL.out (fun j hj => by omega))
        go_wp2
        go_loopw [39] (fun iv wr => iv = .int .i64 0 ∧ CW w g w1.heap.size B0 D x0 ⟨#[]⟩ none 0 [] wr) (fun _ _ => 0)
        case atStart => exact ⟨rfl, HCW.out _⟩
        case round =>
          obtain ⟨rfl, hcw⟩ := hrel
          have HC := Lib.hid hcw
          obtain ⟨⟨f0, f1, f2, fz⟩, ⟨r0, r1, r2, rz⟩, -, -, -, -⟩ := hcw
          go_wp2
          refine bodyPost_ret (v := .tuple #[.agg #[.string x0, .string ⟨#[]⟩, .slice none 0 0], .bool true]) (by simp [results, Tryz.results39, go_sem, r0, r1, r2]) rfl ?_
          exact ⟨x0, ⟨#[]⟩, none, 0, 0, by first | (rw [HN.out]; done) | (rw [HN.out]; rfl), FIN.out _ _ _ _ _ HC.out⟩
      · have hD1 : ¬ D.length = 1 := by omega
        have hDk : D.length - 1 = k.size := by have := HL.out; omega
        go_wp2
        (try rw [hDk])
        go_loopw [39] (fun iv wr => ∃ (i : Nat) (xt : ByteArray) (A2 : Option Addr) (c2 : Nat) (N : List Int), iv = .int .i64 i ∧ i ≤ k.size ∧ N.length ≤ i ∧ Hid (∀ j, j < i → byteOf k j = 73 → ∃ n, isNum (D.getD (j + 1) default) n) ∧ Hid (CW w g w1.heap.size B0 D x0 xt A2 c2 N wr))
          (fun iv _ => k.size - (intOf iv).toNat)
        case atStart => exact ⟨0, _, _, _, [], rfl, by omega, by simp, Lib.hid (fun j hj => by omega), HCW.out _⟩
        case round =>
          obtain ⟨i, xt, A2, c2, N, rfl, hik, hNi, HI, HC⟩ := hrel
          by_cases hlt : i < k.size
          · have hii : (i : Int) < (k.size : Int) := by omega
            have hi1 : i + 1 < D.length := by omega
            have hi0 : (0 : Int) ≤ (i : Int) := by omega
            have c1 : wr.cell? ⟨g, 1 + i, none⟩ = some (.string D[i + 1]) := by rw [Nat.add_comm]; exact HC.out.2.2.2.2.1 (i + 1) hi1
            have hxs := HDS.out _ (List.getElem_mem hi1)
            have HNO := Lib.hid (fun hI hn => line_num HDW.out hDp HK.out hlt hI hi1 hn)
            have HYES := Lib.hid (fun (n : Nat) (hn : isNum D[i + 1] n) => num_step HI (fun _ => ⟨n, by rw [getD_at hi1]; exact hn⟩))
            have hkb := HKB.out i hlt
            generalize D[i + 1] = x1 at *
            by_cases hT : byteOf k i = 84
            · obtain ⟨f0, f1, f2, fz⟩ := HC.out.1
              have fz1 := fz 1
              have HNX := Lib.hid (num_step HI (fun h => absurd (h.symm.trans hT) (by decide)))
              go_wp2
              go_roundw
              case rel => exact ⟨i + 1, x1, A2, c2, N, by go_num, by omega, by omega, HNX.out, HC.out.text x1⟩
              case measure => first | (simp [intOf]; done) | (simp [intOf]; omega)
            · have hI : byteOf k i = 73 := by omega
              have hTb : (byteOf k i == 84) = false := beq_eq_false_iff_ne.2 hT
              go_wp2_with fail
              refine (readNumber_c x1 wr hxs (HE.out.below HC.out.2.2.2.1)).mono ?_
              rintro e w2 ⟨n, bb, rfl, hn, h1, h2, hb2⟩
              have HC2 := Lib.hid (HC.out.below hb2)
              cases bb
              · have HN := Lib.hid (HNO.out hI (h2 rfl))
                clear h1 h2
                obtain ⟨-, ⟨r0, r1, r2, rz⟩, -, hB, -, -⟩ := HC2.out
                have HBB := Lib.hid hB
                clear hB
                go_wp2
                refine bodyPost_ret (v := .tuple #[.agg #[.string ⟨#[]⟩, .string ⟨#[]⟩, .slice none 0 0], .bool false]) (by simp [results, Tryz.results39, go_sem, r0, r1, r2]) rfl ?_
                exact ⟨⟨#[]⟩, ⟨#[]⟩, none, 0, 0, by first | (rw [HN.out]; done) | (rw [HN.out]; rfl), ((HBB.out.setCell (p := ⟨w.heap.size, 0, none⟩) (Nat.le_refl _) _).setCell (p := ⟨w.heap.size, 1, none⟩) (Nat.le_refl _) _).setCell (p := ⟨w.heap.size, 2, none⟩) (Nat.le_refl _) _⟩
              · obtain ⟨mm, rfl, hmm⟩ := h1 rfl
                have HN := Lib.hid (HYES.out mm hmm)
                clear h1 h2 hmm
                obtain ⟨f0, f1, f2, fz⟩ := HC2.out.1
                have HO2 := Lib.hid HC2.out.2.2.1
                have hBz := HC2.out.2.2.2.2.2.2.2.2
                go_wp2_with (first | (at_builtin; refine wpList_push w2 rfl _ _ 30 rfl B0 2 i0 _ 1 8 Tryz.underlying30 hi hz0 hz1 hz2 rfl (by decide) (.slice A2 N.length c2) (N.length) (N.map (Value.int .i64)) (by rfl) HO2.out [.int .i64 mm] 2 (by rfl) rfl (by simp [Value.oneCell']) (by unfold maxLen; omega) (by omega) (by omega) ?_; intro A7 c7 w7 ho7 hg7; obtain ⟨hX7, hC7⟩ := HC2.out.push (y := (mm : Int)) hg7 (own_snocI (y := (mm : Int)) ho7); have HC7 := Lib.hid hC7; clear hC7 ho7 hg7 f0 f1 f2 fz; obtain ⟨f0, f1, f2, fz⟩ := hX7; have fz2 := fz 2))
                go_roundw
                case rel => exact ⟨i + 1, xt, A7, c7, N ++ [(mm : Int)], by go_num, by omega, by simp; omega, HN.out, by have h := HC7.out; rw [List.length_append] at h; exact Lib.hid h⟩
                case measure => first | (simp [intOf]; done) | (simp [intOf]; omega)
          · obtain rfl : i = k.size := by omega
            have HN := Lib.hid (line_true HDW.out hDp HK.out HL.out HI.out)
            have hni : ¬ (k.size : Int) < (k.size : Int) := by omega
            obtain ⟨⟨f0, f1, f2, fz⟩, ⟨r0, r1, r2, rz⟩, -, -, -, -⟩ := HC.out
            go_wp2
            refine bodyPost_ret (v := .tuple #[.agg #[.string x0, .string xt, .slice A2 N.length c2], .bool true]) (by simp [results, Tryz.results39, go_sem, r0, r1, r2]) rfl ?_
            exact ⟨⟨x0, xt, A2, N.length, c2, by first | (rw [HN.out]; done) | (rw [HN.out]; rfl)⟩, FIN.out _ _ _ _ _ HC.out⟩
    · have hlb : ((D.length : Int) - 1 != (k.size : Int)) = true := by first | (simp; done) | (simp; omega)
      have HN := Lib.hid (line_len HDW.out hDp HK.out hl)
      clear hl
      obtain ⟨r0, r1, r2, rz⟩ := HX1.out
      go_wp2
      refine bodyPost_ret (v := .tuple #[.agg #[.string ⟨#[]⟩, .string ⟨#[]⟩, .slice none 0 0], .bool false]) (by simp [results, Tryz.results39, go_sem, r0, r1, r2]) rfl ?_
      exact ⟨⟨#[]⟩, ⟨#[]⟩, none, 0, 0, by first | (rw [HN.out]; done) | (rw [HN.out]; rfl), ((HB1.out.setCell (p := ⟨w.heap.size, 0, none⟩) (Nat.le_refl _) _).setCell (p := ⟨w.heap.size, 1, none⟩) (Nat.le_refl _) _).setCell (p := ⟨w.heap.size, 2, none⟩) (Nat.le_refl _) _⟩
theorem impl_IsConsoleLine (s : ByteArray) (w : World) (hs : s.size ≤ 2000000) (hE : JEnv w) (m : Int) (hm : w.cell? ⟨0, 0, none⟩ = some (.int .i64 m)) : Calls Tryz.prog 13 #[.string s] w fun e w' => e = .returned (.bool (lineB s)) ∧ Below w.heap.size w w' := by
  have HC := Lib.hid (readCommand_c s w hs hE m hm)
  generalize lineB s = b at *
  clear hm hE
  go_enter Tryz.func13, Tryz.ntmps13
  go_wp2_with fail
  refine HC.out.mono ?_
  rintro e w1 ⟨a1, a2, A3, n3, c3, rfl, hb⟩
  go_wp2
  go_ret
  exact ⟨rfl, by repeat (first | exact hb | refine Below.alloc ?_ (by have := hb.size; omega) _)⟩
end Go.Proofs.YtiamignopfhkfaaGreatDoor
end
section
namespace Go.Proofs.YtiamignopfhkfaaGreatDoor
open Go.RowKit
set_option linter.unusedVariables false
def CmdX (s : ByteArray) (w' : World) (a1 a2 : ByteArray) (A3 : Option Addr) (n3 c3 : Nat) : Prop :=
  lineB s = true → ∃ m, cmOf s = some m ∧ a1 = wordC m ∧ a2 = textC m ∧ n3 = (numsC m).length ∧ n3 ≤ c3 ∧ Rd w' w'.heap.size A3 n3 ((numsC m).map (Value.int .i64)) ∧ CmB m
theorem cmdX_no {s : ByteArray} {w' : World} {a1 a2 : ByteArray} {A3 : Option Addr} {n3 c3 : Nat} (h : lineB s = false) : CmdX s w' a1 a2 A3 n3 c3 := fun hh => by rw [h] at hh; cases hh
theorem cmdX_mk {s : ByteArray} {W : World} {D : List ByteArray} {k x0 xt : ByteArray} {A2 : Option Addr} {c2 base : Nat} {N : List Int} (hD : D = wordsB s) (hDp : 0 < D.length) (hk : kindS D[0] = some k) (hok : lineB s = true) (hx0 : D[0] = x0) (ht : xt = textK k D k.size) (hN : N = numsK k D k.size)
    (ho : W.ownsRow base 2 1 (.slice A2 N.length c2) N.length (N.map (Value.int .i64))) : CmdX s W x0 xt A2 N.length c2 := fun _ => by
  subst hD
  obtain ⟨k2, m, h1, h2, h3, h4, h5, h6, h7, h8⟩ := cmOf_yes hok
  have e : k2 = k := by
    rw [getD_at hDp] at h1
    rw [h1] at hk
    injection hk
  subst e
  rw [← hN] at h6
  subst h6
  exact ⟨m, h3, by rw [← h4, getD_at hDp, hx0], by rw [ht, h5], rfl, (own_cap ho).1, Rd.of_own1 ho, h7⟩
attribute [local go_sem ↓ high] run_index_of
set_option maxRecDepth 100000 in
set_option maxHeartbeats 4000000 in
theorem readCommand_v (s : ByteArray) (w : World) (hs : s.size ≤ 2000000) (hE : JEnv w) (m : Int) (hm : w.cell? ⟨0, 0, none⟩ = some (.int .i64 m)) : Calls Tryz.prog 39 #[.string s] w fun e w' => ∃ (a1 a2 : ByteArray) (A3 : Option Addr) (n3 c3 : Nat), e = .returned (.tuple #[.agg #[.string a1, .string a2, .slice A3 n3 c3], .bool (lineB s)]) ∧ Below w.heap.size w w' ∧ CmdX s w' a1 a2 A3 n3 c3 := by
  obtain ⟨i0, hi, hz0, hz1, hz2⟩ := info_parts int_info
  have HE := Lib.hid hE
  have hml := block_lt_of_cell hm
  clear hE
  go_enter Tryz.func39, Tryz.ntmps39
  go_wp2_with fail
  generalize hW0 : w.alloc _ = W0
  have hbW0 : Below w.heap.size w W0 := by subst hW0; exact (Below.refl _ _).alloc (Nat.le_refl _) _
  have hsW0 : W0.heap.size = w.heap.size + 1 := by subst hW0; simp
  have cxW0_0 : ∀ i, W0.cell? ⟨w.heap.size, i, none⟩ = (#[.string ⟨#[]⟩, .string ⟨#[]⟩, .slice none 0 0] : Array Value)[i]? := by intro i; subst hW0; simp [go_sem]
  have fzW0_0 : ∀ i, W0.frozen? ⟨w.heap.size, i, none⟩ = false := by intro i; subst hW0; simp [go_sem]
  have HSW0 := Lib.hid hsW0; clear hW0 hsW0
  have hz0' : w.heap.size + 1 ≤ W0.heap.size := by have := HSW0.out; omega
  have HX0 := Lib.hid (show B3 W0 w.heap.size (.string ⟨#[]⟩) (.string ⟨#[]⟩) (.slice none 0 0) from ⟨cxW0_0 0, cxW0_0 1, cxW0_0 2, fzW0_0⟩)
  clear cxW0_0 fzW0_0 HSW0
  refine (split_c s W0 hs m ((hbW0.cell hml).trans hm)).mono ?_
  rintro e w1 ⟨D, rfl, hD, ho, hb1⟩
  have hDp : 0 < D.length := by rw [hD]; exact words_pos s
  have HDS := Lib.hid (show ∀ x ∈ D, x.size ≤ 2000000 from fun x hx => by have := words_sz s x (hD ▸ hx); omega)
  have hDle : D.length ≤ 2000001 := by
    rw [hD, words_len]
    have := List.count_le_length (a := (32 : UInt8)) (l := s.data.toList)
    rw [s_len] at this; omega
  have HDW := Lib.hid hD
  have hcap := own_cap ho
  have HR := Lib.hid (Rd.of_own1 ho)
  have HB1 := Lib.hid (bt hbW0 hb1)
  have HX1 := Lib.hid (HX0.out.below hb1 (by omega))
  have hz1' := hb1.size
  obtain ⟨g, hg⟩ : ∃ g, W0.heap.size = g := ⟨_, rfl⟩
  rw [hg] at ho HR ⊢
  have hgl : g < w1.heap.size := (own_lt ho).2
  have hgw : w.heap.size < g := by omega
  have HCL : Hid (∀ j (hj : j < D.length), w1.cell? ⟨g, j, none⟩ = some (.string D[j])) := fun j hj => by
    obtain ⟨b, off, e, _, hc⟩ := Rd.strs HR.out hDp
    have h1 := hc j hj
    injection e with e; injection e with e1 e2 _
    subst e1; subst e2
    simpa using h1
  clear ho hD hg hm HX0 hb1 hbW0
  have c0 := HCL.out 0 hDp
  have hDi : (0 : Int) < (D.length : Int) := by omega
  obtain ⟨x0, hx0⟩ : ∃ x, D[0] = x := ⟨_, rfl⟩
  rw [hx0] at c0
  have HXX := Lib.hid hx0
  clear hx0
  have hwd : IntKind.i64.wrap ((D.length : Int) - 1) = (D.length : Int) - 1 := IntWalk.i64_in _ (by omega)
  go_wp2_with fail
  refine (shape_c x0 w1).mono ?_
  rintro e w' ⟨rfl, rfl⟩
  cases hk : kindS x0 with
  | none =>
    have HN := Lib.hid (line_none HDW.out hDp (by rw [HXX.out]; exact hk))
    clear hk
    simp only [Option.getD_none, Option.isSome_none]
    obtain ⟨r0, r1, r2, rz⟩ := HX1.out
    go_wp2
    refine bodyPost_ret (v := .tuple #[.agg #[.string ⟨#[]⟩, .string ⟨#[]⟩, .slice none 0 0], .bool false]) (by simp [results, Tryz.results39, go_sem, r0, r1, r2]) rfl ?_
    exact ⟨⟨#[]⟩, ⟨#[]⟩, none, 0, 0, by first | (rw [HN.out]; done) | (rw [HN.out]; rfl), ((HB1.out.setCell (p := ⟨w.heap.size, 0, none⟩) (Nat.le_refl _) _).setCell (p := ⟨w.heap.size, 1, none⟩) (Nat.le_refl _) _).setCell (p := ⟨w.heap.size, 2, none⟩) (Nat.le_refl _) _, cmdX_no HN.out⟩
  | some k =>
    have HK := Lib.hid (show kindS D[0] = some k by rw [HXX.out]; exact hk)
    obtain ⟨hk4, hkb, hkne⟩ := kind_fact hk
    have HKB := Lib.hid hkb
    clear hk hkb hkne
    simp only [Option.getD_some, Option.isSome_some]
    by_cases hl : D.length = k.size + 1
    · have hlb : ((D.length : Int) - 1 != (k.size : Int)) = false := by first | (simp; done) | (simp; omega)
      have HL := Lib.hid hl
      have hle : k.size + 1 ≤ D.length := by omega
      clear hl
      obtain ⟨B0, hB0⟩ : ∃ b, w1.heap.size + 1 = b := ⟨_, rfl⟩
      have hbB : w1.heap.size < B0 := by omega
      have HCW := Lib.hid (show ∀ (t : TypeId), CW w g w1.heap.size B0 D x0 ⟨#[]⟩ none 0 [] (w1.alloc (.cells #[.string x0, .string ⟨#[]⟩, .slice none 0 0] t)) from fun t => by
        have hba := (Below.refl w1.heap.size w1).alloc (Nat.le_refl _) (.cells #[.string x0, .string ⟨#[]⟩, .slice none 0 0] t)
        exact ⟨B3.new _ _ _ _ _, HX1.out.below hba (by omega), ⟨by simp, .inl ⟨rfl, rfl⟩⟩, bt HB1.out hba, fun j hj => (hba.cell (p := ⟨g, j, none⟩) hgl).trans (HCL.out j hj), hgw, hgl, hbB, by simp; omega⟩)
      clear hB0
      have FIN : Hid (∀ (W : World) (xt : ByteArray) (A2 : Option Addr) (c2 : Nat) (N : List Int), CW w g w1.heap.size B0 D x0 xt A2 c2 N W → Below w.heap.size w (((W.setCell ⟨w.heap.size, 0, none⟩ (.string x0)).setCell ⟨w.heap.size, 1, none⟩ (.string xt)).setCell ⟨w.heap.size, 2, none⟩ (.slice A2 N.length c2))) := fun W xt A2 c2 N h =>
        ((h.2.2.2.1.setCell (p := ⟨w.heap.size, 0, none⟩) (Nat.le_refl _) _).setCell (p := ⟨w.heap.size, 1, none⟩) (Nat.le_refl _) _).setCell (p := ⟨w.heap.size, 2, none⟩) (Nat.le_refl _) _
      have FIN2 : Hid (∀ (W : World) (xt : ByteArray) (A2 : Option Addr) (c2 : Nat) (N : List Int), lineB s = true → xt = textK k D k.size → N = numsK k D k.size → CW w g w1.heap.size B0 D x0 xt A2 c2 N W → CmdX s (((W.setCell ⟨w.heap.size, 0, none⟩ (.string x0)).setCell ⟨w.heap.size, 1, none⟩ (.string xt)).setCell ⟨w.heap.size, 2, none⟩ (.slice A2 N.length c2)) x0 xt A2 N.length c2) := fun W xt A2 c2 N hok ht hN h =>
        cmdX_mk HDW.out hDp HK.out hok HXX.out ht hN (own_other (own_other (own_other h.2.2.1 (by omega) _ _) (by omega) _ _) (by omega) _ _)
      have hwb : w.heap.size ≠ w1.heap.size := by omega
      have hbw : w1.heap.size ≠ w.heap.size := by omega
      by_cases hk0 : k.size = 0
      · have hD1 : D.length = 1 := by have := HL.out; omega
        have HN := Lib.hid (line_true HDW.out hDp HK.out HL.out (fun j hj => by omega))
        go_wp2
        go_loopw [39] (fun iv wr => iv = .int .i64 0 ∧ CW w g w1.heap.size B0 D x0 ⟨#[]⟩ none 0 [] wr) (fun _ _ => 0)
        case atStart => exact ⟨rfl, HCW.out _⟩
        case round =>
          obtain ⟨rfl, hcw⟩ := hrel
          have HC := Lib.hid hcw
          obtain ⟨⟨f0, f1, f2, fz⟩, ⟨r0, r1, r2, rz⟩, -, -, -, -⟩ := hcw
          go_wp2
          refine bodyPost_ret (v := .tuple #[.agg #[.string x0, .string ⟨#[]⟩, .slice none 0 0], .bool true]) (by simp [results, Tryz.results39, go_sem, r0, r1, r2]) rfl ?_
          exact ⟨x0, ⟨#[]⟩, none, 0, 0, by first | (rw [HN.out]; done) | (rw [HN.out]; rfl), FIN.out _ _ _ _ _ HC.out, FIN2.out _ _ _ _ [] HN.out (by rw [hk0]; rfl) (by rw [hk0]; rfl) HC.out⟩
      · have hD1 : ¬ D.length = 1 := by omega
        have hDk : D.length - 1 = k.size := by have := HL.out; omega
        go_wp2
        (try rw [hDk])
        go_loopw [39] (fun iv wr => ∃ (i : Nat) (xt : ByteArray) (A2 : Option Addr) (c2 : Nat) (N : List Int), iv = .int .i64 i ∧ i ≤ k.size ∧ N.length ≤ i ∧ Hid (∀ j, j < i → byteOf k j = 73 → ∃ n, isNum (D.getD (j + 1) default) n) ∧ Hid (CW w g w1.heap.size B0 D x0 xt A2 c2 N wr) ∧ Hid (xt = textK k D i) ∧ Hid (N = numsK k D i))
          (fun iv _ => k.size - (intOf iv).toNat)
        case atStart => exact ⟨0, _, _, _, [], rfl, by omega, by simp, Lib.hid (fun j hj => by omega), HCW.out _, rfl, rfl⟩
        case round =>
          obtain ⟨i, xt, A2, c2, N, rfl, hik, hNi, HI, HC, HXT, HNK⟩ := hrel
          by_cases hlt : i < k.size
          · have hii : (i : Int) < (k.size : Int) := by omega
            have hi1 : i + 1 < D.length := by omega
            have hi0 : (0 : Int) ≤ (i : Int) := by omega
            have c1 : wr.cell? ⟨g, 1 + i, none⟩ = some (.string D[i + 1]) := by rw [Nat.add_comm]; exact HC.out.2.2.2.2.1 (i + 1) hi1
            have hxs := HDS.out _ (List.getElem_mem hi1)
            have HNO := Lib.hid (fun hI hn => line_num HDW.out hDp HK.out hlt hI hi1 hn)
            have HYES := Lib.hid (fun (n : Nat) (hn : isNum D[i + 1] n) => num_step HI (fun _ => ⟨n, by rw [getD_at hi1]; exact hn⟩))
            have hkb := HKB.out i hlt
            have HTX := Lib.hid (fun (h : byteOf k i = 84) => (show D[i + 1] = textK k D (i + 1) from by rw [textK, if_pos h, getD_at hi1]))
            have HTN := Lib.hid (fun (h : ¬ byteOf k i = 84) => (show xt = textK k D (i + 1) from by rw [textK, if_neg h]; exact HXT.out))
            have HNN := Lib.hid (fun (h : ¬ byteOf k i = 73) => (show N = numsK k D (i + 1) from by rw [numsK, if_neg h]; exact HNK.out))
            have HNY := Lib.hid (fun (h : byteOf k i = 73) (n : Nat) (hn : isNum D[i + 1] n) => (show N ++ [(n : Int)] = numsK k D (i + 1) from by rw [numsK, if_pos h, ← HNK.out, getD_at hi1, numOf_eq hn]))
            generalize D[i + 1] = x1 at *
            by_cases hT : byteOf k i = 84
            · obtain ⟨f0, f1, f2, fz⟩ := HC.out.1
              have fz1 := fz 1
              have HNX := Lib.hid (num_step HI (fun h => absurd (h.symm.trans hT) (by decide)))
              go_wp2
              go_roundw
              case rel => exact ⟨i + 1, x1, A2, c2, N, by go_num, by omega, by omega, HNX.out, HC.out.text x1, HTX.out hT, HNN.out (fun h => absurd (h.symm.trans hT) (by decide))⟩
              case measure => first | (simp [intOf]; done) | (simp [intOf]; omega)
            · have hI : byteOf k i = 73 := by omega
              have hTb : (byteOf k i == 84) = false := beq_eq_false_iff_ne.2 hT
              go_wp2_with fail
              refine (readNumber_c x1 wr hxs (HE.out.below HC.out.2.2.2.1)).mono ?_
              rintro e w2 ⟨n, bb, rfl, hn, h1, h2, hb2⟩
              have HC2 := Lib.hid (HC.out.below hb2)
              cases bb
              · have HN := Lib.hid (HNO.out hI (h2 rfl))
                clear h1 h2
                obtain ⟨-, ⟨r0, r1, r2, rz⟩, -, hB, -, -⟩ := HC2.out
                have HBB := Lib.hid hB
                clear hB
                go_wp2
                refine bodyPost_ret (v := .tuple #[.agg #[.string ⟨#[]⟩, .string ⟨#[]⟩, .slice none 0 0], .bool false]) (by simp [results, Tryz.results39, go_sem, r0, r1, r2]) rfl ?_
                exact ⟨⟨#[]⟩, ⟨#[]⟩, none, 0, 0, by first | (rw [HN.out]; done) | (rw [HN.out]; rfl), ((HBB.out.setCell (p := ⟨w.heap.size, 0, none⟩) (Nat.le_refl _) _).setCell (p := ⟨w.heap.size, 1, none⟩) (Nat.le_refl _) _).setCell (p := ⟨w.heap.size, 2, none⟩) (Nat.le_refl _) _, cmdX_no HN.out⟩
              · obtain ⟨mm, rfl, hmm⟩ := h1 rfl
                have HN := Lib.hid (HYES.out mm hmm)
                have HNZ := Lib.hid (HNY.out hI mm hmm)
                clear h1 h2 hmm
                obtain ⟨f0, f1, f2, fz⟩ := HC2.out.1
                have HO2 := Lib.hid HC2.out.2.2.1
                have hBz := HC2.out.2.2.2.2.2.2.2.2
                go_wp2_with (first | (at_builtin; refine wpList_push w2 rfl _ _ 30 rfl B0 2 i0 _ 1 8 Tryz.underlying30 hi hz0 hz1 hz2 rfl (by decide) (.slice A2 N.length c2) (N.length) (N.map (Value.int .i64)) (by rfl) HO2.out [.int .i64 mm] 2 (by rfl) rfl (by simp [Value.oneCell']) (by unfold maxLen; omega) (by omega) (by omega) ?_; intro A7 c7 w7 ho7 hg7; obtain ⟨hX7, hC7⟩ := HC2.out.push (y := (mm : Int)) hg7 (own_snocI (y := (mm : Int)) ho7); have HC7 := Lib.hid hC7; clear hC7 ho7 hg7 f0 f1 f2 fz; obtain ⟨f0, f1, f2, fz⟩ := hX7; have fz2 := fz 2))
                go_roundw
                case rel => exact ⟨i + 1, xt, A7, c7, N ++ [(mm : Int)], by go_num, by omega, by simp; omega, HN.out, by have h := HC7.out; rw [List.length_append] at h; exact Lib.hid h, HTN.out hT, HNZ⟩
                case measure => first | (simp [intOf]; done) | (simp [intOf]; omega)
          · obtain rfl : i = k.size := by omega
            have HN := Lib.hid (line_true HDW.out hDp HK.out HL.out HI.out)
            have hni : ¬ (k.size : Int) < (k.size : Int) := by omega
            obtain ⟨⟨f0, f1, f2, fz⟩, ⟨r0, r1, r2, rz⟩, -, -, -, -⟩ := HC.out
            go_wp2
            refine bodyPost_ret (v := .tuple #[.agg #[.string x0, .string xt, .slice A2 N.length c2], .bool true]) (by simp [results, Tryz.results39, go_sem, r0, r1, r2]) rfl ?_
            exact ⟨x0, xt, A2, N.length, c2, by first | (rw [HN.out]; done) | (rw [HN.out]; rfl), FIN.out _ _ _ _ _ HC.out, FIN2.out _ _ _ _ _ HN.out HXT.out HNK.out HC.out⟩
    · have hlb : ((D.length : Int) - 1 != (k.size : Int)) = true := by first | (simp; done) | (simp; omega)
      have HN := Lib.hid (line_len HDW.out hDp HK.out hl)
      clear hl
      obtain ⟨r0, r1, r2, rz⟩ := HX1.out
      go_wp2
      refine bodyPost_ret (v := .tuple #[.agg #[.string ⟨#[]⟩, .string ⟨#[]⟩, .slice none 0 0], .bool false]) (by simp [results, Tryz.results39, go_sem, r0, r1, r2]) rfl ?_
      exact ⟨⟨#[]⟩, ⟨#[]⟩, none, 0, 0, by first | (rw [HN.out]; done) | (rw [HN.out]; rfl), ((HB1.out.setCell (p := ⟨w.heap.size, 0, none⟩) (Nat.le_refl _) _).setCell (p := ⟨w.heap.size, 1, none⟩) (Nat.le_refl _) _).setCell (p := ⟨w.heap.size, 2, none⟩) (Nat.le_refl _) _, cmdX_no HN.out⟩
end Go.Proofs.YtiamignopfhkfaaGreatDoor
end
