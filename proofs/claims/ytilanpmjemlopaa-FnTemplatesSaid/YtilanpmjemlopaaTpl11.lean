/- Contract: DeleteFunc with the closure of missing. -/
import Derived.Test.YtilanpmjemlopaaTpl10
namespace Go.Proofs.Ytilanpmjemlopaa
open Go.RowKit
set_option linter.unusedVariables false
theorem own_strs {w : World} {base g n c : Nat} {e : TypeId} {L : List ByteArray} (h : w.ownsRow base e 1 (.slice (some ⟨g, 0, none⟩) n c) n (L.map Value.string)) {k : Nat} (hk : k < L.length) : w.cell? ⟨g, k, none⟩ = some (.string L[k]) := by
  have hl := h.1
  rw [List.length_map] at hl
  rw [h.cellAt k (by omega), List.getElem?_map, List.getElem?_eq_getElem hk]; rfl
theorem own_str_set {w : World} {base g n c : Nat} {e : TypeId} {L : List ByteArray} (h : w.ownsRow base e 1 (.slice (some ⟨g, 0, none⟩) n c) n (L.map Value.string)) (i : Nat) (x : ByteArray) :
    (w.setCell ⟨g, i, none⟩ (.string x)).ownsRow base e 1 (.slice (some ⟨g, 0, none⟩) n c) n ((L.set i x).map Value.string) ∧ w.grownBy (w.setCell ⟨g, i, none⟩ (.string x)) (some g) := by
  have := h.stored i (.string x)
  rw [List.map_set]
  exact this
theorem kept_all {V : List ValueD} {L : List ByteArray} (h : ∀ j (hj : j < L.length), lackB V L[j] = true) : keptN V L = L := by
  unfold keptN
  rw [List.filter_eq_self]
  intro x hx
  obtain ⟨i, hi, rfl⟩ := List.getElem_of_mem hx
  exact h i hi
theorem zero_str (w : World) : (zeroValue 9).run Try.prog w = .ok (.string ByteArray.empty) w := by
  obtain ⟨i0, hi, hz, _⟩ := info_parts str_info
  simp [zeroValue, typeInfo, hi, hz]
theorem clear_own {w : World} {base g n c i : Nat} {e : TypeId} {L : List ByteArray} (h : w.ownsRow base e 1 (.slice (some ⟨g, 0, none⟩) n c) n (L.map Value.string)) (hi : i ≤ n) :
    (w.setCells g i (List.replicate (n - i) (.string ByteArray.empty))).ownsRow base e 1 (.slice (some ⟨g, 0, none⟩) i c) i ((L.take i).map Value.string) ∧ w.grownBy (w.setCells g i (List.replicate (n - i) (.string ByteArray.empty))) (some g) := by
  have h2 := own_setCells (List.replicate (n - i) (.string ByteArray.empty)) (o := i) h
  refine ⟨?_, h2.2⟩
  have h3 := own_shrink h2.1 hi
  have hl := h.1
  rw [List.length_map] at hl
  have e1 : L.map Value.string = (L.take i).map Value.string ++ (L.drop i).map Value.string := by rw [← List.map_append, List.take_append_drop]
  have e2 : ((L.take i).map Value.string).length = i := by rw [List.length_map, List.length_take]; omega
  have h4 := setL_mid (List.replicate (n - i) (.string ByteArray.empty)) ((L.take i).map Value.string) ((L.drop i).map Value.string) (by simp; omega)
  rw [e2, ← e1] at h4
  rw [h4, Nat.mul_one, List.take_left' e2] at h3
  exact h3
theorem DelI.fin {V : List ValueD} {L ys : List ByteArray} {i : Nat} (h : DelI V L L.length i ys) : ys.take i = keptN V L ∧ i = (keptN V L).length := by
  have h1 := h.kept
  have h2 := h.cnt
  rw [List.take_of_length_le (Nat.le_refl _)] at h1 h2
  exact ⟨h1, h2⟩
set_option maxRecDepth 100000 in
set_option maxHeartbeats 4000000 in
theorem delMiss_c (base : Nat) (A : Option Addr) (c : Nat) (L : List ByteArray) (b : Nat) (vA : Option Addr) (vc : Nat) (V : List ValueD) (w : World) (ho : w.ownsRow base 9 1 (.slice A L.length c) L.length (L.map Value.string)) (hbase : base ≤ w.heap.size) (hl : L.length ≤ 4000000) (h0 : w.cell? ⟨b, 0, none⟩ = some (.slice vA V.length vc)) (hb : b < base) (hv : Rd w base vA (V.length * 2) (V.flatMap valueC)) (hvl : V.length ≤ 140737488355328) (hvc : V.length ≤ vc) :
    Calls Try.prog 60 #[.slice A L.length c, .func (.func 61) #[] #[.pointer (some ⟨b, 0, none⟩)]] w fun e w' => e = .returned (.slice A (keptN V L).length c) ∧ w'.ownsRow base 9 1 (.slice A (keptN V L).length c) (keptN V L).length ((keptN V L).map Value.string) ∧ Below base w w' := by
  have HO := Lib.hid ho; have HV := Lib.hid hv; have H0 := Lib.hid h0
  have hcap := own_cap ho

  have HR := Lib.hid (Rd.of_own ho)
  rw [Nat.mul_one] at HR
  have hcap1 := hcap.1
  have HCAP := Lib.hid hcap
  clear hcap
  clear ho hv h0
  go_enter Try.func60, Try.ntmps60
  go_wp2_with fail
  refine (idxMiss_c A c L b vA vc V w HR.out hl H0.out (by omega) (HV.out.more hbase) hvl hvc).mono ?_
  rintro e w1 ⟨⟨q, rfl, hq⟩, hb1⟩
  have HB1 := Lib.hid (below_drewN (hb1) 0)
  have HBb : Hid (Below base w w1) := ⟨hb1.os, hb1.tape, hb1.output, hb1.size, fun k hk => hb1.block k (by omega)⟩
  have HO1 := Lib.hid (own_below HO.out hb1)
  have hz1 := hb1.size
  clear hb1 HB1 HR
  rcases hq with ⟨rfl, hq⟩ | ⟨k, hk, rfl, hq0, hq⟩
  · have HE := Lib.hid (kept_all hq)
    clear hq
    go_wp2
    go_ret
    rw [HE.out]
    exact ⟨rfl, HO1.out, HBb.out⟩
  · obtain ⟨g, rfl, _, _⟩ := own_head HO1.out (by omega)
    have hgl := own_lt HO1.out
    have HD0 := Lib.hid (DelI.start hk hq0 hq)
    clear hq0 hq
    have HG0 := Lib.hid (World.grownBy.refl w1 (some g))
    have hne : ((k : Int) == -1) = false := by rw [beq_eq_false_iff_ne]; omega
    go_wp2
    go_loopw [5, 6, 7] (fun iv jv _ wr => ∃ (i j : Nat) (ys : List ByteArray), iv = .int .i64 i ∧ jv = .int .i64 j ∧ i < j ∧ j ≤ L.length ∧ Hid (DelI V L j i ys) ∧ Hid (wr.ownsRow base 9 1 (.slice (some ⟨g, 0, none⟩) L.length c) L.length (ys.map Value.string)) ∧ Hid (w1.grownBy wr (some g))) (fun _ jv _ _ => L.length - (intOf jv).toNat)
    case atStart => exact ⟨k, k + 1, L, rfl, by go_num, by omega, by omega, HD0, HO1, HG0⟩
    case round =>
      obtain ⟨i, j, ys, rfl, rfl, hij, hj, HD, HW, HG⟩ := hrel
      clear HD0 HG0 HO1
      have hzr := HG.out.size
      have hyl := HD.out.len
      by_cases hlt : j < L.length
      · obtain ⟨hy, hye⟩ := HD.out.at hlt
        have f0 := own_strs HW.out hy
        rw [hye] at f0
        have HVr : Hid (Rd wr wr.heap.size vA (V.length * 2) (V.flatMap valueC)) := ((HV.out.below HBb.out).below (below_grown (Below.refl base w1) HG.out (by omega) (fun g' e => by have := Option.some.inj e; omega))).more (by omega)
        have HBr := Lib.hid (below_grown HBb.out HG.out (by omega) (fun g' e => by have := Option.some.inj e; omega))
        have HCr := Lib.hid ((HBr.out.cell (p := ⟨b, 0, none⟩) hb).trans H0.out)
        have hji : (j : Int) < (L.length : Int) := by omega
        clear hye
        go_wp2_with fail
        refine (miss2_c L[j] b vA vc V wr HCr.out HVr.out hvl hvc).mono ?_
        rintro e w2 ⟨rfl, hb2⟩
        have HO2 := Lib.hid (own_below HW.out hb2)
        have HG2 := Lib.hid (grown_trans' HG.out (grown_of_below hb2 (some g)))
        have hz2 := hb2.size
        clear hb2 HCr HVr HBr
        cases hh : lackB V L[j] with
        | false =>
          rw [lack_some true hh]
          have HN := Lib.hid (HD.out.skip hlt hh)
          clear hh
          go_wp2
          go_roundw
          case rel => exact ⟨i, j + 1, ys, rfl, by go_num, by omega, by omega, HN, HO2, HG2⟩
          case measure => first | (simp [intOf]; done) | (simp [intOf]; omega)
        | true =>
          rw [lack_some false hh]
          have HN := Lib.hid (HD.out.keep hlt hh)
          have hs2 := own_str_set HO2.out i L[j]
          have HO3 := Lib.hid hs2.1
          have HG3 := Lib.hid (grown_trans' HG2.out hs2.2)
          have f1 := own_strs HO2.out (k := i) (by omega)
          have f2 := HO2.out.frozenAt i
          clear hh hs2
          go_wp2
          go_roundw
          case rel => exact ⟨i + 1, j + 1, ys.set i L[j], by go_num, by go_num, by omega, by omega, HN, by simpa using HO3, by simpa using HG3⟩
          case measure => first | (simp [intOf]; done) | (simp [intOf]; omega)
      · obtain rfl : j = L.length := by omega
        have hf := HD.out.fin
        have hfi := hf.2
        have HK := Lib.hid hf.1
        have hcl := clear_own HW.out (i := i) (by omega)
        rw [hf.1] at hcl
        have HO3 := Lib.hid hcl.1
        have HG3 := Lib.hid (grown_trans' HG.out hcl.2)
        have HB3 := Lib.hid (below_grown HBb.out HG3.out (by omega) (fun g' e => by have := Option.some.inj e; omega))
        have HCC : Hid (∀ j, j < L.length - i → (wr.cell? ⟨g, i + j, none⟩).isSome = true) := fun j hj => by
          rw [own_strs HW.out (k := i + j) (by omega)]; rfl
        have HFF : Hid (∀ j, j < L.length - i → wr.frozen? ⟨g, i + j, none⟩ = false) := fun j _ => HW.out.frozenAt _
        have HFI := Lib.hid hfi
        clear hf hcl hfi
        have hil : (i : Int) < (L.length : Int) := by omega
        have hrun := Lib.run_clear_slice (P := Try.prog) wr 24 9 0 (.string ByteArray.empty) Try.underlying24 zero_str rfl rfl g i (L.length - i) (c - i) (by omega) HCC.out HFF.out
        go_wp2
        go_ret
        rw [← HFI.out]
        exact ⟨rfl, HO3.out, HB3.out⟩
end Go.Proofs.Ytilanpmjemlopaa
