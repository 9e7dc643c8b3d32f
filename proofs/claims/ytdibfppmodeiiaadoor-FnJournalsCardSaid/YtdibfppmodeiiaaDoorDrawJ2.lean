/- Contract of the draw of lists of entries: l33List. -/
import Derived.Test.YtdibfppmodeiiaaDoorDrawJ1
import Derived.Test.YtdibfppmodeiiaaDoorRow
import Derived.Deep.CutRange
namespace Go.Proofs.YtdibfppmodeiiaaDoor
open Go.RowKit
set_option linter.unusedVariables false
def GoodE (L : List EntryD) : Prop := ∀ x ∈ L, (0 ≤ x.kind ∧ x.kind ≤ 255) ∧ x.text.size ≤ 41
theorem GoodE.W {L : List EntryD} (h : GoodE L) : ∀ x ∈ L, EntryW x := by
  intro x hx
  obtain ⟨h1, h2⟩ := h x hx
  refine ⟨?_, by unfold maxLen; omega⟩
  simp [Lit.wf, IntKind.min, IntKind.max, IntKind.signed, IntKind.bits]
  omega
theorem GoodE.snoc {L : List EntryD} (h : GoodE L) {a0 : Int} {a1 : ByteArray} (h0 : 0 ≤ a0 ∧ a0 ≤ 255) (h1 : a1.size ≤ 41) : GoodE (L ++ [⟨a0, a1⟩]) := by
  intro x hx
  rcases List.mem_append.1 hx with hx | hx
  · exact h x hx
  · rw [List.mem_singleton.1 hx]; exact ⟨h0, h1⟩
theorem own_snocE {W : World} {b : Nat} {A : Option Addr} {c : Nat} {D : List EntryD} {y : EntryD} (h : W.ownsRow b 25 2 (.slice A (D.length + 1) c) (D.length + 1) (D.flatMap entryC ++ entryC y)) : W.ownsRow b 25 2 (.slice A (D ++ [y]).length c) (D ++ [y]).length ((D ++ [y]).flatMap entryC) := by
  rw [List.length_append, List.flatMap_append, show [y].flatMap entryC = entryC y from by simp]; exact h
def sliceLen : Value → Nat
  | .slice _ n _ => n
  | _ => 0
def ListJ (B g : Nat) (w : World) (e : Ending) (wr : World) : Prop := ∃ (A : Option Addr) (c : Nat) (L : List EntryD), e = .returned (.slice A L.length c) ∧ wr.ownsRow w.heap.size 25 2 (.slice A L.length c) L.length (L.flatMap entryC) ∧ L.length ≤ 22 ∧ GoodE L ∧ Src wr B g ∧ w.grownBy wr (some g)
set_option maxRecDepth 100000 in
set_option maxHeartbeats 8000000 in
theorem l33List_c (B g : Nat) (w : World) (hS : Src w B g) : Calls Tryd.prog 36 #[.pointer (some ⟨g, 0, none⟩)] w (ListJ B g w) := by
  obtain ⟨i0, hi, hz0, hz1, hz2⟩ := info_parts entry_info
  have hgB := hS.ge; have hgl := hS.lt
  have HQw := Lib.hid hS; have HGw := Lib.hid (World.grownBy.refl w (some g)); clear hS
  go_enter Tryd.func36, Tryd.ntmps36
  go_wp2_with fail
  have ho := World.ownsRow_lit (base := w.heap.size) (e := 25) (size := 2) w #[] 0 (Nat.le_refl _) (by unfold maxLen; omega) rfl
  generalize hW2 : w.alloc (.cells #[] 25) = W2 at ho ⊢
  have hb2 : Below w.heap.size w W2 := by subst hW2; exact (Below.refl _ _).alloc (Nat.le_refl _) _
  have hzW2 := hb2.size
  have HQW2 := Lib.hid (HQw.out.below hb2); have HGW2 := Lib.hid (grown_trans' HGw.out (grown_of_below hb2 _))
  clear hW2
  refine (l01Next_c B g (7) W2 HQW2.out (by omega)).mono ?_
  rintro e w3 ⟨n, rfl, ⟨hn0, hn1⟩, hqw3, hgw3⟩
  have HQw3 := Lib.hid hqw3; have HGw3 := Lib.hid (grown_trans' HGW2.out hgw3); have hzw3 := hgw3.size
  clear hqw3
  have HO := Lib.hid (ho.kept hgw3 (.inr (by simp [Value.ownBlock]; omega)))
  clear ho
  obtain ⟨n, rfl⟩ := Int.eq_ofNat_of_zero_le hn0
  go_wp2
  go_loopw [3, 4] (fun ov nv wr => ∃ (A : Option Addr) (c : Nat) (L : List EntryD) (j : Nat), nv = .int .i64 j ∧ ov = .slice A L.length c ∧ L.length + j ≤ 6 ∧ Hid (GoodE L) ∧ w.heap.size ≤ wr.heap.size ∧ Hid (wr.ownsRow w.heap.size 25 2 (.slice A L.length c) L.length (L.flatMap entryC)) ∧ Hid (Src wr B g) ∧ Hid (w.grownBy wr (some g)))
    (fun _ nv _ => (intOf nv).toNat)
  case atStart => exact ⟨_, _, [], n, rfl, rfl, by simp; omega, Lib.hid (fun x hx => by simp at hx), by omega, HO, HQw3, HGw3⟩
  case round =>
    obtain ⟨A, c, L, j, rfl, rfl, hj, HM, hzr, HOr, HQwr, HGwr⟩ := hrel
    clear HO
    by_cases hj0 : 0 < j
    · go_wp2_with fail
      refine (l33Entry_c B g wr HQwr.out).mono ?_
      rintro e w4 ⟨a0, a1, rfl, ha0, ha1, hq4, hg4⟩
      have HO4 := Lib.hid (HOr.out.kept hg4 (.inr (fun e => by have := HOr.out.lt _ e; omega)))
      have HQw4 := Lib.hid hq4; have HGw4 := Lib.hid (grown_trans' HGwr.out hg4); have hzw4 := hg4.size
      clear HOr hq4 hg4
      go_wp2_with (first | (at_builtin; refine wpList_push w4 rfl _ _ 33 rfl w.heap.size 25 i0 _ 2 24 Tryd.underlying33 hi hz0 hz1 hz2 rfl (by decide) (.slice A L.length c) (L.length) (L.flatMap entryC) (by rfl) HO4.out [.int .u8 a0, .string a1] 25 (by rfl) rfl (by simp [Value.oneCell']) (by unfold maxLen; omega) (by omega) (by omega) ?_; intro A7 c7 w7 ho7 hg7; have HO7 := Lib.hid (own_snocE (y := ⟨a0, a1⟩) ho7); have HQw7 := Lib.hid (HQw4.out.other hg7 (fun k hk => by have := HO4.out.lt k hk; omega)); have HGw7 := Lib.hid (HGw4.out.andThen hg7 (fun k hk => .inl (by have := HO4.out.lt k hk; omega))); have hz7 := hg7.size; clear ho7 hg7))
      go_roundw
      case rel => exact ⟨A7, c7, L ++ [⟨a0, a1⟩], j - 1, by go_num, by simp, by simp; omega, Lib.hid (HM.out.snoc ha0 ha1), by omega, HO7, HQw7, HGw7⟩
      case measure => simp [intOf]; omega
    · obtain rfl : j = 0 := by omega
      go_wp2_with fail
      refine (l01Next_c B g (24) wr HQwr.out (by omega)).mono ?_
      rintro e w5 ⟨r, rfl, ⟨hr0, hr1⟩, hqw5, hgw5⟩
      have HQw5 := Lib.hid hqw5; have HGw5 := Lib.hid (grown_trans' HGwr.out hgw5); have hzw5 := hgw5.size
      clear hqw5
      have HO5 := Lib.hid (HOr.out.kept hgw5 (.inr (fun e => by have := HOr.out.lt _ e; omega)))
      clear HOr
      by_cases h0 : r = 0
      · subst h0
        clear HQwr HGwr
        go_wp2
        go_loopw [3] (fun ov wr => ∃ (A : Option Addr) (c : Nat) (L : List EntryD), ov = .slice A L.length c ∧ L.length ≤ 22 ∧ Hid (GoodE L) ∧ w.heap.size ≤ wr.heap.size ∧ Hid (wr.ownsRow w.heap.size 25 2 (.slice A L.length c) L.length (L.flatMap entryC)) ∧ Hid (Src wr B g) ∧ Hid (w.grownBy wr (some g)))
          (fun ov _ => 50 - sliceLen ov)
        case atStart => exact ⟨A, c, L, rfl, by omega, HM, by omega, HO5, HQw5, HGw5⟩
        case round =>
          obtain ⟨v0, rfl⟩ : ∃ v0, v0 = wr := ⟨_, rfl⟩
          clear HO5 HM hj
          obtain ⟨A, c, L, rfl, hl, HM, hzv, HOv, HQv0, HGv0⟩ := hrel
          go_wp2_with fail
          refine (l01Next_c B g (2) v0 HQv0.out (by omega)).mono ?_
          rintro e v1 ⟨a2, rfl, ⟨ha20, ha21⟩, hqv1, hgv1⟩
          have HQv1 := Lib.hid hqv1; have HGv1 := Lib.hid (grown_trans' HGv0.out hgv1); have hzv1 := hgv1.size
          clear hqv1
          have HO1 := Lib.hid (HOv.out.kept hgv1 (.inr (fun e => by have := HOv.out.lt _ e; omega)))
          by_cases hgo : (L.length : Int) < 20 + a2
          · go_wp2_with (first | (at_builtin; refine wpList_push v1 rfl _ _ 33 rfl w.heap.size 25 i0 _ 2 24 Tryd.underlying33 hi hz0 hz1 hz2 rfl (by decide) (.slice A L.length c) (L.length) (L.flatMap entryC) (by rfl) HO1.out [.int .u8 78, .string { data := #[120] }] 25 (by rfl) rfl (by simp [Value.oneCell']) (by unfold maxLen; omega) (by omega) (by omega) ?_; intro A7 c7 w7 ho7 hg7; have HO7 := Lib.hid (own_snocE (y := ⟨78, { data := #[120] }⟩) ho7); have HQw7 := Lib.hid (HQv1.out.other hg7 (fun k hk => by have := HO1.out.lt k hk; omega)); have HGw7 := Lib.hid (HGv1.out.andThen hg7 (fun k hk => .inl (by have := HO1.out.lt k hk; omega))); have hz7 := hg7.size; clear ho7 hg7))
            go_roundw
            case rel => exact ⟨A7, c7, L ++ [⟨78, { data := #[120] }⟩], by simp, by simp; omega, Lib.hid (HM.out.snoc (by omega) (by decide)), by omega, HO7, HQw7, HGw7⟩
            case measure => simp only [sliceLen]; omega
          · go_wp2
            go_ret
            exact ⟨A, c, L, rfl, HO1.out, hl, HM.out, HQv1.out, HGv1.out⟩
      · have h0b : (r == 0) = false := beq_eq_false_iff_ne.2 h0
        go_wp2
        go_ret
        exact ⟨A, c, L, rfl, HO5.out, by omega, HM.out, HQw5.out, HGw5.out⟩
end Go.Proofs.YtdibfppmodeiiaaDoor
