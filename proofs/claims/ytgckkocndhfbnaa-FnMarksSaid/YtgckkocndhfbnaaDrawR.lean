/- Contracts of the draws of redaction: l32Text, l32Draw. -/
import Derived.Test.YtgckkocndhfbnaaSrc2
import Derived.Test.YtgckkocndhfbnaaFrom
import Derived.Test.YtgckkocndhfbnaaMark
import Derived.Deep.CutRange
namespace Go.Proofs.Ytgckkocndhfbnaa
open Go.RowKit
set_option linter.unusedVariables false
theorem str_in {L : List ByteArray} {k : Nat} (hk : k < L.length) : ∃ p, ((L.map Value.string).toArray : Array Value)[k]? = some (.string p) ∧ p ∈ L :=
  ⟨L[k], by simp [hk], List.getElem_mem hk⟩
def seenWs : List ByteArray := [{ data := #[116, 104, 101, 32] }, { data := #[119, 105, 116, 110, 101, 115, 115, 32] }, { data := #[97, 100, 97, 32] }, { data := #[115, 97, 119, 32] }, { data := #[98, 114, 117, 110, 111, 32] }, { data := #[97, 116, 32, 110, 105, 110, 101, 46, 32] }, { data := #[97, 100, 97, 97, 100, 97, 32] }]
theorem seenWs_sz : ∀ p ∈ seenWs, p.size ≤ 10 := by decide
def TextP (B g : Nat) (w : World) (e : Ending) (w' : World) : Prop := ∃ t : ByteArray, e = .returned (.string t) ∧ t.size ≤ 70 ∧ Src w' B g ∧ w.grownBy w' (some g)
set_option maxRecDepth 100000 in
set_option maxHeartbeats 4000000 in
theorem l32Text_c (B g : Nat) (w : World) (hS : Src w B g) : Calls Try.prog 72 #[.pointer (some ⟨g, 0, none⟩)] w (TextP B g w) := by
  have hgB := hS.ge; have hgl := hS.lt
  have HQw := Lib.hid hS; have HGw := Lib.hid (World.grownBy.refl w (some g)); clear hS
  go_enter Try.func72, Try.ntmps72
  go_wp2_with fail
  generalize hW0 : w.alloc _ = W0
  have hbW0 : Below w.heap.size w W0 := by subst hW0; exact (Below.refl _ _).alloc (Nat.le_refl _) _
  have hsW0 : W0.heap.size = w.heap.size + 1 := by subst hW0; simp
  have cxW0_0 : ∀ i, W0.cell? ⟨w.heap.size, i, none⟩ = (#[.string { data := #[116, 104, 101, 32] }, .string { data := #[119, 105, 116, 110, 101, 115, 115, 32] }, .string { data := #[97, 100, 97, 32] }, .string { data := #[115, 97, 119, 32] }, .string { data := #[98, 114, 117, 110, 111, 32] }, .string { data := #[97, 116, 32, 110, 105, 110, 101, 46, 32] }, .string { data := #[97, 100, 97, 97, 100, 97, 32] }] : Array Value)[i]? := by intro i; subst hW0; simp [go_sem]
  have fzW0_0 : ∀ i, W0.frozen? ⟨w.heap.size, i, none⟩ = false := by intro i; subst hW0; simp [go_sem]
  have HSW0 := Lib.hid hsW0; clear hW0 hsW0
  have HQW0 := Lib.hid (HQw.out.below hbW0); have HGW0 := Lib.hid (grown_trans' HGw.out (grown_of_below hbW0 _)); have hzW0 : W0.heap.size = w.heap.size + 1 := HSW0.out
  clear HSW0
  refine (l01Next_c B g (8) W0 HQW0.out (by omega)).mono ?_
  rintro e w1 ⟨n, rfl, ⟨hn0, hn1⟩, hqw1, hgw1⟩
  have HQw1 := Lib.hid hqw1; have HGw1 := Lib.hid (grown_trans' HGW0.out hgw1); have hzw1 := hgw1.size
  replace cxW0_0 := fun i => (hgw1.cell_far _ (by (try simp only); omega) (by simp; omega)).trans (cxW0_0 i)
  clear hqw1
  obtain ⟨n, rfl⟩ := Int.eq_ofNat_of_zero_le hn0
  have HC := Lib.hid cxW0_0
  have hzz : w.heap.size < w1.heap.size := by omega
  clear cxW0_0 fzW0_0
  go_wp2
  go_loopw [3, 5] (fun sv nv wr => ∃ (t : ByteArray) (j : Nat), nv = .int .i64 j ∧ sv = .string t ∧ t.size + 10 * j ≤ 70 ∧ w.heap.size < wr.heap.size ∧ Hid (∀ i, wr.cell? ⟨w.heap.size, i, none⟩ = (#[.string { data := #[116, 104, 101, 32] }, .string { data := #[119, 105, 116, 110, 101, 115, 115, 32] }, .string { data := #[97, 100, 97, 32] }, .string { data := #[115, 97, 119, 32] }, .string { data := #[98, 114, 117, 110, 111, 32] }, .string { data := #[97, 116, 32, 110, 105, 110, 101, 46, 32] }, .string { data := #[97, 100, 97, 97, 100, 97, 32] }] : Array Value)[i]?) ∧ Hid (Src wr B g) ∧ Hid (w.grownBy wr (some g)))
    (fun _ nv _ => (intOf nv).toNat)
  case atStart => exact ⟨ByteArray.empty, n, rfl, rfl, by show 0 + 10 * n ≤ 70; omega, hzz, HC.out, HQw1.out, HGw1.out⟩
  case round =>
    obtain ⟨t, j, rfl, rfl, hj, hzr, HCr, HQwr, HGwr⟩ := hrel
    clear HC
    by_cases hj0 : 0 < j
    · go_wp2_with fail
      have cx := HCr.out
      refine (l01Next_c B g (7) wr HQwr.out (by omega)).mono ?_
      rintro e w2 ⟨k, rfl, ⟨hk0, hk1⟩, hqw2, hgw2⟩
      have HQw2 := Lib.hid hqw2; have HGw2 := Lib.hid (grown_trans' HGwr.out hgw2); have hzw2 := hgw2.size
      replace cx := fun i => (hgw2.cell_far _ (by (try simp only); omega) (by simp; omega)).trans (cx i)
      clear hqw2
      obtain ⟨k, rfl⟩ := Int.eq_ofNat_of_zero_le hk0
      have hk7 : k < 7 := by omega
      obtain ⟨p, hp, hpm⟩ := str_in (L := seenWs) (k := k) hk7
      have f : w2.cell? ⟨w.heap.size, k, none⟩ = some (.string p) := (cx k).trans hp
      have hps := seenWs_sz p hpm
      have HC2 := Lib.hid cx
      clear cx hp hpm
      go_wp2
      go_roundw
      case rel => exact ⟨t ++ p, j - 1, by go_num, rfl, by rw [ByteArray.size_append]; omega, by omega, HC2, HQw2, HGw2⟩
      case measure => simp [intOf]; omega
    · obtain rfl : j = 0 := by omega
      go_wp2
      go_ret
      exact ⟨t, rfl, by omega, HQwr.out, HGwr.out⟩
theorem own_snocK {W : World} {b : Nat} {A : Option Addr} {c : Nat} {D : List MarkD} {y : MarkD} (h : W.ownsRow b 42 3 (.slice A (D.length + 1) c) (D.length + 1) (D.flatMap markC ++ markC y)) : W.ownsRow b 42 3 (.slice A (D ++ [y]).length c) (D ++ [y]).length ((D ++ [y]).flatMap markC) := by
  rw [List.length_append, List.flatMap_append, show [y].flatMap markC = markC y from by simp]; exact h
def strLen : Value → Nat
  | .string s => s.size
  | _ => 0
def DrawR (B g : Nat) (w : World) (e : Ending) (w' : World) : Prop := ∃ (t : ByteArray) (A : Option Addr) (c : Nat) (D : List MarkD), e = .returned (.tuple #[.string t, .slice A D.length c]) ∧ t.size ≤ 401 ∧ D.length ≤ 6 ∧ w'.ownsRow w.heap.size 42 3 (.slice A D.length c) D.length (D.flatMap markC) ∧ Src w' B g ∧ w.grownBy w' (some g)
set_option maxRecDepth 100000 in
set_option maxHeartbeats 8000000 in
theorem l32Draw_c (B g : Nat) (w : World) (hS : Src w B g) : Calls Try.prog 45 #[.pointer (some ⟨g, 0, none⟩)] w (DrawR B g w) := by
  obtain ⟨i0, hi, hz0, hz1, hz2⟩ := info_parts mark_info
  have HS := Lib.hid hS
  have hgB := hS.ge; have hgl := hS.lt
  have HQw := Lib.hid hS; have HGw := Lib.hid (World.grownBy.refl w (some g)); clear hS
  go_enter Try.func45, Try.ntmps45
  go_wp2_with fail
  refine (l32Text_c B g w HS.out).mono ?_
  rintro e w1 ⟨t, rfl, ht, hq1, hg1⟩
  have HQw1 := Lib.hid hq1; have HGw1 := Lib.hid hg1; have hzw1 := hg1.size
  clear hq1 hg1 HQw HGw
  go_wp2_with fail
  have ho := World.ownsRow_lit (base := w.heap.size) (e := 42) (size := 3) w1 #[] 0 hzw1 (by unfold maxLen; omega) rfl
  generalize hW2 : w1.alloc (.cells #[] 42) = W2 at ho ⊢
  have hb2 : Below w1.heap.size w1 W2 := by subst hW2; exact (Below.refl _ _).alloc (Nat.le_refl _) _
  have hzW2 := hb2.size
  have HQW2 := Lib.hid (HQw1.out.below hb2); have HGW2 := Lib.hid (grown_trans' HGw1.out (grown_of_below hb2 _))
  clear hW2
  refine (l01Next_c B g (4) W2 HQW2.out (by omega)).mono ?_
  rintro e w3 ⟨a, rfl, ⟨ha0, ha1⟩, hqw3, hgw3⟩
  have HQw3 := Lib.hid hqw3; have HGw3 := Lib.hid (grown_trans' HGW2.out hgw3); have hzw3 := hgw3.size
  clear hqw3
  have HO3 := Lib.hid (ho.kept hgw3 (.inr (fun e => by have := ho.lt _ e; omega)))
  clear ho
  go_wp2_with fail
  refine (l01Next_c B g (5) w3 HQw3.out (by omega)).mono ?_
  rintro e w4 ⟨n, rfl, ⟨hn0, hn1⟩, hqw4, hgw4⟩
  have HQw4 := Lib.hid hqw4; have HGw4 := Lib.hid (grown_trans' HGw3.out hgw4); have hzw4 := hgw4.size
  clear hqw4
  have HO4 := Lib.hid (HO3.out.kept hgw4 (.inr (fun e => by have := HO3.out.lt _ e; omega)))
  obtain ⟨n, rfl⟩ := Int.eq_ofNat_of_zero_le hn0
  go_wp2
  go_loopw [5, 6, 7] (fun ov av nv wr => ∃ (A : Option Addr) (c : Nat) (D : List MarkD) (at_ : Int) (j : Nat), nv = .int .i64 j ∧ av = .int .i64 at_ ∧ ov = .slice A D.length c ∧ D.length + j ≤ 4 ∧ (0 ≤ at_ ∧ at_ + 20 * j ≤ 200) ∧ w.heap.size ≤ wr.heap.size ∧ Hid (wr.ownsRow w.heap.size 42 3 (.slice A D.length c) D.length (D.flatMap markC)) ∧ Hid (Src wr B g) ∧ Hid (w.grownBy wr (some g)))
    (fun _ _ nv _ => (intOf nv).toNat)
  case atStart => exact ⟨_, _, [], a, n, rfl, rfl, rfl, by simp; omega, by omega, by omega, HO4.out, HQw4.out, HGw4.out⟩
  case round =>
    obtain ⟨A, c, D, at_, j, rfl, rfl, rfl, hj, hat, hzr, HOr, HQwr, HGwr⟩ := hrel
    clear HO3 HO4
    by_cases hj0 : 0 < j
    · go_wp2_with fail
      refine (l01Next_c B g (6) wr HQwr.out (by omega)).mono ?_
      rintro e w5 ⟨q, rfl, ⟨hq0, hq1⟩, hqw5, hgw5⟩
      have HQw5 := Lib.hid hqw5; have HGw5 := Lib.hid (grown_trans' HGwr.out hgw5); have hzw5 := hgw5.size
      clear hqw5
      have HO5 := Lib.hid (HOr.out.kept hgw5 (.inr (fun e => by have := HOr.out.lt _ e; omega)))
      clear HOr
      go_upto_if 28 with fail
      go_cut [5] from 16 to 44 (fun s5 wc => ∃ (A : Option Addr) (c : Nat) (D : List MarkD), s5 = .slice A D.length c ∧ D.length + j ≤ 5 ∧ w.heap.size ≤ wc.heap.size ∧ Hid (wc.ownsRow w.heap.size 42 3 (.slice A D.length c) D.length (D.flatMap markC)) ∧ Hid (Src wc B g) ∧ Hid (w.grownBy wc (some g)))
      case first =>
        by_cases hto : at_ + 1 + q ≤ (t.size : Int)
        · go_wp2_with fail
          refine (l01Next_c B g (4) w5 HQw5.out (by omega)).mono ?_
          rintro e w6 ⟨v, rfl, ⟨hv0, hv1⟩, hqw6, hgw6⟩
          have HQw6 := Lib.hid hqw6; have HGw6 := Lib.hid (grown_trans' HGw5.out hgw6); have hzw6 := hgw6.size
          clear hqw6
          have HO6 := Lib.hid (HO5.out.kept hgw6 (.inr (fun e => by have := HO5.out.lt _ e; omega)))
          go_wp2_with (first | (at_builtin; refine wpList_push w6 rfl _ _ 24 rfl w.heap.size 42 i0 _ 3 24 Try.underlying24 hi hz0 hz1 hz2 rfl (by decide) (.slice A D.length c) (D.length) (D.flatMap markC) (by rfl) HO6.out [.int .i64 at_, .int .i64 (at_ + 1 + q), .int .i64 (1 + v)] 42 (by rfl) rfl (by simp [Value.oneCell']) (by unfold maxLen; omega) (by omega) (by omega) ?_; intro A7 c7 w7 ho7 hg7; have HO7 := Lib.hid (own_snocK (y := ⟨at_, at_ + 1 + q, 1 + v⟩) ho7); have HQw7 := Lib.hid (HQw6.out.other hg7 (fun k hk => by have := HO6.out.lt k hk; omega)); have HGw7 := Lib.hid (HGw6.out.andThen hg7 (fun k hk => .inl (by have := HO6.out.lt k hk; omega))); have hz7 := hg7.size; clear ho7 hg7))
          go_meet
          case rel => exact ⟨A7, c7, D ++ [⟨at_, at_ + 1 + q, 1 + v⟩], by simp, by simp; omega, by omega, HO7, HQw7, HGw7⟩
        · go_wp2
          go_meet
          case rel => exact ⟨A, c, D, rfl, by omega, by omega, HO5, HQw5, HGw5⟩
      case rest =>
        obtain ⟨A2, c2, D2, rfl, hj2, hzc, HO6, HQw6, HGw6⟩ := hcut
        obtain ⟨w6, rfl⟩ : ∃ x, x = wc := ⟨_, rfl⟩
        clear HO5
        go_wp2_with fail
        refine (l01Next_c B g (5) w6 HQw6.out (by omega)).mono ?_
        rintro e w7 ⟨b, rfl, ⟨hb0, hb1⟩, hqw7, hgw7⟩
        have HQw7 := Lib.hid hqw7; have HGw7 := Lib.hid (grown_trans' HGw6.out hgw7); have hzw7 := hgw7.size
        clear hqw7
        have HO7 := Lib.hid (HO6.out.kept hgw7 (.inr (fun e => by have := HO6.out.lt _ e; omega)))
        go_wp2_with fail
        generalize hW8 : w7.alloc _ = W8
        have hbW8 : Below w7.heap.size w7 W8 := by subst hW8; exact (Below.refl _ _).alloc (Nat.le_refl _) _
        have hsW8 : W8.heap.size = w7.heap.size + 1 := by subst hW8; simp
        have cxW8_0 : ∀ i, W8.cell? ⟨w7.heap.size, i, none⟩ = (#[.int .i64 0, .int .i64 b] : Array Value)[i]? := by intro i; subst hW8; simp [go_sem]
        have fzW8_0 : ∀ i, W8.frozen? ⟨w7.heap.size, i, none⟩ = false := by intro i; subst hW8; simp [go_sem]
        have HSW8 := Lib.hid hsW8; clear hW8 hsW8
        have HQW8 := Lib.hid (HQw7.out.below hbW8); have HGW8 := Lib.hid (grown_trans' HGw7.out (grown_of_below hbW8 _)); have hzW8 : W8.heap.size = w7.heap.size + 1 := HSW8.out
        clear HSW8
        have HO8 := Lib.hid (own_below HO7.out hbW8)
        refine (l01Pick_c B g (w7.heap.size) 0 _ [0, b] W8 HQW8.out (by omega) (pick_box (L := [0, b]) (fun i => by exact cxW8_0 i)) (by simp) (by simp) (by simp)).mono ?_
        rintro e w9 ⟨p, rfl, hpm, hqw9, hgw9⟩
        have HQw9 := Lib.hid hqw9; have HGw9 := Lib.hid (grown_trans' HGW8.out hgw9); have hzw9 := hgw9.size; have Hpm := Lib.hid hpm
        clear hqw9 hpm
        have HO9 := Lib.hid (HO8.out.kept hgw9 (.inr (fun e => by have := HO8.out.lt _ e; omega)))
        have hp : p = 0 ∨ p = b := by simpa using Hpm.out
        have hpb : 0 ≤ p ∧ p ≤ 5 := by omega
        clear hp
        go_wp2
        go_roundw
        case rel => exact ⟨A2, c2, D2, at_ + 1 + q + p, j - 1, by go_num, rfl, rfl, by omega, by omega, by omega, HO9, HQw9, HGw9⟩
        case measure => simp [intOf]; omega
    · obtain rfl : j = 0 := by omega
      go_wp2_with fail
      refine (l01Next_c B g (40) wr HQwr.out (by omega)).mono ?_
      rintro e w5 ⟨r, rfl, ⟨hr0, hr1⟩, hqw5, hgw5⟩
      have HQw5 := Lib.hid hqw5; have HGw5 := Lib.hid (grown_trans' HGwr.out hgw5); have hzw5 := hgw5.size
      clear hqw5
      have HO5 := Lib.hid (HOr.out.kept hgw5 (.inr (fun e => by have := HOr.out.lt _ e; omega)))
      by_cases h0 : r = 0
      · subst h0
        go_wp2
        go_ret2
        exact ⟨_, A, c, D, rfl, by simp only [ByteArray.size_append]; show t.size + 1 ≤ 401; omega, by omega, HO5.out, HQw5.out, HGw5.out⟩
      by_cases h1 : r = 1
      · subst h1
        go_wp2_with (first | (at_builtin; refine wpList_push w5 rfl _ _ 24 rfl w.heap.size 42 i0 _ 3 24 Try.underlying24 hi hz0 hz1 hz2 rfl (by decide) (.slice A D.length c) (D.length) (D.flatMap markC) (by rfl) HO5.out [.int .i64 0, .int .i64 1, .int .i64 1] 42 (by rfl) rfl (by simp [Value.oneCell']) (by unfold maxLen; omega) (by omega) (by omega) ?_; intro A7 c7 w7 ho7 hg7; have HO7 := Lib.hid (own_snocK (y := ⟨0, 1, 1⟩) ho7); have HQw7 := Lib.hid (HQw5.out.other hg7 (fun k hk => by have := HO5.out.lt k hk; omega)); have HGw7 := Lib.hid (HGw5.out.andThen hg7 (fun k hk => .inl (by have := HO5.out.lt k hk; omega))); have hz7 := hg7.size; clear ho7 hg7))
        go_ret2
        exact ⟨t, A7, c7, D ++ [⟨0, 1, 1⟩], by simp, by omega, by simp; omega, HO7.out, HQw7.out, HGw7.out⟩
      by_cases h2 : r = 2
      · subst h2
        go_wp2_with fail
        generalize hW6 : w5.alloc _ = W6
        have hbW6 : Below w5.heap.size w5 W6 := by subst hW6; exact (Below.refl _ _).alloc (Nat.le_refl _) _
        have hsW6 : W6.heap.size = w5.heap.size + 1 := by subst hW6; simp
        have cxW6_0 : ∀ i, W6.cell? ⟨w5.heap.size, i, none⟩ = (#[.int .i64 0, .int .i64 9, .int .i64 10] : Array Value)[i]? := by intro i; subst hW6; simp [go_sem]
        have fzW6_0 : ∀ i, W6.frozen? ⟨w5.heap.size, i, none⟩ = false := by intro i; subst hW6; simp [go_sem]
        have HSW6 := Lib.hid hsW6; clear hW6 hsW6
        have HQW6 := Lib.hid (HQw5.out.below hbW6); have HGW6 := Lib.hid (grown_trans' HGw5.out (grown_of_below hbW6 _)); have hzW6 : W6.heap.size = w5.heap.size + 1 := HSW6.out
        clear HSW6
        have HO6 := Lib.hid (own_below HO5.out hbW6)
        refine (l01Pick_c B g (w5.heap.size) 0 _ [0, 9, 10] W6 HQW6.out (by omega) (pick_box (L := [0, 9, 10]) (fun i => by exact cxW6_0 i)) (by simp) (by simp) (by simp)).mono ?_
        rintro e w7 ⟨p, rfl, hpm, hqw7, hgw7⟩
        have HQw7 := Lib.hid hqw7; have HGw7 := Lib.hid (grown_trans' HGW6.out hgw7); have hzw7 := hgw7.size; have Hpm := Lib.hid hpm
        clear hqw7 hpm
        have HO7 := Lib.hid (HO6.out.kept hgw7 (.inr (fun e => by have := HO6.out.lt _ e; omega)))
        go_wp2_with (first | (at_builtin; refine wpList_push w7 rfl _ _ 24 rfl w.heap.size 42 i0 _ 3 24 Try.underlying24 hi hz0 hz1 hz2 rfl (by decide) (.slice A D.length c) (D.length) (D.flatMap markC) (by rfl) HO7.out [.int .i64 at_, .int .i64 (at_ + 1), .int .i64 p] 42 (by rfl) rfl (by simp [Value.oneCell']) (by unfold maxLen; omega) (by omega) (by omega) ?_; intro A8 c8 w8 ho8 hg8; have HO8 := Lib.hid (own_snocK (y := ⟨at_, at_ + 1, p⟩) ho8); have HQw8 := Lib.hid (HQw7.out.other hg8 (fun k hk => by have := HO7.out.lt k hk; omega)); have HGw8 := Lib.hid (HGw7.out.andThen hg8 (fun k hk => .inl (by have := HO7.out.lt k hk; omega))); have hz8 := hg8.size; clear ho8 hg8))
        go_ret2
        exact ⟨t, A8, c8, D ++ [⟨at_, at_ + 1, p⟩], by simp, by omega, by simp; omega, HO8.out, HQw8.out, HGw8.out⟩
      by_cases h3 : r = 3
      · subst h3
        clear HOr HQwr HGwr
        go_wp2
        go_loopw [4] (fun sv wr => ∃ (t : ByteArray), sv = .string t ∧ t.size ≤ 401 ∧ w.heap.size ≤ wr.heap.size ∧ Hid (wr.ownsRow w.heap.size 42 3 (.slice A D.length c) D.length (D.flatMap markC)) ∧ Hid (Src wr B g) ∧ Hid (w.grownBy wr (some g)))
          (fun sv _ => 500 - strLen sv)
        case atStart => exact ⟨t, rfl, by omega, by omega, HO5.out, HQw5.out, HGw5.out⟩
        case round =>
          obtain ⟨v0, rfl⟩ : ∃ v0, v0 = wr := ⟨_, rfl⟩
          obtain ⟨t2, rfl, ht2, hzv, HOv, HQv0, HGv0⟩ := hrel
          clear HO5
          go_wp2_with fail
          refine (l01Next_c B g (2) v0 HQv0.out (by omega)).mono ?_
          rintro e v1 ⟨a2, rfl, ⟨ha20, ha21⟩, hqv1, hgv1⟩
          have HQv1 := Lib.hid hqv1; have HGv1 := Lib.hid (grown_trans' HGv0.out hgv1); have hzv1 := hgv1.size
          clear hqv1
          have HO1 := Lib.hid (HOv.out.kept hgv1 (.inr (fun e => by have := HOv.out.lt _ e; omega)))
          by_cases hgo : (t2.size : Int) < 400 + a2
          · go_wp2
            go_roundw
            case rel => exact ⟨_, rfl, by simp only [ByteArray.size_append]; show t2.size + 1 ≤ 401; omega, by omega, HO1, HQv1, HGv1⟩
            case measure => simp only [strLen, ByteArray.size_append]; show 500 - (t2.size + 1) < 500 - t2.size; omega
          · go_wp2
            go_ret2
            exact ⟨t2, A, c, D, rfl, by omega, by omega, HO1.out, HQv1.out, HGv1.out⟩
      have h4 : 4 ≤ r := by omega
      go_wp2
      go_ret2
      exact ⟨t, A, c, D, rfl, by omega, by omega, HO5.out, HQw5.out, HGw5.out⟩
end Go.Proofs.Ytgckkocndhfbnaa
