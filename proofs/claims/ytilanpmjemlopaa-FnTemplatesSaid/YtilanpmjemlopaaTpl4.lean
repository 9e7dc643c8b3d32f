/- Contract: readPlaces. -/
import Derived.Test.YtilanpmjemlopaaTpl3
namespace Go.Proofs.Ytilanpmjemlopaa
open Go.RowKit
set_option linter.unusedVariables false
def strLenV : Value → Nat
  | .string s => s.size
  | _ => 0
theorem cut_at_b {s : ByteArray} {a r : List UInt8} {b : UInt8} {p : UInt8 → Bool} (h : cutP p s.data.toList = some (a, b, r)) : ∃ (hk : a.length < s.size), s[a.length] = b := by
  have e := (cutP_parts h).1
  have hl := cutP_len h
  rw [len_data] at hl
  have hk : a.length < s.size := by omega
  refine ⟨hk, ?_⟩
  have h2 : s.data.toList[a.length]? = some b := by rw [e]; simp
  rw [List.getElem?_eq_getElem (by rw [len_data]; exact hk)] at h2
  exact Option.some.inj h2
attribute [local go_sem ↓ high] run_index_tb
set_option maxRecDepth 100000 in
set_option maxHeartbeats 4000000 in
theorem readPlaces_c (s : ByteArray) (w : World) (hs : s.size ≤ 2000000) (hp : plainL s = true) (m : Int) (hm : w.cell? ⟨0, 0, none⟩ = some (.int .i64 m)) : Calls Try.prog 52 #[.string s] w (ReadP s w) := by
  obtain ⟨i0, hi, hz0, hz1, hz2⟩ := info_parts part_info
  have HM := Lib.hid hm
  have hml := block_lt_of_cell hm
  clear hm
  go_enter Try.func52, Try.ntmps52
  go_wp2_with fail
  have ho := World.ownsRow_lit (base := w.heap.size) (e := 66) (size := 4) w #[] 0 (Nat.le_refl _) (by unfold maxLen; omega) rfl
  generalize hW2 : w.alloc (.cells #[] 66) = W2 at ho ⊢
  have hb2 : Below w.heap.size w W2 := by subst hW2; exact (Below.refl _ _).alloc (Nat.le_refl _) _
  have HO := Lib.hid ho
  clear hW2 ho
  go_wp2
  go_loopw [0, 4] (fun sv ov wr => ∃ (cur : ByteArray) (A : Option Addr) (c : Nat) (D : List PlD), sv = .string cur ∧ ov = .slice A D.length c ∧ Hid (RI s D cur) ∧ Hid (wr.ownsRow w.heap.size 66 4 (.slice A D.length c) D.length (D.flatMap plC)) ∧ Below w.heap.size w wr)
    (fun sv _ _ => strLenV sv)
  case atStart => exact ⟨s, _, _, [], rfl, rfl, RI.start hp, HO, hb2⟩
  case round =>
    obtain ⟨cur, A, c, D, rfl, rfl, HI, HOr, hB⟩ := hrel
    clear HO hb2
    have hpl := HI.out.2.1
    have hcs := HI.out.2.2.1
    have hDl := HI.out.2.2.2
    have hzr := hB.size
    by_cases h0 : cur.size = 0
    · have hce : cur = ⟨#[]⟩ := ba_ext (List.length_eq_zero_iff.1 (by rw [len_data]; exact h0))
      subst hce
      have HD := Lib.hid (HI.out.done rfl)
      go_wp2
      go_ret2
      exact .inr ⟨D, A, c, HD.out, rfl, HOr.out, hB⟩
    · have hcb : (cur.toList == ([] : List UInt8)) = false := by
        rw [beq_eq_false_iff_ne, Go.ByteArray.toList_eq]
        intro e
        exact h0 (by rw [← len_data, e]; rfl)
      cases hc : cutP specC cur.data.toList with
      | none =>
        have HT := Lib.hid (HI.out.text h0 hc)
        have hia : Lib.indexAny cur.data.toList (⟨#[123, 125, 91, 93, 124]⟩ : ByteArray).data.toList = -1 := by have := any_rel cur.data.toList; rw [hc] at this; exact this
        clear hc
        go_wp2_with fail
        refine (Try.strings_IndexAny_laid cur ⟨#[123, 125, 91, 93, 124]⟩ wr (by omega) (by decide) (plain_ascii hpl) spec_ascii).mono ?_
        rintro e w2 ⟨rfl, hb2⟩
        rw [hia]
        clear hia
        have HO2 := Lib.hid (own_below HOr.out hb2)
        have HB2 := Lib.hid (bt hB hb2)
        have hzw2 := hb2.size
        go_wp2_with (first | (at_builtin; refine wpList_push w2 rfl _ _ 52 rfl w.heap.size 66 i0 _ 4 64 Try.underlying52 hi hz0 hz1 hz2 rfl (by decide) (.slice A D.length c) (D.length) (D.flatMap plC) (by rfl) HO2.out [.string cur, .string ⟨#[]⟩, .bool false, .slice none 0 0] 66 (by rfl) rfl (by simp [Value.oneCell']) (by unfold maxLen; omega) (by omega) (by omega) ?_; intro A7 c7 w7 ho7 hg7; have HO7 := Lib.hid (own_snocP (y := ⟨cur, ⟨#[]⟩⟩) ho7); have hb7 := below_grown HB2.out hg7 (Nat.le_refl _) (fun k hk => HO2.out.lt k hk |>.1); clear ho7 hg7))
        go_ret2
        exact .inr ⟨D ++ [⟨cur, ⟨#[]⟩⟩], A7, c7, HT.out, by simp, HO7.out, hb7⟩
      | some x =>
        obtain ⟨a, b, r⟩ := x
        obtain ⟨hka, hsb⟩ := cut_at_b hc
        have hia : Lib.indexAny cur.data.toList (⟨#[123, 125, 91, 93, 124]⟩ : ByteArray).data.toList = (a.length : Int) := by have := any_rel cur.data.toList; rw [hc] at this; exact this
        have hal : (a.length : Int) < (cur.size : Int) := by omega
        have ha0 : (0 : Int) ≤ (a.length : Int) := by omega
        have hnl : ¬ (a.length : Int) < 0 := by omega
        go_wp2_with fail
        refine (Try.strings_IndexAny_laid cur ⟨#[123, 125, 91, 93, 124]⟩ wr (by omega) (by decide) (plain_ascii hpl) spec_ascii).mono ?_
        rintro e w2 ⟨rfl, hb2⟩
        rw [hia]
        clear hia
        have HO2 := Lib.hid (own_below HOr.out hb2)
        have HB2 := Lib.hid (bt hB hb2)
        have hzw2 := hb2.size
        by_cases hb : b = 123
        · subst hb
          have hsn : ((cur[a.length].toNat : Nat) : Int) = 123 := by rw [hsb]; rfl
          have hwa : IntKind.i64.wrap ((a.length : Int) + 1) = ((a.length + 1 : Nat) : Int) := by rw [IntWalk.i64_in _ (by omega)]; rfl
          have ha1 : ((a.length + 1 : Nat) : Int) ≤ (cur.size : Int) := by omega
          have ha10 : (0 : Int) ≤ ((a.length + 1 : Nat) : Int) := by omega
          have hal2 : (a.length : Int) ≤ (cur.size : Int) := by omega
          have hrs : cur.extract (a.length + 1) cur.size = mkB r := by
            rw [mk_drop]
            have := congrArg (fun (l : List UInt8) => l.drop (a.length + 1)) (cutP_parts hc).1
            simpa using congrArg mkB this
          have has : cur.extract 0 a.length = mkB a := by
            rw [mk_take]
            have := congrArg (fun (l : List UInt8) => l.take a.length) (cutP_parts hc).1
            simpa using congrArg mkB this
          have hrz : r.length ≤ 2000000 := by have := cutP_len hc; rw [len_data] at this; omega
          have HRS := Lib.hid hrs
          have HAS := Lib.hid has
          clear hrs has
          go_wp2_with fail
          rw [HRS.out]
          refine (Try.strings_Cut (mkB r) ⟨#[125]⟩ m w2 (by rw [mkB_size]; omega) ((HB2.out.cell hml).trans HM.out)).mono ?_
          rintro e w3 ⟨rfl, q3, hw3⟩
          have hbd : Below w2.heap.size w2 w3 := by rw [hw3]; exact below_drewN (Below.refl _ _) q3
          have HO3 := Lib.hid (own_below HO2.out hbd)
          have HB3 := Lib.hid (bt HB2.out hbd)
          have hzw3 := hbd.size
          clear hw3 hbd
          have hcr : Lib.cut (mkB r).data.toList (⟨#[125]⟩ : ByteArray).data.toList = match cutP (isC 125) r with | none => (r, [], false) | some x => (x.1, x.2.2, true) := cut_rel r 125
          cases hn : cutP (isC 125) r with
          | none =>
            have HN := Lib.hid (HI.out.bad2 h0 hc hn)
            rw [hn] at hcr
            simp only [] at hcr
            rw [hcr]
            clear hcr hc hn
            go_wp2
            go_ret2
            exact .inl ⟨HN.out, rfl, HB3.out⟩
          | some y =>
            obtain ⟨n, b2, r2⟩ := y
            rw [hn] at hcr
            simp only [] at hcr
            rw [hcr]
            clear hcr
            have hnz : (mkB n).size ≤ 9223372036854775807 := by rw [mkB_size]; have := cutP_len hn; omega
            cases hw : isWordB (mkB n) with
            | false =>
              have HN := Lib.hid (HI.out.bad3 h0 hc hn hw)
              clear hc hn
              go_wp2_with (first | (go_at_call 53; refine (impl_IsWord _ _ _ hnz hw).mono ?_; rintro e w' ⟨rfl, rfl⟩))
              go_ret2
              exact .inl ⟨HN.out, rfl, HB3.out⟩
            | true =>
              obtain ⟨hRI, hlt⟩ := HI.out.next h0 hc hn hw
              have HRI := Lib.hid hRI
              clear hc hn hRI
              have hbl := (Below.refl w3.heap.size w3).alloc (Nat.le_refl _) (.cells #[.string (cur.extract 0 a.length), .string ⟨#[]⟩, .bool false, .slice none 0 0, .string ⟨#[]⟩, .string ⟨n.toArray⟩, .bool false, .slice none 0 0] 66)
              have HOL := Lib.hid (own_below HO3.out hbl)
              have hlit := World.ownsRow_lit (base := w3.heap.size) (e := 66) (size := 4) w3 #[.string (cur.extract 0 a.length), .string ⟨#[]⟩, .bool false, .slice none 0 0, .string ⟨#[]⟩, .string ⟨n.toArray⟩, .bool false, .slice none 0 0] 2 (Nat.le_refl _) (by unfold maxLen; omega) rfl
              have HRL := Lib.hid (show Rd (w3.alloc (.cells #[.string (cur.extract 0 a.length), .string ⟨#[]⟩, .bool false, .slice none 0 0, .string ⟨#[]⟩, .string ⟨n.toArray⟩, .bool false, .slice none 0 0] 66)) (w3.alloc (.cells #[.string (cur.extract 0 a.length), .string ⟨#[]⟩, .bool false, .slice none 0 0, .string ⟨#[]⟩, .string ⟨n.toArray⟩, .bool false, .slice none 0 0] 66)).heap.size (some ⟨w3.heap.size, 0, none⟩) (2 * 4) (plC (⟨cur.extract 0 a.length, ⟨#[]⟩⟩ : PlD) ++ plC (⟨⟨#[]⟩, mkB n⟩ : PlD)) from Rd.of_own hlit)
              have HBL := Lib.hid (bt HB3.out hbl)
              have hzl := hbl.size
              have hone : ∀ u ∈ plC (⟨cur.extract 0 a.length, ⟨#[]⟩⟩ : PlD) ++ plC (⟨⟨#[]⟩, mkB n⟩ : PlD), u.oneCell' = true := by
                intro u hu
                simp only [plC, List.cons_append, List.nil_append, List.mem_cons, List.not_mem_nil, or_false] at hu
                rcases hu with rfl | rfl | rfl | rfl | rfl | rfl | rfl | rfl <;> rfl
              have HONE := Lib.hid hone
              clear hlit hbl hone
              go_wp2_with (first | (go_at_call 53; refine (impl_IsWord _ _ _ hnz hw).mono ?_; rintro e w' ⟨rfl, rfl⟩) | (at_builtin; refine wpList_cat _ rfl _ _ 52 rfl w.heap.size 66 i0 _ 4 64 Try.underlying52 hi hz0 hz1 hz2 rfl (by decide) (.slice A D.length c) (D.length) (D.flatMap plC) (by rfl) HOL.out (some ⟨w3.heap.size, 0, none⟩) (2) 2 (w3.alloc (.cells #[.string (cur.extract 0 a.length), .string ⟨#[]⟩, .bool false, .slice none 0 0, .string ⟨#[]⟩, .string ⟨n.toArray⟩, .bool false, .slice none 0 0] 66)).heap.size ((plC (⟨cur.extract 0 a.length, ⟨#[]⟩⟩ : PlD) ++ plC (⟨⟨#[]⟩, mkB n⟩ : PlD))) (by rfl) HRL.out HONE.out (by unfold maxLen; omega) (by omega) (by omega) ?_; intro A7 c7 w7 ho7 hg7; have HO7 := Lib.hid (own_two ho7); have hb7 := below_grown HBL.out hg7 (Nat.le_refl _) (fun k hk => HOL.out.lt k hk |>.1); clear ho7 hg7))
              go_roundw
              case rel => exact ⟨mkB r2, A7, c7, D ++ [(⟨cur.extract 0 a.length, ⟨#[]⟩⟩ : PlD), (⟨⟨#[]⟩, mkB n⟩ : PlD)], rfl, by simp, by rw [HAS.out]; exact HRI.out, HO7, hb7⟩
              case measure => exact hlt
        · have HN := Lib.hid (HI.out.bad1 h0 hc hb)
          have hsn : (((cur[a.length].toNat : Nat) : Int) != 123) = true := bne_iff_ne.2 (fun e => hb (by rw [← hsb]; exact UInt8.toNat_inj.1 (by have : (123 : UInt8).toNat = 123 := rfl; omega)))
          clear hc hsb
          go_wp2
          go_ret2
          exact .inl ⟨HN.out, rfl, HB2.out⟩
end Go.Proofs.Ytilanpmjemlopaa
