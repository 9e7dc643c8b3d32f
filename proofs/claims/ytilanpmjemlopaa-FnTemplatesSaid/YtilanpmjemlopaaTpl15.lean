/- Contract: impl.MissingOf. -/
import Derived.Test.YtilanpmjemlopaaTpl14
namespace Go.Proofs.Ytilanpmjemlopaa
open Go.RowKit
set_option linter.unusedVariables false
noncomputable def missN (s : ByteArray) (V : List ValueD) : List ByteArray := match tplOf s with
  | none => []
  | some T => if valsOk V = true then missV V T else []
noncomputable def missE (s : ByteArray) (V : List ValueD) : Int := match tplOf s with
  | none => 6
  | some _ => if valsOk V = true then 0 else 1
noncomputable def MissP (s : ByteArray) (V : List ValueD) (w : World) (e : Ending) (w' : World) : Prop := RowPost2 9 1 (missN s V).length ((missN s V).map Value.string) (missE s V) w e w'
theorem miss_1 {s : ByteArray} {V : List ValueD} (h : tplOf s = none) : missN s V = [] ∧ missE s V = 6 := by unfold missN missE; rw [h]; exact ⟨rfl, rfl⟩
theorem miss_2 {s : ByteArray} {V : List ValueD} {T : List PtD} (h : tplOf s = some T) (hv : valsOk V = false) : missN s V = [] ∧ missE s V = 1 := by unfold missN missE; rw [h]; simp [hv]
theorem miss_3 {s : ByteArray} {V : List ValueD} {T : List PtD} (h : tplOf s = some T) (hv : valsOk V = true) : missN s V = missV V T ∧ missE s V = 0 := by unfold missN missE; rw [h]; simp [hv]
theorem tpl_size {s : ByteArray} {T : List PtD} (h : tplOf s = some T) : s.size ≤ 600 := by
  unfold tplOf at h
  split at h
  · rename_i h2
    unfold isPlainB at h2
    rw [Bool.and_eq_true] at h2
    have := h2.2
    simp at this
    omega
  · cases h
theorem rplQ_some_len (s : List UInt8) (D : List PlD) (h : rpQ specC s = some D) : D.length ≤ 2 * s.length := rpQ_len specC _ s D (Nat.le_refl _) h
theorem rtmQ_wt (q : UInt8 → Bool) : ∀ (f : Nat) (s : List UInt8) (T : List PtD), rtmQ q f s = some T → wtT T ≤ 2 * s.length
  | 0, s, T, h => by unfold rtmQ at h; cases h
  | f + 1, s, T, h => by
    unfold rtmQ at h
    cases hc : cutP (isC 91) s with
    | none =>
      rw [hc] at h
      simp only [] at h
      cases hp : rpQ q s with
      | none => rw [hp] at h; cases h
      | some P => rw [hp] at h; cases h; rw [wtT_pt]; exact rpQ_len q _ s P (Nat.le_refl _) hp
    | some x =>
      obtain ⟨a, b, r⟩ := x
      have l1 := cutP_len hc
      rw [hc] at h
      simp only [] at h
      cases hp : rpQ q a with
      | none => rw [hp] at h; cases h
      | some P =>
        have lp := rpQ_len q _ a P (Nat.le_refl _) hp
        rw [hp] at h
        simp only [] at h
        cases hd : cutP (isC 93) r with
        | none => rw [hd] at h; cases h
        | some y =>
          obtain ⟨m, b2, r2⟩ := y
          have l2 := cutP_len hd
          rw [hd] at h
          simp only [] at h
          cases he : cutP (isC 124) m with
          | none => rw [he] at h; cases h
          | some z =>
            obtain ⟨n, b3, t⟩ := z
            have l3 := cutP_len he
            rw [he] at h
            simp only [] at h
            cases hi : rpQ q t with
            | none => rw [hi] at h; cases h
            | some I =>
              have li := rpQ_len q _ t I (Nat.le_refl _) hi
              rw [hi] at h
              simp only [] at h
              by_cases hw : isWordB (mkB n) = true
              · rw [if_pos hw] at h
                cases hr : rtmQ q f r2 with
                | none => rw [hr] at h; cases h
                | some E =>
                  rw [hr] at h; cases h
                  have := rtmQ_wt q f r2 E hr
                  rw [wtT_app, wtT_app, wtT_pt]
                  simp only [wtT, secOf]
                  omega
              · rw [if_neg hw] at h; cases h
theorem tpl_wt {s : ByteArray} {T : List PtD} (h : tplOf s = some T) : wtT T ≤ 1200 := by
  have h1 := tpl_size h
  unfold tplOf at h
  split at h
  · have := rtmQ_wt specC _ _ T h
    rw [len_data] at this
    omega
  · cases h
set_option maxRecDepth 100000 in
set_option maxHeartbeats 2000000 in
theorem impl_MissingOf (s : ByteArray) (A : Option Addr) (c : Nat) (V : List ValueD) (w : World) (hs : s.size ≤ 2000000) (m : Int) (hm : w.cell? ⟨0, 0, none⟩ = some (.int .i64 m)) (hr : Rd w w.heap.size A (V.length * 2) (V.flatMap valueC)) (hl : V.length ≤ 140737488355328) (hcap : V.length ≤ c) (hW : ∀ x ∈ V, ValueW x) :
    Calls Try.prog 8 #[.string s, .slice A V.length c] w (MissP s V w) := by
  have HR := Lib.hid hr; have HW := Lib.hid hW
  clear hr hW
  have hrt := readTemplate_c s w hs m hm
  have HRT := Lib.hid hrt
  clear hrt hm
  go_enter Try.func8, Try.ntmps8
  go_wp2_with fail
  refine HRT.out.mono ?_
  intro e w2 h2
  rcases h2 with ⟨ht, rfl, hb2⟩ | ⟨M, g, c2, ht, rfl, ho2, hin2, hb2⟩
  · have HM := Lib.hid (miss_1 (V := V) ht)
    have HB2 := Lib.hid hb2
    clear ht hb2
    go_wp2
    go_ret2
    unfold MissP
    rw [HM.out.1, HM.out.2]
    exact rowPost2_nil HB2.out
  · have hwt := tpl_wt ht
    have HO2 := Lib.hid ho2; have HI2 := Lib.hid hin2; have HB2 := Lib.hid hb2; have HT := Lib.hid ht
    have HR2 := Lib.hid (rdW hb2 HR.out)
    clear ho2 hin2 hb2 ht
    go_wp2_with fail
    refine (impl_AreValues A c V w2 HR2.out hl hcap HW.out).mono ?_
    rintro e w3 ⟨rfl, hb3⟩
    have HB3 := Lib.hid (bt HB2.out hb3)
    have HR3 := Lib.hid (rdW hb3 HR2.out)
    have HO3 := Lib.hid (own_below HO2.out hb3)
    have HI3 := Lib.hid (HI2.out.below hb3)
    clear hb3 HO2 HI2 HR2 HB2
    cases hv : valsOk V with
    | false =>
      have HM := Lib.hid (miss_2 (V := V) HT.out hv)
      go_wp2
      go_ret2
      unfold MissP
      rw [HM.out.1, HM.out.2]
      exact rowPost2_nil HB3.out
    | true =>
      have HM := Lib.hid (miss_3 (V := V) HT.out hv)
      go_wp2_with fail
      refine (missing_c (some ⟨g, 0, none⟩) c2 M A c V w3 HR3.out hl hcap (Rd.of_own HO3.out) (fun p hp => (HI3.out p hp).1) (by omega)).mono ?_
      rintro e w4 ⟨A4, c4, rfl, ho4, hb4⟩
      have HO4 := Lib.hid ho4
      have HB4 := Lib.hid (bt HB3.out hb4)
      have hz := HB3.out.size
      clear ho4 hb4
      go_wp2
      go_ret2
      unfold MissP
      rw [HM.out.1, HM.out.2]
      exact rowPost2_mk (own_mono HO4.out hz) HB4.out
end Go.Proofs.Ytilanpmjemlopaa
