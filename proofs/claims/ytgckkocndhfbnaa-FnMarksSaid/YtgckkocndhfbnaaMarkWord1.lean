/- Contracts: MarkWord of both texts. -/
import Derived.Test.YtgckkocndhfbnaaAddM
import Derived.Test.YtgckkocndhfbnaaTouch
import Derived.Test.YtgckkocndhfbnaaWord
namespace Go.Proofs.Ytgckkocndhfbnaa
open Go.RowKit
set_option linter.unusedVariables false
def eqAt (s t : ByteArray) (a e : Nat) : Bool := (s.extract a e).toList == t.toList
def mwGo (ins : List MarkD → MarkD → List MarkD) (s t : ByteArray) (L : List MarkD) (lv : Int) : Nat → Nat → List MarkD → List MarkD
  | 0, _, D => D
  | f + 1, a, D => if a + t.size ≤ s.size then (if eqAt s t a (a + t.size) then mwGo ins s t L lv f (a + t.size) (if hitB (a : Int) ((a + t.size : Nat) : Int) L then D else ins D ⟨(a : Int), ((a + t.size : Nat) : Int), lv⟩) else mwGo ins s t L lv f (a + 1) D) else D
section
variable {ins : List MarkD → MarkD → List MarkD} {s t : ByteArray} {L D : List MarkD} {lv : Int} {f a e : Nat}
theorem mw_end (h : s.size < a + t.size) : mwGo ins s t L lv f a D = D := by
  cases f with
  | zero => rfl
  | succ f => rw [mwGo, if_neg (by omega)]
theorem mw_miss (he : a + t.size = e) (h : e ≤ s.size) (hq : eqAt s t a e = false) : mwGo ins s t L lv (f + 1) a D = mwGo ins s t L lv f (a + 1) D := by
  subst he; rw [mwGo, if_pos h, hq]; rfl
theorem mw_hit (he : a + t.size = e) (h : e ≤ s.size) (hq : eqAt s t a e = true) (hh : hitB (a : Int) (e : Int) L = true) : mwGo ins s t L lv (f + 1) a D = mwGo ins s t L lv f e D := by
  subst he; rw [mwGo, if_pos h, hq, if_pos rfl, if_pos hh]
theorem mw_ins (he : a + t.size = e) (h : e ≤ s.size) (hq : eqAt s t a e = true) (hh : hitB (a : Int) (e : Int) L = false) : mwGo ins s t L lv (f + 1) a D = mwGo ins s t L lv f e (ins D ⟨(a : Int), (e : Int), lv⟩) := by
  subst he; rw [mwGo, if_pos h, hq, if_pos rfl, hh]; rfl
end
theorem mem_ins {i : Nat} {D : List MarkD} {m x : MarkD} (h : x ∈ insAt i D m) : x ∈ D ∨ x = m := by
  unfold insAt at h
  rcases List.mem_append.1 h with h1 | h1
  · exact .inl (List.mem_of_mem_take h1)
  · rcases List.mem_cons.1 h1 with h2 | h2
    · exact .inr h2
    · exact .inl (List.mem_of_mem_drop h2)
theorem mw_same {s t : ByteArray} {L : List MarkD} {lv : Int} (hv : ∀ o ∈ L, o.from_ < o.to) (ht : 1 ≤ t.size) : ∀ (f a : Nat) (D : List MarkD), (∀ x ∈ D, x ∈ L ∨ x.from_ < (a : Int)) → mwGo insS s t L lv f a D = mwGo insI s t L lv f a D
  | 0, _, _, _ => rfl
  | f + 1, a, D, hD => by
    by_cases h1 : a + t.size ≤ s.size
    · cases hq : eqAt s t a (a + t.size)
      · rw [mw_miss rfl h1 hq, mw_miss rfl h1 hq]
        exact mw_same hv ht f (a + 1) D fun x hx => by rcases hD x hx with h | h; exact .inl h; exact .inr (by omega)
      · cases hh : hitB (a : Int) ((a + t.size : Nat) : Int) L
        · rw [mw_ins rfl h1 hq hh, mw_ins rfl h1 hq hh]
          have hne : ∀ x ∈ D, x.from_ ≠ (a : Int) := by
            intro x hx
            rcases hD x hx with h | h
            · intro e
              unfold hitB at hh
              rw [List.any_eq_false] at hh
              have h2 := hh x h
              have h3 := hv x h
              unfold hit1 at h2
              rw [decide_eq_true (by omega), decide_eq_true (by omega)] at h2
              exact h2 rfl
            · omega
          have e1 : insS D ⟨(a : Int), ((a + t.size : Nat) : Int), lv⟩ = insI D ⟨(a : Int), ((a + t.size : Nat) : Int), lv⟩ := by unfold insS insI; rw [idx_same hne]
          rw [e1]
          refine mw_same hv ht f _ _ fun x hx => ?_
          rcases mem_ins hx with h | h
          · rcases hD x h with h | h
            · exact .inl h
            · exact .inr (by omega)
          · right; rw [h]; show (a : Int) < _; omega
        · rw [mw_hit rfl h1 hq hh, mw_hit rfl h1 hq hh]
          exact mw_same hv ht f _ D fun x hx => by rcases hD x hx with h | h; exact .inl h; exact .inr (by omega)
    · rw [mw_end (by omega), mw_end (by omega)]
def mwAll (s t : ByteArray) (L : List MarkD) (lv : Int) : List MarkD := mwGo insI s t L lv (s.size + 1) 0 L
def mwFin (R : List MarkD) : List MarkD × Int := if R.length ≤ 12 then (R, 0) else ([], 3)
def mwR (s : ByteArray) (L : List MarkD) (t : ByteArray) (lv : Int) : List MarkD × Int := if codeK s L = 0 then (if (inB lv 1 9 && isWordB t) = true then mwFin (mwAll s t L lv) else ([], 2)) else ([], codeK s L)
theorem mwR_bad {s : ByteArray} {L : List MarkD} {t : ByteArray} {lv : Int} (h : codeK s L ≠ 0) : mwR s L t lv = ([], codeK s L) := by rw [mwR, if_neg h]
theorem mwR_rng {s : ByteArray} {L : List MarkD} {t : ByteArray} {lv : Int} (h : codeK s L = 0) (h2 : (inB lv 1 9 && isWordB t) = false) : mwR s L t lv = ([], 2) := by rw [mwR, if_pos h, h2]; rfl
theorem mwR_ok {s : ByteArray} {L : List MarkD} {t : ByteArray} {lv : Int} (h : codeK s L = 0) (h2 : (inB lv 1 9 && isWordB t) = true) : mwR s L t lv = mwFin (mwAll s t L lv) := by rw [mwR, if_pos h, if_pos h2]
theorem mwR_len (s : ByteArray) (L : List MarkD) (t : ByteArray) (lv : Int) : (mwR s L t lv).1.length ≤ 12 := by
  unfold mwR
  split
  · split
    · unfold mwFin
      split
      · assumption
      · simp
    · simp
  · simp
theorem own_hA {W : World} {b : Nat} {ty : TypeId} {sz n c : Nat} {A : Option Addr} {xs : List Value} (h : W.ownsRow b ty sz (.slice A n c) n xs) : (A = none ∧ c = 0) ∨ ∃ b off, A = some ⟨b, off, none⟩ := by
  rcases h.2 with ⟨h0, _⟩ | ⟨g, cap, cur, hv, _⟩
  · injection h0 with h1 h2 h3; exact .inl ⟨h1, h3⟩
  · injection hv with h1; exact .inr ⟨g, 0, h1⟩
set_option maxRecDepth 100000 in
set_option maxHeartbeats 8000000 in
theorem impl_MarkWord (s : ByteArray) (A : Option Addr) (c : Nat) (L : List MarkD) (t : ByteArray) (lv : Int) (w : World) (hs : s.size ≤ 1048576) (hr : Rd w w.heap.size A (L.length * 3) (L.flatMap markC)) (hl : L.length ≤ 140737488355328) (hcap : L.length ≤ c) (htz : t.size ≤ 9223372036854775807) :
    Calls Try.prog 29 #[.string s, .slice A L.length c, .string t, .int .i64 lv] w (RowPost2 42 3 (mwR s L t lv).1.length ((mwR s L t lv).1.flatMap markC) (mwR s L t lv).2 w) := by
  have hcode := fun (W : World) a => marksCode_c s A c L W hs a hl hcap
  by_cases h0 : codeK s L = 0
  · obtain ⟨hT, hM⟩ := codeK_0 h0
    have h12 := (marks_parts hM).1
    have h400 := text_len hT
    rw [h0] at hcode
    have HC := Lib.hid hcode
    clear hcode
    cases hg : (inB lv 1 9 && isWordB t)
    · rw [mwR_rng h0 hg]
      cases hlv : inB lv 1 9
      · go_enter Try.func29, Try.ntmps29
        go_wp2_with fail
        refine (HC.out w hr).mono ?_
        rintro e w1 ⟨rfl, hb1⟩
        go_wp2_with (first | (go_at_call 63; refine (isSecret_b _ _ _ hlv).mono ?_; rintro e w' ⟨rfl, rfl⟩))
        go_ret2
        exact rowPost2_nil hb1
      · rw [hlv] at hg
        have hw : isWordB t = false := by simpa using hg
        clear hg
        go_enter Try.func29, Try.ntmps29
        go_wp2_with fail
        refine (HC.out w hr).mono ?_
        rintro e w1 ⟨rfl, hb1⟩
        go_wp2_with (first | (go_at_call 63; refine (isSecret_b _ _ _ hlv).mono ?_; rintro e w' ⟨rfl, rfl⟩) | (go_at_call 64; refine (impl_IsWord _ _ _ htz hw).mono ?_; rintro e w' ⟨rfl, rfl⟩))
        go_ret2
        exact rowPost2_nil hb1
    · rw [mwR_ok h0 hg]
      have hg2 := hg
      rw [Bool.and_eq_true] at hg2
      have hlv := hg2.1
      have hw := hg2.2
      have htl := word_len hw
      have hv : ∀ o ∈ L, o.from_ < o.to := fun o ho => by
        obtain ⟨j, hj, rfl⟩ := List.getElem_of_mem ho
        exact (marks_elem (n := (s.size : Int)) (by omega) hM hj).2.1
      have HV := Lib.hid hv
      obtain ⟨R, hR⟩ : ∃ R, mwAll s t L lv = R := ⟨_, rfl⟩
      rw [hR]
      have HR0 : Hid (mwGo insI s t L lv (s.size + 1) 0 L = R) := hR
      clear hR hg hg2 hv h0 hT hM
      go_enter Try.func29, Try.ntmps29
      go_wp2_with fail
      refine (HC.out w hr).mono ?_
      rintro e w1 ⟨rfl, hb1⟩
      go_wp2_with (first | (go_at_call 63; refine (isSecret_b _ _ _ hlv).mono ?_; rintro e w' ⟨rfl, rfl⟩) | (go_at_call 64; refine (impl_IsWord _ _ _ htz hw).mono ?_; rintro e w' ⟨rfl, rfl⟩))
      refine (cloneMark_x A c L w1 (rdW hb1 hr) (by omega)).mono ?_
      rintro e w2 ⟨g, rfl, ho2, hb2⟩
      have hBs := bt hb1 hb2
      have hz1 := hb1.size; have hz2 := hb2.size
      have HOs := Lib.hid (own_mono ho2 (base' := w.heap.size) (by omega))
      clear ho2 hlv hw
      try go_wp2
      go_loopw [11, 13] (fun ov av wr => ∃ (A3 : Option Addr) (c3 : Nat) (D : List MarkD) (a f : Nat), av = .int .i64 a ∧ ov = .slice A3 D.length c3 ∧ s.size + 1 ≤ f + a ∧ a ≤ s.size + 16 ∧ D.length + f ≤ s.size + 13 ∧ Hid (mwGo insI s t L lv f a D = R) ∧ w.heap.size ≤ wr.heap.size ∧ Below w.heap.size w wr ∧ Hid (wr.ownsRow w.heap.size 42 3 (.slice A3 D.length c3) D.length (D.flatMap markC)))
        (fun _ av _ => 1000 - (intOf av).toNat)
      case atStart => exact ⟨_, _, L, 0, s.size + 1, rfl, rfl, by omega, by omega, by omega, HR0.out, by omega, hBs, HOs⟩
      case round =>
        obtain ⟨A3, c3, D, a, f, rfl, rfl, hfa, ha, hDf, HRr, hzr, hBr, HOr⟩ := hrel
        clear HOs
        have hcap3 := own_cap HOr.out
        obtain ⟨e, hea⟩ : ∃ e, a + t.size = e := ⟨_, rfl⟩
        have hae : (a : Int) + (t.size : Int) = (e : Int) := by omega
        have ha0 : (0 : Int) ≤ (a : Int) := by omega
        have hae1 : (a : Int) ≤ (e : Int) := by omega
        have hlt1 : a < e := by omega
        by_cases hgo : e ≤ s.size
        · obtain ⟨f, rfl⟩ : ∃ g, f = g + 1 := ⟨f - 1, by omega⟩
          have hgi : (e : Int) ≤ (s.size : Int) := by omega
          cases hq : eqAt s t a e
          · have HR2 := Lib.hid ((mw_miss hea hgo hq).symm.trans HRr.out)
            have hq1 : ((s.extract a e).toList == t.toList) = false := hq
            have hq2 : ((s.extract a e).toList != t.toList) = true := by rw [bne, hq1]; rfl
            have HEA := Lib.hid hea
            clear hq hea
            go_wp2
            go_roundw
            case rel => exact ⟨A3, c3, D, a + 1, f, by go_num, rfl, by omega, by omega, by omega, HR2, by first | omega | (simp; omega), by first | exact hBr | exact hBr.alloc (by omega) _, by first | exact HOr | exact Lib.hid (HOr.out.alloc _)⟩
            case measure => simp [intOf]; omega
          · have hq1 : ((s.extract a e).toList == t.toList) = true := hq
            have hq2 : ((s.extract a e).toList != t.toList) = false := by rw [bne, hq1]; rfl
            cases hh : hitB (a : Int) (e : Int) L
            · have HR2 := Lib.hid ((mw_ins hea hgo hq hh).symm.trans HRr.out)
              have HEA := Lib.hid hea
              have HH := Lib.hid hh
              clear hq hea hh
              go_wp2_with fail
              generalize hW0 : wr.alloc _ = W0
              have hbW0 : Below wr.heap.size wr W0 := by subst hW0; exact (Below.refl _ _).alloc (Nat.le_refl _) _
              have hsW0 : W0.heap.size = wr.heap.size + 1 := by subst hW0; simp
              have cxW0_0 : ∀ i, W0.cell? ⟨wr.heap.size, i, none⟩ = (#[.int .i64 a, .int .i64 e, .int .i64 lv] : Array Value)[i]? := by intro i; subst hW0; simp [go_sem]
              have HSW0 := Lib.hid hsW0; clear hW0 hsW0
              refine (touches_c A c L (a : Int) (e : Int) lv false W0 (rdW (bt hBr hbW0) hr) (by omega) (by omega) HV.out HH.out).mono ?_
              rintro e2 w2 ⟨rfl, hb2⟩
              have hB2 := bt (bt hBr hbW0) hb2
              have hz2 := hb2.size
              have cx := fun i => (hb2.cell (p := ⟨wr.heap.size, i, none⟩) (by have := HSW0.out; simp only; omega)).trans (cxW0_0 i)
              have HO2 := Lib.hid (own_below (own_below HOr.out hbW0) hb2)
              have hzw : wr.heap.size < w2.heap.size := by have := HSW0.out; omega
              clear cxW0_0
              go_wp2_with fail
              refine (put_c A3 c3 D (a : Int) (e : Int) lv w2 (Rd.of_own HO2.out) (by omega) hcap3.1).mono ?_
              rintro e3 w3 ⟨A4, c4, rfl, ho4, hb4, hn4, hm4⟩
              have hB4 := bt hB2 hb4
              have hz4 := hb4.size
              have hil := insI_len D ⟨(a : Int), (e : Int), lv⟩
              have HO4 := Lib.hid (own_mono ho4 (base' := w.heap.size) (by omega))
              have HIL := Lib.hid hil
              have cy := fun i => (hb4.cell (p := ⟨wr.heap.size, i, none⟩) (by simp only; omega)).trans (cx i)
              clear cx
              clear ho4 hil
              go_wp2
              go_roundw
              case rel => exact ⟨A4, c4, insI D ⟨(a : Int), (e : Int), lv⟩, e, f, by go_num, by rw [HIL.out], by omega, by have := HEA.out; omega, by rw [HIL.out]; omega, HR2, by omega, hB4, by rw [HIL.out]; exact HO4⟩
              case measure => simp [intOf]; omega
            · have HR2 := Lib.hid ((mw_hit hea hgo hq hh).symm.trans HRr.out)
              have HEA := Lib.hid hea
              have HH := Lib.hid hh
              clear hq hea hh
              go_wp2_with fail
              generalize hW0 : wr.alloc _ = W0
              have hbW0 : Below wr.heap.size wr W0 := by subst hW0; exact (Below.refl _ _).alloc (Nat.le_refl _) _
              have hsW0 : W0.heap.size = wr.heap.size + 1 := by subst hW0; simp
              have cxW0_0 : ∀ i, W0.cell? ⟨wr.heap.size, i, none⟩ = (#[.int .i64 a, .int .i64 e, .int .i64 lv] : Array Value)[i]? := by intro i; subst hW0; simp [go_sem]
              have HSW0 := Lib.hid hsW0; clear hW0 hsW0
              refine (touches_c A c L (a : Int) (e : Int) lv true W0 (rdW (bt hBr hbW0) hr) (by omega) (by omega) HV.out HH.out).mono ?_
              rintro e2 w2 ⟨rfl, hb2⟩
              have hB2 := bt (bt hBr hbW0) hb2
              have hz2 := hb2.size
              have cx := fun i => (hb2.cell (p := ⟨wr.heap.size, i, none⟩) (by have := HSW0.out; simp only; omega)).trans (cxW0_0 i)
              have HO2 := Lib.hid (own_below (own_below HOr.out hbW0) hb2)
              have hzw : wr.heap.size < w2.heap.size := by have := HSW0.out; omega
              clear cxW0_0
              go_wp2
              go_roundw
              case rel => exact ⟨A3, c3, D, e, f, by go_num, rfl, by omega, by have := HEA.out; omega, by omega, HR2, by omega, hB2, HO2⟩
              case measure => simp [intOf]; omega
        · have hgi : ¬ (e : Int) ≤ (s.size : Int) := by omega
          have hRD : D = R := (mw_end (by omega)).symm.trans HRr.out
          subst hRD
          by_cases h12 : D.length ≤ 12
          · go_wp2_with fail
            refine (few_b (D.length : Int) 12 true wr (by rw [decide_eq_true (by omega)])).mono ?_
            rintro e2 w2 ⟨rfl, rfl⟩
            go_wp2
            go_ret2
            rw [show mwFin D = (D, 0) from if_pos h12]
            exact rowPost2_mk HOr.out hBr
          · go_wp2_with fail
            refine (few_b (D.length : Int) 12 false wr (by rw [decide_eq_false (by omega)])).mono ?_
            rintro e2 w2 ⟨rfl, rfl⟩
            go_wp2
            go_ret2
            rw [show mwFin D = ([], 3) from if_neg h12]
            exact rowPost2_nil hBr
  · rw [mwR_bad h0]
    have hne : (codeK s L != 0) = true := bne_iff_ne.2 h0
    generalize codeK s L = q at *
    have HC := Lib.hid hcode
    clear hcode
    go_enter Try.func29, Try.ntmps29
    go_wp2_with fail
    refine (HC.out w hr).mono ?_
    rintro e w1 ⟨rfl, hb1⟩
    go_wp2
    go_ret2
    exact rowPost2_nil hb1
end Go.Proofs.Ytgckkocndhfbnaa
