/- Contracts: AddMark of both texts. -/
import Derived.Test.YtgckkocndhfbnaaMarkP2
import Derived.Test.YtgckkocndhfbnaaMarks
namespace Go.Proofs.Ytgckkocndhfbnaa
open Go.RowKit
set_option linter.unusedVariables false
def insI (L : List MarkD) (m : MarkD) : List MarkD := insAt (idxBy (befI m) L) L m
def insS (L : List MarkD) (m : MarkD) : List MarkD := insAt (idxBy (befS m) L) L m
theorem insI_len (L : List MarkD) (m : MarkD) : (insI L m).length = L.length + 1 := insAt_len (idxBy_le _ _) m
theorem insS_len (L : List MarkD) (m : MarkD) : (insS L m).length = L.length + 1 := insAt_len (idxBy_le _ _) m
theorem marks_asc {n : Int} {M : List MarkD} (hn : 0 ≤ n) (h : marksOkB n M = true) {j : Nat} (hj : j < M.length) : ∀ {k : Nat} (hk : k < M.length), j < k → M[j].to ≤ M[k].from_
  | 0, hk, h0 => by omega
  | k + 1, hk, hjk => by
    have e := marks_elem hn h hk
    rw [endAt_succ (show k < M.length by omega)] at e
    by_cases hc : j = k
    · subst hc; exact e.1.2
    · have h1 := marks_asc hn h hj (k := k) (by omega) (by omega)
      have h2 := (marks_elem hn h (show k < M.length by omega)).2.1
      omega
theorem ok_pair {n : Int} {M : List MarkD} (hn : 0 ≤ n) (h : marksOkB n M = true) : M.Pairwise (fun a b => a.from_ < b.from_) := by
  rw [List.pairwise_iff_getElem]
  intro i j hi hj hij
  have h1 := marks_asc hn h hi hj hij
  have h2 := (marks_elem hn h hi).2.1
  omega
theorem pair_ne {L : List MarkD} {m : MarkD} {i : Nat} (h : (insAt i L m).Pairwise (fun a b => a.from_ < b.from_)) : ∀ x ∈ L, x.from_ ≠ m.from_ := by
  intro x hx
  unfold insAt at h
  rw [List.pairwise_append, List.pairwise_cons] at h
  obtain ⟨_, ⟨h2, _⟩, h3⟩ := h
  have : x ∈ L.take i ++ L.drop i := by rw [List.take_append_drop]; exact hx
  rcases List.mem_append.1 this with h4 | h4
  · have := h3 x h4 m (List.mem_cons_self ..); omega
  · have := h2 x h4; omega
theorem idx_same {m : MarkD} : ∀ {L : List MarkD}, (∀ x ∈ L, x.from_ ≠ m.from_) → idxBy (befS m) L = idxBy (befI m) L
  | [], _ => rfl
  | a :: L, h => by
    have h1 : befS m a = befI m a := by
      have := h a (List.mem_cons_self ..)
      unfold befS befI
      by_cases hc : a.from_ < m.from_
      · rw [decide_eq_true hc, decide_eq_true (by omega)]
      · rw [decide_eq_false hc, decide_eq_false (by omega)]
    have ih := idx_same (m := m) (L := L) (fun x hx => h x (List.mem_cons_of_mem _ hx))
    unfold idxBy at ih ⊢
    rw [List.takeWhile_cons, List.takeWhile_cons, h1]
    split <;> simp [ih]
theorem ins_same {n : Int} (hn : 0 ≤ n) (L : List MarkD) (m : MarkD) : marksOkB n (insS L m) = marksOkB n (insI L m) ∧ (marksOkB n (insI L m) = true → insS L m = insI L m) := by
  by_cases h : ∀ x ∈ L, x.from_ ≠ m.from_
  · have e : insS L m = insI L m := by unfold insS insI; rw [idx_same h]
    rw [e]; exact ⟨rfl, fun _ => rfl⟩
  · have h1 : marksOkB n (insS L m) = false := by
      cases hb : marksOkB n (insS L m)
      · rfl
      · exact absurd (pair_ne (ok_pair hn hb)) h
    have h2 : marksOkB n (insI L m) = false := by
      cases hb : marksOkB n (insI L m)
      · rfl
      · exact absurd (pair_ne (ok_pair hn hb)) h
    rw [h1, h2]; exact ⟨rfl, fun hc => by cases hc⟩
def addR (s : ByteArray) (L : List MarkD) (m : MarkD) : List MarkD × Int := if codeK s L = 0 then (if marksOkB s.size (insI L m) then (insI L m, 0) else ([], 5)) else ([], codeK s L)
theorem addR_bad {s : ByteArray} {L : List MarkD} {m : MarkD} (h : codeK s L ≠ 0) : addR s L m = ([], codeK s L) := by rw [addR, if_neg h]
theorem addR_no {s : ByteArray} {L : List MarkD} {m : MarkD} (h : codeK s L = 0) (hm : marksOkB s.size (insI L m) = false) : addR s L m = ([], 5) := by rw [addR, if_pos h, hm]; rfl
theorem addR_ok {s : ByteArray} {L : List MarkD} {m : MarkD} (h : codeK s L = 0) (hm : marksOkB s.size (insI L m) = true) : addR s L m = (insI L m, 0) := by rw [addR, if_pos h, hm]; rfl
theorem addR_len (s : ByteArray) (L : List MarkD) (m : MarkD) : (addR s L m).1.length ≤ 12 := by
  unfold addR
  split
  · split
    · rename_i h; exact (marks_parts h).1
    · simp
  · simp
set_option maxRecDepth 100000 in
set_option maxHeartbeats 2000000 in
theorem impl_AddMark (s : ByteArray) (A : Option Addr) (c : Nat) (L : List MarkD) (y0 y1 y2 : Int) (w : World) (hs : s.size ≤ 1048576) (hr : Rd w w.heap.size A (L.length * 3) (L.flatMap markC)) (hl : L.length ≤ 140737488355328) (hcap : L.length ≤ c) :
    Calls Try.prog 24 #[.string s, .slice A L.length c, .agg #[.int .i64 y0, .int .i64 y1, .int .i64 y2]] w (RowPost2 42 3 (addR s L ⟨y0, y1, y2⟩).1.length ((addR s L ⟨y0, y1, y2⟩).1.flatMap markC) (addR s L ⟨y0, y1, y2⟩).2 w) := by
  have hcode := fun (W : World) a => marksCode_c s A c L W hs a hl hcap
  by_cases h0 : codeK s L = 0
  · obtain ⟨hT, hM⟩ := codeK_0 h0
    have h12 := (marks_parts hM).1
    rw [h0] at hcode
    have HC := Lib.hid hcode
    have hil := insI_len L ⟨y0, y1, y2⟩
    clear hcode
    cases hok : marksOkB s.size (insI L ⟨y0, y1, y2⟩)
    · rw [addR_no h0 hok]
      have HK := Lib.hid (fun (A2 : Option Addr) (c2 : Nat) (W : World) (a : Rd W W.heap.size A2 ((L.length + 1) * 3) ((insI L ⟨y0, y1, y2⟩).flatMap markC)) (h : L.length + 1 ≤ c2) => show Calls Try.prog 59 #[.string s, .slice A2 (L.length + 1) c2] W (fun e w' => e = .returned (.bool false) ∧ Below W.heap.size W w') from by
        have hh := marksOk_b s A2 c2 (insI L ⟨y0, y1, y2⟩) false W hs (by rw [hil]; exact a) (by omega) (by rw [hil]; exact h) hok
        rw [hil] at hh; exact hh)
      have HIL := Lib.hid hil
      clear hok h0 hil
      go_enter Try.func24, Try.ntmps24
      go_wp2_with fail
      generalize hW0 : w.alloc _ = W0
      have hbW0 : Below w.heap.size w W0 := by subst hW0; exact (Below.refl _ _).alloc (Nat.le_refl _) _
      have hsW0 : W0.heap.size = w.heap.size + 1 := by subst hW0; simp
      have cxW0_0 : ∀ i, W0.cell? ⟨w.heap.size, i, none⟩ = (#[.int .i64 y0, .int .i64 y1, .int .i64 y2] : Array Value)[i]? := by intro i; subst hW0; simp [go_sem]
      have HSW0 := Lib.hid hsW0; clear hW0 hsW0
      refine (HC.out W0 (rdW hbW0 hr)).mono ?_
      rintro e w1 ⟨rfl, hb1⟩
      have hB1 := bt hbW0 hb1
      have cx := fun i => (hb1.cell (p := ⟨w.heap.size, i, none⟩) (by have := HSW0.out; simp only; omega)).trans (cxW0_0 i)
      clear cxW0_0
      go_wp2_with fail
      refine (put_c A c L y0 y1 y2 w1 (rdW hB1 hr) (by omega) hcap).mono ?_
      rintro e w2 ⟨A2, c2, rfl, ho2, hb2, hn2, hm2⟩
      have hB2 := bt hB1 hb2
      have HO2 := Lib.hid ho2
      clear ho2
      go_wp2_with fail
      refine (HK.out A2 c2 w2 (Rd.of_own HO2.out) hn2).mono ?_
      rintro e w3 ⟨rfl, hb3⟩
      go_wp2
      go_ret2
      exact rowPost2_nil (bt hB2 hb3)
    · rw [addR_ok h0 hok]
      have HK := Lib.hid (fun (A2 : Option Addr) (c2 : Nat) (W : World) (a : Rd W W.heap.size A2 ((L.length + 1) * 3) ((insI L ⟨y0, y1, y2⟩).flatMap markC)) (h : L.length + 1 ≤ c2) => show Calls Try.prog 59 #[.string s, .slice A2 (L.length + 1) c2] W (fun e w' => e = .returned (.bool true) ∧ Below W.heap.size W w') from by
        have hh := marksOk_b s A2 c2 (insI L ⟨y0, y1, y2⟩) true W hs (by rw [hil]; exact a) (by omega) (by rw [hil]; exact h) hok
        rw [hil] at hh; exact hh)
      have HIL := Lib.hid hil
      clear hok h0 hil
      go_enter Try.func24, Try.ntmps24
      go_wp2_with fail
      generalize hW0 : w.alloc _ = W0
      have hbW0 : Below w.heap.size w W0 := by subst hW0; exact (Below.refl _ _).alloc (Nat.le_refl _) _
      have hsW0 : W0.heap.size = w.heap.size + 1 := by subst hW0; simp
      have cxW0_0 : ∀ i, W0.cell? ⟨w.heap.size, i, none⟩ = (#[.int .i64 y0, .int .i64 y1, .int .i64 y2] : Array Value)[i]? := by intro i; subst hW0; simp [go_sem]
      have HSW0 := Lib.hid hsW0; clear hW0 hsW0
      refine (HC.out W0 (rdW hbW0 hr)).mono ?_
      rintro e w1 ⟨rfl, hb1⟩
      have hB1 := bt hbW0 hb1
      have cx := fun i => (hb1.cell (p := ⟨w.heap.size, i, none⟩) (by have := HSW0.out; simp only; omega)).trans (cxW0_0 i)
      clear cxW0_0
      go_wp2_with fail
      refine (put_c A c L y0 y1 y2 w1 (rdW hB1 hr) (by omega) hcap).mono ?_
      rintro e w2 ⟨A2, c2, rfl, ho2, hb2, hn2, hm2⟩
      have hB2 := bt hB1 hb2
      have HO2 := Lib.hid ho2
      clear ho2
      go_wp2_with fail
      refine (HK.out A2 c2 w2 (Rd.of_own HO2.out) hn2).mono ?_
      rintro e w3 ⟨rfl, hb3⟩
      go_wp2
      go_ret2
      rw [HIL.out]
      exact rowPost2_mk (own_below (own_mono HO2.out hB1.size) hb3) (bt hB2 hb3)
  · rw [addR_bad h0]
    have hne : (codeK s L != 0) = true := bne_iff_ne.2 h0
    generalize codeK s L = q at *
    have HC := Lib.hid hcode
    clear hcode
    go_enter Try.func24, Try.ntmps24
    go_wp2_with fail
    generalize hW0 : w.alloc _ = W0
    have hbW0 : Below w.heap.size w W0 := by subst hW0; exact (Below.refl _ _).alloc (Nat.le_refl _) _
    have hsW0 : W0.heap.size = w.heap.size + 1 := by subst hW0; simp
    have cxW0_0 : ∀ i, W0.cell? ⟨w.heap.size, i, none⟩ = (#[.int .i64 y0, .int .i64 y1, .int .i64 y2] : Array Value)[i]? := by intro i; subst hW0; simp [go_sem]
    have HSW0 := Lib.hid hsW0; clear hW0 hsW0
    refine (HC.out W0 (rdW hbW0 hr)).mono ?_
    rintro e w1 ⟨rfl, hb1⟩
    go_wp2
    go_ret2
    exact rowPost2_nil (bt hbW0 hb1)
set_option maxRecDepth 100000 in
set_option maxHeartbeats 2000000 in
theorem spec_AddMark (s : ByteArray) (A : Option Addr) (c : Nat) (L : List MarkD) (y0 y1 y2 : Int) (w : World) (hs : s.size ≤ 1048576) (hr : Rd w w.heap.size A (L.length * 3) (L.flatMap markC)) (hl : L.length ≤ 140737488355328) (hcap : L.length ≤ c) (hA : (A = none ∧ c = 0) ∨ ∃ b off, A = some ⟨b, off, none⟩) :
    Calls Try.prog 21 #[.string s, .slice A L.length c, .agg #[.int .i64 y0, .int .i64 y1, .int .i64 y2]] w (RowPost2 42 3 (addR s L ⟨y0, y1, y2⟩).1.length ((addR s L ⟨y0, y1, y2⟩).1.flatMap markC) (addR s L ⟨y0, y1, y2⟩).2 w) := by
  have hcode := fun (W : World) a => l32Code_c s A c L 0 W hs a hl hcap
  rw [codeL_in (show inB 0 0 9 = true by decide)] at hcode
  by_cases h0 : codeK s L = 0
  · obtain ⟨hT, hM⟩ := codeK_0 h0
    have h12 := (marks_parts hM).1
    rw [h0] at hcode
    have HC := Lib.hid hcode
    have hil := insS_len L ⟨y0, y1, y2⟩
    clear hcode
    obtain ⟨same1, same2⟩ := ins_same (n := (s.size : Int)) (by omega) L ⟨y0, y1, y2⟩
    cases hok : marksOkB s.size (insI L ⟨y0, y1, y2⟩)
    · rw [addR_no h0 hok]
      have HK := Lib.hid (fun (A2 : Option Addr) (c2 : Nat) (W : World) (a : Rd W W.heap.size A2 ((L.length + 1) * 3) ((insS L ⟨y0, y1, y2⟩).flatMap markC)) (h : L.length + 1 ≤ c2) => show Calls Try.prog 43 #[.string s, .slice A2 (L.length + 1) c2] W (fun e w' => e = .returned (.bool false) ∧ Below W.heap.size W w') from by
        have hh := spec_AreMarks s A2 c2 (insS L ⟨y0, y1, y2⟩) false W hs (by rw [hil]; exact a) (by omega) (by rw [hil]; exact h) (by rw [same1, hok]; simp)
        rw [hil] at hh; exact hh)
      have HIL := Lib.hid hil
      clear hok h0 hil same1 same2
      go_enter Try.func21, Try.ntmps21
      go_wp2_with fail
      generalize hW0 : w.alloc _ = W0
      have hbW0 : Below w.heap.size w W0 := by subst hW0; exact (Below.refl _ _).alloc (Nat.le_refl _) _
      have hsW0 : W0.heap.size = w.heap.size + 1 := by subst hW0; simp
      have cxW0_0 : ∀ i, W0.cell? ⟨w.heap.size, i, none⟩ = (#[.int .i64 y0, .int .i64 y1, .int .i64 y2] : Array Value)[i]? := by intro i; subst hW0; simp [go_sem]
      have HSW0 := Lib.hid hsW0; clear hW0 hsW0
      refine (HC.out W0 (rdW hbW0 hr)).mono ?_
      rintro e w1 ⟨rfl, hb1⟩
      have hB1 := bt hbW0 hb1
      have cx := fun i => (hb1.cell (p := ⟨w.heap.size, i, none⟩) (by have := HSW0.out; simp only; omega)).trans (cxW0_0 i)
      clear cxW0_0
      go_wp2_with fail
      refine (l32Insert_c A c L y0 y1 y2 w1 (rdW hB1 hr) (by omega) hcap hA).mono ?_
      rintro e w2 ⟨A2, c2, rfl, ho2, hb2, hn2, hm2⟩
      have hB2 := bt hB1 hb2
      have HO2 := Lib.hid ho2
      clear ho2
      go_wp2_with fail
      refine (HK.out A2 c2 w2 (Rd.of_own HO2.out) hn2).mono ?_
      rintro e w3 ⟨rfl, hb3⟩
      go_wp2
      go_ret2
      exact rowPost2_nil (bt hB2 hb3)
    · rw [addR_ok h0 hok, ← same2 hok]
      have HK := Lib.hid (fun (A2 : Option Addr) (c2 : Nat) (W : World) (a : Rd W W.heap.size A2 ((L.length + 1) * 3) ((insS L ⟨y0, y1, y2⟩).flatMap markC)) (h : L.length + 1 ≤ c2) => show Calls Try.prog 43 #[.string s, .slice A2 (L.length + 1) c2] W (fun e w' => e = .returned (.bool true) ∧ Below W.heap.size W w') from by
        have hh := spec_AreMarks s A2 c2 (insS L ⟨y0, y1, y2⟩) true W hs (by rw [hil]; exact a) (by omega) (by rw [hil]; exact h) (by rw [same1, hok, hT]; rfl)
        rw [hil] at hh; exact hh)
      have HIL := Lib.hid hil
      clear hok h0 hil same1 same2
      go_enter Try.func21, Try.ntmps21
      go_wp2_with fail
      generalize hW0 : w.alloc _ = W0
      have hbW0 : Below w.heap.size w W0 := by subst hW0; exact (Below.refl _ _).alloc (Nat.le_refl _) _
      have hsW0 : W0.heap.size = w.heap.size + 1 := by subst hW0; simp
      have cxW0_0 : ∀ i, W0.cell? ⟨w.heap.size, i, none⟩ = (#[.int .i64 y0, .int .i64 y1, .int .i64 y2] : Array Value)[i]? := by intro i; subst hW0; simp [go_sem]
      have HSW0 := Lib.hid hsW0; clear hW0 hsW0
      refine (HC.out W0 (rdW hbW0 hr)).mono ?_
      rintro e w1 ⟨rfl, hb1⟩
      have hB1 := bt hbW0 hb1
      have cx := fun i => (hb1.cell (p := ⟨w.heap.size, i, none⟩) (by have := HSW0.out; simp only; omega)).trans (cxW0_0 i)
      clear cxW0_0
      go_wp2_with fail
      refine (l32Insert_c A c L y0 y1 y2 w1 (rdW hB1 hr) (by omega) hcap hA).mono ?_
      rintro e w2 ⟨A2, c2, rfl, ho2, hb2, hn2, hm2⟩
      have hB2 := bt hB1 hb2
      have HO2 := Lib.hid ho2
      clear ho2
      go_wp2_with fail
      refine (HK.out A2 c2 w2 (Rd.of_own HO2.out) hn2).mono ?_
      rintro e w3 ⟨rfl, hb3⟩
      go_wp2
      go_ret2
      rw [HIL.out]
      exact rowPost2_mk (own_below (own_mono HO2.out hB1.size) hb3) (bt hB2 hb3)
  · rw [addR_bad h0]
    have hne : (codeK s L != 0) = true := bne_iff_ne.2 h0
    generalize codeK s L = q at *
    have HC := Lib.hid hcode
    clear hcode
    go_enter Try.func21, Try.ntmps21
    go_wp2_with fail
    generalize hW0 : w.alloc _ = W0
    have hbW0 : Below w.heap.size w W0 := by subst hW0; exact (Below.refl _ _).alloc (Nat.le_refl _) _
    have hsW0 : W0.heap.size = w.heap.size + 1 := by subst hW0; simp
    have cxW0_0 : ∀ i, W0.cell? ⟨w.heap.size, i, none⟩ = (#[.int .i64 y0, .int .i64 y1, .int .i64 y2] : Array Value)[i]? := by intro i; subst hW0; simp [go_sem]
    have HSW0 := Lib.hid hsW0; clear hW0 hsW0
    refine (HC.out W0 (rdW hbW0 hr)).mono ?_
    rintro e w1 ⟨rfl, hb1⟩
    go_wp2
    go_ret2
    exact rowPost2_nil (bt hbW0 hb1)
end Go.Proofs.Ytgckkocndhfbnaa
