/- Contracts: isText; marksOk, AreMarks, marksCode, levelCode, l32Code of both texts. -/
import Derived.Test.YtgckkocndhfbnaaMark
import Derived.Test.YtgckkocndhfbnaaText
import Derived.Test.YtgckkocndhfbnaaRow
namespace Go.Proofs.Ytgckkocndhfbnaa
open Go.RowKit
set_option linter.unusedVariables false
def endAt (L : List MarkD) (k : Nat) : Int := if k = 0 then 0 else (L.getD (k - 1) default).to
def markOk (n e : Int) (m : MarkD) : Bool := decide (e ≤ m.from_) && (decide (m.from_ < m.to) && (decide (m.to ≤ n) && inB m.level 1 9))
def markAt (n : Int) (L : List MarkD) (k : Nat) : Bool := markOk n (endAt L k) (L.getD k default)
def marksOkB (n : Int) (L : List MarkD) : Bool := (List.range L.length).all (markAt n L) && decide (L.length ≤ 12)
theorem getD_lt {α : Type} [Inhabited α] {L : List α} {k : Nat} (hk : k < L.length) : L.getD k default = L[k] := by rw [List.getD_eq_getElem?_getD, List.getElem?_eq_getElem hk]; rfl
theorem endAt_succ {L : List MarkD} {k : Nat} (hk : k < L.length) : endAt L (k + 1) = L[k].to := by rw [endAt, if_neg (by omega), Nat.add_sub_cancel, getD_lt hk]
theorem markAt_eq {n : Int} {L : List MarkD} {k : Nat} (hk : k < L.length) : markAt n L k = markOk n (endAt L k) L[k] := by rw [markAt, getD_lt hk]
theorem marks_false {n : Int} {L : List MarkD} {k : Nat} (hk : k < L.length) (h : markAt n L k = false) : marksOkB n L = false := by
  have : (List.range L.length).all (markAt n L) = false := by
    rw [← Bool.not_eq_true, List.all_eq_true]
    intro hh
    have := hh k (by simp [hk])
    rw [h] at this; cases this
  simp [marksOkB, this]
theorem marks_all {n : Int} {L : List MarkD} (h : ∀ j, j < L.length → markAt n L j = true) : marksOkB n L = decide (L.length ≤ 12) := by
  have : (List.range L.length).all (markAt n L) = true := by
    rw [List.all_eq_true]; intro x hx; exact h x (by simpa using hx)
  simp [marksOkB, this]
theorem marks_parts {n : Int} {L : List MarkD} (h : marksOkB n L = true) : L.length ≤ 12 ∧ ∀ j, j < L.length → markAt n L j = true := by
  simp only [marksOkB, Bool.and_eq_true, decide_eq_true_eq, List.all_eq_true] at h
  exact ⟨h.2, fun j hj => h.1 j (by simp [hj])⟩
theorem markAt_step {n : Int} {L : List MarkD} {k : Nat} (T : Hid (∀ j, j < k → markAt n L j = true)) (h : markAt n L k = true) : Hid (∀ j, j < k + 1 → markAt n L j = true) := by
  intro j hj
  by_cases e : j = k
  · subst e; exact h
  · exact T.out j (by omega)
theorem markOk_iff {n e : Int} {m : MarkD} : markOk n e m = true ↔ e ≤ m.from_ ∧ m.from_ < m.to ∧ m.to ≤ n ∧ (1 ≤ m.level ∧ m.level ≤ 9) := by
  simp [markOk, inB]
theorem end_bd {n : Int} {L : List MarkD} (hn : 0 ≤ n) : ∀ {k : Nat}, k ≤ L.length → (∀ j, j < k → markAt n L j = true) → 0 ≤ endAt L k ∧ endAt L k ≤ n
  | 0, _, _ => by rw [endAt, if_pos rfl]; omega
  | k + 1, hk, T => by
    have IH := end_bd hn (k := k) (by omega) (fun j hj => T j (by omega))
    have h := T k (by omega)
    rw [markAt_eq (show k < L.length by omega), markOk_iff] at h
    rw [endAt_succ (show k < L.length by omega)]
    omega
/-- What is known of an element of marks. -/
theorem marks_elem {n : Int} {L : List MarkD} (hn : 0 ≤ n) (h : marksOkB n L = true) {k : Nat} (hk : k < L.length) : (0 ≤ endAt L k ∧ endAt L k ≤ L[k].from_) ∧ L[k].from_ < L[k].to ∧ L[k].to ≤ n ∧ (1 ≤ L[k].level ∧ L[k].level ≤ 9) := by
  obtain ⟨_, h2⟩ := marks_parts h
  have hb := end_bd hn (show k ≤ L.length by omega) (fun j hj => h2 j (by omega))
  have h3 := h2 k hk
  rw [markAt_eq hk, markOk_iff] at h3
  omega

set_option maxRecDepth 100000 in
theorem slIndexByte_c (s : ByteArray) (c : Int) (w : World) : Calls Try.prog 107 #[.string s, .int .u8 c] w fun e w' => e = .returned (.int .i64 (Lib.indexByte s.data.toList c.toNat.toUInt8)) ∧ w = w' := by
  go_enter Try.func107, Try.ntmps107
  go_wp2
  rw [run_callFunc_extern Try.func112 (by kernel_rfl) (by kernel_rfl) (by kernel_rfl) (e := Extern.BytealgIndexByte.indexByte) (by kernel_rfl), Lib.run_indexByteString]
  simp only [Result.andThen]
  rw [Oper.upon_value]
  go_wp2
  go_ret
  exact ⟨rfl, rfl⟩
theorem idx_lt (l : List UInt8) (c : UInt8) : -1 ≤ Lib.indexByte l c ∧ Lib.indexByte l c < l.length := by
  induction l with
  | nil => simp [Lib.indexByte]
  | cons b l ih =>
    simp only [Lib.indexByte, List.length_cons]
    split
    · omega
    · split <;> omega
theorem idx_mem (l : List UInt8) (c : UInt8) : 0 ≤ Lib.indexByte l c ↔ c ∈ l := by
  induction l with
  | nil => simp [Lib.indexByte]
  | cons b l ih =>
    have := idx_lt l c
    simp only [Lib.indexByte, List.mem_cons]
    by_cases hb : b = c
    · subst hb; simp
    · rw [if_neg (by simpa using hb)]
      split
      · rename_i h
        have h1 : Lib.indexByte l c = -1 := by simpa using h
        rw [h1] at ih
        constructor
        · intro h; omega
        · rintro (h | h)
          · exact absurd h.symm hb
          · have := ih.2 h; omega
      · rename_i h
        have h1 : Lib.indexByte l c ≠ -1 := by simpa using h
        constructor
        · intro _; exact .inr (ih.1 (by omega))
        · intro _; omega
theorem noHash_idx (s : ByteArray) : noHash s = decide (Lib.indexByte s.data.toList 35 < 0) := by
  rw [Bool.eq_iff_iff]
  simp only [noHash, List.all_eq_true, decide_eq_true_eq]
  have := idx_mem s.data.toList 35
  constructor
  · intro h
    by_cases h2 : 0 ≤ Lib.indexByte s.data.toList 35
    · have := h 35 (this.1 h2); simp at this
    · omega
  · intro h x hx
    have : x ≠ 35 := by
      rintro rfl
      have := this.2 hx
      omega
    simpa using this
set_option maxRecDepth 100000 in
theorem isText_b (s : ByteArray) (b : Bool) (w : World) (hs : s.size ≤ 1048576) (h : isTextB s = b) : Calls Try.prog 70 #[.string s] w fun e w' => e = .returned (.bool b) ∧ w = w' := by
  have HB := Lib.hid h; clear h
  cases hp : isPlainB s 400
  · go_enter Try.func70, Try.ntmps70
    go_wp2_with (first | (go_at_call 79; refine (isPlain_b _ _ _ _ (by omega) hp).mono ?_; rintro e w' ⟨rfl, rfl⟩))
    go_ret
    exact ⟨ret_bool (by rw [← HB.out, isTextB, hp]; rfl), rfl⟩
  · have HP := Lib.hid hp
    have HN := Lib.hid (noHash_idx s)
    go_enter Try.func70, Try.ntmps70
    go_wp2_with (first | (go_at_call 79; refine (isPlain_b _ _ _ _ (by omega) hp).mono ?_; rintro e w' ⟨rfl, rfl⟩) | (go_at_call 107; refine (slIndexByte_c s 35 w).mono ?_; rintro e w' ⟨rfl, rfl⟩) | go_in)
    all_goals first
      | (have h1 : ([35] == s.toList) = true := by assumption
         have H1 := Lib.hid (beq_iff_eq.1 h1)
         go_ret
         exact ⟨ret_bool (by rw [← HB.out, isTextB, HP.out, HN.out]; have h2 := H1.out; rw [Lib.toList_data] at h2; rw [← h2]; decide), rfl⟩)
      | (go_ret
         exact ⟨ret_bool (by rw [← HB.out, isTextB, HP.out, HN.out, Bool.eq_iff_iff]; simp), rfl⟩)
theorem isSecret_b (n : Int) (b : Bool) (w : World) (h : inB n 1 9 = b) : Calls Try.prog 63 #[.int .i64 n] w fun e w' => e = .returned (.bool b) ∧ w = w' := by
  go_enter Try.func63, Try.ntmps63
  go_wp2_with fail
  refine (within_b _ _ _ _ _ h).mono ?_
  rintro e w' ⟨rfl, rfl⟩
  go_wp2
  go_ret
  exact ⟨rfl, rfl⟩
theorem isLevel_b (n : Int) (b : Bool) (w : World) (h : inB n 0 9 = b) : Calls Try.prog 73 #[.int .i64 n] w fun e w' => e = .returned (.bool b) ∧ w = w' := by
  go_enter Try.func73, Try.ntmps73
  go_wp2_with fail
  refine (within_b _ _ _ _ _ h).mono ?_
  rintro e w' ⟨rfl, rfl⟩
  go_wp2
  go_ret
  exact ⟨rfl, rfl⟩


set_option maxRecDepth 100000 in
set_option maxHeartbeats 2000000 in
theorem marksOk_b (s : ByteArray) (A : Option Addr) (c : Nat) (L : List MarkD) (b : Bool) (w : World) (hs : s.size ≤ 1048576) (hr : Rd w w.heap.size A (L.length * 3) (L.flatMap markC)) (hl : L.length ≤ 140737488355328) (hcap : L.length ≤ c) (h : marksOkB s.size L = b) :
    Calls Try.prog 59 #[.string s, .slice A L.length c] w fun e w' => e = .returned (.bool b) ∧ Below w.heap.size w w' := by
  have HB := Lib.hid h; clear h
  go_enter Try.func59, Try.ntmps59
  go_wp2
  go_loopw [5, 10] (fun z i wr => ∃ k : Nat, k ≤ L.length ∧ i = .int .i64 k ∧ z = .int .i64 (endAt L k) ∧ Below w.heap.size w wr ∧ Hid (∀ j, j < k → markAt s.size L j = true)) (fun _ i _ => L.length - (intOf i).toNat)
  case atStart => exact ⟨0, by omega, rfl, rfl, Below.refl _ _, fun j hj => absurd hj (by omega)⟩
  case round =>
    obtain ⟨k, hk, rfl, rfl, hB, HT⟩ := hrel
    by_cases hlt : k < L.length
    · obtain ⟨bf, offf, rfl, hbf, hcf⟩ := Rd.elem markC 3 (fun _ => rfl) (rdW hB hr) (by omega) hlt
      have f0 : wr.cell? ⟨bf, offf + k * 3, none⟩ = some (.int .i64 L[k].from_) := hcf k hlt 0 _ rfl
      have f1 : wr.cell? ⟨bf, offf + k * 3 + 1, none⟩ = some (.int .i64 L[k].to) := hcf k hlt 1 _ rfl
      have f2 : wr.cell? ⟨bf, offf + k * 3 + 2, none⟩ = some (.int .i64 L[k].level) := hcf k hlt 2 _ rfl
      have T := Lib.hid (markAt_eq (n := (s.size : Int)) hlt)
      have hz := end_bd (n := (s.size : Int)) (by omega) hk HT.out
      have HLS := Lib.hid (endAt_succ hlt)
      clear hcf
      generalize L[k] = x at *
      generalize endAt L k = z at *
      obtain ⟨x0, x1, x2⟩ := x
      by_cases g1 : x0 < z
      · skip
        go_wp2_with (first | (go_at_call 63; refine (isSecret_b _ _ _ (rfl)).mono ?_; rintro e w' ⟨rfl, rfl⟩))
        go_ret
        exact ⟨ret_bool (by rw [← HB.out]; exact (marks_false hlt (by rw [T.out, markOk]; rw [decide_eq_false (show ¬ z ≤ x0 by omega)]; rfl)).symm), bt hB ((Below.refl _ _).alloc (Nat.le_refl _) _)⟩
      by_cases g2 : x1 ≤ x0
      · skip
        go_wp2_with (first | (go_at_call 63; refine (isSecret_b _ _ _ (rfl)).mono ?_; rintro e w' ⟨rfl, rfl⟩))
        go_ret
        exact ⟨ret_bool (by rw [← HB.out]; exact (marks_false hlt (by rw [T.out, markOk]; simp only; rw [decide_eq_false (show ¬ x0 < x1 by omega)]; simp)).symm), bt hB ((Below.refl _ _).alloc (Nat.le_refl _) _)⟩
      by_cases g3 : (s.size : Int) < x1
      · skip
        go_wp2_with (first | (go_at_call 63; refine (isSecret_b _ _ _ (rfl)).mono ?_; rintro e w' ⟨rfl, rfl⟩))
        go_ret
        exact ⟨ret_bool (by rw [← HB.out]; exact (marks_false hlt (by rw [T.out, markOk]; simp only; rw [decide_eq_false (show ¬ x1 ≤ (s.size : Int) by omega)]; simp)).symm), bt hB ((Below.refl _ _).alloc (Nat.le_refl _) _)⟩
      cases g4 : inB x2 1 9
      · have G4 := Lib.hid g4
        go_wp2_with (first | (go_at_call 63; refine (isSecret_b _ _ _ g4).mono ?_; rintro e w' ⟨rfl, rfl⟩))
        go_ret
        exact ⟨ret_bool (by rw [← HB.out]; exact (marks_false hlt (by rw [T.out, markOk]; simp only; rw [G4.out]; simp)).symm), bt hB ((Below.refl _ _).alloc (Nat.le_refl _) _)⟩
      · have G4 := Lib.hid g4
        have g5 := inB_iff.1 g4
        go_wp2_with (first | (go_at_call 63; refine (isSecret_b _ _ _ g4).mono ?_; rintro e w' ⟨rfl, rfl⟩))
        go_roundw
        case rel => exact ⟨k + 1, by omega, by go_num, by rw [HLS.out], bt hB ((Below.refl _ _).alloc (Nat.le_refl _) _), markAt_step HT (by rw [T.out, markOk_iff]; simp only; omega)⟩
        case measure => simp [intOf]; omega
    · obtain rfl : k = L.length := by omega
      have HF := Lib.hid (marks_all HT.out)
      go_wp2_with (first | (go_at_call 67; refine (few_b _ _ _ _ rfl).mono ?_; rintro e w' ⟨rfl, rfl⟩))
      go_ret
      exact ⟨ret_bool (by rw [← HB.out, HF.out, Bool.eq_iff_iff]; simp; omega), hB⟩
theorem impl_AreMarks (s : ByteArray) (A : Option Addr) (c : Nat) (L : List MarkD) (b : Bool) (w : World) (hs : s.size ≤ 1048576) (hr : Rd w w.heap.size A (L.length * 3) (L.flatMap markC)) (hl : L.length ≤ 140737488355328) (hcap : L.length ≤ c) (h : (isTextB s && marksOkB s.size L) = b) :
    Calls Try.prog 42 #[.string s, .slice A L.length c] w fun e w' => e = .returned (.bool b) ∧ Below w.heap.size w w' := by
  have HB := Lib.hid h; clear h
  cases hT : isTextB s
  · go_enter Try.func42, Try.ntmps42
    go_wp2_with (first | (go_at_call 70; refine (isText_b _ _ _ hs hT).mono ?_; rintro e w' ⟨rfl, rfl⟩))
    go_ret
    exact ⟨ret_bool (by rw [← HB.out, hT]; rfl), Below.refl _ _⟩
  · go_enter Try.func42, Try.ntmps42
    go_wp2_with (first | (go_at_call 70; refine (isText_b _ _ _ hs hT).mono ?_; rintro e w' ⟨rfl, rfl⟩))
    refine (marksOk_b s A c L _ w hs hr hl hcap rfl).mono ?_
    rintro e w1 ⟨rfl, hb1⟩
    go_wp2
    go_ret
    exact ⟨ret_bool (by rw [← HB.out, hT]; rfl), hb1⟩
def codeK (s : ByteArray) (L : List MarkD) : Int := if isTextB s then (if marksOkB s.size L then 0 else 1) else 6
def codeL (s : ByteArray) (L : List MarkD) (lv : Int) : Int := if isTextB s then (if marksOkB s.size L then (if inB lv 0 9 then 0 else 2) else 1) else 6
theorem codeK_0 {s : ByteArray} {L : List MarkD} (h : codeK s L = 0) : isTextB s = true ∧ marksOkB s.size L = true := by
  unfold codeK at h
  split at h
  · split at h
    · rename_i h1 h2; exact ⟨h1, h2⟩
    · omega
  · omega
theorem codeL_0 {s : ByteArray} {L : List MarkD} {lv : Int} (h : codeL s L lv = 0) : codeK s L = 0 ∧ inB lv 0 9 = true := by
  unfold codeL at h; unfold codeK
  split at h
  · split at h
    · split at h
      · rename_i h1 h2 h3; rw [if_pos h1, if_pos h2]; exact ⟨rfl, h3⟩
      · omega
    · omega
  · omega
theorem codeL_in {s : ByteArray} {L : List MarkD} {lv : Int} (h : inB lv 0 9 = true) : codeL s L lv = codeK s L := by unfold codeL codeK; rw [if_pos h]
theorem codeL_out {s : ByteArray} {L : List MarkD} {lv : Int} (h : inB lv 0 9 = false) : codeL s L lv = if codeK s L = 0 then 2 else codeK s L := by
  unfold codeL codeK
  rw [h]
  cases isTextB s <;> cases marksOkB s.size L <;> simp
theorem marksCode_c (s : ByteArray) (A : Option Addr) (c : Nat) (L : List MarkD) (w : World) (hs : s.size ≤ 1048576) (hr : Rd w w.heap.size A (L.length * 3) (L.flatMap markC)) (hl : L.length ≤ 140737488355328) (hcap : L.length ≤ c) :
    Calls Try.prog 53 #[.string s, .slice A L.length c] w fun e w' => e = .returned (.int .i64 (codeK s L)) ∧ Below w.heap.size w w' := by
  unfold codeK
  cases hT : isTextB s
  · rw [if_neg (by decide)]
    go_enter Try.func53, Try.ntmps53
    go_wp2_with (first | (go_at_call 70; refine (isText_b _ _ _ hs hT).mono ?_; rintro e w' ⟨rfl, rfl⟩))
    go_ret
    exact ⟨rfl, Below.refl _ _⟩
  · cases hM : marksOkB s.size L
    all_goals
      go_enter Try.func53, Try.ntmps53
      go_wp2_with (first | (go_at_call 70; refine (isText_b _ _ _ hs hT).mono ?_; rintro e w' ⟨rfl, rfl⟩))
      refine (marksOk_b s A c L _ w hs hr hl hcap hM).mono ?_
      rintro e w1 ⟨rfl, hb1⟩
      go_wp2
      go_ret
      exact ⟨rfl, hb1⟩
theorem levelCode_c (s : ByteArray) (A : Option Addr) (c : Nat) (L : List MarkD) (lv : Int) (w : World) (hs : s.size ≤ 1048576) (hr : Rd w w.heap.size A (L.length * 3) (L.flatMap markC)) (hl : L.length ≤ 140737488355328) (hcap : L.length ≤ c) :
    Calls Try.prog 47 #[.string s, .slice A L.length c, .int .i64 lv] w fun e w' => e = .returned (.int .i64 (codeL s L lv)) ∧ Below w.heap.size w w' := by
  by_cases hk : codeK s L = 0
  · have hmc := marksCode_c s A c L w hs hr hl hcap
    rw [hk] at hmc
    cases hv : inB lv 0 9
    · rw [codeL_out hv, if_pos hk]
      clear hk
      go_enter Try.func47, Try.ntmps47
      go_wp2_with fail
      refine hmc.mono ?_
      rintro e w1 ⟨rfl, hb1⟩
      clear hmc
      go_wp2_with (first | (go_at_call 73; refine (isLevel_b _ _ _ hv).mono ?_; rintro e w' ⟨rfl, rfl⟩))
      go_ret
      exact ⟨rfl, hb1⟩
    · rw [codeL_in hv, hk]
      clear hk
      go_enter Try.func47, Try.ntmps47
      go_wp2_with fail
      refine hmc.mono ?_
      rintro e w1 ⟨rfl, hb1⟩
      clear hmc
      go_wp2_with (first | (go_at_call 73; refine (isLevel_b _ _ _ hv).mono ?_; rintro e w' ⟨rfl, rfl⟩))
      go_ret
      exact ⟨rfl, hb1⟩
  · have HE : codeL s L lv = codeK s L := by
      cases hv : inB lv 0 9
      · rw [codeL_out hv, if_neg hk]
      · rw [codeL_in hv]
    rw [HE]
    have hne : (codeK s L != 0) = true := by rw [bne_iff_ne]; exact hk
    clear hk HE
    go_enter Try.func47, Try.ntmps47
    go_wp2_with fail
    refine (marksCode_c s A c L w hs hr hl hcap).mono ?_
    rintro e w1 ⟨rfl, hb1⟩
    go_wp2
    go_ret
    exact ⟨rfl, hb1⟩


set_option maxRecDepth 100000 in
set_option maxHeartbeats 2000000 in
theorem spec_AreMarks (s : ByteArray) (A : Option Addr) (c : Nat) (L : List MarkD) (b : Bool) (w : World) (hs : s.size ≤ 1048576) (hr : Rd w w.heap.size A (L.length * 3) (L.flatMap markC)) (hl : L.length ≤ 140737488355328) (hcap : L.length ≤ c) (h : (isTextB s && marksOkB s.size L) = b) :
    Calls Try.prog 43 #[.string s, .slice A L.length c] w fun e w' => e = .returned (.bool b) ∧ Below w.heap.size w w' := by
  have HB := Lib.hid h; clear h
  go_enter Try.func43, Try.ntmps43
  go_wp2
  go_loopw [5, 6] (fun z i wr => ∃ k : Nat, k ≤ L.length ∧ i = .int .i64 k ∧ z = .int .i64 (endAt L k) ∧ Below w.heap.size w wr ∧ Hid (∀ j, j < k → markAt s.size L j = true)) (fun _ i _ => L.length - (intOf i).toNat)
  case atStart => exact ⟨0, by omega, rfl, rfl, Below.refl _ _, fun j hj => absurd hj (by omega)⟩
  case round =>
    obtain ⟨k, hk, rfl, rfl, hB, HT⟩ := hrel
    by_cases hlt : k < L.length
    · obtain ⟨bf, offf, rfl, hbf, hcf⟩ := Rd.elem markC 3 (fun _ => rfl) (rdW hB hr) (by omega) hlt
      have f0 : wr.cell? ⟨bf, offf + k * 3, none⟩ = some (.int .i64 L[k].from_) := hcf k hlt 0 _ rfl
      have f1 : wr.cell? ⟨bf, offf + k * 3 + 1, none⟩ = some (.int .i64 L[k].to) := hcf k hlt 1 _ rfl
      have f2 : wr.cell? ⟨bf, offf + k * 3 + 2, none⟩ = some (.int .i64 L[k].level) := hcf k hlt 2 _ rfl
      have T := Lib.hid (markAt_eq (n := (s.size : Int)) hlt)
      have hz := end_bd (n := (s.size : Int)) (by omega) hk HT.out
      have HLS := Lib.hid (endAt_succ hlt)
      clear hcf
      generalize L[k] = x at *
      generalize endAt L k = z at *
      obtain ⟨x0, x1, x2⟩ := x
      cases c1 : inB x0 z ((s.size : Int) - 1)
      · have C1 := inB_niff.1 c1
        go_wp2_with (first | (go_at_call 56; refine (l01In_b _ _ _ _ _ rfl).mono ?_; rintro e w' ⟨rfl, rfl⟩))
        go_ret
        exact ⟨ret_bool (by rw [← HB.out]; rw [marks_false hlt (by rw [T.out, markOk]; rcases C1 with C1 | C1 <;> simp only [Bool.and_eq_false_iff, decide_eq_false_iff_not] <;> omega)]; simp), bt hB ((Below.refl _ _).alloc (Nat.le_refl _) _)⟩
      have C1 := inB_iff.1 c1
      cases c2 : inB x1 (x0 + 1) (s.size : Int)
      · have C2 := inB_niff.1 c2
        go_wp2_with (first | (go_at_call 56; refine (l01In_b _ _ _ _ _ rfl).mono ?_; rintro e w' ⟨rfl, rfl⟩))
        go_ret
        exact ⟨ret_bool (by rw [← HB.out]; rw [marks_false hlt (by rw [T.out, markOk]; rcases C2 with C2 | C2 <;> simp only [Bool.and_eq_false_iff, decide_eq_false_iff_not] <;> omega)]; simp), bt hB ((Below.refl _ _).alloc (Nat.le_refl _) _)⟩
      have C2 := inB_iff.1 c2
      cases c3 : inB x2 1 9
      · have C3 := Lib.hid c3
        go_wp2_with (first | (go_at_call 56; refine (l01In_b _ _ _ _ _ rfl).mono ?_; rintro e w' ⟨rfl, rfl⟩))
        go_ret
        exact ⟨ret_bool (by rw [← HB.out]; rw [marks_false hlt (by rw [T.out, markOk]; simp only; rw [C3.out]; simp)]; simp), bt hB ((Below.refl _ _).alloc (Nat.le_refl _) _)⟩
      · have C3 := inB_iff.1 c3
        go_wp2_with (first | (go_at_call 56; refine (l01In_b _ _ _ _ _ rfl).mono ?_; rintro e w' ⟨rfl, rfl⟩))
        go_roundw
        case rel => exact ⟨k + 1, by omega, by go_num, by rw [HLS.out], bt hB ((Below.refl _ _).alloc (Nat.le_refl _) _), markAt_step HT (by rw [T.out, markOk_iff]; simp only; omega)⟩
        case measure => simp [intOf]; omega
    · obtain rfl : k = L.length := by omega
      have HF := Lib.hid (marks_all HT.out)
      cases hT : isTextB s
      · go_wp2_with (first | (go_at_call 71; refine (l32Is_b _ _ _ (by omega) hT).mono ?_; rintro e w' ⟨rfl, rfl⟩))
        go_ret
        exact ⟨ret_bool (by rw [← HB.out, hT]; rfl), hB⟩
      · go_wp2_with (first | (go_at_call 71; refine (l32Is_b _ _ _ (by omega) hT).mono ?_; rintro e w' ⟨rfl, rfl⟩))
        go_ret
        exact ⟨ret_bool (by rw [← HB.out, hT, HF.out, Bool.eq_iff_iff]; simp; omega), hB⟩
theorem l32Code_c (s : ByteArray) (A : Option Addr) (c : Nat) (L : List MarkD) (lv : Int) (w : World) (hs : s.size ≤ 1048576) (hr : Rd w w.heap.size A (L.length * 3) (L.flatMap markC)) (hl : L.length ≤ 140737488355328) (hcap : L.length ≤ c) :
    Calls Try.prog 49 #[.string s, .slice A L.length c, .int .i64 lv] w fun e w' => e = .returned (.int .i64 (codeL s L lv)) ∧ Below w.heap.size w w' := by
  unfold codeL
  cases hT : isTextB s
  · rw [if_neg (by decide)]
    go_enter Try.func49, Try.ntmps49
    go_wp2_with (first | (go_at_call 71; refine (l32Is_b _ _ _ (by omega) hT).mono ?_; rintro e w' ⟨rfl, rfl⟩))
    go_ret
    exact ⟨rfl, Below.refl _ _⟩
  rw [if_pos rfl]
  cases hM : marksOkB s.size L
  · rw [if_neg (by decide)]
    go_enter Try.func49, Try.ntmps49
    go_wp2_with (first | (go_at_call 71; refine (l32Is_b _ _ _ (by omega) hT).mono ?_; rintro e w' ⟨rfl, rfl⟩))
    refine (spec_AreMarks s A c L false w hs hr hl hcap (by rw [hT, hM]; rfl)).mono ?_
    rintro e w1 ⟨rfl, hb1⟩
    go_wp2
    go_ret
    exact ⟨rfl, hb1⟩
  · rw [if_pos rfl]
    cases hv : inB lv 0 9
    all_goals
      go_enter Try.func49, Try.ntmps49
      go_wp2_with (first | (go_at_call 71; refine (l32Is_b _ _ _ (by omega) hT).mono ?_; rintro e w' ⟨rfl, rfl⟩))
      refine (spec_AreMarks s A c L true w hs hr hl hcap (by rw [hT, hM]; rfl)).mono ?_
      rintro e w1 ⟨rfl, hb1⟩
      go_wp2_with (first | (go_at_call 56; refine (l01In_b _ _ _ _ _ hv).mono ?_; rintro e w' ⟨rfl, rfl⟩))
      go_ret
      exact ⟨rfl, hb1⟩
end Go.Proofs.Ytgckkocndhfbnaa
