/- Contracts: OpenMotions, DueOn of both texts. -/
import Derived.Test.YtdohegpbdlcnjaaMotOk
import Derived.Test.YtdohegpbdlcnjaaInts
namespace Go.Proofs.Ytdohegpbdlcnjaa
open Go.RowKit
set_option linter.unusedVariables false
def selM (p : MotionD → Bool) (L : List MotionD) : List Int := (L.filter p).map (·.number)
theorem selM_snoc {p : MotionD → Bool} {L : List MotionD} {k : Nat} (hk : k < L.length) : selM p (L.take (k + 1)) = selM p (L.take k) ++ (if p L[k] then [L[k].number] else []) := by
  rw [List.take_succ_eq_append_getElem hk, selM, List.filter_append, List.map_append]
  cases h : p L[k] <;> simp [selM, h]
theorem selM_len (p : MotionD → Bool) (L : List MotionD) : (selM p L).length ≤ L.length := by
  rw [selM, List.length_map]; exact List.length_filter_le _ _
theorem mots_len {L : List MotionD} (h : motsOk L = true) : L.length ≤ 12 := by
  simp only [motsOk, Bool.and_eq_true, decide_eq_true_eq] at h; exact h.2
theorem mots_ok {L : List MotionD} (h : motsOk L = true) {k : Nat} (hk : k < L.length) : motAt L k = true := by
  rcases hh : motAt L k with _ | _
  · rw [mots_false hk hh] at h; cases h
  · rfl
theorem mot_bds {m : MotionD} (h : motOk m = true) : (1 ≤ m.number ∧ m.number ≤ 1000) ∧ (0 ≤ m.filed ∧ m.filed ≤ 20000) ∧ (m.filed ≤ m.changed ∧ m.changed ≤ 20000) ∧ (0 ≤ m.state ∧ m.state ≤ 5) := by
  simp only [motOk, Bool.and_eq_true] at h
  exact ⟨inB_iff.1 h.1.1.1.1.1, inB_iff.1 h.1.1.1.2, inB_iff.1 h.1.1.2, inB_iff.1 h.1.2⟩
theorem mots_bds {L : List MotionD} (h : motsOk L = true) {k : Nat} (hk : k < L.length) : (1 ≤ L[k].number ∧ L[k].number ≤ 1000) ∧ (0 ≤ L[k].filed ∧ L[k].filed ≤ 20000) ∧ (L[k].filed ≤ L[k].changed ∧ L[k].changed ≤ 20000) ∧ (0 ≤ L[k].state ∧ L[k].state ≤ 5) := by
  have := mots_ok h hk
  rw [motAt_eq hk, Bool.and_eq_true, Bool.and_eq_true] at this
  exact mot_bds this.1.1

def closedB (m : MotionD) : Bool := decide (3 ≤ m.state)
def openP (m : MotionD) : Bool := !closedB m
def dueP (day : Int) (m : MotionD) : Bool := m.state == 0 && decide (m.filed + 14 < day)
def openFor (L : List MotionD) : List Int := if motsOk L then selM openP L else []
def openCode (L : List MotionD) : Int := if motsOk L then 0 else 1
def dueFor (L : List MotionD) (day : Int) : List Int := if motsOk L then (if inB day 0 20000 then selM (dueP day) L else []) else []
def dueCode (L : List MotionD) (day : Int) : Int := if motsOk L then (if inB day 0 20000 then 0 else 2) else 1

theorem openFor_len (L : List MotionD) : (openFor L).length ≤ L.length := by
  unfold openFor; split
  · exact selM_len _ _
  · simp
theorem dueFor_len (L : List MotionD) (day : Int) : (dueFor L day).length ≤ L.length := by
  unfold dueFor; split
  · split
    · exact selM_len _ _
    · simp
  · simp

theorem closed_b (a0 : Int) (a1 : ByteArray) (a2 a3 a4 a5 : Int) (b : Bool) (w : World) (h : decide (3 ≤ a4) = b) : Calls Try.prog 58 #[.agg #[.int .i64 a0, .string a1, .int .i64 a2, .int .i64 a3, .int .i64 a4, .int .i64 a5]] w fun e w' => e = .returned (.bool b) ∧ Below w.heap.size w w' := by
  subst h
  go_enter Try.func58, Try.ntmps58
  go_wp2
  go_ret
  exact ⟨rfl, (Below.refl _ _).alloc (Nat.le_refl _) _⟩
theorem l30Closed_b (a0 : Int) (a1 : ByteArray) (a2 a3 a4 a5 : Int) (b : Bool) (w : World) (h : decide (3 ≤ a4) = b) : Calls Try.prog 62 #[.agg #[.int .i64 a0, .string a1, .int .i64 a2, .int .i64 a3, .int .i64 a4, .int .i64 a5]] w fun e w' => e = .returned (.bool b) ∧ Below w.heap.size w w' := by
  subst h
  go_enter Try.func62, Try.ntmps62
  go_wp2
  go_ret
  exact ⟨rfl, (Below.refl _ _).alloc (Nat.le_refl _) _⟩
theorem openAcc_b (a0 : Int) (a1 : ByteArray) (a2 a3 a4 a5 : Int) (b : Bool) (w : World) (h : decide (3 ≤ a4) = b) : Calls Try.prog 64 #[.agg #[.int .i64 a0, .string a1, .int .i64 a2, .int .i64 a3, .int .i64 a4, .int .i64 a5]] w fun e w' => e = .returned (.bool (!b)) ∧ Below w.heap.size w w' := by
  go_enter Try.func64, Try.ntmps64
  go_wp2_with fail
  generalize hW0 : w.alloc _ = W0
  have hbW0 : Below w.heap.size w W0 := by subst hW0; exact (Below.refl _ _).alloc (Nat.le_refl _) _
  have hsW0 : W0.heap.size = w.heap.size + 1 := by subst hW0; simp
  have HSW0 := Lib.hid hsW0; clear hW0 hsW0
  refine (closed_b _ _ _ _ _ _ b _ h).mono ?_
  rintro e w1 ⟨rfl, hb1⟩
  go_wp2
  go_ret
  exact ⟨rfl, bt hbW0 hb1⟩
theorem dueAcc_b (a0 : Int) (a1 : ByteArray) (a2 a3 a4 a5 : Int) (day : Int) (g : Nat) (b : Bool) (w : World) (hf : 0 ≤ a2 ∧ a2 ≤ 20000) (hd : w.cell? ⟨g, 0, none⟩ = some (.int .i64 day)) (h : (a4 == 0 && decide (a2 + 14 < day)) = b) : Calls Try.prog 66 #[.agg #[.int .i64 a0, .string a1, .int .i64 a2, .int .i64 a3, .int .i64 a4, .int .i64 a5], .pointer (some ⟨g, 0, none⟩)] w fun e w' => e = .returned (.bool b) ∧ Below w.heap.size w w' := by
  have hg := block_lt_of_cell hd
  have HB := Lib.hid h; clear h
  have hg' : g < w.heap.size := hg
  go_enter Try.func66, Try.ntmps66
  go_wp2
  all_goals (go_ret; exact ⟨ret_bool (by rw [← HB.out]; simp_all), (Below.refl _ _).alloc (Nat.le_refl _) _⟩)


set_option maxHeartbeats 2000000 in
theorem withOpen_c (A : Option Addr) (c : Nat) (L : List MotionD) (w : World) (hr : Rd w w.heap.size A (L.length * 6) (L.flatMap motionC)) (hl : L.length ≤ 140737488355328) (hcap : L.length ≤ c) (hW : ∀ x ∈ L, MotionW x) (hok : motsOk L = true) :
    Calls Try.prog 63 #[.slice A L.length c, .func (.func 64) #[] #[]] w (RowPost1 2 1 (selM openP L).length ((selM openP L).map (Value.int .i64)) w) := by
  obtain ⟨i0, hi, hz0, hz1, hz2⟩ := info_parts int_info
  have h12 := mots_len hok
  have HOK := Lib.hid hok; clear hok
  go_enter Try.func63, Try.ntmps63
  go_wp2
  have hown0 := World.ownsRow_lit (e := 2) (size := 1) w #[] 0 (Nat.le_refl _) (by unfold maxLen; omega) rfl
  go_loopw [5, 11] (fun v i wr => ∃ (k : Nat) (R : List Int) (A2 : Option Addr) (c2 : Nat), k ≤ L.length ∧ i = .int .i64 k ∧ v = .slice A2 R.length c2 ∧ R.length ≤ k ∧ Below w.heap.size w wr ∧ Hid (wr.ownsRow w.heap.size 2 1 (.slice A2 R.length c2) R.length (R.map (Value.int .i64))) ∧ Hid (R = selM openP (L.take k))) (fun _ i _ => L.length - (intOf i).toNat)
  case atStart => exact ⟨0, [], _, _, by omega, rfl, rfl, by simp, (Below.refl _ _).alloc (Nat.le_refl _) _, hown0, by simp [Hid, selM]⟩
  case round =>
    obtain ⟨k, R, A2, c2, hk, rfl, rfl, hRk, hB, HO, HR⟩ := hrel
    clear hown0
    by_cases hlt : k < L.length
    · obtain ⟨bf, offf, rfl, hbf, hcf⟩ := Rd.elem motionC 6 (fun _ => rfl) (rdW hB hr) (by omega) hlt
      have f0 : wr.cell? ⟨bf, offf + k * 6, none⟩ = some (.int .i64 L[k].number) := hcf k hlt 0 _ rfl
      have f1 : wr.cell? ⟨bf, offf + k * 6 + 1, none⟩ = some (.string L[k].party) := hcf k hlt 1 _ rfl
      have f2 : wr.cell? ⟨bf, offf + k * 6 + 2, none⟩ = some (.int .i64 L[k].filed) := hcf k hlt 2 _ rfl
      have f3 : wr.cell? ⟨bf, offf + k * 6 + 3, none⟩ = some (.int .i64 L[k].changed) := hcf k hlt 3 _ rfl
      have f4 : wr.cell? ⟨bf, offf + k * 6 + 4, none⟩ = some (.int .i64 L[k].state) := hcf k hlt 4 _ rfl
      have f5 : wr.cell? ⟨bf, offf + k * 6 + 5, none⟩ = some (.int .i64 L[k].after) := hcf k hlt 5 _ rfl
      have hk' : (k : Int) < L.length := by omega
      have HS := Lib.hid (selM_snoc (p := openP) hlt)
      have hfl := (mots_bds HOK.out hlt).2.1
      have hsw := hB.size
      clear hcf
      generalize L[k] = x at *
      obtain ⟨x0, x1, x2, x3, x4, x5⟩ := x
      have hfl' : 0 ≤ x2 ∧ x2 ≤ 20000 := hfl
      clear hfl; have hfl := hfl'; clear hfl'
      cases hc : decide (3 ≤ x4)
      all_goals
        go_wp2_with fail
        generalize hW1 : wr.alloc _ = W1
        have hbW1 : Below wr.heap.size wr W1 := by subst hW1; exact (Below.refl _ _).alloc (Nat.le_refl _) _
        have hsW1 : W1.heap.size = wr.heap.size + 1 := by subst hW1; simp
        have cxW1_0 : ∀ i, W1.cell? ⟨wr.heap.size, i, none⟩ = (#[.int .i64 x0, .string x1, .int .i64 x2, .int .i64 x3, .int .i64 x4, .int .i64 x5] : Array Value)[i]? := by intro i; subst hW1; simp [go_sem]
        have HSW1 := Lib.hid hsW1; clear hW1 hsW1
        have hs1 := HSW1.out; clear HSW1
        have hs1' : wr.heap.size < W1.heap.size := by omega
        clear hs1 f0 f1 f2 f3 f4 f5
        refine (openAcc_b _ _ _ _ _ _ _ _ hc).mono ?_
        rintro e w2 ⟨rfl, hb2⟩
        replace cxW1_0 := fun i => (hb2.cell (p := ⟨wr.heap.size, i, none⟩) (by (try simp only); omega)).trans (cxW1_0 i)
        replace HO := Lib.hid (own_below (own_below HO.out hbW1) hb2)
        have hB2 := bt (bt hB hbW1) hb2
        have hsz2 := hB2.size
        go_wp2_with (first | (at_builtin; refine wpList_push _ rfl _ _ 27 rfl w.heap.size 2 i0 _ 1 8 Try.underlying27 hi hz0 hz1 hz2 rfl (by decide) _ _ _ rfl HO.out [.int .i64 x0] 2 rfl rfl (by simp [Value.oneCell']) (by unfold maxLen; omega) (by omega) (by omega) ?_; intro A3 c3 w3 hown3 hg3))
        go_roundw
        case measure => simp [intOf]; omega
        case rel => first
          | exact ⟨k + 1, R ++ [x0], A3, c3, by omega, by go_num, by rw [List.length_append]; rfl, by rw [List.length_append]; simp; omega, below_grown hB2 hg3 (Nat.le_refl _) (fun g h => (HO.out.lt g h).1), by rw [List.length_append, List.map_append]; exact hown3, by unfold Hid; rw [HS.out, ← HR.out, if_pos (by simp [openP, closedB, hc])]⟩
          | exact ⟨k + 1, R, A2, c2, by omega, by go_num, rfl, by omega, hB2, HO, by unfold Hid; rw [HS.out, ← HR.out, if_neg (by simp [openP, closedB, hc])]; simp⟩
    · obtain rfl : k = L.length := by omega
      go_wp2
      go_ret
      obtain rfl : R = selM openP L := by rw [HR.out, List.take_length]
      exact rowPost1_mk HO.out hB

set_option maxHeartbeats 2000000 in
theorem withDue_c (A : Option Addr) (c : Nat) (L : List MotionD) (day : Int) (g : Nat) (w : World) (hr : Rd w w.heap.size A (L.length * 6) (L.flatMap motionC)) (hl : L.length ≤ 140737488355328) (hcap : L.length ≤ c) (hW : ∀ x ∈ L, MotionW x) (hd : w.cell? ⟨g, 0, none⟩ = some (.int .i64 day)) (hok : motsOk L = true) :
    Calls Try.prog 63 #[.slice A L.length c, .func (.func 66) #[] #[.pointer (some ⟨g, 0, none⟩)]] w (RowPost1 2 1 (selM (dueP day) L).length ((selM (dueP day) L).map (Value.int .i64)) w) := by
  obtain ⟨i0, hi, hz0, hz1, hz2⟩ := info_parts int_info
  have h12 := mots_len hok
  have HOK := Lib.hid hok; clear hok
  go_enter Try.func63, Try.ntmps63
  go_wp2
  have hown0 := World.ownsRow_lit (e := 2) (size := 1) w #[] 0 (Nat.le_refl _) (by unfold maxLen; omega) rfl
  go_loopw [5, 11] (fun v i wr => ∃ (k : Nat) (R : List Int) (A2 : Option Addr) (c2 : Nat), k ≤ L.length ∧ i = .int .i64 k ∧ v = .slice A2 R.length c2 ∧ R.length ≤ k ∧ Below w.heap.size w wr ∧ Hid (wr.ownsRow w.heap.size 2 1 (.slice A2 R.length c2) R.length (R.map (Value.int .i64))) ∧ Hid (R = selM (dueP day) (L.take k))) (fun _ i _ => L.length - (intOf i).toNat)
  case atStart => exact ⟨0, [], _, _, by omega, rfl, rfl, by simp, (Below.refl _ _).alloc (Nat.le_refl _) _, hown0, by simp [Hid, selM]⟩
  case round =>
    obtain ⟨k, R, A2, c2, hk, rfl, rfl, hRk, hB, HO, HR⟩ := hrel
    clear hown0
    by_cases hlt : k < L.length
    · obtain ⟨bf, offf, rfl, hbf, hcf⟩ := Rd.elem motionC 6 (fun _ => rfl) (rdW hB hr) (by omega) hlt
      have f0 : wr.cell? ⟨bf, offf + k * 6, none⟩ = some (.int .i64 L[k].number) := hcf k hlt 0 _ rfl
      have f1 : wr.cell? ⟨bf, offf + k * 6 + 1, none⟩ = some (.string L[k].party) := hcf k hlt 1 _ rfl
      have f2 : wr.cell? ⟨bf, offf + k * 6 + 2, none⟩ = some (.int .i64 L[k].filed) := hcf k hlt 2 _ rfl
      have f3 : wr.cell? ⟨bf, offf + k * 6 + 3, none⟩ = some (.int .i64 L[k].changed) := hcf k hlt 3 _ rfl
      have f4 : wr.cell? ⟨bf, offf + k * 6 + 4, none⟩ = some (.int .i64 L[k].state) := hcf k hlt 4 _ rfl
      have f5 : wr.cell? ⟨bf, offf + k * 6 + 5, none⟩ = some (.int .i64 L[k].after) := hcf k hlt 5 _ rfl
      have hk' : (k : Int) < L.length := by omega
      have HS := Lib.hid (selM_snoc (p := (dueP day)) hlt)
      have hfl := (mots_bds HOK.out hlt).2.1
      have hsw := hB.size
      clear hcf
      generalize L[k] = x at *
      obtain ⟨x0, x1, x2, x3, x4, x5⟩ := x
      have hfl' : 0 ≤ x2 ∧ x2 ≤ 20000 := hfl
      clear hfl; have hfl := hfl'; clear hfl'
      have hg := block_lt_of_cell hd
      have hg2 : g < w.heap.size := hg
      have hdr := (hB.cell (p := ⟨g, 0, none⟩) hg2).trans hd
      clear hg
      cases hc : (x4 == 0 && decide (x2 + 14 < day))
      all_goals
        go_wp2_with fail
        generalize hW1 : wr.alloc _ = W1
        have hbW1 : Below wr.heap.size wr W1 := by subst hW1; exact (Below.refl _ _).alloc (Nat.le_refl _) _
        have hsW1 : W1.heap.size = wr.heap.size + 1 := by subst hW1; simp
        have cxW1_0 : ∀ i, W1.cell? ⟨wr.heap.size, i, none⟩ = (#[.int .i64 x0, .string x1, .int .i64 x2, .int .i64 x3, .int .i64 x4, .int .i64 x5] : Array Value)[i]? := by intro i; subst hW1; simp [go_sem]
        have HSW1 := Lib.hid hsW1; clear hW1 hsW1
        have hs1 := HSW1.out; clear HSW1
        have hs1' : wr.heap.size < W1.heap.size := by omega
        clear hs1 f0 f1 f2 f3 f4 f5
        have hdW := (hbW1.cell (p := ⟨g, 0, none⟩) (by (try simp only); omega)).trans hdr
        refine (dueAcc_b _ _ _ _ _ _ day g _ _ hfl hdW hc).mono ?_
        rintro e w2 ⟨rfl, hb2⟩
        replace cxW1_0 := fun i => (hb2.cell (p := ⟨wr.heap.size, i, none⟩) (by (try simp only); omega)).trans (cxW1_0 i)
        replace HO := Lib.hid (own_below (own_below HO.out hbW1) hb2)
        have hB2 := bt (bt hB hbW1) hb2
        have hsz2 := hB2.size
        go_wp2_with (first | (at_builtin; refine wpList_push _ rfl _ _ 27 rfl w.heap.size 2 i0 _ 1 8 Try.underlying27 hi hz0 hz1 hz2 rfl (by decide) _ _ _ rfl HO.out [.int .i64 x0] 2 rfl rfl (by simp [Value.oneCell']) (by unfold maxLen; omega) (by omega) (by omega) ?_; intro A3 c3 w3 hown3 hg3))
        go_roundw
        case measure => simp [intOf]; omega
        case rel => first
          | exact ⟨k + 1, R ++ [x0], A3, c3, by omega, by go_num, by rw [List.length_append]; rfl, by rw [List.length_append]; simp; omega, below_grown hB2 hg3 (Nat.le_refl _) (fun g h => (HO.out.lt g h).1), by rw [List.length_append, List.map_append]; exact hown3, by unfold Hid; rw [HS.out, ← HR.out, if_pos (by simp only [dueP]; exact hc)]⟩
          | exact ⟨k + 1, R, A2, c2, by omega, by go_num, rfl, by omega, hB2, HO, by unfold Hid; rw [HS.out, ← HR.out, if_neg (by simp only [dueP]; rw [hc]; simp)]; simp⟩
    · obtain rfl : k = L.length := by omega
      go_wp2
      go_ret
      obtain rfl : R = selM (dueP day) L := by rw [HR.out, List.take_length]
      exact rowPost1_mk HO.out hB

set_option maxHeartbeats 2000000 in
theorem impl_OpenMotions (A : Option Addr) (c : Nat) (L : List MotionD) (w : World) (hr : Rd w w.heap.size A (L.length * 6) (L.flatMap motionC)) (hl : L.length ≤ 140737488355328) (hcap : L.length ≤ c) (hW : ∀ x ∈ L, MotionW x) :
    Calls Try.prog 13 #[.slice A L.length c] w (RowPost2 2 1 (openFor L).length ((openFor L).map (Value.int .i64)) (openCode L) w) := by
  cases hT : motsOk L
  · have e1 : openFor L = [] := by simp [openFor, hT]
    have e2 : openCode L = 1 := by simp [openCode, hT]
    rw [e1, e2]
    go_enter Try.func13, Try.ntmps13
    go_wp2_with fail
    refine (impl_AreMotions A c L _ w hr hl hcap hW hT).mono ?_
    rintro e w1 ⟨rfl, hb1⟩
    go_wp2
    go_ret2
    exact rowPost2_nil hb1
  · have e1 : openFor L = selM openP L := by simp [openFor, hT]
    have e2 : openCode L = 0 := by simp [openCode, hT]
    rw [e1, e2]
    go_enter Try.func13, Try.ntmps13
    go_wp2_with fail
    refine (impl_AreMotions A c L _ w hr hl hcap hW hT).mono ?_
    rintro e w1 ⟨rfl, hb1⟩
    go_wp2_with fail
    refine (withOpen_c A c L w1 (rdW hb1 hr) hl hcap hW hT).mono ?_
    rintro e w2 ⟨A2, c2, rfl, ho, hb2, hq1, hq2⟩
    go_wp2
    go_ret2
    exact rowPost2_mk (own_mono ho hb1.size) (bt hb1 hb2)

set_option maxHeartbeats 2000000 in
theorem impl_DueOn (A : Option Addr) (c : Nat) (L : List MotionD) (day : Int) (w : World) (hr : Rd w w.heap.size A (L.length * 6) (L.flatMap motionC)) (hl : L.length ≤ 140737488355328) (hcap : L.length ≤ c) (hW : ∀ x ∈ L, MotionW x) :
    Calls Try.prog 16 #[.slice A L.length c, .int .i64 day] w (RowPost2 2 1 (dueFor L day).length ((dueFor L day).map (Value.int .i64)) (dueCode L day) w) := by
  cases hT : motsOk L
  · have e1 : dueFor L day = [] := by simp [dueFor, hT]
    have e2 : dueCode L day = 1 := by simp [dueCode, hT]
    rw [e1, e2]
    go_enter Try.func16, Try.ntmps16
    go_wp2_with fail
    generalize hW0 : w.alloc _ = W0
    have hbW0 : Below w.heap.size w W0 := by subst hW0; exact (Below.refl _ _).alloc (Nat.le_refl _) _
    have hsW0 : W0.heap.size = w.heap.size + 1 := by subst hW0; simp
    have cxW0_0 : ∀ i, W0.cell? ⟨w.heap.size, i, none⟩ = (#[.int .i64 day] : Array Value)[i]? := by intro i; subst hW0; simp [go_sem]
    have HSW0 := Lib.hid hsW0; clear hW0 hsW0
    refine (impl_AreMotions A c L _ W0 (rdW hbW0 hr) hl hcap hW hT).mono ?_
    rintro e w1 ⟨rfl, hb1⟩
    go_wp2
    go_ret2
    exact rowPost2_nil (bt hbW0 hb1)
  · cases hS : inB day 0 20000
    · have e1 : dueFor L day = [] := by simp [dueFor, hT, hS]
      have e2 : dueCode L day = 2 := by simp [dueCode, hT, hS]
      rw [e1, e2]
      go_enter Try.func16, Try.ntmps16
      go_wp2_with fail
      generalize hW0 : w.alloc _ = W0
      have hbW0 : Below w.heap.size w W0 := by subst hW0; exact (Below.refl _ _).alloc (Nat.le_refl _) _
      have hsW0 : W0.heap.size = w.heap.size + 1 := by subst hW0; simp
      have cxW0_0 : ∀ i, W0.cell? ⟨w.heap.size, i, none⟩ = (#[.int .i64 day] : Array Value)[i]? := by intro i; subst hW0; simp [go_sem]
      have HSW0 := Lib.hid hsW0; clear hW0 hsW0
      refine (impl_AreMotions A c L _ W0 (rdW hbW0 hr) hl hcap hW hT).mono ?_
      rintro e w1 ⟨rfl, hb1⟩
      replace cxW0_0 := fun i => (hb1.cell (by (try simp only); have := HSW0.out; omega)).trans (cxW0_0 i)
      go_wp2_with fail
      refine (isDay_b _ _ w1 hS).mono ?_
      rintro e w' ⟨rfl, rfl⟩
      go_wp2
      go_ret2
      exact rowPost2_nil (bt hbW0 hb1)
    · have e1 : dueFor L day = selM (dueP day) L := by simp [dueFor, hT, hS]
      have e2 : dueCode L day = 0 := by simp [dueCode, hT, hS]
      rw [e1, e2]
      go_enter Try.func16, Try.ntmps16
      go_wp2_with fail
      generalize hW0 : w.alloc _ = W0
      have hbW0 : Below w.heap.size w W0 := by subst hW0; exact (Below.refl _ _).alloc (Nat.le_refl _) _
      have hsW0 : W0.heap.size = w.heap.size + 1 := by subst hW0; simp
      have cxW0_0 : ∀ i, W0.cell? ⟨w.heap.size, i, none⟩ = (#[.int .i64 day] : Array Value)[i]? := by intro i; subst hW0; simp [go_sem]
      have HSW0 := Lib.hid hsW0; clear hW0 hsW0
      refine (impl_AreMotions A c L _ W0 (rdW hbW0 hr) hl hcap hW hT).mono ?_
      rintro e w1 ⟨rfl, hb1⟩
      replace cxW0_0 := fun i => (hb1.cell (by (try simp only); have := HSW0.out; omega)).trans (cxW0_0 i)
      have hB1 := bt hbW0 hb1
      go_wp2_with fail
      refine (isDay_b _ _ w1 hS).mono ?_
      rintro e w' ⟨rfl, rfl⟩
      go_wp2_with fail
      refine (withDue_c A c L day w.heap.size w1 (rdW hB1 hr) hl hcap hW (cxW0_0 0) hT).mono ?_
      rintro e w2 ⟨A2, c2, rfl, ho, hb2, hq1, hq2⟩
      go_wp2
      go_ret2
      exact rowPost2_mk (own_mono ho hB1.size) (bt hB1 hb2)


set_option maxRecDepth 100000 in
set_option maxHeartbeats 4000000 in
theorem spec_OpenMotions (A : Option Addr) (c : Nat) (L : List MotionD) (w : World) (hr : Rd w w.heap.size A (L.length * 6) (L.flatMap motionC)) (hl : L.length ≤ 140737488355328) (hcap : L.length ≤ c) (hW : ∀ x ∈ L, MotionW x) :
    Calls Try.prog 14 #[.slice A L.length c] w (RowPost2 2 1 (openFor L).length ((openFor L).map (Value.int .i64)) (openCode L) w) := by
  cases hT : motsOk L
  · have e1 : openFor L = [] := by simp [openFor, hT]
    have e2 : openCode L = 1 := by simp [openCode, hT]
    rw [e1, e2]
    go_enter Try.func14, Try.ntmps14
    go_wp2_with fail
    refine (spec_AreMotions A c L _ w hr hl hcap hW hT).mono ?_
    rintro e w1 ⟨rfl, hb1⟩
    go_wp2
    go_ret2
    exact rowPost2_nil hb1
  · have e1 : openFor L = selM openP L := by simp [openFor, hT]
    have e2 : openCode L = 0 := by simp [openCode, hT]
    rw [e1, e2]
    · obtain ⟨i0, hi, hz0, hz1, hz2⟩ := info_parts int_info
      have h12 := mots_len hT
      have HOK := Lib.hid hT
      go_enter Try.func14, Try.ntmps14
      go_wp2_with fail
      refine (spec_AreMotions A c L _ w hr hl hcap hW hT).mono ?_
      rintro e w1 ⟨rfl, hb1⟩
      clear hT
      go_wp2
      have hown0 := own_mono (World.ownsRow_lit (e := 2) (size := 1) w1 #[] 0 (Nat.le_refl _) (by unfold maxLen; omega) rfl) hb1.size
      go_loopw [4, 5] (fun v i wr => ∃ (k : Nat) (R : List Int) (A2 : Option Addr) (c2 : Nat), k ≤ L.length ∧ i = .int .i64 k ∧ v = .slice A2 R.length c2 ∧ R.length ≤ k ∧ Below w.heap.size w wr ∧ Hid (wr.ownsRow w.heap.size 2 1 (.slice A2 R.length c2) R.length (R.map (Value.int .i64))) ∧ Hid (R = selM openP (L.take k))) (fun _ i _ => L.length - (intOf i).toNat)
      case atStart => exact ⟨0, [], _, _, by omega, rfl, rfl, by simp, hb1.alloc hb1.size _, hown0, by simp [Hid, selM]⟩
      case round =>
        obtain ⟨k, R, A2, c2, hk, rfl, rfl, hRk, hB, HO, HR⟩ := hrel
        clear hown0
        by_cases hlt : k < L.length
        · obtain ⟨bf, offf, rfl, hbf, hcf⟩ := Rd.elem motionC 6 (fun _ => rfl) (rdW hB hr) (by omega) hlt
          have f0 : wr.cell? ⟨bf, offf + k * 6, none⟩ = some (.int .i64 L[k].number) := hcf k hlt 0 _ rfl
          have f1 : wr.cell? ⟨bf, offf + k * 6 + 1, none⟩ = some (.string L[k].party) := hcf k hlt 1 _ rfl
          have f2 : wr.cell? ⟨bf, offf + k * 6 + 2, none⟩ = some (.int .i64 L[k].filed) := hcf k hlt 2 _ rfl
          have f3 : wr.cell? ⟨bf, offf + k * 6 + 3, none⟩ = some (.int .i64 L[k].changed) := hcf k hlt 3 _ rfl
          have f4 : wr.cell? ⟨bf, offf + k * 6 + 4, none⟩ = some (.int .i64 L[k].state) := hcf k hlt 4 _ rfl
          have f5 : wr.cell? ⟨bf, offf + k * 6 + 5, none⟩ = some (.int .i64 L[k].after) := hcf k hlt 5 _ rfl
          have hk' : (k : Int) < L.length := by omega
          have HS := Lib.hid (selM_snoc (p := openP) hlt)
          have hfl := (mots_bds HOK.out hlt).2.1
          have hsw := hB.size
          clear hcf
          generalize L[k] = x at *
          obtain ⟨x0, x1, x2, x3, x4, x5⟩ := x
          have hfl' : 0 ≤ x2 ∧ x2 ≤ 20000 := hfl
          clear hfl; have hfl := hfl'; clear hfl'
          cases hc : decide (3 ≤ x4)
          all_goals
            go_wp2_with fail
            refine (l30Closed_b _ _ _ _ _ _ _ _ hc).mono ?_
            rintro e w2 ⟨rfl, hb2⟩
            replace f0 := (hb2.cell (by (try simp only); omega)).trans f0
            replace HO := Lib.hid (own_below HO.out hb2)
            have hB2 := bt hB hb2
            have hsz2 := hB2.size
            go_wp2_with (first | (at_builtin; refine wpList_push _ rfl _ _ 27 rfl w.heap.size 2 i0 _ 1 8 Try.underlying27 hi hz0 hz1 hz2 rfl (by decide) _ _ _ rfl HO.out [.int .i64 x0] 2 rfl rfl (by simp [Value.oneCell']) (by unfold maxLen; omega) (by omega) (by omega) ?_; intro A3 c3 w3 hown3 hg3))
            go_roundw
            case measure => simp [intOf]; omega
            case rel => first
              | exact ⟨k + 1, R ++ [x0], A3, c3, by omega, by go_num, by rw [List.length_append]; rfl, by rw [List.length_append]; simp; omega, below_grown hB2 hg3 (Nat.le_refl _) (fun g h => (HO.out.lt g h).1), by rw [List.length_append, List.map_append]; exact hown3, by unfold Hid; rw [HS.out, ← HR.out, if_pos (by simp [openP, closedB, hc])]⟩
              | exact ⟨k + 1, R, A2, c2, by omega, by go_num, rfl, by omega, hB2, HO, by unfold Hid; rw [HS.out, ← HR.out, if_neg (by simp [openP, closedB, hc])]; simp⟩
        · obtain rfl : k = L.length := by omega
          go_wp2
          go_ret2
          obtain rfl : R = selM openP L := by rw [HR.out, List.take_length]
          exact rowPost2_mk HO.out hB

set_option maxRecDepth 100000 in
set_option maxHeartbeats 4000000 in
theorem spec_DueOn (A : Option Addr) (c : Nat) (L : List MotionD) (day : Int) (w : World) (hr : Rd w w.heap.size A (L.length * 6) (L.flatMap motionC)) (hl : L.length ≤ 140737488355328) (hcap : L.length ≤ c) (hW : ∀ x ∈ L, MotionW x) :
    Calls Try.prog 17 #[.slice A L.length c, .int .i64 day] w (RowPost2 2 1 (dueFor L day).length ((dueFor L day).map (Value.int .i64)) (dueCode L day) w) := by
  cases hT : motsOk L
  · have e1 : dueFor L day = [] := by simp [dueFor, hT]
    have e2 : dueCode L day = 1 := by simp [dueCode, hT]
    rw [e1, e2]
    go_enter Try.func17, Try.ntmps17
    go_wp2_with fail
    refine (spec_AreMotions A c L _ w hr hl hcap hW hT).mono ?_
    rintro e w1 ⟨rfl, hb1⟩
    go_wp2
    go_ret2
    exact rowPost2_nil hb1
  · cases hS : inB day 0 20000
    · have e1 : dueFor L day = [] := by simp [dueFor, hT, hS]
      have e2 : dueCode L day = 2 := by simp [dueCode, hT, hS]
      rw [e1, e2]
      go_enter Try.func17, Try.ntmps17
      go_wp2_with fail
      refine (spec_AreMotions A c L _ w hr hl hcap hW hT).mono ?_
      rintro e w1 ⟨rfl, hb1⟩
      go_wp2_with fail
      refine (l02Is_b _ _ w1 hS).mono ?_
      rintro e w' ⟨rfl, rfl⟩
      go_wp2
      go_ret2
      exact rowPost2_nil hb1
    · have e1 : dueFor L day = selM (dueP day) L := by simp [dueFor, hT, hS]
      have e2 : dueCode L day = 0 := by simp [dueCode, hT, hS]
      rw [e1, e2]
      obtain ⟨i0, hi, hz0, hz1, hz2⟩ := info_parts int_info
      have h12 := mots_len hT
      have HOK := Lib.hid hT
      go_enter Try.func17, Try.ntmps17
      go_wp2_with fail
      refine (spec_AreMotions A c L _ w hr hl hcap hW hT).mono ?_
      rintro e w1 ⟨rfl, hb1⟩
      go_wp2_with fail
      refine (l02Is_b _ _ w1 hS).mono ?_
      rintro e w' ⟨rfl, rfl⟩
      clear hT hS
      go_wp2
      have hown0 := own_mono (World.ownsRow_lit (e := 2) (size := 1) w1 #[] 0 (Nat.le_refl _) (by unfold maxLen; omega) rfl) hb1.size
      go_loopw [6, 7] (fun v i wr => ∃ (k : Nat) (R : List Int) (A2 : Option Addr) (c2 : Nat), k ≤ L.length ∧ i = .int .i64 k ∧ v = .slice A2 R.length c2 ∧ R.length ≤ k ∧ Below w.heap.size w wr ∧ Hid (wr.ownsRow w.heap.size 2 1 (.slice A2 R.length c2) R.length (R.map (Value.int .i64))) ∧ Hid (R = selM (dueP day) (L.take k))) (fun _ i _ => L.length - (intOf i).toNat)
      case atStart => exact ⟨0, [], _, _, by omega, rfl, rfl, by simp, hb1.alloc hb1.size _, hown0, by simp [Hid, selM]⟩
      case round =>
        obtain ⟨k, R, A2, c2, hk, rfl, rfl, hRk, hB, HO, HR⟩ := hrel
        clear hown0
        by_cases hlt : k < L.length
        · obtain ⟨bf, offf, rfl, hbf, hcf⟩ := Rd.elem motionC 6 (fun _ => rfl) (rdW hB hr) (by omega) hlt
          have f0 : wr.cell? ⟨bf, offf + k * 6, none⟩ = some (.int .i64 L[k].number) := hcf k hlt 0 _ rfl
          have f1 : wr.cell? ⟨bf, offf + k * 6 + 1, none⟩ = some (.string L[k].party) := hcf k hlt 1 _ rfl
          have f2 : wr.cell? ⟨bf, offf + k * 6 + 2, none⟩ = some (.int .i64 L[k].filed) := hcf k hlt 2 _ rfl
          have f3 : wr.cell? ⟨bf, offf + k * 6 + 3, none⟩ = some (.int .i64 L[k].changed) := hcf k hlt 3 _ rfl
          have f4 : wr.cell? ⟨bf, offf + k * 6 + 4, none⟩ = some (.int .i64 L[k].state) := hcf k hlt 4 _ rfl
          have f5 : wr.cell? ⟨bf, offf + k * 6 + 5, none⟩ = some (.int .i64 L[k].after) := hcf k hlt 5 _ rfl
          have hk' : (k : Int) < L.length := by omega
          have HS := Lib.hid (selM_snoc (p := (dueP day)) hlt)
          have hfl := (mots_bds HOK.out hlt).2.1
          have hsw := hB.size
          clear hcf
          generalize L[k] = x at *
          obtain ⟨x0, x1, x2, x3, x4, x5⟩ := x
          have hfl' : 0 ≤ x2 ∧ x2 ≤ 20000 := hfl
          clear hfl; have hfl := hfl'; clear hfl'
          cases h4 : (x4 == 0) <;> cases h5 : decide (x2 + 14 < day)
          all_goals
            have hB2 := hB
            have hsz2 := hB2.size
            go_wp2_with (first | (at_builtin; refine wpList_push _ rfl _ _ 27 rfl w.heap.size 2 i0 _ 1 8 Try.underlying27 hi hz0 hz1 hz2 rfl (by decide) _ _ _ rfl HO.out [.int .i64 x0] 2 rfl rfl (by simp [Value.oneCell']) (by unfold maxLen; omega) (by omega) (by omega) ?_; intro A3 c3 w3 hown3 hg3))
            go_roundw
            case measure => simp [intOf]; omega
            case rel => first
              | exact ⟨k + 1, R ++ [x0], A3, c3, by omega, by go_num, by rw [List.length_append]; rfl, by rw [List.length_append]; simp; omega, below_grown hB2 hg3 (Nat.le_refl _) (fun g h => (HO.out.lt g h).1), by rw [List.length_append, List.map_append]; exact hown3, by unfold Hid; rw [HS.out, ← HR.out, if_pos (by simp only [dueP]; rw [h4, h5]; rfl)]⟩
              | exact ⟨k + 1, R, A2, c2, by omega, by go_num, rfl, by omega, hB2, HO, by unfold Hid; rw [HS.out, ← HR.out, if_neg (by simp only [dueP]; rw [h4, h5]; simp)]; simp⟩
        · obtain rfl : k = L.length := by omega
          go_wp2
          go_ret2
          obtain rfl : R = selM (dueP day) L := by rw [HR.out, List.take_length]
          exact rowPost2_mk HO.out hB
end Go.Proofs.Ytdohegpbdlcnjaa
