/- Contracts: CountStates of both texts. -/
import Derived.Test.YtdohegpbdlcnjaaMotLists
namespace Go.Proofs.Ytdohegpbdlcnjaa
open Go.RowKit
set_option linter.unusedVariables false
def cntS (L : List MotionD) (s : Nat) : Int := ((L.filter fun m => m.state == (s : Int)).length : Int)
def cntL (L : List MotionD) : List Int := (List.range 6).map (cntS L)
theorem cntL_len (L : List MotionD) : (cntL L).length = 6 := by simp [cntL]
theorem cntS_bd (L : List MotionD) (s : Nat) : 0 ≤ cntS L s ∧ cntS L s ≤ L.length := by
  unfold cntS
  have := List.length_filter_le (fun m : MotionD => m.state == (s : Int)) L
  omega
theorem cntS_snoc {L : List MotionD} {k : Nat} (hk : k < L.length) (s : Nat) : cntS (L.take (k + 1)) s = cntS (L.take k) s + (if L[k].state = (s : Int) then 1 else 0) := by
  unfold cntS
  rw [List.take_succ_eq_append_getElem hk, List.filter_append, List.length_append]
  by_cases h : L[k].state = (s : Int) <;> simp [h]
theorem cntL_get {L : List MotionD} {s : Nat} (hs : s < 6) : (cntL L)[s]'(by rw [cntL_len]; exact hs) = cntS L s := by simp [cntL]
theorem cntL_step {L : List MotionD} {k s : Nat} (hk : k < L.length) (hs : s < 6) (he : L[k].state = (s : Int)) : (cntL (L.take k)).set s (cntS (L.take k) s + 1) = cntL (L.take (k + 1)) := by
  refine List.ext_getElem (by simp [cntL]) fun i h1 h2 => ?_
  have hi : i < 6 := by rw [cntL_len] at h2; exact h2
  rw [List.getElem_set, cntL_get hi, cntL_get hi, cntS_snoc hk]
  by_cases h : s = i
  · subst h; rw [if_pos rfl, if_pos he]
  · rw [if_neg h, if_neg (by rw [he]; omega)]; omega
theorem cntL_nil : cntL [] = [0, 0, 0, 0, 0, 0] := by decide
def countFor (L : List MotionD) : List Int := if motsOk L then cntL L else []
theorem countFor_len (L : List MotionD) : (countFor L).length ≤ 6 := by
  unfold countFor; split
  · rw [cntL_len]; omega
  · simp
theorem mk6 (w : World) : (Instr.makeSlice 27 (.int .i64 6) (.int .i64 6)).run Try.prog w = .ok (.slice (some ⟨w.heap.size, 0, none⟩) 6 6) (w.alloc (.cells #[.int .i64 0, .int .i64 0, .int .i64 0, .int .i64 0, .int .i64 0, .int .i64 0] 2)) := by kernel_rfl

set_option maxRecDepth 100000 in
set_option maxHeartbeats 4000000 in
theorem spec_CountStates (A : Option Addr) (c : Nat) (L : List MotionD) (w : World) (hr : Rd w w.heap.size A (L.length * 6) (L.flatMap motionC)) (hl : L.length ≤ 140737488355328) (hcap : L.length ≤ c) (hW : ∀ x ∈ L, MotionW x) :
    Calls Try.prog 12 #[.slice A L.length c] w (RowPost2 2 1 (countFor L).length ((countFor L).map (Value.int .i64)) (openCode L) w) := by
  cases hT : motsOk L
  · have e1 : countFor L = [] := by simp [countFor, hT]
    have e2 : openCode L = 1 := by simp [openCode, hT]
    rw [e1, e2]
    go_enter Try.func12, Try.ntmps12
    go_wp2_with fail
    refine (spec_AreMotions A c L _ w hr hl hcap hW hT).mono ?_
    rintro e w1 ⟨rfl, hb1⟩
    go_wp2
    go_ret2
    exact rowPost2_nil hb1
  · have e1 : countFor L = cntL L := by simp [countFor, hT]
    have e2 : openCode L = 0 := by simp [openCode, hT]
    rw [e1, e2, cntL_len]
    have h12 := mots_len hT
    have HOK := Lib.hid hT
    have hmk := mk6
    go_enter Try.func12, Try.ntmps12
    go_wp2_with fail
    refine (spec_AreMotions A c L _ w hr hl hcap hW hT).mono ?_
    rintro e w1 ⟨rfl, hb1⟩
    clear hT
    go_wp2
    have hown0 := own_mono (World.ownsRow_lit (e := 2) (size := 1) w1 #[.int .i64 0, .int .i64 0, .int .i64 0, .int .i64 0, .int .i64 0, .int .i64 0] 6 (Nat.le_refl _) (by unfold maxLen; omega) rfl) hb1.size
    go_loopw [5] (fun i wr => ∃ (k : Nat), k ≤ L.length ∧ i = .int .i64 k ∧ Below w.heap.size w wr ∧ Hid (wr.ownsRow w.heap.size 2 1 (.slice (some ⟨w1.heap.size, 0, none⟩) 6 6) 6 ((cntL (L.take k)).map (Value.int .i64)))) (fun i _ => L.length - (intOf i).toNat)
    case atStart => exact ⟨0, by omega, rfl, hb1.alloc hb1.size _, by rw [List.take_zero, cntL_nil]; exact hown0⟩
    case round =>
      obtain ⟨k, hk, rfl, hB, HO⟩ := hrel
      clear hown0
      by_cases hlt : k < L.length
      · obtain ⟨bf, offf, rfl, hbf, hcf⟩ := Rd.elem motionC 6 (fun _ => rfl) (rdW hB hr) (by omega) hlt
        have f0 : wr.cell? ⟨bf, offf + k * 6, none⟩ = some (.int .i64 L[k].number) := hcf k hlt 0 _ rfl
        have f1 : wr.cell? ⟨bf, offf + k * 6 + 1, none⟩ = some (.string L[k].party) := hcf k hlt 1 _ rfl
        have f2 : wr.cell? ⟨bf, offf + k * 6 + 2, none⟩ = some (.int .i64 L[k].filed) := hcf k hlt 2 _ rfl
        have f3 : wr.cell? ⟨bf, offf + k * 6 + 3, none⟩ = some (.int .i64 L[k].changed) := hcf k hlt 3 _ rfl
        have f4 : wr.cell? ⟨bf, offf + k * 6 + 4, none⟩ = some (.int .i64 L[k].state) := hcf k hlt 4 _ rfl
        have f5 : wr.cell? ⟨bf, offf + k * 6 + 5, none⟩ = some (.int .i64 L[k].after) := hcf k hlt 5 _ rfl
        have hst := (mots_bds HOK.out hlt).2.2.2
        obtain ⟨s, hs⟩ := Int.eq_ofNat_of_zero_le hst.1
        have hs6 : s < 6 := by omega
        have hc0 : wr.cell? ⟨w1.heap.size, s, none⟩ = some (.int .i64 (cntS (L.take k) s)) := by
          rw [HO.out.cellAt s (by omega), List.getElem?_map, List.getElem?_eq_getElem (by rw [cntL_len]; exact hs6), cntL_get hs6]; rfl
        have hfz := HO.out.frozenAt s
        have hbd := cntS_bd (L.take k) s
        have hln : (L.take k).length ≤ 12 := by rw [List.length_take]; omega
        have HST := Lib.hid (cntL_step hlt hs6 hs)
        have HBD := Lib.hid (show 0 ≤ cntS (L.take k) s ∧ cntS (L.take k) s ≤ 12 by omega)
        clear hbd hln
        obtain ⟨q1, q2⟩ := HBD.out
        generalize cntS (L.take k) s = z at *
        rw [hs] at f4
        clear hcf hst hs HBD
        have hs0' : (0 : Int) ≤ (s : Int) := by omega
        have hs6' : (s : Int) < 6 := by omega
        go_wp2
        go_roundw
        case rel => exact ⟨k + 1, by omega, by go_num, hB.setCell (by exact hb1.size) _, by rw [← HST.out, List.map_set]; exact (HO.out.stored s _).1⟩
        case measure => simp [intOf]; omega
      · obtain rfl : k = L.length := by omega
        go_wp2
        go_ret2
        have ho := HO.out
        rw [List.take_length] at ho
        exact rowPost2_mk ho hB

set_option maxRecDepth 100000 in
set_option maxHeartbeats 4000000 in
theorem impl_CountStates (A : Option Addr) (c : Nat) (L : List MotionD) (w : World) (hr : Rd w w.heap.size A (L.length * 6) (L.flatMap motionC)) (hl : L.length ≤ 140737488355328) (hcap : L.length ≤ c) (hW : ∀ x ∈ L, MotionW x) :
    Calls Try.prog 11 #[.slice A L.length c] w (RowPost2 2 1 (countFor L).length ((countFor L).map (Value.int .i64)) (openCode L) w) := by
  cases hT : motsOk L
  · have e1 : countFor L = [] := by simp [countFor, hT]
    have e2 : openCode L = 1 := by simp [openCode, hT]
    rw [e1, e2]
    go_enter Try.func11, Try.ntmps11
    go_wp2_with fail
    refine (impl_AreMotions A c L _ w hr hl hcap hW hT).mono ?_
    rintro e w1 ⟨rfl, hb1⟩
    go_wp2
    go_ret2
    exact rowPost2_nil hb1
  · have e1 : countFor L = cntL L := by simp [countFor, hT]
    have e2 : openCode L = 0 := by simp [openCode, hT]
    rw [e1, e2, cntL_len]
    have h12 := mots_len hT
    have HOK := Lib.hid hT
    have hmk := mk6
    go_enter Try.func11, Try.ntmps11
    go_wp2_with fail
    refine (impl_AreMotions A c L _ w hr hl hcap hW hT).mono ?_
    rintro e w1 ⟨rfl, hb1⟩
    clear hT
    go_wp2
    have hown0 := own_mono (World.ownsRow_lit (e := 2) (size := 1) w1 #[.int .i64 0, .int .i64 0, .int .i64 0, .int .i64 0, .int .i64 0, .int .i64 0] 6 (Nat.le_refl _) (by unfold maxLen; omega) rfl) hb1.size
    go_loopw [13] (fun i wr => ∃ (k : Nat), k ≤ L.length ∧ i = .int .i64 k ∧ Below w.heap.size w wr ∧ w1.heap.size < wr.heap.size ∧ Hid (wr.ownsRow w.heap.size 2 1 (.slice (some ⟨w1.heap.size, 0, none⟩) 6 6) 6 ((cntL (L.take k)).map (Value.int .i64)))) (fun i _ => L.length - (intOf i).toNat)
    case atStart => exact ⟨0, by omega, rfl, hb1.alloc hb1.size _, by simp, by rw [List.take_zero, cntL_nil]; exact hown0⟩
    case round =>
      obtain ⟨k, hk, rfl, hB, hgs, HO⟩ := hrel
      clear hown0
      by_cases hlt : k < L.length
      · obtain ⟨bf, offf, rfl, hbf, hcf⟩ := Rd.elem motionC 6 (fun _ => rfl) (rdW hB hr) (by omega) hlt
        have f0 : wr.cell? ⟨bf, offf + k * 6, none⟩ = some (.int .i64 L[k].number) := hcf k hlt 0 _ rfl
        have f1 : wr.cell? ⟨bf, offf + k * 6 + 1, none⟩ = some (.string L[k].party) := hcf k hlt 1 _ rfl
        have f2 : wr.cell? ⟨bf, offf + k * 6 + 2, none⟩ = some (.int .i64 L[k].filed) := hcf k hlt 2 _ rfl
        have f3 : wr.cell? ⟨bf, offf + k * 6 + 3, none⟩ = some (.int .i64 L[k].changed) := hcf k hlt 3 _ rfl
        have f4 : wr.cell? ⟨bf, offf + k * 6 + 4, none⟩ = some (.int .i64 L[k].state) := hcf k hlt 4 _ rfl
        have f5 : wr.cell? ⟨bf, offf + k * 6 + 5, none⟩ = some (.int .i64 L[k].after) := hcf k hlt 5 _ rfl
        have hk' : (k : Int) < L.length := by omega
        have hst := (mots_bds HOK.out hlt).2.2.2
        obtain ⟨s, hs⟩ := Int.eq_ofNat_of_zero_le hst.1
        have hs6 : s < 6 := by omega
        have hc0 : wr.cell? ⟨w1.heap.size, s, none⟩ = some (.int .i64 (cntS (L.take k) s)) := by
          rw [HO.out.cellAt s (by omega), List.getElem?_map, List.getElem?_eq_getElem (by rw [cntL_len]; exact hs6), cntL_get hs6]; rfl
        have hfz := HO.out.frozenAt s
        have hbd := cntS_bd (L.take k) s
        have hln : (L.take k).length ≤ 12 := by rw [List.length_take]; omega
        have HST := Lib.hid (cntL_step hlt hs6 hs)
        have HBD := Lib.hid (show 0 ≤ cntS (L.take k) s ∧ cntS (L.take k) s ≤ 12 by omega)
        clear hbd hln
        obtain ⟨q1, q2⟩ := HBD.out
        generalize cntS (L.take k) s = z at *
        rw [hs] at f4
        clear hcf hst hs HBD
        have hs0' : (0 : Int) ≤ (s : Int) := by omega
        have hs6' : (s : Int) < 6 := by omega
        go_wp2
        go_roundw
        case rel => exact ⟨k + 1, by omega, by go_num, (hB.setCell (by exact hb1.size) _).alloc (by simp [World.setCell]; exact hB.size) _, by simp [World.setCell]; omega, by rw [← HST.out, List.map_set]; exact ((HO.out.stored s _).1).alloc _⟩
        case measure => simp [intOf]; omega
      · obtain rfl : k = L.length := by omega
        go_wp2
        go_ret2
        have ho := HO.out
        rw [List.take_length] at ho
        exact rowPost2_mk ho hB
end Go.Proofs.Ytdohegpbdlcnjaa
