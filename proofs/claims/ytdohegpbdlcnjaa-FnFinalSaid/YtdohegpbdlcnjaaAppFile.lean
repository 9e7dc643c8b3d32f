/- Contracts: the clone of appeals; FileAppeal of both texts. -/
import Derived.Test.YtdohegpbdlcnjaaAppPlain
import Derived.Test.YtdohegpbdlcnjaaRow
namespace Go.Proofs.Ytdohegpbdlcnjaa
open Go.RowKit
set_option linter.unusedVariables false

set_option maxHeartbeats 1000000 in
theorem cloneAppeal_c (A : Option Addr) (c : Nat) (L : List AppealD) (w : World) (hr : Rd w w.heap.size A (L.length * 5) (L.flatMap appealC)) (hl : L.length * 40 ≤ 140737488355328) :
    Calls Try.prog 83 #[.slice A L.length c] w (RowPost1 64 5 L.length (L.flatMap appealC) w) := by
  obtain ⟨i0, hi, hz0, hz1, hz2⟩ := info_parts appeal_info
  have HO := Lib.hid (one_flat (fun a u hu => by simp only [appealC, List.mem_cons, List.not_mem_nil, or_false] at hu; rcases hu with rfl | rfl | rfl | rfl | rfl <;> rfl) L : ∀ u ∈ L.flatMap appealC, u.oneCell' = true)
  go_enter Try.func83, Try.ntmps83
  go_wp2_with (first | (at_make; refine wpList_make_own _ rfl _ _ 47 rfl w.heap.size 64 i0 _ 5 Try.underlying47 hi hz0 hz1 _ _ _ L.length rfl rfl rfl (by rw [hz2]; omega) (by unfold maxLen; omega) (Nat.le_refl _) ?_; intro w1 hown1 hgrow1; have hb1 : Below w.heap.size w w1 := (Below.refl _ _).grown hgrow1 (Nat.le_refl _) (fun k hk => by cases hk); have HR := Lib.hid (hr.below hb1 : Rd w1 w.heap.size A (L.length * 5) (L.flatMap appealC)); clear hgrow1) | (at_builtin; refine wpList_cat w1 rfl _ _ 47 rfl w.heap.size 64 i0 _ 5 40 Try.underlying47 hi hz0 hz1 hz2 rfl (by decide) _ 0 [] rfl hown1 A L.length c w.heap.size (L.flatMap appealC) rfl HR.out HO.out (by unfold maxLen; omega) (by omega) hb1.size ?_; intro A2 c2 w2 hown2 hgrow2))
  have hb2 : Below w.heap.size w w2 := below_grown hb1 hgrow2 (Nat.le_refl _) (fun g hg => by cases hg; exact Nat.le_refl _)
  simp only [Nat.zero_add, List.nil_append] at hown2
  clear hgrow2 hown1
  go_wp2
  go_ret
  exact rowPost1_mk hown2 hb2


def fileR (H : List Int) (J : Int) (L : List AppealD) (day : Int) : List AppealD × Int :=
  if appsOk H J L then (if inB day 0 20000 then (if (dlFor H J L).2 = 0 then (if inB day (lastAt J L L.length) (dlFor H J L).1 then (L ++ [⟨(L.length : Int) + 1, day, 0, 0, 0⟩], 0) else ([], 5)) else ([], (dlFor H J L).2)) else ([], 2)) else ([], 1)
theorem dlFor_bad {H : List Int} {J : Int} {L : List AppealD} (h : appsOk H J L = false) : (dlFor H J L).2 = 1 := by rw [dlFor, h]; rfl
set_option maxRecDepth 100000 in
set_option maxHeartbeats 2000000 in
theorem impl_FileAppeal (AH : Option Addr) (cH : Nat) (H : List Int) (J : Int) (A : Option Addr) (c : Nat) (L : List AppealD) (day : Int) (w : World) (hrH : Rd w w.heap.size AH H.length (H.map (Value.int .i64))) (hlH : H.length ≤ 140737488355328) (hcapH : H.length ≤ cH) (hr : Rd w w.heap.size A (L.length * 5) (L.flatMap appealC)) (hl : L.length ≤ 140737488355328) (hcap : L.length ≤ c) :
    Calls Try.prog 34 #[.slice AH H.length cH, .int .i64 J, .slice A L.length c, .int .i64 day] w (RowPost2 64 5 (fileR H J L day).1.length ((fileR H J L day).1.flatMap appealC) (fileR H J L day).2 w) := by
  have HDL := fun (W : World) a b => impl_DeadlineFor AH cH H J A c L W a hlH hcapH b hl hcap
  obtain ⟨i0, hi, hz0, hz1, hz2⟩ := info_parts appeal_info
  cases hT : appsOk H J L
  · have hd1 := dlFor_bad hT
    have hF : fileR H J L day = ([], 1) := by rw [fileR, hT]; rfl
    rw [hF]
    clear hF
    generalize dlFor H J L = dl at *
    obtain ⟨d, dc⟩ := dl
    simp only at hd1
    subst hd1
    have HD := Lib.hid HDL
    clear HDL
    go_enter Try.func34, Try.ntmps34
    go_wp2_with fail
    refine (impl_AreAppeals AH cH H J A c L _ w hrH hlH hcapH hr hl hcap hT).mono ?_
    rintro e w1 ⟨rfl, hb1⟩
    go_wp2_with fail
    refine (HD.out w1 (rdW hb1 hrH) (rdW hb1 hr)).mono ?_
    rintro e w2 ⟨rfl, hb2⟩
    go_wp2
    go_ret2
    exact rowPost2_nil (bt hb1 hb2)
  cases hD : inB day 0 20000
  · have hF : fileR H J L day = ([], 2) := by rw [fileR, hT, hD]; rfl
    rw [hF]
    clear hF HDL
    go_enter Try.func34, Try.ntmps34
    go_wp2_with fail
    refine (impl_AreAppeals AH cH H J A c L _ w hrH hlH hcapH hr hl hcap hT).mono ?_
    rintro e w1 ⟨rfl, hb1⟩
    go_wp2_with (first | (go_at_call 65; refine (isDay_b _ _ _ hD).mono ?_; rintro e w' ⟨rfl, rfl⟩))
    go_ret2
    exact rowPost2_nil hb1
  have hF : fileR H J L day = if (dlFor H J L).2 = 0 then (if inB day (lastAt J L L.length) (dlFor H J L).1 then (L ++ [⟨(L.length : Int) + 1, day, 0, 0, 0⟩], 0) else ([], 5)) else ([], (dlFor H J L).2) := by rw [fileR, hT, hD]; rfl
  rw [hF]
  clear hF
  have h6 := (apps_parts hT).2.2.1
  generalize dlFor H J L = dl at *
  obtain ⟨d, dc⟩ := dl
  have HD := Lib.hid HDL
  clear HDL
  by_cases hdc : dc = 0
  · subst hdc
    rw [if_pos rfl]
    cases hW : inB day (lastAt J L L.length) d
    · rw [if_neg (by decide)]
      go_enter Try.func34, Try.ntmps34
      go_wp2_with fail
      refine (impl_AreAppeals AH cH H J A c L _ w hrH hlH hcapH hr hl hcap hT).mono ?_
      rintro e w1 ⟨rfl, hb1⟩
      go_wp2_with (first | (go_at_call 65; refine (isDay_b _ _ _ hD).mono ?_; rintro e w' ⟨rfl, rfl⟩))
      refine (HD.out w1 (rdW hb1 hrH) (rdW hb1 hr)).mono ?_
      rintro e w2 ⟨rfl, hb2⟩
      have hB2 := bt hb1 hb2
      go_wp2_with fail
      refine (lastDecision_c J A c L w2 (rdW hB2 hr) hl hcap).mono ?_
      rintro e w' ⟨rfl, rfl⟩
      go_wp2_with (first | (go_at_call 72; refine (within_b _ _ _ _ _ hW).mono ?_; rintro e w' ⟨rfl, rfl⟩))
      go_ret2
      exact rowPost2_nil hB2
    · rw [if_pos rfl]
      go_enter Try.func34, Try.ntmps34
      go_wp2_with fail
      refine (impl_AreAppeals AH cH H J A c L _ w hrH hlH hcapH hr hl hcap hT).mono ?_
      rintro e w1 ⟨rfl, hb1⟩
      go_wp2_with (first | (go_at_call 65; refine (isDay_b _ _ _ hD).mono ?_; rintro e w' ⟨rfl, rfl⟩))
      refine (HD.out w1 (rdW hb1 hrH) (rdW hb1 hr)).mono ?_
      rintro e w2 ⟨rfl, hb2⟩
      have hB2 := bt hb1 hb2
      go_wp2_with fail
      refine (lastDecision_c J A c L w2 (rdW hB2 hr) hl hcap).mono ?_
      rintro e w' ⟨rfl, rfl⟩
      go_wp2_with (first | (go_at_call 72; refine (within_b _ _ _ _ _ hW).mono ?_; rintro e w' ⟨rfl, rfl⟩))
      refine (cloneAppeal_c A c L w2 (rdW hB2 hr) (by omega)).mono ?_
      rintro e w3 ⟨A3, c3, rfl, ho3, hb3, hc3, hd3⟩
      have hB3 := bt hB2 hb3
      have HS3 := Lib.hid hb3.size
      clear hT hD hW hb1 hb2
      go_wp2_with (at_builtin; go_loud (refine wpList_push w3 rfl _ _ 47 rfl w2.heap.size 64 i0 _ 5 40 Try.underlying47 hi hz0 hz1 hz2 rfl (by decide) (.slice A3 L.length c3) L.length (L.flatMap appealC) (by rfl) ho3 [.int .i64 ((L.length : Int) + 1), .int .i64 day, .int .i64 0, .int .i64 0, .int .i64 0] 64 (by rfl) rfl (by simp [Value.oneCell']) (by unfold maxLen; omega) (by omega) HS3.out ?_; intro A4 c4 w4 ho4 hg4))
      have hB4 : Below w.heap.size w w4 := below_grown hB3 hg4 (Nat.le_refl _) (fun k hk => by have := (World.ownsRow.lt ho3 k hk).1; have := hB2.size; omega)
      go_ret2
      have ho5 := own_mono ho4 hB2.size
      have e1 : ((L ++ [⟨(L.length : Int) + 1, day, 0, 0, 0⟩]) : List AppealD).length = L.length + 1 := by simp
      have e2 : ((L ++ [⟨(L.length : Int) + 1, day, 0, 0, 0⟩]) : List AppealD).flatMap appealC = L.flatMap appealC ++ [.int .i64 ((L.length : Int) + 1), .int .i64 day, .int .i64 0, .int .i64 0, .int .i64 0] := by simp [appealC]
      rw [e1, e2]
      exact rowPost2_mk ho5 hB4
  · rw [if_neg hdc]
    go_enter Try.func34, Try.ntmps34
    go_wp2_with fail
    refine (impl_AreAppeals AH cH H J A c L _ w hrH hlH hcapH hr hl hcap hT).mono ?_
    rintro e w1 ⟨rfl, hb1⟩
    go_wp2_with (first | (go_at_call 65; refine (isDay_b _ _ _ hD).mono ?_; rintro e w' ⟨rfl, rfl⟩))
    refine (HD.out w1 (rdW hb1 hrH) (rdW hb1 hr)).mono ?_
    rintro e w2 ⟨rfl, hb2⟩
    go_wp2
    go_ret2
    exact rowPost2_nil (bt hb1 hb2)


set_option maxRecDepth 100000 in
set_option maxHeartbeats 2000000 in
theorem spec_FileAppeal (AH : Option Addr) (cH : Nat) (H : List Int) (J : Int) (A : Option Addr) (c : Nat) (L : List AppealD) (day : Int) (w : World) (hrH : Rd w w.heap.size AH H.length (H.map (Value.int .i64))) (hlH : H.length ≤ 140737488355328) (hcapH : H.length ≤ cH) (hr : Rd w w.heap.size A (L.length * 5) (L.flatMap appealC)) (hl : L.length ≤ 140737488355328) (hcap : L.length ≤ c) :
    Calls Try.prog 35 #[.slice AH H.length cH, .int .i64 J, .slice A L.length c, .int .i64 day] w (RowPost2 64 5 (fileR H J L day).1.length ((fileR H J L day).1.flatMap appealC) (fileR H J L day).2 w) := by
  have hc0 := l31Code_c AH cH H J A c L day w hrH hlH hcapH hr hl hcap
  have HDL := fun (W : World) a b => spec_DeadlineFor AH cH H J A c L W a hlH hcapH b hl hcap
  unfold codeA at hc0
  obtain ⟨i0, hi, hz0, hz1, hz2⟩ := info_parts appeal_info
  cases hT : appsOk H J L
  · have hF : fileR H J L day = ([], 1) := by rw [fileR, hT]; rfl
    rw [hF]
    rw [hT, if_neg (by decide)] at hc0
    clear hF HDL
    go_enter Try.func35, Try.ntmps35
    go_wp2_with fail
    refine hc0.mono ?_
    rintro e w1 ⟨rfl, hb1⟩
    go_wp2
    go_ret2
    exact rowPost2_nil hb1
  rw [hT, if_pos rfl] at hc0
  cases hD : inB day 0 20000
  · have hF : fileR H J L day = ([], 2) := by rw [fileR, hT, hD]; rfl
    rw [hF]
    rw [hD, if_neg (by decide)] at hc0
    clear hF HDL
    go_enter Try.func35, Try.ntmps35
    go_wp2_with fail
    refine hc0.mono ?_
    rintro e w1 ⟨rfl, hb1⟩
    go_wp2
    go_ret2
    exact rowPost2_nil hb1
  rw [hD, if_pos rfl] at hc0
  have HC := Lib.hid hc0
  clear hc0
  have hF : fileR H J L day = if (dlFor H J L).2 = 0 then (if inB day (lastAt J L L.length) (dlFor H J L).1 then (L ++ [⟨(L.length : Int) + 1, day, 0, 0, 0⟩], 0) else ([], 5)) else ([], (dlFor H J L).2) := by rw [fileR, hT, hD]; rfl
  rw [hF]
  clear hF
  have h6 := (apps_parts hT).2.2.1
  have HO := Lib.hid (one_flat (fun a u hu => by simp only [appealC, List.mem_cons, List.not_mem_nil, or_false] at hu; rcases hu with rfl | rfl | rfl | rfl | rfl <;> rfl) L : ∀ u ∈ L.flatMap appealC, u.oneCell' = true)
  generalize dlFor H J L = dl at *
  obtain ⟨d, dc⟩ := dl
  have HD := Lib.hid HDL
  clear HDL hT hD
  by_cases hdc : dc = 0
  · subst hdc
    rw [if_pos rfl]
    cases hW : inB day (lastAt J L L.length) d
    · rw [if_neg (by decide)]
      go_enter Try.func35, Try.ntmps35
      go_wp2_with fail
      refine HC.out.mono ?_
      rintro e w1 ⟨rfl, hb1⟩
      go_wp2_with fail
      refine (HD.out w1 (rdW hb1 hrH) (rdW hb1 hr)).mono ?_
      rintro e w2 ⟨rfl, hb2⟩
      have hB2 := bt hb1 hb2
      go_wp2_with fail
      refine (l31Last_c J A c L w2 (rdW hB2 hr) hl hcap).mono ?_
      rintro e w' ⟨rfl, rfl⟩
      go_wp2_with (first | (go_at_call 74; refine (l01In_b _ _ _ _ _ hW).mono ?_; rintro e w' ⟨rfl, rfl⟩))
      go_ret2
      exact rowPost2_nil hB2
    · rw [if_pos rfl]
      go_enter Try.func35, Try.ntmps35
      go_wp2_with fail
      refine HC.out.mono ?_
      rintro e w1 ⟨rfl, hb1⟩
      go_wp2_with fail
      refine (HD.out w1 (rdW hb1 hrH) (rdW hb1 hr)).mono ?_
      rintro e w2 ⟨rfl, hb2⟩
      have hB2 := bt hb1 hb2
      clear hb1 hb2
      go_wp2_with fail
      refine (l31Last_c J A c L w2 (rdW hB2 hr) hl hcap).mono ?_
      rintro e w' ⟨rfl, rfl⟩
      have HL := Lib.hid (World.ownsRow_lit (base := w2.heap.size) (size := 5) (e := 64) w2 #[] 0 (Nat.le_refl _) (by unfold maxLen; omega) rfl)
      have HR := Lib.hid ((rdW hB2 hr).alloc (Nat.le_refl _) (.cells #[] 64))
      have hBx : Below w.heap.size w (w2.alloc (.cells #[] 64)) := hB2.alloc hB2.size _
      have HB := Lib.hid hB2.size
      go_wp2_with (first | (go_at_call 74; refine (l01In_b _ _ _ _ _ hW).mono ?_; rintro e w' ⟨rfl, rfl⟩) | (at_builtin; refine wpList_cat _ rfl (.tmp 38) (.tmp 39) 47 rfl w2.heap.size 64 i0 _ 5 40 Try.underlying47 hi hz0 hz1 hz2 rfl (by decide) (.slice (some ⟨w2.heap.size, 0, none⟩) 0 0) (0) ([]) (by rfl) HL.out A (L.length) c w2.heap.size (L.flatMap appealC) (by rfl) HR.out HO.out (by unfold maxLen; omega) (by omega) (by simp) ?_; intro A2 c2 w3 ho3 hg3; simp only [Nat.zero_add, List.nil_append] at ho3; have HS3 := Lib.hid hg3.size) | (at_builtin; refine wpList_push w3 rfl (.tmp 40) (.tmp 46) 47 rfl w2.heap.size 64 i0 _ 5 40 Try.underlying47 hi hz0 hz1 hz2 rfl (by decide) (.slice A2 L.length c2) (L.length) (L.flatMap appealC) (by rfl) ho3 [.int .i64 ((L.length : Int) + 1), .int .i64 day, .int .i64 0, .int .i64 0, .int .i64 0] 64 (by rfl) rfl (by simp [Value.oneCell']) (by unfold maxLen; omega) (by omega) (by have := HS3.out; simp at this; omega) ?_; intro A4 c4 w4 ho4 hg4))
      have hB3 : Below w.heap.size w w3 := below_grown hBx hg3 (Nat.le_refl _) (fun k hk => by cases hk; exact hB2.size)
      have hB4 : Below w.heap.size w w4 := below_grown hB3 hg4 (Nat.le_refl _) (fun k hk => by have := (World.ownsRow.lt ho3 k hk).1; have := hB2.size; omega)
      go_ret2
      have ho5 := own_mono ho4 hB2.size
      have e1 : ((L ++ [⟨(L.length : Int) + 1, day, 0, 0, 0⟩]) : List AppealD).length = L.length + 1 := by simp
      have e2 : ((L ++ [⟨(L.length : Int) + 1, day, 0, 0, 0⟩]) : List AppealD).flatMap appealC = L.flatMap appealC ++ [.int .i64 ((L.length : Int) + 1), .int .i64 day, .int .i64 0, .int .i64 0, .int .i64 0] := by simp [appealC]
      rw [e1, e2]
      exact rowPost2_mk ho5 hB4
  · rw [if_neg hdc]
    go_enter Try.func35, Try.ntmps35
    go_wp2_with fail
    refine HC.out.mono ?_
    rintro e w1 ⟨rfl, hb1⟩
    go_wp2_with fail
    refine (HD.out w1 (rdW hb1 hrH) (rdW hb1 hr)).mono ?_
    rintro e w2 ⟨rfl, hb2⟩
    go_wp2
    go_ret2
    exact rowPost2_nil (bt hb1 hb2)

theorem fileR_len (H : List Int) (J : Int) (L : List AppealD) (day : Int) : (fileR H J L day).1.length ≤ 7 := by
  unfold fileR
  split
  · rename_i h
    have := (apps_parts h).2.2.1
    split <;> (try split) <;> (try split) <;> simp <;> omega
  · simp

end Go.Proofs.Ytdohegpbdlcnjaa
