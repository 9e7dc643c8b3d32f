/- Contract: AreValues of the program (its closure, ContainsFunc and IndexFunc included). -/
import Derived.Test.YtilanpmjemlopaaVal3
import Derived.Test.YtilanpmjemlopaaShelf
namespace Go.Proofs.Ytilanpmjemlopaa
open Go.RowKit
set_option linter.unusedVariables false
def hasN (V : List ValueD) (n : ByteArray) : Bool := V.any (fun x => decide (x.name = n))
theorem has_yes {V : List ValueD} {n : ByteArray} {k : Nat} (hk : k < V.length) (h : V[k].name = n) : hasN V n = true := by
  unfold hasN; rw [List.any_eq_true]; exact ⟨_, List.getElem_mem hk, by simpa using h⟩
theorem has_no {V : List ValueD} {n : ByteArray} (h : ∀ j (hj : j < V.length), j < V.length → ¬ V[j].name = n) : hasN V n = false := by
  unfold hasN
  rw [List.any_eq_false]
  intro x hx
  obtain ⟨j, hj, rfl⟩ := List.getElem_of_mem hx
  simpa using h j hj hj
theorem has_step {V : List ValueD} {n : ByteArray} {k : Nat} (hk : k < V.length) (T : Hid (∀ j (hj : j < V.length), j < k → ¬ V[j].name = n)) (h : ¬ V[k].name = n) : Hid (∀ j (hj : j < V.length), j < k + 1 → ¬ V[j].name = n) := fun j hj hlt => by
  by_cases e : j = k
  · subst e; exact h
  · exact T.out j hj (by omega)
set_option maxRecDepth 100000 in
set_option maxHeartbeats 2000000 in
theorem areV1_c (u0 u1 n : ByteArray) (b : Nat) (r : Bool) (w : World) (h0 : w.cell? ⟨b, 0, none⟩ = some (.string n)) (hb : b < w.heap.size) (h : (u0.toList == n.toList) = r) :
    Calls Try.prog 56 #[.agg #[.string u0, .string u1], .pointer (some ⟨b, 0, none⟩)] w fun e w' => e = .returned (.bool r) ∧ Below w.heap.size w w' := by
  have HR := Lib.hid h
  clear h
  go_enter Try.func56, Try.ntmps56
  go_wp2_with fail
  generalize hW0 : w.alloc _ = W0
  have hbW0 : Below w.heap.size w W0 := by subst hW0; exact (Below.refl _ _).alloc (Nat.le_refl _) _
  have hsW0 : W0.heap.size = w.heap.size + 1 := by subst hW0; simp
  have cxW0_0 : ∀ i, W0.cell? ⟨w.heap.size, i, none⟩ = (#[.string u0, .string u1] : Array Value)[i]? := by intro i; subst hW0; simp [go_sem]
  have HSW0 := Lib.hid hsW0; clear hW0 hsW0
  have k0 := (hbW0.cell (p := ⟨b, 0, none⟩) hb).trans h0
  clear h0
  go_wp2
  go_ret
  exact ⟨ret_bool HR.out, hbW0⟩
set_option maxRecDepth 100000 in
set_option maxHeartbeats 2000000 in
theorem indexName_c (A : Option Addr) (m c : Nat) (V : List ValueD) (n : ByteArray) (b : Nat) (r : Bool) (w : World) (hm : V.length = m) (hr : Rd w w.heap.size A (m * 2) (V.flatMap valueC)) (hl : m ≤ 140737488355328) (h0 : w.cell? ⟨b, 0, none⟩ = some (.string n)) (hb : b < w.heap.size) (h : hasN V n = r) :
    Calls Try.prog 74 #[.slice A m c, .func (.func 56) #[] #[.pointer (some ⟨b, 0, none⟩)]] w fun e w' => (∃ q : Int, e = .returned (.int .i64 q) ∧ decide (0 ≤ q) = r) ∧ Below w.heap.size w w' := by
  subst hm
  have HH := Lib.hid h
  clear h
  go_enter Try.func74, Try.ntmps74
  go_wp2
  go_loopw [8] (fun i wr => ∃ k : Nat, k ≤ V.length ∧ i = .int .i64 k ∧ Below w.heap.size w wr ∧ Hid (∀ j (hj : j < V.length), j < k → ¬ V[j].name = n)) (fun i _ => V.length - (intOf i).toNat)
  case atStart => exact ⟨0, by omega, rfl, Below.refl _ _, Lib.hid (fun j hj h => by omega)⟩
  case round =>
    obtain ⟨k, hk, rfl, hB, HT⟩ := hrel
    have hzr := hB.size
    by_cases hlt : k < V.length
    · obtain ⟨bf, offf, rfl, hbf, hcf⟩ := Rd.elem valueC 2 (fun _ => rfl) (rdW hB hr) (by omega) hlt
      have f0 : wr.cell? ⟨bf, offf + k * 2, none⟩ = some (.string V[k].name) := hcf k hlt 0 _ rfl
      have f1 : wr.cell? ⟨bf, offf + k * 2 + 1, none⟩ = some (.string V[k].text) := hcf k hlt 1 _ rfl
      have k0 := (hB.cell (p := ⟨b, 0, none⟩) hb).trans h0
      clear hcf
      have hk1 : (k : Int) < (V.length : Int) := by omega
      by_cases hh : V[k].name = n
      · have HYES := Lib.hid (has_yes hlt hh)
        have hbe : (V[k].name.toList == n.toList) = true := by rw [hh]; simp
        clear hh
        generalize V[k].name = x at *
        generalize V[k].text = y at *
        go_wp2_with fail
        refine (areV1_c x y n b true wr k0 (by omega) hbe).mono ?_
        rintro e w2 ⟨rfl, hb2⟩
        go_wp2
        go_ret
        exact ⟨⟨(k : Int), rfl, by rw [← HH.out, HYES.out]; simp⟩, bt hB hb2⟩
      · have HN := has_step hlt HT hh
        have hbe := nameNe hh
        clear hh
        generalize V[k].name = x at *
        generalize V[k].text = y at *
        go_wp2_with fail
        refine (areV1_c x y n b false wr k0 (by omega) hbe).mono ?_
        rintro e w2 ⟨rfl, hb2⟩
        go_wp2
        go_roundw
        case rel => exact ⟨k + 1, by omega, by go_num, bt hB hb2, HN⟩
        case measure => first | (simp [intOf]; done) | (simp [intOf]; omega)
    · obtain rfl : k = V.length := by omega
      go_wp2
      go_ret
      exact ⟨⟨-1, rfl, by rw [← HH.out, has_no HT.out]; rfl⟩, hB⟩
set_option maxRecDepth 100000 in
set_option maxHeartbeats 2000000 in
theorem containsName_c (A : Option Addr) (m c : Nat) (V : List ValueD) (n : ByteArray) (b : Nat) (r : Bool) (w : World) (hm : V.length = m) (hr : Rd w w.heap.size A (m * 2) (V.flatMap valueC)) (hl : m ≤ 140737488355328) (h0 : w.cell? ⟨b, 0, none⟩ = some (.string n)) (hb : b < w.heap.size) (h : hasN V n = r) :
    Calls Try.prog 55 #[.slice A m c, .func (.func 56) #[] #[.pointer (some ⟨b, 0, none⟩)]] w fun e w' => e = .returned (.bool r) ∧ Below w.heap.size w w' := by
  have HH := Lib.hid h
  clear h
  go_enter Try.func55, Try.ntmps55
  go_wp2_with fail
  refine (indexName_c A m c V n b r w hm hr hl h0 hb HH.out).mono ?_
  rintro e w2 ⟨⟨q, rfl, hq⟩, hb2⟩
  have HQ := Lib.hid hq
  clear hq
  go_wp2
  go_ret
  exact ⟨ret_bool HQ.out, hb2⟩
theorem spec_ascii : ∀ (j : Nat) (b : UInt8), (#[123, 125, 91, 93, 124] : Array UInt8).toList[j]? = some b → b.toNat < 128 := fun j b hb => by
  have hm := List.mem_of_getElem? hb
  simp at hm
  rcases hm with h | h | h | h | h <;> subst h <;> decide
def spec5 : List UInt8 := [123, 125, 91, 93, 124]
theorem any_iff (ch : List UInt8) : ∀ l : List UInt8, Lib.containsAny l ch = l.any (fun b => ch.contains b)
  | [] => by simp [Lib.containsAny, Lib.indexAny]
  | b :: l => by
    have ih := any_iff ch l
    unfold Lib.containsAny at ih ⊢
    have hg := Lib.indexAny_ge ch l
    rw [Lib.indexAny, List.any_cons, ← ih]
    cases h : ch.contains b
    · rw [if_neg (by simp)]
      by_cases h2 : Lib.indexAny l ch = -1
      · rw [if_pos (by simpa using h2), h2]; rfl
      · rw [if_neg (by simpa using h2)]
        simp only [Bool.false_or]
        congr 1
        rw [eq_iff_iff]; omega
    · rw [if_pos rfl]; rfl
theorem spec_in (c : UInt8) : spec5.contains c = specC c := by
  unfold spec5 specC
  simp only [List.contains_cons, List.contains_nil, Bool.or_false, Bool.or_assoc]
theorem plainS_eq (s : ByteArray) : plainS s = (plainL s && !Lib.containsAny s.data.toList spec5) := by
  rw [any_iff]
  unfold plainS plainL
  generalize s.data.toList = l
  induction l with
  | nil => rfl
  | cons b l ih =>
    rw [List.all_cons, ih, List.all_cons, List.any_cons, spec_in]
    unfold okC
    cases plainC b <;> cases specC b <;> cases l.all plainC <;> simp
theorem plain_ascii {s : ByteArray} (h : plainL s = true) : ∀ (j : Nat) b, s.data.toList[j]? = some b → b.toNat < 128 := fun j b hb => by
  have hm := List.mem_of_getElem? hb
  have := List.all_eq_true.1 h b hm
  simp only [plainC, Bool.and_eq_true, decide_eq_true_eq] at this
  omega
set_option maxRecDepth 100000 in
set_option maxHeartbeats 4000000 in
theorem impl_AreValues (A : Option Addr) (c : Nat) (V : List ValueD) (w : World) (hr : Rd w w.heap.size A (V.length * 2) (V.flatMap valueC)) (hl : V.length ≤ 140737488355328) (hcap : V.length ≤ c) (hW : ∀ x ∈ V, ValueW x) :
    Calls Try.prog 31 #[.slice A V.length c] w fun e w' => e = .returned (.bool (valsOk V)) ∧ Below w.heap.size w w' := by
  have HR := Lib.hid hr; have HW := Lib.hid hW; clear hr hW
  go_enter Try.func31, Try.ntmps31
  go_wp2
  go_loopw [7] (fun i wr => ∃ k : Nat, k ≤ V.length ∧ i = .int .i64 k ∧ Hid (GV V k) ∧ Below w.heap.size w wr) (fun i _ => V.length - (intOf i).toNat)
  case atStart => exact ⟨0, by omega, rfl, ⟨fun j hj h => by omega, fun j hj h => by omega⟩, Below.refl _ _⟩
  case round =>
    obtain ⟨k, hk, rfl, HG, hB⟩ := hrel
    by_cases hlt : k < V.length
    · obtain ⟨bf, offf, rfl, hbf, hcf⟩ := Rd.elem valueC 2 (fun _ => rfl) (rdW hB HR.out) (by omega) hlt
      have f0 : wr.cell? ⟨bf, offf + k * 2, none⟩ = some (.string V[k].name) := hcf k hlt 0 _ rfl
      have f1 : wr.cell? ⟨bf, offf + k * 2 + 1, none⟩ = some (.string V[k].text) := hcf k hlt 1 _ rfl
      clear hcf
      have hki : (k : Int) < (V.length : Int) := by omega
      have hk0 : (0 : Int) ≤ (k : Int) := by omega
      have hkc : (k : Int) ≤ (c : Int) := by omega
      have hxw := HW.out _ (List.getElem_mem hlt)
      obtain ⟨hxn, hxt⟩ := hxw
      unfold maxLen at hxn hxt
      have HTK := Lib.hid (fun (W : World) (hb : Below wr.heap.size wr W) => Rd.take_ (f := valueC) (fun _ => rfl) (rdW hb (rdW hB HR.out)) hk)
      have hdup : hasN (V.take k) V[k].name = decide (∃ i, ∃ (hi : i < k), V[i].name = V[k].name) := by
        rw [Bool.eq_iff_iff, decide_eq_true_eq]
        unfold hasN
        rw [List.any_eq_true]
        constructor
        · rintro ⟨x, hx, hn⟩
          obtain ⟨i, hi, rfl⟩ := List.getElem_of_mem hx
          have hi2 : i < k := by rw [List.length_take] at hi; omega
          exact ⟨i, hi2, by simpa using hn⟩
        · rintro ⟨i, hi, hn⟩
          exact ⟨(V.take k)[i]'(by rw [List.length_take]; omega), List.getElem_mem _, by simpa using hn⟩
      have HVK := Lib.hid (show valOk V[k] = (isWordB V[k].name && (plainS V[k].text && decide ((V[k].text.size : Int) ≤ 60))) from rfl)
      have HNO := Lib.hid (fun h => gv_no hlt h)
      have HST := Lib.hid (fun h1 h2 => gv_step hlt HG h1 h2)
      have HDU := Lib.hid (fun i (hi : i < k) h => gv_dup hlt hi h)
      have HD := Lib.hid hdup
      clear hdup
      generalize V[k].name = x at *
      generalize V[k].text = y at *
      go_wp2_with fail
      generalize hW1 : wr.alloc _ = W1
      have hbW1 : Below wr.heap.size wr W1 := by subst hW1; exact (Below.refl _ _).alloc (Nat.le_refl _) _
      have hsW1 : W1.heap.size = wr.heap.size + 1 := by subst hW1; simp
      have cxW1_0 : ∀ i, W1.cell? ⟨wr.heap.size, i, none⟩ = (#[.string x, .string y] : Array Value)[i]? := by intro i; subst hW1; simp [go_sem]
      have HSW1 := Lib.hid hsW1; clear hW1 hsW1
      have hzW : wr.heap.size < W1.heap.size := by have := HSW1.out; omega
      have HB1 := Lib.hid (bt hB hbW1)
      have cx0 := cxW1_0 0
      have cx1 := cxW1_0 1
      clear HSW1 cxW1_0
      cases hw : isWordB x with
      | false =>
        have HN := Lib.hid (HNO.out (by rw [HVK.out, hw]; rfl))
        refine (impl_IsWord x false W1 (by omega) hw).mono ?_
        rintro e w' ⟨rfl, rfl⟩
        go_wp2
        go_ret
        exact ⟨by rw [HN.out]; rfl, HB1.out⟩
      | true =>
        refine (impl_IsWord x true W1 (by omega) hw).mono ?_
        rintro e w' ⟨rfl, rfl⟩
        go_wp2_with fail
        cases hp : isPlainB y 60 with
        | false =>
          have HN := Lib.hid (HNO.out (by
            rw [HVK.out, hw, plainS_eq]
            unfold isPlainB at hp
            cases h1 : plainL y
            · rfl
            · rw [h1] at hp
              simp only [Bool.true_and] at hp
              rw [hp]; simp))
          refine (isPlain_b y 60 false W1 (by omega) hp).mono ?_
          rintro e w' ⟨rfl, rfl⟩
          go_wp2
          go_ret
          exact ⟨by rw [HN.out]; rfl, HB1.out⟩
        | true =>
          have hpp := hp
          unfold isPlainB at hpp
          rw [Bool.and_eq_true, decide_eq_true_eq] at hpp
          obtain ⟨hpl, h60⟩ := hpp
          refine (isPlain_b y 60 true W1 (by omega) hp).mono ?_
          rintro e w' ⟨rfl, rfl⟩
          go_wp2_with fail
          refine (Try.strings_ContainsAny_laid y ⟨#[123, 125, 91, 93, 124]⟩ W1 (by omega) (by decide) (plain_ascii hpl) spec_ascii).mono ?_
          rintro e w2 ⟨rfl, hb2⟩
          have HB2 := Lib.hid (bt HB1.out hb2)
          have hz2 := hb2.size
          have cx2 := (hb2.cell (p := ⟨wr.heap.size, 0, none⟩) (by simp only; omega)).trans cx0
          have hbw2 := bt hbW1 hb2
          have HCA : Hid (Lib.containsAny y.data.toList (#[123, 125, 91, 93, 124] : Array UInt8).toList = Lib.containsAny y.data.toList spec5) := rfl
          cases hc : Lib.containsAny y.data.toList spec5 with
          | true =>
            have HN := Lib.hid (HNO.out (by rw [HVK.out, hw, plainS_eq, hpl, hc]; rfl))
            have hc2 : Lib.containsAny y.data.toList (#[123, 125, 91, 93, 124] : Array UInt8).toList = true := hc
            clear cx0 cx1 cx2
            rw [hc2]
            go_wp2
            go_ret
            exact ⟨by rw [HN.out]; rfl, HB2.out⟩
          | false =>
            have hc2 : Lib.containsAny y.data.toList (#[123, 125, 91, 93, 124] : Array UInt8).toList = false := hc
            have HOK := Lib.hid (show valOk V[k] = true by rw [HVK.out, hw, plainS_eq, hpl, hc, decide_eq_true h60]; rfl)
            clear cx0 cx1 hp hc
            rw [hc2]
            clear hc2
            go_wp2_with fail
            by_cases hd : ∃ i, ∃ (hi : i < k), V[i].name = x
            · have HN := Lib.hid (by obtain ⟨i, hi, he⟩ := hd; exact HDU.out i hi he)
              refine (containsName_c (some ⟨bf, offf, none⟩) k c (V.take k) x wr.heap.size true w2 (by rw [List.length_take]; omega) (HTK.out w2 hbw2) (by omega) cx2 (by omega) (by rw [HD.out]; simpa using hd)).mono ?_
              rintro e w3 ⟨rfl, hb3⟩
              go_wp2
              go_ret
              exact ⟨by rw [HN.out]; rfl, bt HB2.out hb3⟩
            · have HN := HST.out HOK.out (fun i hi he => hd ⟨i, hi, he⟩)
              refine (containsName_c (some ⟨bf, offf, none⟩) k c (V.take k) x wr.heap.size false w2 (by rw [List.length_take]; omega) (HTK.out w2 hbw2) (by omega) cx2 (by omega) (by rw [HD.out]; simpa using hd)).mono ?_
              rintro e w3 ⟨rfl, hb3⟩
              go_wp2
              go_roundw
              case rel => exact ⟨k + 1, by omega, by go_num, HN, bt HB2.out hb3⟩
              case measure => first | (simp [intOf]; done) | (simp [intOf]; omega)
    · obtain rfl : k = V.length := by omega
      have HN := Lib.hid (gv_end HG)
      go_wp2_with (first | (go_at_call 57; refine (few_b _ _ _ _ rfl).mono ?_; rintro e w' ⟨rfl, rfl⟩))
      go_ret
      exact ⟨by rw [HN.out]; rfl, hB⟩
end Go.Proofs.Ytilanpmjemlopaa
