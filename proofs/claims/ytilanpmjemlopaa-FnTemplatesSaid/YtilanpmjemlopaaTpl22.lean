/- Contracts: fill (a row without sections; a row with). -/
import Derived.Test.YtilanpmjemlopaaTpl21
namespace Go.Proofs.Ytilanpmjemlopaa
open Go.RowKit
set_option linter.unusedVariables false
def valB (V : List ValueD) (n : ByteArray) : ByteArray := (txtOf V n).getD ⟨#[]⟩
theorem valB_dl (V : List ValueD) (n : ByteArray) : dl (valB V n) = getV V n := rfl
/-- What the program puts for a part that is no section. -/
def outI (V : List ValueD) (x : PlD) : List UInt8 := dl x.text ++ getV V x.name
def textI (V : List ValueD) (D : List PlD) : List UInt8 := D.flatMap (outI V)
def txtI (V : List ValueD) (p : PtD) : List UInt8 := if p.sec = true then (if accV V p.pl.name = true then textI V p.inner else []) else outI V p.pl
def textIT (V : List ValueD) (T : List PtD) : List UInt8 := T.flatMap (txtI V)
def TxtB (D : List PlD) : Prop := ∀ x ∈ D, x.text.size ≤ 2000000
def TxtBT (T : List PtD) : Prop := ∀ p ∈ T, p.pl.text.size ≤ 2000000 ∧ TxtB p.inner
theorem outI_len {V : List ValueD} (hV : ValB V) {x : PlD} (h : x.text.size ≤ 2000000) : (outI V x).length ≤ 4000000 := by
  have := getV_len hV x.name
  unfold outI dl
  rw [List.length_append, len_data]; omega
theorem textI_len {V : List ValueD} (hV : ValB V) : ∀ {D : List PlD}, TxtB D → (textI V D).length ≤ D.length * 4000000
  | [], _ => Nat.zero_le _
  | x :: D, h => by
    have h1 := outI_len hV (h x (by simp))
    have h2 := textI_len hV (D := D) (fun y hy => h y (by simp [hy]))
    unfold textI at h2 ⊢
    rw [List.flatMap_cons, List.length_append, List.length_cons]; omega
theorem txtI_len {V : List ValueD} (hV : ValB V) {p : PtD} (h : p.pl.text.size ≤ 2000000 ∧ TxtB p.inner) : (txtI V p).length ≤ 4000000 + p.inner.length * 4000000 := by
  have h1 := outI_len hV h.1
  have h2 := textI_len hV h.2
  unfold txtI
  split
  · split
    · omega
    · exact Nat.zero_le _
  · omega
theorem textIT_len {V : List ValueD} (hV : ValB V) : ∀ {T : List PtD}, TxtBT T → (textIT V T).length ≤ wtT T * 4000000
  | [], _ => Nat.zero_le _
  | x :: D, h => by
    have h1 := txtI_len hV (h x (by simp))
    have h2 := textIT_len hV (T := D) (fun y hy => h y (by simp [hy]))
    unfold textIT at h2 ⊢
    rw [List.flatMap_cons, List.length_append, wtT, Nat.add_mul, Nat.add_mul, Nat.one_mul]; omega
theorem TxtB.take {D : List PlD} (h : TxtB D) (k : Nat) : TxtB (D.take k) := fun x hx => h x (List.mem_of_mem_take hx)
theorem TxtBT.take {T : List PtD} (h : TxtBT T) (k : Nat) : TxtBT (T.take k) := fun x hx => h x (List.mem_of_mem_take hx)
theorem fill_cat (a : List UInt8) (x y : ByteArray) : mkB a ++ (x ++ y) = mkB (a ++ (dl x ++ dl y)) := ba_ext (by simp [mkB, dl])
set_option maxRecDepth 100000 in
set_option maxHeartbeats 4000000 in
theorem fillF_c (A : Option Addr) (c : Nat) (D : List PlD) (vA : Option Addr) (vc : Nat) (V : List ValueD) (w : World) (hr : Rd w w.heap.size A (D.length * 4) (D.flatMap plC)) (hl : D.length ≤ 4000000) (hT : TxtB D) (hv : Rd w w.heap.size vA (V.length * 2) (V.flatMap valueC)) (hvl : V.length ≤ 140737488355328) (hvc : V.length ≤ vc) (hVB : ValB V) :
    Calls Try.prog 36 #[.slice A D.length c, .slice vA V.length vc] w fun e w' => e = .returned (.string (mkB (textI V D))) ∧ Below w.heap.size w w' := by
  have HR := Lib.hid hr; have HV := Lib.hid hv; have HVB := Lib.hid hVB; have HTB := Lib.hid hT
  clear hr hv hVB hT
  go_enter Try.func36, Try.ntmps36
  go_wp2
  go_loopw [5, 12] (fun ov i wr => ∃ k : Nat, k ≤ D.length ∧ i = .int .i64 k ∧ ov = .string (mkB (textI V (D.take k))) ∧ Hid (Below w.heap.size w wr)) (fun _ i _ => D.length - (intOf i).toNat)
  case atStart => exact ⟨0, by omega, rfl, rfl, Below.refl _ _⟩
  case round =>
    obtain ⟨k, hk, rfl, rfl, HB⟩ := hrel
    have hzr := HB.out.size
    have hnl := textI_len HVB.out (HTB.out.take k)
    rw [List.length_take, Nat.min_eq_left hk] at hnl
    have hmz := mkB_size (textI V (D.take k))
    by_cases hlt : k < D.length
    · obtain ⟨bf, offf, rfl, hbf, hcf⟩ := Rd.elem plC 4 (fun _ => rfl) (rdW HB.out HR.out) (by omega) hlt
      have f0 : wr.cell? ⟨bf, offf + k * 4, none⟩ = some (.string D[k].text) := hcf k hlt 0 _ rfl
      have f1 : wr.cell? ⟨bf, offf + k * 4 + 1, none⟩ = some (.string D[k].name) := hcf k hlt 1 _ rfl
      have f2 : wr.cell? ⟨bf, offf + k * 4 + 2, none⟩ = some (.bool false) := hcf k hlt 2 _ rfl
      have f3 : wr.cell? ⟨bf, offf + k * 4 + 3, none⟩ = some (.slice none 0 0) := hcf k hlt 3 _ rfl
      clear hcf
      have hki : (k : Int) < (D.length : Int) := by omega
      have hk0 : (0 : Int) ≤ (k : Int) := by omega
      have hts : D[k].text.size ≤ 2000000 := HTB.out _ (List.getElem_mem hlt)
      have hgs : (valB V D[k].name).size ≤ 2000000 := by have := getV_len HVB.out D[k].name; rw [← valB_dl, dl, len_data] at this; exact this
      have HVEQ : Hid ((txtOf V D[k].name).getD ⟨#[]⟩ = valB V D[k].name) := rfl
      have HSTEP := Lib.hid (show textI V (D.take (k + 1)) = textI V (D.take k) ++ outI V D[k] from flat_step (outI V) hlt)
      have HCAT := Lib.hid ((fill_cat (textI V (D.take k)) D[k].text (valB V D[k].name)).trans (congrArg mkB HSTEP.out.symm))
      go_upto_region 5 with fail
      generalize hW1 : wr.alloc _ = W1
      have hbW1 : Below wr.heap.size wr W1 := by subst hW1; exact (Below.refl _ _).alloc (Nat.le_refl _) _
      have hsW1 : W1.heap.size = wr.heap.size + 1 := by subst hW1; simp
      have cxW1_0 : ∀ i, W1.cell? ⟨wr.heap.size, i, none⟩ = (#[.string D[k].text, .string D[k].name, .bool false, .slice none 0 0] : Array Value)[i]? := by intro i; subst hW1; simp [go_sem]
      have HSW1 := Lib.hid hsW1; clear hW1 hsW1
      have HBW := Lib.hid (bt HB.out hbW1)
      have hzW : wr.heap.size < W1.heap.size := by have := HSW1.out; omega
      have cx0 := cxW1_0 0
      have cx1 := cxW1_0 1
      have cx2 := cxW1_0 2
      have cx3 := cxW1_0 3
      clear HSW1 cxW1_0
      go_wp2_with fail
      refine (textOf_c vA vc V D[k].name W1 (rdW HBW.out HV.out) hvl hvc).mono ?_
      rintro e w3 ⟨rfl, hb3⟩
      rw [HVEQ.out]
      have HB3 := Lib.hid (bt HBW.out hb3)
      have hz3 := hb3.size
      have hx0 := (hb3.cell (p := ⟨wr.heap.size, 0, none⟩) (by simp only; omega)).trans cx0
      have hx2 := (hb3.cell (p := ⟨wr.heap.size, 2, none⟩) (by simp only; omega)).trans cx2
      clear cx0 cx1 cx2 cx3 f0 f1 f2 f3
      go_wp2
      go_roundw
      case rel => exact ⟨k + 1, by omega, by go_num, by rw [HCAT.out], HB3⟩
      case measure => first | (simp [intOf]; done) | (simp [intOf]; omega)
    · obtain rfl : k = D.length := by omega
      have HE := Lib.hid (congrArg (fun L => mkB (textI V L)) (List.take_of_length_le (Nat.le_refl D.length)))
      go_wp2
      go_ret
      exact ⟨by first | (rw [← HE.out]; rfl) | (simp only at HE; rw [← HE.out]), HB.out⟩
end Go.Proofs.Ytilanpmjemlopaa
