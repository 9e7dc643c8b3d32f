/- Contract: readPlaces. -/
import Derived.Test.YtilanpmjemlopaaTpl2
import Derived.Test.YtilanpmjemlopaaRow
namespace Go.Proofs.Ytilanpmjemlopaa
open Go.RowKit
set_option linter.unusedVariables false
theorem part_info : (Try.prog.info? 66).map (fun i => (i.zero, i.size, i.bytes)) = some (some (.agg #[.string ByteArray.empty, .string ByteArray.empty, .bool false, .slice none 0 0]), 4, 64) := by kernel_rfl
def plC (x : PlD) : List Value := [.string x.text, .string x.name, .bool false, .slice none 0 0]
theorem own_snocP {W : World} {b : Nat} {A : Option Addr} {c : Nat} {D : List PlD} {y : PlD} (h : W.ownsRow b 66 4 (.slice A (D.length + 1) c) (D.length + 1) (D.flatMap plC ++ plC y)) : W.ownsRow b 66 4 (.slice A (D ++ [y]).length c) (D ++ [y]).length ((D ++ [y]).flatMap plC) := by
  rw [List.length_append, List.flatMap_append, show [y].flatMap plC = plC y from by simp]; exact h
theorem own_two {W : World} {b : Nat} {A : Option Addr} {c : Nat} {D : List PlD} {x y : PlD} (h : W.ownsRow b 66 4 (.slice A (D.length + 2) c) (D.length + 2) (D.flatMap plC ++ (plC x ++ plC y))) : W.ownsRow b 66 4 (.slice A (D ++ [x, y]).length c) (D ++ [x, y]).length ((D ++ [x, y]).flatMap plC) := by
  rw [List.length_append, List.flatMap_append, show [x, y].flatMap plC = plC x ++ plC y from by simp]; exact h
def rplS (s : ByteArray) : Option (List PlD) := rpl (s.size + 1) s.data.toList
def ReadP (s : ByteArray) (w : World) (e : Ending) (wr : World) : Prop :=
  (rplS s = none ∧ e = .returned (.tuple #[.slice none 0 0, .bool false]) ∧ Below w.heap.size w wr) ∨
  ∃ (D : List PlD) (A : Option Addr) (c : Nat), rplS s = some D ∧ e = .returned (.tuple #[.slice A D.length c, .bool true]) ∧ wr.ownsRow w.heap.size 66 4 (.slice A D.length c) D.length (D.flatMap plC) ∧ Below w.heap.size w wr
/-- The state of the reading: what has been read, what is left. -/
def RI (s : ByteArray) (D : List PlD) (cur : ByteArray) : Prop := rplS s = (rplS cur).map (D ++ ·) ∧ plainL cur = true ∧ cur.size ≤ s.size ∧ D.length + 2 * cur.size ≤ 2 * s.size
theorem RI.start {s : ByteArray} (h : plainL s = true) : RI s [] s := ⟨by cases rplS s <;> rfl, h, Nat.le_refl _, by simp⟩
theorem plain_sub {l : List UInt8} {s : ByteArray} (h : plainL s = true) (hl : ∀ b ∈ l, b ∈ s.data.toList) : plainL (mkB l) = true := by
  unfold plainL at h ⊢
  rw [List.all_eq_true] at h ⊢
  exact fun b hb => h b (hl b hb)
theorem mkB_size (l : List UInt8) : (mkB l).size = l.length := List.size_toArray
theorem RI.done {s : ByteArray} {D : List PlD} {cur : ByteArray} (h : RI s D cur) (h0 : cur.size = 0) : rplS s = some D := by
  have hd : cur.data.toList = [] := List.length_eq_zero_iff.1 (by rw [len_data]; exact h0)
  rw [h.1]
  unfold rplS rpl
  rw [if_pos hd]; simp
theorem RI.text {s : ByteArray} {D : List PlD} {cur : ByteArray} (h : RI s D cur) (h0 : cur.size ≠ 0) (hc : cutP specC cur.data.toList = none) : rplS s = some (D ++ [⟨cur, ⟨#[]⟩⟩]) := by
  have hd : ¬ cur.data.toList = [] := fun e => h0 (by rw [← len_data, e]; rfl)
  rw [h.1]
  unfold rplS rpl
  rw [if_neg hd, hc]; rfl
theorem RI.bad1 {s : ByteArray} {D : List PlD} {cur : ByteArray} (h : RI s D cur) (h0 : cur.size ≠ 0) {a r : List UInt8} {b : UInt8} (hc : cutP specC cur.data.toList = some (a, b, r)) (hb : ¬ b = 123) : rplS s = none := by
  have hd : ¬ cur.data.toList = [] := fun e => h0 (by rw [← len_data, e]; rfl)
  rw [h.1]
  unfold rplS rpl
  rw [if_neg hd, hc]
  simp only []
  rw [if_neg hb]; rfl
theorem RI.bad2 {s : ByteArray} {D : List PlD} {cur : ByteArray} (h : RI s D cur) (h0 : cur.size ≠ 0) {a r : List UInt8} (hc : cutP specC cur.data.toList = some (a, 123, r)) (hn : cutP (isC 125) r = none) : rplS s = none := by
  have hd : ¬ cur.data.toList = [] := fun e => h0 (by rw [← len_data, e]; rfl)
  rw [h.1]
  unfold rplS rpl
  rw [if_neg hd, hc]
  simp only []
  rw [if_pos trivial, hn]; rfl
theorem RI.bad3 {s : ByteArray} {D : List PlD} {cur : ByteArray} (h : RI s D cur) (h0 : cur.size ≠ 0) {a r n r2 : List UInt8} {b2 : UInt8} (hc : cutP specC cur.data.toList = some (a, 123, r)) (hn : cutP (isC 125) r = some (n, b2, r2)) (hw : isWordB (mkB n) = false) : rplS s = none := by
  have hd : ¬ cur.data.toList = [] := fun e => h0 (by rw [← len_data, e]; rfl)
  rw [h.1]
  unfold rplS rpl
  rw [if_neg hd, hc]
  simp only []
  rw [if_pos trivial, hn]
  simp only []
  rw [if_neg (by rw [hw]; simp)]; rfl
theorem RI.next {s : ByteArray} {D : List PlD} {cur : ByteArray} (h : RI s D cur) (h0 : cur.size ≠ 0) {a r n r2 : List UInt8} {b2 : UInt8} (hc : cutP specC cur.data.toList = some (a, 123, r)) (hn : cutP (isC 125) r = some (n, b2, r2)) (hw : isWordB (mkB n) = true) :
    RI s (D ++ [⟨mkB a, ⟨#[]⟩⟩, ⟨⟨#[]⟩, mkB n⟩]) (mkB r2) ∧ (mkB r2).size < cur.size := by
  have hd : ¬ cur.data.toList = [] := fun e => h0 (by rw [← len_data, e]; rfl)
  have l1 := cutP_len hc
  have l2 := cutP_len hn
  rw [len_data] at l1
  have e1 := (cutP_parts hc).1
  have e2 := (cutP_parts hn).1
  obtain ⟨h1, h2, h3, h4⟩ := h
  have hz := mkB_size r2
  refine ⟨⟨?_, plain_sub h2 (fun b hb => by rw [e1, e2]; simp [hb]), by omega, by simp; omega⟩, by omega⟩
  rw [h1]
  unfold rplS
  rw [hz]
  have e3 : rpl (cur.size + 1) cur.data.toList = (rpl cur.size r2).map ([⟨mkB a, ⟨#[]⟩⟩, ⟨⟨#[]⟩, mkB n⟩] ++ ·) := by
    conv => lhs; unfold rpl
    rw [if_neg hd, hc]
    simp only []
    rw [if_pos trivial, hn]
    simp only []
    rw [if_pos hw]
  rw [e3, rpl_more cur.size (r2.length + 1) r2 (by omega) (by omega)]
  show Option.map _ (Option.map _ _) = Option.map _ (rpl (r2.length + 1) r2)
  cases rpl (r2.length + 1) r2 with
  | none => rfl
  | some P => simp
end Go.Proofs.Ytilanpmjemlopaa
