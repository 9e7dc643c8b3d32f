/- Contract: markText. -/
import Derived.Test.YtilanpmjemlopaaNum
namespace Go.Proofs.Ytilanpmjemlopaa
open Go.RowKit
def dgM : Nat → Nat → List UInt8 → List UInt8
  | 0, _, acc => acc
  | f + 1, k, acc => if k = 0 then acc else dgM f (k / 10) (UInt8.ofNat (48 + k % 10) :: acc)
theorem dgM_step {f k : Nat} {acc : List UInt8} (hf : 0 < f) (hk : 0 < k) : dgM f k acc = dgM (f - 1) (k / 10) (UInt8.ofNat (48 + k % 10) :: acc) := by
  obtain ⟨g, rfl⟩ : ∃ g, f = g + 1 := ⟨f - 1, by omega⟩
  simp only [dgM]
  rw [if_neg (by omega)]; rfl
theorem dgM_zero {f : Nat} {acc : List UInt8} : dgM f 0 acc = acc := by cases f <;> simp [dgM]
theorem ba_append (a b : ByteArray) : (a ++ b).data.toList = a.data.toList ++ b.data.toList := by simp
theorem ba_ext {a b : ByteArray} (h : a.data.toList = b.data.toList) : a = b := by
  obtain ⟨a⟩ := a; obtain ⟨b⟩ := b
  simp at h
  rw [h]
def markT (q : Int) : ByteArray := ⟨(109 :: (if q ≤ 0 then [48] else dgM (q.toNat + 1) q.toNat [])).toArray⟩
set_option maxHeartbeats 1000000 in
theorem markText_c (q : Int) (w : World) (h0 : 0 ≤ q) (h1 : q ≤ 1000000000000000) : Calls Try.prog 34 #[.int .i64 q] w fun e w' => e = .returned (.string (markT q)) ∧ Below w.heap.size w w' := by
  obtain ⟨n, rfl⟩ := Int.eq_ofNat_of_zero_le h0
  by_cases hz : n = 0
  · subst hz
    go_enter Try.func34, Try.ntmps34
    go_wp2
    go_ret
    exact ⟨rfl, Below.refl _ _⟩
  · have hp : 0 < n := by omega
    have HM : Hid (markT (n : Int) = ⟨(109 :: dgM (n + 1) n []).toArray⟩) := by unfold Hid markT; rw [if_neg (by omega)]; rfl
    go_enter Try.func34, Try.ntmps34
    go_wp2
    go_loopw [0, 3] (fun i v wr => ∃ (f k : Nat) (s : ByteArray), k ≤ n ∧ k < f ∧ i = .int .i64 k ∧ v = .string s ∧ s.size + f ≤ n + 1 ∧ Below w.heap.size w wr ∧ Hid (dgM (n + 1) n [] = dgM f k s.data.toList)) (fun i _ _ => (intOf i).toNat)
    case atStart => exact ⟨n + 1, n, ByteArray.empty, by omega, by omega, rfl, rfl, by simp, Below.refl _ _, rfl⟩
    case round =>
      obtain ⟨f, k, s, hk, hf, rfl, rfl, hl, hB, HD⟩ := hrel
      by_cases hlt : 0 < k
      · have hcv := conv_one (P := Try.prog) 34 5 9 Try.underlying34 Try.underlying5 Try.underlying9
        have hsz : ∀ z, (strOfNums [z]).size = 1 := fun z => by simp [strOfNums_size]
        go_wp2
        go_roundw
        case rel =>
          refine ⟨f - 1, k / 10, strOfNums [48 + (k : Int) % 10] ++ s, by omega, by omega, by go_num, rfl, by rw [ByteArray.size_append, hsz]; omega, hB.alloc hB.size _, ?_⟩
          show dgM (n + 1) n [] = _
          rw [HD.out, dgM_step (by omega) (by omega)]
          congr 1
        case measure => simp [intOf]; omega
      · obtain rfl : k = 0 := by omega
        go_wp2
        go_ret
        refine ⟨?_, hB⟩
        rw [HM.out, HD.out, dgM_zero]
        refine congrArg (fun x => Ending.returned (Value.string x)) (ba_ext ?_)
        rw [ba_append]
        simp
end Go.Proofs.Ytilanpmjemlopaa
