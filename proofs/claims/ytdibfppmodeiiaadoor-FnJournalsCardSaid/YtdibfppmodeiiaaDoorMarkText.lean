/- Contract: markText. -/
import Derived.Test.YtdibfppmodeiiaaDoorNum
namespace Go.Proofs.YtdibfppmodeiiaaDoor
open Go.RowKit
def dgM : Nat → Nat → List UInt8 → List UInt8
  | 0, _, acc => acc
  | f + 1, k, acc => if k = 0 then acc else dgM f (k / 10) (UInt8.ofNat (48 + k % 10) :: acc)
theorem dgM_step {f k : Nat} {acc : List UInt8} (hf : 0 < f) (hk : 0 < k) : dgM f k acc = dgM (f - 1) (k / 10) (UInt8.ofNat (48 + k % 10) :: acc) := by
  obtain ⟨g, rfl⟩ : ∃ g, f = g + 1 := ⟨f - 1, by omega⟩
  simp only [dgM]
  rw [if_neg (by omega)]; rfl
theorem dgM_zero {f : Nat} {acc : List UInt8} : dgM f 0 acc = acc := by cases f <;> simp [dgM]
theorem ba_append (a b : ByteArray) : (a ++ b).data.toList = a.data.toList ++ b.data.toList := by simp
theorem ba_ext {a b : ByteArray} (h : a.data.toList = b.data.toList) : a = b := by
  obtain ⟨a⟩ := a; obtain ⟨b⟩ := b
  simp at h
  rw [h]
def markT (q : Int) : ByteArray := ⟨(109 :: (if q ≤ 0 then [48] else dgM (q.toNat + 1) q.toNat [])).toArray⟩
end Go.Proofs.YtdibfppmodeiiaaDoor
