/- Contracts: the kinds of a command's words, of both texts. -/
import Derived.Test.YtjfohggompnkeaaDoorConP2
namespace Go.Proofs.YtjfohggompnkeaaDoor
open Go.RowKit
set_option linter.unusedVariables false
theorem str_ne {a : ByteArray} {l : List UInt8} (h : ¬ a = ⟨l.toArray⟩) : (a.toList == l) = false := by
  rw [beq_eq_false_iff_ne]
  intro e
  rw [Go.ByteArray.toList_eq] at e
  exact h (ba_ext e)
set_option maxRecDepth 100000 in
set_option maxHeartbeats 4000000 in
theorem shape_c (s : ByteArray) (w : World) : Calls Tryd.prog 12 #[.string s] w fun e w' => e = .returned (.tuple #[.string ((kindS s).getD ⟨#[]⟩), .bool (kindS s).isSome]) ∧ w = w' := by
  by_cases h0 : s = { data := #[111, 112, 101, 110] }
  · subst h0
    go_enter Tryd.func12, Tryd.ntmps12
    go_wp2
    go_ret2
    exact ⟨by simp [kindS], rfl⟩
  by_cases h1 : s = { data := #[104, 111, 108, 105, 100, 97, 121] }
  · subst h1
    go_enter Tryd.func12, Tryd.ntmps12
    go_wp2
    go_ret2
    exact ⟨by simp [kindS], rfl⟩
  by_cases h2 : s = { data := #[111, 110] }
  · subst h2
    go_enter Tryd.func12, Tryd.ntmps12
    go_wp2
    go_ret2
    exact ⟨by simp [kindS], rfl⟩
  by_cases h3 : s = { data := #[100, 117, 101] }
  · subst h3
    go_enter Tryd.func12, Tryd.ntmps12
    go_wp2
    go_ret2
    exact ⟨by simp [kindS], rfl⟩
  by_cases h4 : s = { data := #[112, 108, 117, 115] }
  · subst h4
    go_enter Tryd.func12, Tryd.ntmps12
    go_wp2
    go_ret2
    exact ⟨by simp [kindS], rfl⟩
  by_cases h5 : s = { data := #[99, 97, 108, 108] }
  · subst h5
    go_enter Tryd.func12, Tryd.ntmps12
    go_wp2
    go_ret2
    exact ⟨by simp [kindS], rfl⟩
  by_cases h6 : s = { data := #[109, 111, 118, 101] }
  · subst h6
    go_enter Tryd.func12, Tryd.ntmps12
    go_wp2
    go_ret2
    exact ⟨by simp [kindS], rfl⟩
  by_cases h7 : s = { data := #[102, 114, 101, 101] }
  · subst h7
    go_enter Tryd.func12, Tryd.ntmps12
    go_wp2
    go_ret2
    exact ⟨by simp [kindS], rfl⟩
  by_cases h8 : s = { data := #[110, 101, 120, 116] }
  · subst h8
    go_enter Tryd.func12, Tryd.ntmps12
    go_wp2
    go_ret2
    exact ⟨by simp [kindS], rfl⟩
  by_cases h9 : s = { data := #[115, 101, 116] }
  · subst h9
    go_enter Tryd.func12, Tryd.ntmps12
    go_wp2
    go_ret2
    exact ⟨by simp [kindS], rfl⟩
  by_cases h10 : s = { data := #[100, 114, 97, 119] }
  · subst h10
    go_enter Tryd.func12, Tryd.ntmps12
    go_wp2
    go_ret2
    exact ⟨by simp [kindS], rfl⟩
  by_cases h11 : s = { data := #[99, 104, 97, 110, 99, 101] }
  · subst h11
    go_enter Tryd.func12, Tryd.ntmps12
    go_wp2
    go_ret2
    exact ⟨by simp [kindS], rfl⟩
  by_cases h12 : s = { data := #[102, 105, 108, 101] }
  · subst h12
    go_enter Tryd.func12, Tryd.ntmps12
    go_wp2
    go_ret2
    exact ⟨by simp [kindS], rfl⟩
  have n0 := str_ne (l := [111, 112, 101, 110]) h0
  have n1 := str_ne (l := [104, 111, 108, 105, 100, 97, 121]) h1
  have n2 := str_ne (l := [111, 110]) h2
  have n3 := str_ne (l := [100, 117, 101]) h3
  have n4 := str_ne (l := [112, 108, 117, 115]) h4
  have n5 := str_ne (l := [99, 97, 108, 108]) h5
  have n6 := str_ne (l := [109, 111, 118, 101]) h6
  have n7 := str_ne (l := [102, 114, 101, 101]) h7
  have n8 := str_ne (l := [110, 101, 120, 116]) h8
  have n9 := str_ne (l := [115, 101, 116]) h9
  have n10 := str_ne (l := [100, 114, 97, 119]) h10
  have n11 := str_ne (l := [99, 104, 97, 110, 99, 101]) h11
  have n12 := str_ne (l := [102, 105, 108, 101]) h12
  have hk : kindS s = none := by simp [kindS, h0, h1, h2, h3, h4, h5, h6, h7, h8, h9, h10, h11, h12]
  rw [hk]
  clear h0 h1 h2 h3 h4 h5 h6 h7 h8 h9 h10 h11 h12
  go_enter Tryd.func12, Tryd.ntmps12
  go_wp2
  go_ret2
  exact ⟨rfl, rfl⟩
set_option maxRecDepth 100000 in
set_option maxHeartbeats 4000000 in
theorem l34Kind_c (s : ByteArray) (w : World) : Calls Tryd.prog 9 #[.string s] w fun e w' => e = .returned (.string ((kindS s).getD ⟨#[45]⟩)) ∧ w = w' := by
  by_cases h0 : s = { data := #[111, 112, 101, 110] }
  · subst h0
    go_enter Tryd.func9, Tryd.ntmps9
    go_wp2
    go_ret
    exact ⟨by simp [kindS], rfl⟩
  by_cases h1 : s = { data := #[104, 111, 108, 105, 100, 97, 121] }
  · subst h1
    go_enter Tryd.func9, Tryd.ntmps9
    go_wp2
    go_ret
    exact ⟨by simp [kindS], rfl⟩
  by_cases h2 : s = { data := #[111, 110] }
  · subst h2
    go_enter Tryd.func9, Tryd.ntmps9
    go_wp2
    go_ret
    exact ⟨by simp [kindS], rfl⟩
  by_cases h3 : s = { data := #[100, 117, 101] }
  · subst h3
    go_enter Tryd.func9, Tryd.ntmps9
    go_wp2
    go_ret
    exact ⟨by simp [kindS], rfl⟩
  by_cases h4 : s = { data := #[112, 108, 117, 115] }
  · subst h4
    go_enter Tryd.func9, Tryd.ntmps9
    go_wp2
    go_ret
    exact ⟨by simp [kindS], rfl⟩
  by_cases h5 : s = { data := #[99, 97, 108, 108] }
  · subst h5
    go_enter Tryd.func9, Tryd.ntmps9
    go_wp2
    go_ret
    exact ⟨by simp [kindS], rfl⟩
  by_cases h6 : s = { data := #[109, 111, 118, 101] }
  · subst h6
    go_enter Tryd.func9, Tryd.ntmps9
    go_wp2
    go_ret
    exact ⟨by simp [kindS], rfl⟩
  by_cases h7 : s = { data := #[102, 114, 101, 101] }
  · subst h7
    go_enter Tryd.func9, Tryd.ntmps9
    go_wp2
    go_ret
    exact ⟨by simp [kindS], rfl⟩
  by_cases h8 : s = { data := #[110, 101, 120, 116] }
  · subst h8
    go_enter Tryd.func9, Tryd.ntmps9
    go_wp2
    go_ret
    exact ⟨by simp [kindS], rfl⟩
  by_cases h9 : s = { data := #[115, 101, 116] }
  · subst h9
    go_enter Tryd.func9, Tryd.ntmps9
    go_wp2
    go_ret
    exact ⟨by simp [kindS], rfl⟩
  by_cases h10 : s = { data := #[100, 114, 97, 119] }
  · subst h10
    go_enter Tryd.func9, Tryd.ntmps9
    go_wp2
    go_ret
    exact ⟨by simp [kindS], rfl⟩
  by_cases h11 : s = { data := #[99, 104, 97, 110, 99, 101] }
  · subst h11
    go_enter Tryd.func9, Tryd.ntmps9
    go_wp2
    go_ret
    exact ⟨by simp [kindS], rfl⟩
  by_cases h12 : s = { data := #[102, 105, 108, 101] }
  · subst h12
    go_enter Tryd.func9, Tryd.ntmps9
    go_wp2
    go_ret
    exact ⟨by simp [kindS], rfl⟩
  have n0 := str_ne (l := [111, 112, 101, 110]) h0
  have n1 := str_ne (l := [104, 111, 108, 105, 100, 97, 121]) h1
  have n2 := str_ne (l := [111, 110]) h2
  have n3 := str_ne (l := [100, 117, 101]) h3
  have n4 := str_ne (l := [112, 108, 117, 115]) h4
  have n5 := str_ne (l := [99, 97, 108, 108]) h5
  have n6 := str_ne (l := [109, 111, 118, 101]) h6
  have n7 := str_ne (l := [102, 114, 101, 101]) h7
  have n8 := str_ne (l := [110, 101, 120, 116]) h8
  have n9 := str_ne (l := [115, 101, 116]) h9
  have n10 := str_ne (l := [100, 114, 97, 119]) h10
  have n11 := str_ne (l := [99, 104, 97, 110, 99, 101]) h11
  have n12 := str_ne (l := [102, 105, 108, 101]) h12
  have hk : kindS s = none := by simp [kindS, h0, h1, h2, h3, h4, h5, h6, h7, h8, h9, h10, h11, h12]
  rw [hk]
  clear h0 h1 h2 h3 h4 h5 h6 h7 h8 h9 h10 h11 h12
  go_enter Tryd.func9, Tryd.ntmps9
  go_wp2
  go_ret
  exact ⟨rfl, rfl⟩
end Go.Proofs.YtjfohggompnkeaaDoor
