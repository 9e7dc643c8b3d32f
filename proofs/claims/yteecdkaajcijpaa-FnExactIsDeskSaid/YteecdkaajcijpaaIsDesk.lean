/- The statement on FnExactIsDesk: for every argument the law returns true and each argument reads as it did. No condition. -/
import Derived.Test.YteecdkaajcijpaaFnIsDesk
import Derived.Test.YteecdkaajcijpaaOpen
namespace Go.Proofs.Yteecdkaajcijpaa
open Go.ChangeShapes Go.WideShapes Go.ChangeAt Go.RowKit Go.Deep Go.Joins
open Go.ChangeMaps (open_string shut_string)
set_option linter.unusedVariables false

namespace fnExactIsDeskLift
theorem own : ownKnob Try.prog.godebug = none := by kernel_rfl
theorem laidOut : laidOutB Try.prog = true := by kernel_rfl
set_option maxRecDepth 100000 in
theorem lifted (os : Os) (started : os.Started) (H : Type) (enc : TypeId × Value → H) :
    ReturnsInHanded {} Try.checked os 3 .any (Rows.fnExactIsDeskSpec.pre6 enc Try.prog Try.f3 Rows.fnExactIsDeskRow.domain false) (Rows.fnExactIsDeskSpec.post enc Try.prog Try.f3 false true false false) := by
  refine returnsInHanded_of_change (C := Try.checked) own started (by kernel_rfl) Try.func3
    (ChangeSpec.witness6 (enc := enc) (C := Try.checked) false ⟨#[], #[.agg #[.slice none 0 0, .slice none 0 0, .slice none 0 0]], []⟩ 8 (by kernel_rfl) (by kernel_rfl) (by kernel_rfl) (by kernel_rfl)) ?_
  intro W base args ds gs before hval0 hW hcnd _
  have hval : ∀ (j : Nat) t v, Try.f3.params[j]? = some t → args[j]? = some v → Value.okWide Try.prog W .any base t v := hval0
  have hW' := hW
  obtain ⟨p, q, hA0, hV, rfl, hfz, hnd⟩ := hW
  have hA : DataW.TrodAll enc Try.prog W 0 (fun _ => true) true Try.f3.params.toList args.toList ds p := hA0
  rw [Try.params3] at hA hval
  obtain ⟨v0, vs0, d0, ds0, p0, q0, hargs, rfl, rfl, h0, r0⟩ := trodAll_cons hA
  obtain ⟨rfl, rfl, rfl⟩ := trodAll_nil r0
  obtain rfl : args = #[v0] := by cases args; simp_all
  obtain ⟨rfl, rfl⟩ := trodVars_none hV
  have k0 := h0
  have lt0 : ∀ x ∈ p0, x.block < W.heap.size := by obtain ⟨m, hm⟩ := k0; exact DataW.trod_lt m _ _ _ hm
  obtain ⟨u0_0, u0_1, u0_2, y0_0, y0_1, y0_2, m0, he0, _, _, g0_0, g0_1, g0_2⟩ := open_agg3 Try.underlying26 (by kernel_rfl) (by kernel_rfl) (hval 0 _ v0 rfl rfl) h0
  subst he0
  obtain ⟨A0_0, n0_0, c0_0, rfl⟩ := slice_cell Try.underlying22 g0_0
  obtain ⟨z0_0, rfl, hm0_0, hr0_0, hz0_0⟩ := rd_ints Try.underlying22 Try.underlying2 (by kernel_rfl) g0_0 (fun _ => rfl)
  obtain ⟨A0_1, n0_1, c0_1, rfl⟩ := slice_cell Try.underlying23 g0_1
  obtain ⟨z0_1, rfl, hm0_1, hr0_1, hz0_1⟩ := rd_structs callC 4 (fun _ => rfl) CallW Try.underlying23 Try.underlying59 rfl (by omega) (by kernel_rfl) (by kernel_rfl) g0_1 (fun _ => rfl) (by
      intro v y k hf
      obtain ⟨q0, e0, w0⟩ := int_cell Try.underlying2 (hf 0 _ rfl)
      obtain ⟨q1, e1, w1⟩ := int_cell Try.underlying2 (hf 1 _ rfl)
      obtain ⟨q2, e2, w2⟩ := int_cell Try.underlying2 (hf 2 _ rfl)
      obtain ⟨q3, e3, w3⟩ := int_cell Try.underlying2 (hf 3 _ rfl)
      refine ⟨⟨q0, q1, q2, q3⟩, ⟨w0, w1, w2, w3⟩, fun j hj => ?_⟩
      match j, hj with
      | 0, _ => rw [e0]; rfl
      | 1, _ => rw [e1]; rfl
      | 2, _ => rw [e2]; rfl
      | 3, _ => rw [e3]; rfl)
  obtain ⟨A0_2, n0_2, c0_2, rfl⟩ := slice_cell Try.underlying24 g0_2
  obtain ⟨z0_2, rfl, hm0_2, hr0_2, hz0_2⟩ := rd_structs motionC 6 (fun _ => rfl) MotionW Try.underlying24 Try.underlying50 rfl (by omega) (by kernel_rfl) (by kernel_rfl) g0_2 (fun _ => rfl) (by
      intro v y k hf
      obtain ⟨q0, e0, w0⟩ := int_cell Try.underlying2 (hf 0 _ rfl)
      obtain ⟨q1, e1, w1⟩ := string_cell Try.underlying9 (hf 1 _ rfl)
      obtain ⟨q2, e2, w2⟩ := int_cell Try.underlying2 (hf 2 _ rfl)
      obtain ⟨q3, e3, w3⟩ := int_cell Try.underlying2 (hf 3 _ rfl)
      obtain ⟨q4, e4, w4⟩ := int_cell Try.underlying2 (hf 4 _ rfl)
      obtain ⟨q5, e5, w5⟩ := int_cell Try.underlying2 (hf 5 _ rfl)
      refine ⟨⟨q0, q1, q2, q3, q4, q5⟩, ⟨w0, w1, w2, w3, w4, w5⟩, fun j hj => ?_⟩
      match j, hj with
      | 0, _ => rw [e0]; rfl
      | 1, _ => rw [e1]; rfl
      | 2, _ => rw [e2]; rfl
      | 3, _ => rw [e3]; rfl
      | 4, _ => rw [e4]; rfl
      | 5, _ => rw [e5]; rfl)
  clear hA0 hval0
  refine (law_IsDesk A0_0 c0_0 z0_0 A0_1 c0_1 z0_1 A0_2 c0_2 z0_2 W hr0_0 hm0_0 hz0_0 hr0_1 hm0_1 hz0_1 hr0_2 hm0_2 hz0_2).mono fun e W' ⟨he, bel⟩ => ?_
  subst he
  exact ⟨_, rfl, _, _, _, [], _, [], hW', trodAll_mk1 (shut_bool Try.underlying4 _), (trodAll_cons_mk (Below.trod laidOut (by kernel_rfl) (of_decide_eq_true (by kernel_rfl)) k0 bel lt0) trodAll_mk0), rfl, bel.frame _, fun h => by cases h⟩

theorem over : Rows.fnExactIsDeskRow.holds Try.pinned (OpenSpec.ofChange Rows.fnExactIsDeskSpec) :=
  OpenClaim.holds_of_wide 3 Try.f3 rfl rfl rfl rfl rfl rfl rfl ⟨rfl, rfl, rfl, rfl, rfl⟩ rfl rfl rfl rfl rfl (by kernel_rfl) Try.func3 (by kernel_rfl)
    (of_decide_eq_true (by kernel_rfl)) (by unfold Func.isWrapper; first | (rw [if_pos (by decide +kernel)]; kernel_rfl) | (rw [if_neg (by decide +kernel)]; exact ⟨rfl, rfl⟩))
    (fun os started H enc _ => lifted os started H enc)

theorem proved : Rows.FnExactIsDeskSaid := over
end fnExactIsDeskLift
end Go.Proofs.Yteecdkaajcijpaa
