/- The statement on FnExactRaiseTariff: for every argument the law returns true and each argument reads as it did. No condition. -/
import Derived.Test.YthkobjadfeidmaaFnRaiseTariff
import Derived.Test.YthkobjadfeidmaaOpen
namespace Go.Proofs.Ythkobjadfeidmaa
open Go.ChangeShapes Go.WideShapes Go.ChangeAt Go.RowKit Go.Deep Go.Joins
open Go.ChangeMaps (open_string shut_string)
set_option linter.unusedVariables false

namespace fnExactRaiseTariffLift
theorem own : ownKnob Try.prog.godebug = none := by kernel_rfl
theorem laidOut : laidOutB Try.prog = true := by kernel_rfl
set_option maxRecDepth 100000 in
theorem lifted (os : Os) (started : os.Started) (H : Type) (enc : TypeId × Value → H) :
    ReturnsInHanded {} Try.checked os 4 .any (Rows.fnExactRaiseTariffSpec.pre6 enc Try.prog Try.f4 Rows.fnExactRaiseTariffRow.domain false) (Rows.fnExactRaiseTariffSpec.post enc Try.prog Try.f4 false true false false) := by
  refine returnsInHanded_of_change (C := Try.checked) own started (by kernel_rfl) Try.func4
    (ChangeSpec.witness6 (enc := enc) (C := Try.checked) false ⟨#[], #[.agg #[.slice none 0 0, .int .i64 0, .int .i64 0, .int .i64 0], .int .i64 0], []⟩ 8 (by kernel_rfl) (by kernel_rfl) (by kernel_rfl) (by kernel_rfl)) ?_
  intro W base args ds gs before hval0 hW hcnd _
  have hval : ∀ (j : Nat) t v, Try.f4.params[j]? = some t → args[j]? = some v → Value.okWide Try.prog W .any base t v := hval0
  have hW' := hW
  obtain ⟨p, q, hA0, hV, rfl, hfz, hnd⟩ := hW
  have hA : DataW.TrodAll enc Try.prog W 0 (fun _ => true) true Try.f4.params.toList args.toList ds p := hA0
  rw [Try.params4] at hA hval
  obtain ⟨v0, vs0, d0, ds0, p0, q0, hargs, rfl, rfl, h0, r0⟩ := trodAll_cons hA
  obtain ⟨v1, vs1, d1, ds1, p1, q1, rfl, rfl, rfl, h1, r1⟩ := trodAll_cons r0
  obtain ⟨rfl, rfl, rfl⟩ := trodAll_nil r1
  obtain rfl : args = #[v0, v1] := by cases args; simp_all
  obtain ⟨rfl, rfl⟩ := trodVars_none hV
  have k0 := h0
  have lt0 : ∀ x ∈ p0, x.block < W.heap.size := by obtain ⟨m, hm⟩ := k0; exact DataW.trod_lt m _ _ _ hm
  obtain ⟨u0_0, u0_1, u0_2, u0_3, y0_0, y0_1, y0_2, y0_3, m0, he0, _, _, g0_0, g0_1, g0_2, g0_3⟩ := open_agg4 Try.underlying31 (by kernel_rfl) (by kernel_rfl) (hval 0 _ v0 rfl rfl) h0
  subst he0
  obtain ⟨A0_0, n0_0, c0_0, rfl⟩ := slice_cell Try.underlying29 g0_0
  obtain ⟨z0_0, rfl, hm0_0, hr0_0, hz0_0⟩ := rd_structs tierC 2 (fun _ => rfl) TierW Try.underlying29 Try.underlying78 rfl (by omega) (by kernel_rfl) (by kernel_rfl) g0_0 (fun _ => rfl) (by
      intro v y k hf
      obtain ⟨q0, e0, w0⟩ := int_cell Try.underlying2 (hf 0 _ rfl)
      obtain ⟨q1, e1, w1⟩ := int_cell Try.underlying2 (hf 1 _ rfl)
      refine ⟨⟨q0, q1⟩, ⟨w0, w1⟩, fun j hj => ?_⟩
      match j, hj with
      | 0, _ => rw [e0]; rfl
      | 1, _ => rw [e1]; rfl)
  obtain ⟨x0_1, rfl, hx0_1⟩ := int_cell Try.underlying2 g0_1
  obtain ⟨x0_2, rfl, hx0_2⟩ := int_cell Try.underlying2 g0_2
  obtain ⟨x0_3, rfl, hx0_3⟩ := int_cell Try.underlying2 g0_3
  have k1 := h1
  have lt1 : ∀ x ∈ p1, x.block < W.heap.size := by obtain ⟨m, hm⟩ := k1; exact DataW.trod_lt m _ _ _ hm
  obtain ⟨x1, rfl, _, _, hx1⟩ := open_int Try.underlying2 (hval 1 _ v1 rfl rfl) h1
  clear hA0 hval0
  refine (law_RaiseTariff A0_0 c0_0 z0_0 x0_1 x0_2 x0_3 x1 W hr0_0 hm0_0 hz0_0 hx0_1 hx0_2 hx0_3 hx1).mono fun e W' ⟨he, bel⟩ => ?_
  subst he
  exact ⟨_, rfl, _, _, _, [], _, [], hW', trodAll_mk1 (shut_bool Try.underlying4 _), (trodAll_cons_mk (Below.trod laidOut (by kernel_rfl) (of_decide_eq_true (by kernel_rfl)) k0 bel lt0) (trodAll_cons_mk (Below.trod laidOut (by kernel_rfl) (of_decide_eq_true (by kernel_rfl)) k1 bel lt1) trodAll_mk0)), rfl, bel.frame _, fun h => by cases h⟩

theorem over : Rows.fnExactRaiseTariffRow.holds Try.pinned (OpenSpec.ofChange Rows.fnExactRaiseTariffSpec) :=
  OpenClaim.holds_of_wide 4 Try.f4 rfl rfl rfl rfl rfl rfl rfl ⟨rfl, rfl, rfl, rfl, rfl⟩ rfl rfl rfl rfl rfl (by kernel_rfl) Try.func4 (by kernel_rfl)
    (of_decide_eq_true (by kernel_rfl)) (by unfold Func.isWrapper; first | (rw [if_pos (by decide +kernel)]; kernel_rfl) | (rw [if_neg (by decide +kernel)]; exact ⟨rfl, rfl⟩))
    (fun os started H enc _ => lifted os started H enc)

theorem proved : Rows.FnExactRaiseTariffSaid := over
end fnExactRaiseTariffLift
end Go.Proofs.Ythkobjadfeidmaa
