/- The step of the statement FnExactFindRational: the program's function does what the statement says, for all arguments. No condition. -/
import Derived.Test.YtehdkbopkkgabaaRows
import Derived.Test.YtehdkbopkkgabaaT63
import Derived.WalkKit
import Derived.ProofKit
import Derived.OpenShut
import Derived.Lib.SmallJoins
namespace Go.Proofs.Ytehdkbopkkgabaa
open Go Go.ChangeShapes Go.WideShapes Go.ChangeAt Go.RowKit
set_option linter.unusedVariables false

theorem own_FnExactFindRational : ownKnob Try.prog.godebug = none := by kernel_rfl
theorem laidOut_FnExactFindRational : laidOutB Try.prog = true := by kernel_rfl

set_option maxRecDepth 100000 in
theorem lifted_FnExactFindRational (os : Os) (started : os.Started) (H : Type) (enc : TypeId × Value → H) :
    ReturnsInHanded {} Try.checked os 8 .any (Rows.fnExactFindRationalSpec.pre6 enc Try.prog Try.f8 Rows.fnExactFindRationalRow.domain false) (Rows.fnExactFindRationalSpec.post enc Try.prog Try.f8 false true false false) := by
  refine returnsInHanded_of_change (C := Try.checked) own_FnExactFindRational started (by kernel_rfl) Try.func8
    (ChangeSpec.witness6 (enc := enc) (C := Try.checked) false ⟨#[], #[.agg #[.int .i64 0, .int .i64 0, .int .i64 0, .int .i64 0]], []⟩ 8 (by kernel_rfl) (by kernel_rfl) (by kernel_rfl) (by kernel_rfl)) ?_
  intro W base args ds gs before hval0 hW hcnd _
  have hval : ∀ (j : Nat) t v, Try.f8.params[j]? = some t → args[j]? = some v → Value.okWide Try.prog W .any base t v := hval0
  have hW' := hW
  obtain ⟨p, q, hA0, hV, rfl, hfz, hnd⟩ := hW
  have hA : DataW.TrodAll enc Try.prog W 0 (fun _ => true) true Try.f8.params.toList args.toList ds p := hA0
  rw [Try.params8] at hA hval
  obtain ⟨v0, vs0, d0, ds0, p0, q0, hargs, rfl, rfl, h0, r0⟩ := trodAll_cons hA
  obtain ⟨rfl, rfl, rfl⟩ := trodAll_nil r0
  obtain rfl : args = #[v0] := by cases args; simp_all
  obtain ⟨rfl, rfl⟩ := trodVars_none hV
  have k0 := h0
  have lt0 : ∀ x ∈ p0, x.block < W.heap.size := by obtain ⟨m, hm⟩ := k0; exact DataW.trod_lt m _ _ _ hm
  obtain ⟨c0_0, c0_1, c0_2, c0_3, y0_0, y0_1, y0_2, y0_3, n0, rfl, _, _, hy0_0, hy0_1, hy0_2, hy0_3⟩ := Joins.open_agg4 Try.underlying74 (by kernel_rfl) (by kernel_rfl) (hval 0 74 v0 rfl rfl) h0
  obtain ⟨x0_0, e0_0, _, wf0_0⟩ := DataW.trod_int Try.underlying2 hy0_0
  simp at e0_0; subst e0_0
  obtain ⟨x0_1, e0_1, _, wf0_1⟩ := DataW.trod_int Try.underlying2 hy0_1
  simp at e0_1; subst e0_1
  obtain ⟨x0_2, e0_2, _, wf0_2⟩ := DataW.trod_int Try.underlying2 hy0_2
  simp at e0_2; subst e0_2
  obtain ⟨x0_3, e0_3, _, wf0_3⟩ := DataW.trod_int Try.underlying2 hy0_3
  simp at e0_3; subst e0_3
  clear hA0 hval0
  refine (law_FindRational x0_0 x0_1 x0_2 x0_3 W).mono fun e W' ⟨he, bel⟩ => ?_
  subst he
  exact ⟨_, rfl, _, _, _, [], _, [], hW', trodAll_mk1 (shut_bool Try.underlying4 _), (trodAll_cons_mk (Below.trod laidOut_FnExactFindRational (by kernel_rfl) (of_decide_eq_true (by kernel_rfl)) k0 bel lt0) trodAll_mk0), rfl, bel.frame _, fun h => by cases h⟩


end Go.Proofs.Ytehdkbopkkgabaa
