/-
  FnExactStateClasses: for every input the law returns true, and each argument reads afterwards as it read before. No condition.
-/
import Derived.Test.YtaboipnigeaopaaRows
import Derived.Test.YtaboipnigeaopaaKFnExactStateClasses
import Derived.Test.YtaboipnigeaopaaO2
import Derived.ShutString
import Derived.ChangeOld
namespace Go.Proofs.Ytaboipnigeaopaa
set_option linter.unusedVariables false
set_option linter.unusedSimpArgs false
open Go.ChangeShapes Go.WideShapes Go.ChangeAt Go.RowKit

theorem pFnExactStateClasses_own : ownKnob Try.prog.godebug = none := by kernel_rfl
theorem pFnExactStateClasses_laidOut : laidOutB Try.prog = true := by kernel_rfl

set_option maxRecDepth 100000 in
theorem pFnExactStateClasses_lifted (os : Os) (started : os.Started) (H : Type) (enc : TypeId × Value → H) :
    ReturnsInHanded {} Try.checked os 6 .any (Rows.fnExactStateClassesSpec.pre6 enc Try.prog Try.f6 Rows.fnExactStateClassesRow.domain false) (Rows.fnExactStateClassesSpec.post enc Try.prog Try.f6 false true false false) := by
  refine returnsInHanded_of_change (C := Try.checked) pFnExactStateClasses_own started (by kernel_rfl) Try.func6
    (ChangeSpec.witness6 (enc := enc) (C := Try.checked) false ⟨#[], #[.agg #[.int .i64 0, .slice none 0 0, .slice none 0 0, .slice none 0 0]], []⟩ 8 (by kernel_rfl) (by kernel_rfl) (by kernel_rfl) (by kernel_rfl)) ?_
  intro W base args ds gs before hval0 hW hcnd _
  have hval : ∀ (j : Nat) t v, Try.f6.params[j]? = some t → args[j]? = some v → Value.okWide Try.prog W .any base t v := hval0
  have hW' := hW
  obtain ⟨p, q, hA0, hV, rfl, hfz, hnd⟩ := hW
  have hA : DataW.TrodAll enc Try.prog W 0 (fun _ => true) true Try.f6.params.toList args.toList ds p := hA0
  rw [Try.params6] at hA hval
  obtain ⟨v0, vs0, d0, ds0, p0, q0, hargs, rfl, rfl, h0, r0⟩ := trodAll_cons hA
  obtain ⟨rfl, rfl, rfl⟩ := trodAll_nil r0
  obtain rfl : args = #[v0] := by cases args; simp_all
  obtain ⟨rfl, rfl⟩ := trodVars_none hV
  have k0 := h0
  have lt0 : ∀ x ∈ p0, x.block < W.heap.size := by obtain ⟨m, hm⟩ := k0; exact DataW.trod_lt m _ _ _ hm
  obtain ⟨c0, w0, wi0⟩ := open_circuit (w := W) (v := v0) Try.underlying51 (by kernel_rfl) (by kernel_rfl) rfl rfl rfl rfl Try.underlying3 Try.underlying23 Try.underlying49 Try.underlying110 rfl rfl rfl rfl (by kernel_rfl) (by kernel_rfl) (hval 0 51 v0 rfl rfl) h0
  clear hA0 hval0
  refine (FnExactStateClasses_any v0 c0 W w0).mono fun e W' ⟨he, bel⟩ => ?_
  subst he
  exact ⟨_, rfl, _, _, _, [], _, [], hW', trodAll_mk1 (shut_bool Try.underlying4 _), (trodAll_cons_mk (Below.trod pFnExactStateClasses_laidOut (by kernel_rfl) (of_decide_eq_true (by kernel_rfl)) k0 bel lt0) trodAll_mk0), rfl, bel.frame _, fun h => by cases h⟩

theorem pFnExactStateClasses_fn : Try.pinned.checked.prog.funcNamed Rows.fnExactStateClassesRow.func = some 6 := by kernel_rfl

theorem pFnExactStateClasses_joined : joinedFacts Try.pinned.checked.prog 6 Try.f6 Rows.fnExactStateClassesSpec Rows.fnExactStateClassesRow = true := by kernel_rfl

theorem pFnExactStateClasses_inst : Func.isInstance Try.pinned.checked.prog Try.f6 Rows.fnExactStateClassesRow.origin Rows.fnExactStateClassesRow.targs := of_decide_eq_true (by kernel_rfl)

theorem fnExactStateClasses_holds : Rows.FnExactStateClassesSaid :=
  OpenClaim.holds_of_wide 6 Try.f6 rfl rfl rfl rfl rfl rfl rfl ⟨rfl, rfl, rfl, rfl, rfl⟩ rfl rfl rfl rfl rfl pFnExactStateClasses_fn Try.func6 pFnExactStateClasses_joined
    pFnExactStateClasses_inst (by unfold Func.isWrapper; first | (rw [if_pos (by decide +kernel)]; kernel_rfl) | (rw [if_neg (by decide +kernel)]; exact ⟨rfl, rfl⟩))
    (fun os started H enc _ => pFnExactStateClasses_lifted os started H enc)
#print axioms fnExactStateClasses_holds
end Go.Proofs.Ytaboipnigeaopaa
