/-
  FnExactDistinguish: for every input the law returns true, and each argument reads afterwards as it read before. No condition.
-/
import Derived.Test.YtgadinaninkmoaaRows
import Derived.Test.YtgadinaninkmoaaKFnExactDistinguish
import Derived.Test.YtgadinaninkmoaaO2
import Derived.ShutString
import Derived.ChangeOld
namespace Go.Proofs.Ytgadinaninkmoaa
set_option linter.unusedVariables false
set_option linter.unusedSimpArgs false
open Go.ChangeShapes Go.WideShapes Go.ChangeAt Go.RowKit

theorem pFnExactDistinguish_own : ownKnob Try.prog.godebug = none := by kernel_rfl
theorem pFnExactDistinguish_laidOut : laidOutB Try.prog = true := by kernel_rfl

set_option maxRecDepth 100000 in
theorem pFnExactDistinguish_lifted (os : Os) (started : os.Started) (H : Type) (enc : TypeId × Value → H) :
    ReturnsInHanded {} Try.checked os 3 .any (Rows.fnExactDistinguishSpec.pre6 enc Try.prog Try.f3 Rows.fnExactDistinguishRow.domain false) (Rows.fnExactDistinguishSpec.post enc Try.prog Try.f3 false true false false) := by
  refine returnsInHanded_of_change (C := Try.checked) pFnExactDistinguish_own started (by kernel_rfl) Try.func3
    (ChangeSpec.witness6 (enc := enc) (C := Try.checked) false ⟨#[], #[.agg #[.int .i64 0, .slice none 0 0, .slice none 0 0, .slice none 0 0], .agg #[.int .i64 0, .slice none 0 0, .slice none 0 0, .slice none 0 0]], []⟩ 8 (by kernel_rfl) (by kernel_rfl) (by kernel_rfl) (by kernel_rfl)) ?_
  intro W base args ds gs before hval0 hW hcnd _
  have hval : ∀ (j : Nat) t v, Try.f3.params[j]? = some t → args[j]? = some v → Value.okWide Try.prog W .any base t v := hval0
  have hW' := hW
  obtain ⟨p, q, hA0, hV, rfl, hfz, hnd⟩ := hW
  have hA : DataW.TrodAll enc Try.prog W 0 (fun _ => true) true Try.f3.params.toList args.toList ds p := hA0
  rw [Try.params3] at hA hval
  obtain ⟨v0, vs0, d0, ds0, p0, q0, hargs, rfl, rfl, h0, r0⟩ := trodAll_cons hA
  obtain ⟨v1, vs1, d1, ds1, p1, q1, rfl, rfl, rfl, h1, r1⟩ := trodAll_cons r0
  obtain ⟨rfl, rfl, rfl⟩ := trodAll_nil r1
  obtain rfl : args = #[v0, v1] := by cases args; simp_all
  obtain ⟨rfl, rfl⟩ := trodVars_none hV
  have k0 := h0
  have lt0 : ∀ x ∈ p0, x.block < W.heap.size := by obtain ⟨m, hm⟩ := k0; exact DataW.trod_lt m _ _ _ hm
  have k1 := h1
  have lt1 : ∀ x ∈ p1, x.block < W.heap.size := by obtain ⟨m, hm⟩ := k1; exact DataW.trod_lt m _ _ _ hm
  obtain ⟨c0, w0, wi0⟩ := open_circuit (w := W) (v := v0) Try.underlying25 (by kernel_rfl) (by kernel_rfl) rfl rfl rfl rfl Try.underlying3 Try.underlying22 Try.underlying23 Try.underlying73 rfl rfl rfl rfl (by kernel_rfl) (by kernel_rfl) (hval 0 25 v0 rfl rfl) h0
  obtain ⟨c1, w1, wi1⟩ := open_circuit (w := W) (v := v1) Try.underlying25 (by kernel_rfl) (by kernel_rfl) rfl rfl rfl rfl Try.underlying3 Try.underlying22 Try.underlying23 Try.underlying73 rfl rfl rfl rfl (by kernel_rfl) (by kernel_rfl) (hval 1 25 v1 rfl rfl) h1
  clear hA0 hval0
  refine (FnExactDistinguish_any v0 c0 v1 c1 W w0 w1).mono fun e W' ⟨he, bel⟩ => ?_
  subst he
  exact ⟨_, rfl, _, _, _, [], _, [], hW', trodAll_mk1 (shut_bool Try.underlying4 _), (trodAll_cons_mk (Below.trod pFnExactDistinguish_laidOut (by kernel_rfl) (of_decide_eq_true (by kernel_rfl)) k0 bel lt0) (trodAll_cons_mk (Below.trod pFnExactDistinguish_laidOut (by kernel_rfl) (of_decide_eq_true (by kernel_rfl)) k1 bel lt1) trodAll_mk0)), rfl, bel.frame _, fun h => by cases h⟩

theorem pFnExactDistinguish_fn : Try.pinned.checked.prog.funcNamed Rows.fnExactDistinguishRow.func = some 3 := by kernel_rfl

theorem pFnExactDistinguish_joined : joinedFacts Try.pinned.checked.prog 3 Try.f3 Rows.fnExactDistinguishSpec Rows.fnExactDistinguishRow = true := by kernel_rfl

theorem pFnExactDistinguish_inst : Func.isInstance Try.pinned.checked.prog Try.f3 Rows.fnExactDistinguishRow.origin Rows.fnExactDistinguishRow.targs := of_decide_eq_true (by kernel_rfl)

theorem fnExactDistinguish_holds : Rows.FnExactDistinguishSaid :=
  OpenClaim.holds_of_wide 3 Try.f3 rfl rfl rfl rfl rfl rfl rfl ⟨rfl, rfl, rfl, rfl, rfl⟩ rfl rfl rfl rfl rfl pFnExactDistinguish_fn Try.func3 pFnExactDistinguish_joined
    pFnExactDistinguish_inst (by unfold Func.isWrapper; first | (rw [if_pos (by decide +kernel)]; kernel_rfl) | (rw [if_neg (by decide +kernel)]; exact ⟨rfl, rfl⟩))
    (fun os started H enc _ => pFnExactDistinguish_lifted os started H enc)
#print axioms fnExactDistinguish_holds
end Go.Proofs.Ytgadinaninkmoaa
