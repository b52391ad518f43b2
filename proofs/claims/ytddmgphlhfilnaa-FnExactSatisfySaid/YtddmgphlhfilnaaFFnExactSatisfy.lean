/-
  FnExactSatisfy: for every input the law returns true, and each argument reads afterwards as it read before. No condition.
-/
import Derived.Test.YtddmgphlhfilnaaRows
import Derived.Test.YtddmgphlhfilnaaCG
import Derived.Test.YtddmgphlhfilnaaO1
import Derived.ShutString
import Derived.ChangeOld
namespace Go.Proofs.Ytddmgphlhfilnaa
set_option linter.unusedVariables false
set_option linter.unusedSimpArgs false
open Go.ChangeShapes Go.WideShapes Go.ChangeAt Go.RowKit

theorem pFnExactSatisfy_own : ownKnob Try.prog.godebug = none := by kernel_rfl
theorem pFnExactSatisfy_laidOut : laidOutB Try.prog = true := by kernel_rfl

set_option maxRecDepth 100000 in
theorem pFnExactSatisfy_lifted (os : Os) (started : os.Started) (H : Type) (enc : TypeId × Value → H) :
    ReturnsInHanded {} Try.checked os 11 .any (Rows.fnExactSatisfySpec.pre6 enc Try.prog Try.f11 Rows.fnExactSatisfyRow.domain false) (Rows.fnExactSatisfySpec.post enc Try.prog Try.f11 false true false false) := by
  refine returnsInHanded_of_change (C := Try.checked) pFnExactSatisfy_own started (by kernel_rfl) Try.func11
    (ChangeSpec.witness6 (enc := enc) (C := Try.checked) false ⟨#[], #[.slice none 0 0], []⟩ 8 (by kernel_rfl) (by kernel_rfl) (by kernel_rfl) (by kernel_rfl)) ?_
  intro W base args ds gs before hval0 hW hcnd _
  have hval : ∀ (j : Nat) t v, Try.f11.params[j]? = some t → args[j]? = some v → Value.okWide Try.prog W .any base t v := hval0
  have hW' := hW
  obtain ⟨p, q, hA0, hV, rfl, hfz, hnd⟩ := hW
  have hA : DataW.TrodAll enc Try.prog W 0 (fun _ => true) true Try.f11.params.toList args.toList ds p := hA0
  rw [Try.params11] at hA hval
  obtain ⟨v0, vs0, d0, ds0, p0, q0, hargs, rfl, rfl, h0, r0⟩ := trodAll_cons hA
  obtain ⟨rfl, rfl, rfl⟩ := trodAll_nil r0
  obtain rfl : args = #[v0] := by cases args; simp_all
  obtain ⟨rfl, rfl⟩ := trodVars_none hV
  have k0 := h0
  have lt0 : ∀ x ∈ p0, x.block < W.heap.size := by obtain ⟨m, hm⟩ := k0; exact DataW.trod_lt m _ _ _ hm
  obtain ⟨a0, len0, cap0, rfl⟩ := okWide_slice Try.underlying56 (hval 0 56 v0 rfl rfl)
  obtain ⟨rows0, hl0, w0, hm0, hr0⟩ := (show ∃ rows : List (List Int), rows.length = len0 ∧ SlS W a0 rows ∧ len0 ≤ maxLen ∧ ∀ r ∈ rows, r.length ≤ maxLen ∧ ∀ n ∈ r, (Lit.int .i64 n).wf = true from by
    obtain ⟨fuel, hf⟩ := h0
    exact open_SlS Try.underlying56 Try.underlying36 Try.underlying3 (by kernel_rfl) (by kernel_rfl) hf)
  subst hl0
  clear hA0 hval0
  refine (FnExactSatisfy_any a0 cap0 rows0 W w0 hm0 (fun r h => (hr0 r h).1)).mono fun e W' ⟨he, bel⟩ => ?_
  subst he
  exact ⟨_, rfl, _, _, _, [], _, [], hW', trodAll_mk1 (shut_bool Try.underlying4 _), (trodAll_cons_mk (Below.trod pFnExactSatisfy_laidOut (by kernel_rfl) (of_decide_eq_true (by kernel_rfl)) k0 bel lt0) trodAll_mk0), rfl, bel.frame _, fun h => by cases h⟩

theorem fnExactSatisfy_holds : Rows.FnExactSatisfySaid :=
  OpenClaim.holds_of_wide 11 Try.f11 rfl rfl rfl rfl rfl rfl rfl ⟨rfl, rfl, rfl, rfl, rfl⟩ rfl rfl rfl rfl rfl (by kernel_rfl) Try.func11 (by kernel_rfl)
    (of_decide_eq_true (by kernel_rfl)) (by unfold Func.isWrapper; first | (rw [if_pos (by decide +kernel)]; kernel_rfl) | (rw [if_neg (by decide +kernel)]; exact ⟨rfl, rfl⟩))
    (fun os started H enc _ => pFnExactSatisfy_lifted os started H enc)
#print axioms fnExactSatisfy_holds
end Go.Proofs.Ytddmgphlhfilnaa
