/-
  FnStateClasses: for every input the law returns true, and each argument reads afterwards as it read before. No condition.
-/
import Derived.Test.YtaboipnigeaopaaRows
import Derived.Test.YtaboipnigeaopaaJF
import Derived.Test.YtaboipnigeaopaaO3
import Derived.ShutString
import Derived.ChangeOld
namespace Go.Proofs.Ytaboipnigeaopaa
set_option linter.unusedVariables false
set_option linter.unusedSimpArgs false
open Go.ChangeShapes Go.WideShapes Go.ChangeAt Go.RowKit

theorem pFnStateClasses_own : ownKnob Try.prog.godebug = none := by kernel_rfl
theorem pFnStateClasses_laidOut : laidOutB Try.prog = true := by kernel_rfl

set_option maxRecDepth 100000 in
theorem pFnStateClasses_lifted (os : Os) (started : os.Started) (H : Type) (enc : TypeId × Value → H) :
    ReturnsInHanded {} Try.checked os 4 .any (Rows.fnStateClassesSpec.pre6 enc Try.prog Try.f4 Rows.fnStateClassesRow.domain false) (Rows.fnStateClassesSpec.post enc Try.prog Try.f4 false true false false) := by
  refine returnsInHanded_of_change (C := Try.checked) pFnStateClasses_own started (by kernel_rfl) Try.func4
    (ChangeSpec.witness6 (enc := enc) (C := Try.checked) false ⟨#[], #[.slice none 0 0], []⟩ 8 (by kernel_rfl) (by kernel_rfl) (by kernel_rfl) (by kernel_rfl)) ?_
  intro W base args ds gs before hval0 hW hcnd _
  have hval : ∀ (j : Nat) t v, Try.f4.params[j]? = some t → args[j]? = some v → Value.okWide Try.prog W .any base t v := hval0
  have hW' := hW
  obtain ⟨p, q, hA0, hV, rfl, hfz, hnd⟩ := hW
  have hA : DataW.TrodAll enc Try.prog W 0 (fun _ => true) true Try.f4.params.toList args.toList ds p := hA0
  rw [Try.params4] at hA hval
  obtain ⟨v0, vs0, d0, ds0, p0, q0, hargs, rfl, rfl, h0, r0⟩ := trodAll_cons hA
  obtain ⟨rfl, rfl, rfl⟩ := trodAll_nil r0
  obtain rfl : args = #[v0] := by cases args; simp_all
  obtain ⟨rfl, rfl⟩ := trodVars_none hV
  have k0 := h0
  have lt0 : ∀ x ∈ p0, x.block < W.heap.size := by obtain ⟨m, hm⟩ := k0; exact DataW.trod_lt m _ _ _ hm
  obtain ⟨a0, len0, cap0, rfl⟩ := okWide_slice Try.underlying22 (hval 0 22 v0 rfl rfl)
  obtain ⟨b0, xs0, c0, he0, w0⟩ := (show ∃ (s : Option Addr) (xs : List Int) (c : Nat), Value.slice a0 len0 cap0 = .slice s xs.length c ∧ Bts W s c xs from by
    obtain ⟨fuel, hf⟩ := h0
    exact open_u8s Try.underlying22 Try.underlying5 (by kernel_rfl) hf)
  simp only [Value.slice.injEq] at he0
  obtain ⟨rfl, rfl, rfl⟩ := he0
  clear hA0 hval0
  refine (FnStateClasses_any a0 cap0 xs0 W w0.sl w0.len w0.cap1 w0.cap2 w0.range).mono fun e W' ⟨he, bel⟩ => ?_
  subst he
  exact ⟨_, rfl, _, _, _, [], _, [], hW', trodAll_mk1 (shut_bool Try.underlying4 _), (trodAll_cons_mk (Below.trod pFnStateClasses_laidOut (by kernel_rfl) (of_decide_eq_true (by kernel_rfl)) k0 bel lt0) trodAll_mk0), rfl, bel.frame _, fun h => by cases h⟩

theorem pFnStateClasses_fn : Try.pinned.checked.prog.funcNamed Rows.fnStateClassesRow.func = some 4 := by kernel_rfl

theorem pFnStateClasses_joined : joinedFacts Try.pinned.checked.prog 4 Try.f4 Rows.fnStateClassesSpec Rows.fnStateClassesRow = true := by kernel_rfl

theorem pFnStateClasses_inst : Func.isInstance Try.pinned.checked.prog Try.f4 Rows.fnStateClassesRow.origin Rows.fnStateClassesRow.targs := of_decide_eq_true (by kernel_rfl)

theorem fnStateClasses_holds : Rows.FnStateClassesSaid :=
  OpenClaim.holds_of_wide 4 Try.f4 rfl rfl rfl rfl rfl rfl rfl ⟨rfl, rfl, rfl, rfl, rfl⟩ rfl rfl rfl rfl rfl pFnStateClasses_fn Try.func4 pFnStateClasses_joined
    pFnStateClasses_inst (by unfold Func.isWrapper; first | (rw [if_pos (by decide +kernel)]; kernel_rfl) | (rw [if_neg (by decide +kernel)]; exact ⟨rfl, rfl⟩))
    (fun os started H enc _ => pFnStateClasses_lifted os started H enc)
#print axioms fnStateClasses_holds
end Go.Proofs.Ytaboipnigeaopaa
