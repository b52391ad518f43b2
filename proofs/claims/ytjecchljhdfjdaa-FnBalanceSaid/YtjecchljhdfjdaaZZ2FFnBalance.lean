/-
  FnBalance: for every input the law returns true, and each argument reads afterwards as it read before. No condition.
-/
import Derived.Test.YtjecchljhdfjdaaZZ2JT
import Derived.Test.YtjecchljhdfjdaaZZ2O3
import Derived.Test.YtjecchljhdfjdaaRows
import Derived.ShutString
import Derived.ChangeOld
namespace Go.Proofs.Ytjecchljhdfjdaa
set_option linter.unusedVariables false
set_option linter.unusedSimpArgs false
open Go.ChangeShapes Go.WideShapes Go.ChangeAt Go.RowKit

theorem pFnBalance_own : ownKnob Try.prog.godebug = none := by kernel_rfl
theorem pFnBalance_laidOut : laidOutB Try.prog = true := by kernel_rfl

set_option maxRecDepth 100000 in
theorem pFnBalance_lifted (os : Os) (started : os.Started) (H : Type) (enc : TypeId × Value → H) :
    ReturnsInHanded {} Try.checked os 5 .any (Rows.fnBalanceSpec.pre6 enc Try.prog Try.f5 Rows.fnBalanceRow.domain false) (Rows.fnBalanceSpec.post enc Try.prog Try.f5 false true false false) := by
  refine returnsInHanded_of_change (C := Try.checked) pFnBalance_own started (by kernel_rfl) Try.func5
    (ChangeSpec.witness6 (enc := enc) (C := Try.checked) false ⟨#[], #[.slice none 0 0], []⟩ 8 (by kernel_rfl) (by kernel_rfl) (by kernel_rfl) (by kernel_rfl)) ?_
  intro W base args ds gs before hval0 hW hcnd _
  have hval : ∀ (j : Nat) t v, Try.f5.params[j]? = some t → args[j]? = some v → Value.okWide Try.prog W .any base t v := hval0
  have hW' := hW
  obtain ⟨p, q, hA0, hV, rfl, hfz, hnd⟩ := hW
  have hA : DataW.TrodAll enc Try.prog W 0 (fun _ => true) true Try.f5.params.toList args.toList ds p := hA0
  rw [Try.params5] at hA hval
  obtain ⟨v0, vs0, d0, ds0, p0, q0, hargs, rfl, rfl, h0, r0⟩ := trodAll_cons hA
  obtain ⟨rfl, rfl, rfl⟩ := trodAll_nil r0
  obtain rfl : args = #[v0] := by cases args; simp_all
  obtain ⟨rfl, rfl⟩ := trodVars_none hV
  have k0 := h0
  have lt0 : ∀ x ∈ p0, x.block < W.heap.size := by obtain ⟨m, hm⟩ := k0; exact DataW.trod_lt m _ _ _ hm
  obtain ⟨a0, len0, cap0, rfl⟩ := okWide_slice Try.underlying22 (hval 0 22 v0 rfl rfl)
  obtain ⟨b0, xs0, c0, he0, w0⟩ := (show ∃ (s : Option Addr) (xs : List Int) (c : Nat), Value.slice a0 len0 cap0 = .slice s xs.length c ∧ Bts W s c xs from by
    obtain ⟨fuel, hf⟩ := h0
    exact open_u8s Try.underlying22 Try.underlying5 (by kernel_rfl) hf)
  simp only [Value.slice.injEq] at he0
  obtain ⟨rfl, rfl, rfl⟩ := he0
  clear hA0 hval0
  refine (FnBalance_any a0 cap0 xs0 W w0.sl w0.len w0.cap1 w0.cap2 w0.range).mono fun e W' ⟨he, bel⟩ => ?_
  subst he
  exact ⟨_, rfl, _, _, _, [], _, [], hW', trodAll_mk1 (shut_bool Try.underlying4 _), (trodAll_cons_mk (Below.trod pFnBalance_laidOut (by kernel_rfl) (of_decide_eq_true (by kernel_rfl)) k0 bel lt0) trodAll_mk0), rfl, bel.frame _, fun h => by cases h⟩

theorem pFnBalance_fn : Try.pinned.checked.prog.funcNamed Rows.fnBalanceRow.func = some 5 := by kernel_rfl

theorem pFnBalance_joined : joinedFacts Try.pinned.checked.prog 5 Try.f5 Rows.fnBalanceSpec Rows.fnBalanceRow = true := by kernel_rfl

theorem pFnBalance_inst : Func.isInstance Try.pinned.checked.prog Try.f5 Rows.fnBalanceRow.origin Rows.fnBalanceRow.targs := of_decide_eq_true (by kernel_rfl)

theorem fnBalance_holds : Rows.FnBalanceSaid :=
  OpenClaim.holds_of_wide 5 Try.f5 rfl rfl rfl rfl rfl rfl rfl ⟨rfl, rfl, rfl, rfl, rfl⟩ rfl rfl rfl rfl rfl pFnBalance_fn Try.func5 pFnBalance_joined
    pFnBalance_inst (by unfold Func.isWrapper; first | (rw [if_pos (by decide +kernel)]; kernel_rfl) | (rw [if_neg (by decide +kernel)]; exact ⟨rfl, rfl⟩))
    (fun os started H enc _ => pFnBalance_lifted os started H enc)
#print axioms fnBalance_holds
end Go.Proofs.Ytjecchljhdfjdaa
