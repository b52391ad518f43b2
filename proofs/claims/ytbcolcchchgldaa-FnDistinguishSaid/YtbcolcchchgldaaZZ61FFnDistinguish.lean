/-
  FnDistinguish: for every input the law returns true, and each argument reads afterwards as it read before. No condition.
-/
import Derived.Test.YtbcolcchchgldaaZZ61EO
import Derived.Test.YtbcolcchchgldaaZZ61O3
import Derived.Test.YtbcolcchchgldaaRows
import Derived.ShutString
import Derived.ChangeOld
namespace Go.Proofs.Ytbcolcchchgldaa
set_option linter.unusedVariables false
set_option linter.unusedSimpArgs false
open Go.ChangeShapes Go.WideShapes Go.ChangeAt Go.RowKit

theorem pFnDistinguish_own : ownKnob Try.prog.godebug = none := by kernel_rfl
theorem pFnDistinguish_laidOut : laidOutB Try.prog = true := by kernel_rfl

set_option maxRecDepth 100000 in
theorem pFnDistinguish_lifted (os : Os) (started : os.Started) (H : Type) (enc : TypeId × Value → H) :
    ReturnsInHanded {} Try.checked os 10 .any (Rows.fnDistinguishSpec.pre6 enc Try.prog Try.f10 Rows.fnDistinguishRow.domain false) (Rows.fnDistinguishSpec.post enc Try.prog Try.f10 false true false false) := by
  refine returnsInHanded_of_change (C := Try.checked) pFnDistinguish_own started (by kernel_rfl) Try.func10
    (ChangeSpec.witness6 (enc := enc) (C := Try.checked) false ⟨#[], #[.slice none 0 0, .slice none 0 0], []⟩ 8 (by kernel_rfl) (by kernel_rfl) (by kernel_rfl) (by kernel_rfl)) ?_
  intro W base args ds gs before hval0 hW hcnd _
  have hval : ∀ (j : Nat) t v, Try.f10.params[j]? = some t → args[j]? = some v → Value.okWide Try.prog W .any base t v := hval0
  have hW' := hW
  obtain ⟨p, q, hA0, hV, rfl, hfz, hnd⟩ := hW
  have hA : DataW.TrodAll enc Try.prog W 0 (fun _ => true) true Try.f10.params.toList args.toList ds p := hA0
  rw [Try.params10] at hA hval
  obtain ⟨v0, vs0, d0, ds0, p0, q0, hargs, rfl, rfl, h0, r0⟩ := trodAll_cons hA
  obtain ⟨v1, vs1, d1, ds1, p1, q1, rfl, rfl, rfl, h1, r1⟩ := trodAll_cons r0
  obtain ⟨rfl, rfl, rfl⟩ := trodAll_nil r1
  obtain rfl : args = #[v0, v1] := by cases args; simp_all
  obtain ⟨rfl, rfl⟩ := trodVars_none hV
  have k0 := h0
  have lt0 : ∀ x ∈ p0, x.block < W.heap.size := by obtain ⟨m, hm⟩ := k0; exact DataW.trod_lt m _ _ _ hm
  have k1 := h1
  have lt1 : ∀ x ∈ p1, x.block < W.heap.size := by obtain ⟨m, hm⟩ := k1; exact DataW.trod_lt m _ _ _ hm
  obtain ⟨a0, len0, cap0, rfl⟩ := okWide_slice Try.underlying22 (hval 0 22 v0 rfl rfl)
  obtain ⟨b0, xs0, c0, he0, w0⟩ := (show ∃ (s : Option Addr) (xs : List Int) (c : Nat), Value.slice a0 len0 cap0 = .slice s xs.length c ∧ Bts W s c xs from by
    obtain ⟨fuel, hf⟩ := h0
    exact open_u8s Try.underlying22 Try.underlying5 (by kernel_rfl) hf)
  simp only [Value.slice.injEq] at he0
  obtain ⟨rfl, rfl, rfl⟩ := he0
  obtain ⟨a1, len1, cap1, rfl⟩ := okWide_slice Try.underlying22 (hval 1 22 v1 rfl rfl)
  obtain ⟨b1, xs1, c1, he1, w1⟩ := (show ∃ (s : Option Addr) (xs : List Int) (c : Nat), Value.slice a1 len1 cap1 = .slice s xs.length c ∧ Bts W s c xs from by
    obtain ⟨fuel, hf⟩ := h1
    exact open_u8s Try.underlying22 Try.underlying5 (by kernel_rfl) hf)
  simp only [Value.slice.injEq] at he1
  obtain ⟨rfl, rfl, rfl⟩ := he1
  clear hA0 hval0
  refine (FnDistinguish_any a0 cap0 xs0 a1 cap1 xs1 W w0.sl w0.len w0.cap1 w0.cap2 w0.range w1.sl w1.len w1.cap1 w1.cap2 w1.range).mono fun e W' ⟨he, bel⟩ => ?_
  subst he
  exact ⟨_, rfl, _, _, _, [], _, [], hW', trodAll_mk1 (shut_bool Try.underlying4 _), (trodAll_cons_mk (Below.trod pFnDistinguish_laidOut (by kernel_rfl) (of_decide_eq_true (by kernel_rfl)) k0 bel lt0) (trodAll_cons_mk (Below.trod pFnDistinguish_laidOut (by kernel_rfl) (of_decide_eq_true (by kernel_rfl)) k1 bel lt1) trodAll_mk0)), rfl, bel.frame _, fun h => by cases h⟩

theorem pFnDistinguish_fn : Try.pinned.checked.prog.funcNamed Rows.fnDistinguishRow.func = some 10 := by kernel_rfl

theorem pFnDistinguish_joined : joinedFacts Try.pinned.checked.prog 10 Try.f10 Rows.fnDistinguishSpec Rows.fnDistinguishRow = true := by kernel_rfl

theorem pFnDistinguish_inst : Func.isInstance Try.pinned.checked.prog Try.f10 Rows.fnDistinguishRow.origin Rows.fnDistinguishRow.targs := of_decide_eq_true (by kernel_rfl)

theorem fnDistinguish_holds : Rows.FnDistinguishSaid :=
  OpenClaim.holds_of_wide 10 Try.f10 rfl rfl rfl rfl rfl rfl rfl ⟨rfl, rfl, rfl, rfl, rfl⟩ rfl rfl rfl rfl rfl pFnDistinguish_fn Try.func10 pFnDistinguish_joined
    pFnDistinguish_inst (by unfold Func.isWrapper; first | (rw [if_pos (by decide +kernel)]; kernel_rfl) | (rw [if_neg (by decide +kernel)]; exact ⟨rfl, rfl⟩))
    (fun os started H enc _ => pFnDistinguish_lifted os started H enc)
#print axioms fnDistinguish_holds
end Go.Proofs.Ytbcolcchchgldaa
