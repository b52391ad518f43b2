/-
  FnExactParseCircuit: for every input the law returns true, and each argument reads afterwards as it read before. No condition.
-/
import Derived.Test.YtnifgamlmaembaaDoorRows
import Derived.Test.YtnifgamlmaembaaDoorCards
import Derived.Test.YtnifgamlmaembaaDoorTie
import Derived.Test.YtnifgamlmaembaaDoorTQ
import Derived.Deep.DeepHandedRow
import Derived.OpenShut
import Derived.Test.YtnifgamlmaembaaDoorKFnExactParseCircuit
import Derived.Test.YtnifgamlmaembaaDoorO3
import Derived.ShutString
import Derived.ChangeOld
namespace Go.Proofs.YtnifgamlmaembaaDoor
set_option linter.unusedVariables false
set_option linter.unusedSimpArgs false
open Go.ChangeShapes Go.WideShapes Go.ChangeAt Go.RowKit

theorem pFnExactParseCircuit_own : ownKnob Tryd.prog.godebug = none := by kernel_rfl
theorem pFnExactParseCircuit_laidOut : laidOutB Tryd.prog = true := by kernel_rfl

theorem pFnExactParseCircuit_reads (os : Os) {H : Type} (enc : TypeId × Value → H) : ∃ places, DataW.whole enc Tryd.prog ((doorWorld os).forCall (fun _ _ => 0) ⟨#[], #[(.slice none 0 0 : Value)], []⟩).memory Tryd.f4.params.toList Rows.fnExactParseCircuitSpec.vars false (#[(.slice none 0 0 : Value)]).toList 8 = some ([.nil], [], places) := ⟨[], by kernel_rfl⟩
theorem pFnExactParseCircuit_met (os : Os) : laidMet Tryd.prog Rows.fnExactParseCircuitRow.laid ((doorWorld os).forCall (fun _ _ => 0) ⟨#[], #[(.slice none 0 0 : Value)], []⟩).memory := laidMet_of_run' 8 (by kernel_rfl) (by kernel_rfl)

set_option maxRecDepth 100000 in
theorem pFnExactParseCircuit_lifted (os : Os) (started : os.Started) (H : Type) (enc : TypeId × Value → H) (F : Stop.Interp) :
    ReturnsInHanded {} Tryd.checked os 4 .any ((OpenSpec.ofChange Rows.fnExactParseCircuitSpec).preRow enc Tryd.prog Tryd.f4 Rows.fnExactParseCircuitRow.domain false Rows.fnExactParseCircuitRow.laid) (((OpenSpec.ofChange Rows.fnExactParseCircuitSpec).at F).post enc Tryd.prog Tryd.f4 false true false false) := by
  obtain ⟨places, hx⟩ := pFnExactParseCircuit_reads os enc
  refine returnsInHanded_of_row (C := Tryd.checked) (s := OpenSpec.ofChange Rows.fnExactParseCircuitSpec) pFnExactParseCircuit_own started (by kernel_rfl) Tryd.func4
    (witness_row_at (enc := enc) (C := Tryd.checked) false (doorWorld os) #[(.slice none 0 0 : Value)] rfl (by kernel_rfl) (by kernel_rfl) (by kernel_rfl)
      (OpenSpec.preRow_of_cond 8 hx (by kernel_rfl) (fun k hk => by cases hk) (by kernel_rfl) (pFnExactParseCircuit_met os))) ?_
  intro W base args ds gs before hval0 hW _ _ _ hL hS _
  have hval : ∀ (j : Nat) t v, Tryd.f4.params[j]? = some t → args[j]? = some v → Value.okWide Tryd.prog W .any base t v := hval0
  have hW' := hW
  obtain ⟨p, q, hA0, hV, rfl, hfz, hnd⟩ := hW
  have hA : DataW.TrodAll enc Tryd.prog W 0 (fun _ => true) true Tryd.f4.params.toList args.toList ds p := hA0
  rw [Tryd.params4] at hA hval
  obtain ⟨v0, vs0, d0, ds0, p0, q0, hargs, rfl, rfl, h0, r0⟩ := trodAll_cons hA
  obtain ⟨rfl, rfl, rfl⟩ := trodAll_nil r0
  obtain rfl : args = #[v0] := by cases args; simp_all
  obtain ⟨rfl, rfl⟩ := trodVars_none hV
  have k0 := h0
  have lt0 : ∀ x ∈ p0, x.block < W.heap.size := by obtain ⟨m, hm⟩ := k0; exact DataW.trod_lt m _ _ _ hm
  obtain ⟨a0, len0, cap0, rfl⟩ := okWide_slice Tryd.underlying27 (hval 0 27 v0 rfl rfl)
  obtain ⟨b0, xs0, c0, he0, w0, m0, y0⟩ := (show ∃ (s : Option Addr) (xs : List Tx) (c : Nat), Value.slice a0 len0 cap0 = .slice s xs.length c ∧ Sl W s (strs xs) ∧ xs.length ≤ 9223372036854775807 ∧ ∀ y ∈ xs, y.length ≤ 9223372036854775807 from by
    obtain ⟨fuel, hf⟩ := h0
    exact open_strs Tryd.underlying27 Tryd.underlying9 (by kernel_rfl) hf)
  simp only [Value.slice.injEq] at he0
  obtain ⟨rfl, rfl, rfl⟩ := he0
  clear hA0 hval0
  refine (FnExactParseCircuit_any a0 cap0 xs0 W w0 m0 y0 (gl_of hL hS)).mono fun e W' ⟨he, bel⟩ => ?_
  subst he
  exact ⟨_, rfl, _, _, _, [], _, [], hW', trodAll_mk1 (shut_bool Tryd.underlying4 _), (trodAll_cons_mk (Below.trod pFnExactParseCircuit_laidOut (by kernel_rfl) (of_decide_eq_true (by kernel_rfl)) k0 bel lt0) trodAll_mk0), rfl, bel.frame _, fun h => by cases h⟩

theorem pFnExactParseCircuit_fn : Tryd.pinned.checked.prog.funcNamed Rows.fnExactParseCircuitRow.func = some 4 := by kernel_rfl

theorem pFnExactParseCircuit_said : Rows.FnExactParseCircuitSaid :=
  OpenClaim.holds_of_cond 4 Tryd.f4 rfl rfl rfl rfl rfl rfl rfl ⟨rfl, rfl, rfl, rfl, rfl⟩ rfl rfl rfl rfl rfl pFnExactParseCircuit_fn Tryd.func4 (by kernel_rfl)
    (of_decide_eq_true (by kernel_rfl)) (by unfold Func.isWrapper; first | (rw [if_pos (by decide +kernel)]; kernel_rfl) | (rw [if_neg (by decide +kernel)]; exact ⟨rfl, rfl⟩))
    (fun os started H enc _ F => by rw [OpenClaim.pre_eq_preRow]; exact pFnExactParseCircuit_lifted os started H enc F)

theorem pFnExactParseCircuit_plain (f : FuncId) (fn : Func) (hf : Tryd.pinned.checked.prog.funcNamed Rows.fnExactParseCircuitRow.func = some f) (hfn : Tryd.pinned.checked.prog.funcs[f]? = some fn) :
    true = Tryd.pinned.checked.prog.looks [] ∧ ∀ (j : Nat) t, fn.params[j]? = some t → Tryd.pinned.checked.prog.wantsStandIn t = false := by
  obtain rfl : f = 4 := Option.some.inj (pFnExactParseCircuit_fn.symm.trans hf) |>.symm
  obtain rfl : fn = Tryd.f4 := (Option.some.inj (Tryd.func4.symm.trans hfn)).symm
  refine ⟨by kernel_rfl, fun j t ht => ?_⟩
  rw [Tryd.params4] at ht
  obtain rfl : t = 27 := by simpa using Array.mem_of_getElem? ht
  exact (show Tryd.prog.wantsStandIn 27 = false by kernel_rfl)

theorem fnExactParseCircuit_holds : Rows.FnExactParseCircuitCardSaid :=
  Claim7.holds_tied_plain_at .later [] _ _ _ _ pFnExactParseCircuit_said (fun _ h => by cases h) (by kernel_rfl) (fun _ h => by cases h) fnExactParseCircuit_row_tie rfl ⟨rfl, rfl⟩ (by kernel_rfl) rfl pFnExactParseCircuit_plain (by kernel_rfl)
#print axioms fnExactParseCircuit_holds
end Go.Proofs.YtnifgamlmaembaaDoor
