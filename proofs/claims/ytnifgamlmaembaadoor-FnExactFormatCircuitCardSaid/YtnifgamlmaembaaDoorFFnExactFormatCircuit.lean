/-
  FnExactFormatCircuit: for every input the law returns true, and each argument reads afterwards as it read before. No condition.
-/
import Derived.Test.YtnifgamlmaembaaDoorRows
import Derived.Test.YtnifgamlmaembaaDoorCards
import Derived.Test.YtnifgamlmaembaaDoorTie
import Derived.Test.YtnifgamlmaembaaDoorTL
import Derived.Deep.DeepHandedRow
import Derived.OpenShut
import Derived.Test.YtnifgamlmaembaaDoorKFnExactFormatCircuit
import Derived.Test.YtnifgamlmaembaaDoorO2
import Derived.ShutString
import Derived.ChangeOld
namespace Go.Proofs.YtnifgamlmaembaaDoor
set_option linter.unusedVariables false
set_option linter.unusedSimpArgs false
open Go.ChangeShapes Go.WideShapes Go.ChangeAt Go.RowKit

theorem pFnExactFormatCircuit_own : ownKnob Tryd.prog.godebug = none := by kernel_rfl
theorem pFnExactFormatCircuit_laidOut : laidOutB Tryd.prog = true := by kernel_rfl

theorem pFnExactFormatCircuit_reads (os : Os) {H : Type} (enc : TypeId × Value → H) : ∃ places, DataW.whole enc Tryd.prog ((laidWorld os).forCall (fun _ _ => 0) ⟨#[], #[(.agg #[.int .i64 0, .slice none 0 0, .slice none 0 0, .slice none 0 0] : Value)], []⟩).memory Tryd.f3.params.toList Rows.fnExactFormatCircuitSpec.vars false (#[(.agg #[.int .i64 0, .slice none 0 0, .slice none 0 0, .slice none 0 0] : Value)]).toList 8 = some ([.agg [.lit (.int .i64 0), .nil, .nil, .nil]], [], places) := ⟨[], by kernel_rfl⟩
theorem pFnExactFormatCircuit_met (os : Os) : laidMet Tryd.prog Rows.fnExactFormatCircuitRow.laid ((laidWorld os).forCall (fun _ _ => 0) ⟨#[], #[(.agg #[.int .i64 0, .slice none 0 0, .slice none 0 0, .slice none 0 0] : Value)], []⟩).memory := laidMet_of_run' 8 (by kernel_rfl) (by kernel_rfl)

set_option maxRecDepth 100000 in
theorem pFnExactFormatCircuit_lifted (os : Os) (started : os.Started) (H : Type) (enc : TypeId × Value → H) (F : Stop.Interp) :
    ReturnsInHanded {} Tryd.checked os 3 .any ((OpenSpec.ofChange Rows.fnExactFormatCircuitSpec).preRow enc Tryd.prog Tryd.f3 Rows.fnExactFormatCircuitRow.domain false Rows.fnExactFormatCircuitRow.laid) (((OpenSpec.ofChange Rows.fnExactFormatCircuitSpec).at F).post enc Tryd.prog Tryd.f3 false true false false) := by
  obtain ⟨places, hx⟩ := pFnExactFormatCircuit_reads os enc
  refine returnsInHanded_of_row (C := Tryd.checked) (s := OpenSpec.ofChange Rows.fnExactFormatCircuitSpec) pFnExactFormatCircuit_own started (by kernel_rfl) Tryd.func3
    (witness_row_at (enc := enc) (C := Tryd.checked) false (laidWorld os) #[(.agg #[.int .i64 0, .slice none 0 0, .slice none 0 0, .slice none 0 0] : Value)] rfl (by kernel_rfl) (by kernel_rfl) (by kernel_rfl)
      (OpenSpec.preRow_of_cond 8 hx (by kernel_rfl) (fun k hk => by cases hk) (by kernel_rfl) (pFnExactFormatCircuit_met os))) ?_
  intro W base args ds gs before hval0 hW _ _ _ hL _ _
  have hval : ∀ (j : Nat) t v, Tryd.f3.params[j]? = some t → args[j]? = some v → Value.okWide Tryd.prog W .any base t v := hval0
  have hW' := hW
  obtain ⟨p, q, hA0, hV, rfl, hfz, hnd⟩ := hW
  have hA : DataW.TrodAll enc Tryd.prog W 0 (fun _ => true) true Tryd.f3.params.toList args.toList ds p := hA0
  rw [Tryd.params3] at hA hval
  obtain ⟨v0, vs0, d0, ds0, p0, q0, hargs, rfl, rfl, h0, r0⟩ := trodAll_cons hA
  obtain ⟨rfl, rfl, rfl⟩ := trodAll_nil r0
  obtain rfl : args = #[v0] := by cases args; simp_all
  obtain ⟨rfl, rfl⟩ := trodVars_none hV
  have k0 := h0
  have lt0 : ∀ x ∈ p0, x.block < W.heap.size := by obtain ⟨m, hm⟩ := k0; exact DataW.trod_lt m _ _ _ hm
  obtain ⟨c0, w0, wi0⟩ := open_circuit (w := W) (v := v0) Tryd.underlying25 (by kernel_rfl) (by kernel_rfl) rfl rfl rfl rfl Tryd.underlying3 Tryd.underlying22 Tryd.underlying23 Tryd.underlying78 rfl rfl rfl rfl (by kernel_rfl) (by kernel_rfl) (hval 0 25 v0 rfl rfl) h0
  clear hA0 hval0
  refine (FnExactFormatCircuit_any v0 c0 W w0).mono fun e W' ⟨he, bel⟩ => ?_
  subst he
  exact ⟨_, rfl, _, _, _, [], _, [], hW', trodAll_mk1 (shut_bool Tryd.underlying4 _), (trodAll_cons_mk (Below.trod pFnExactFormatCircuit_laidOut (by kernel_rfl) (of_decide_eq_true (by kernel_rfl)) k0 bel lt0) trodAll_mk0), rfl, bel.frame _, fun h => by cases h⟩

theorem pFnExactFormatCircuit_fn : Tryd.pinned.checked.prog.funcNamed Rows.fnExactFormatCircuitRow.func = some 3 := by kernel_rfl

theorem pFnExactFormatCircuit_said : Rows.FnExactFormatCircuitSaid :=
  OpenClaim.holds_of_cond 3 Tryd.f3 rfl rfl rfl rfl rfl rfl rfl ⟨rfl, rfl, rfl, rfl, rfl⟩ rfl rfl rfl rfl rfl pFnExactFormatCircuit_fn Tryd.func3 (by kernel_rfl)
    (of_decide_eq_true (by kernel_rfl)) (by unfold Func.isWrapper; first | (rw [if_pos (by decide +kernel)]; kernel_rfl) | (rw [if_neg (by decide +kernel)]; exact ⟨rfl, rfl⟩))
    (fun os started H enc _ F => by rw [OpenClaim.pre_eq_preRow]; exact pFnExactFormatCircuit_lifted os started H enc F)

theorem pFnExactFormatCircuit_plain (f : FuncId) (fn : Func) (hf : Tryd.pinned.checked.prog.funcNamed Rows.fnExactFormatCircuitRow.func = some f) (hfn : Tryd.pinned.checked.prog.funcs[f]? = some fn) :
    true = Tryd.pinned.checked.prog.looks [] ∧ ∀ (j : Nat) t, fn.params[j]? = some t → Tryd.pinned.checked.prog.wantsStandIn t = false := by
  obtain rfl : f = 3 := Option.some.inj (pFnExactFormatCircuit_fn.symm.trans hf) |>.symm
  obtain rfl : fn = Tryd.f3 := (Option.some.inj (Tryd.func3.symm.trans hfn)).symm
  refine ⟨by kernel_rfl, fun j t ht => ?_⟩
  rw [Tryd.params3] at ht
  obtain rfl : t = 25 := by simpa using Array.mem_of_getElem? ht
  exact (show Tryd.prog.wantsStandIn 25 = false by kernel_rfl)

theorem fnExactFormatCircuit_holds : Rows.FnExactFormatCircuitCardSaid :=
  Claim7.holds_tied_plain_at .later [] _ _ _ _ pFnExactFormatCircuit_said (fun _ h => by cases h) (by kernel_rfl) (fun _ h => by cases h) fnExactFormatCircuit_row_tie rfl ⟨rfl, rfl⟩ (by kernel_rfl) rfl pFnExactFormatCircuit_plain (by kernel_rfl)
#print axioms fnExactFormatCircuit_holds
end Go.Proofs.YtnifgamlmaembaaDoor
