/-
  FnFormat: for every input the law returns true, and each argument reads afterwards as it read before. No condition.
-/
import Derived.Test.YtnifgamlmaembaaDoorRows
import Derived.Test.YtnifgamlmaembaaDoorCards
import Derived.Test.YtnifgamlmaembaaDoorTie
import Derived.Test.YtnifgamlmaembaaDoorTQ
import Derived.Deep.DeepHandedRow
import Derived.OpenShut
import Derived.Test.YtnifgamlmaembaaDoorUC
import Derived.Test.YtnifgamlmaembaaDoorO3
import Derived.ShutString
import Derived.ChangeOld
namespace Go.Proofs.YtnifgamlmaembaaDoor
set_option linter.unusedVariables false
set_option linter.unusedSimpArgs false
open Go.ChangeShapes Go.WideShapes Go.ChangeAt Go.RowKit

theorem pFnFormat_own : ownKnob Tryd.prog.godebug = none := by kernel_rfl
theorem pFnFormat_laidOut : laidOutB Tryd.prog = true := by kernel_rfl

theorem pFnFormat_reads (os : Os) {H : Type} (enc : TypeId × Value → H) : ∃ places, DataW.whole enc Tryd.prog ((doorWorld os).forCall (fun _ _ => 0) ⟨#[], #[(.slice none 0 0 : Value), .slice none 0 0], []⟩).memory Tryd.f5.params.toList Rows.fnFormatSpec.vars false (#[(.slice none 0 0 : Value), .slice none 0 0]).toList 8 = some ([.nil, .nil], [], places) := ⟨[], by kernel_rfl⟩
theorem pFnFormat_met (os : Os) : laidMet Tryd.prog Rows.fnFormatRow.laid ((doorWorld os).forCall (fun _ _ => 0) ⟨#[], #[(.slice none 0 0 : Value), .slice none 0 0], []⟩).memory := laidMet_of_run' 8 (by kernel_rfl) (by kernel_rfl)

set_option maxRecDepth 100000 in
theorem pFnFormat_lifted (os : Os) (started : os.Started) (H : Type) (enc : TypeId × Value → H) (F : Stop.Interp) :
    ReturnsInHanded {} Tryd.checked os 5 .any ((OpenSpec.ofChange Rows.fnFormatSpec).preRow enc Tryd.prog Tryd.f5 Rows.fnFormatRow.domain false Rows.fnFormatRow.laid) (((OpenSpec.ofChange Rows.fnFormatSpec).at F).post enc Tryd.prog Tryd.f5 false true false false) := by
  obtain ⟨places, hx⟩ := pFnFormat_reads os enc
  refine returnsInHanded_of_row (C := Tryd.checked) (s := OpenSpec.ofChange Rows.fnFormatSpec) pFnFormat_own started (by kernel_rfl) Tryd.func5
    (witness_row_at (enc := enc) (C := Tryd.checked) false (doorWorld os) #[(.slice none 0 0 : Value), .slice none 0 0] rfl (by kernel_rfl) (by kernel_rfl) (by kernel_rfl)
      (OpenSpec.preRow_of_cond 8 hx (by kernel_rfl) (fun k hk => by cases hk) (by kernel_rfl) (pFnFormat_met os))) ?_
  intro W base args ds gs before hval0 hW _ _ _ hL hS _
  have hval : ∀ (j : Nat) t v, Tryd.f5.params[j]? = some t → args[j]? = some v → Value.okWide Tryd.prog W .any base t v := hval0
  have hW' := hW
  obtain ⟨p, q, hA0, hV, rfl, hfz, hnd⟩ := hW
  have hA : DataW.TrodAll enc Tryd.prog W 0 (fun _ => true) true Tryd.f5.params.toList args.toList ds p := hA0
  rw [Tryd.params5] at hA hval
  obtain ⟨v0, vs0, d0, ds0, p0, q0, hargs, rfl, rfl, h0, r0⟩ := trodAll_cons hA
  obtain ⟨v1, vs1, d1, ds1, p1, q1, rfl, rfl, rfl, h1, r1⟩ := trodAll_cons r0
  obtain ⟨rfl, rfl, rfl⟩ := trodAll_nil r1
  obtain rfl : args = #[v0, v1] := by cases args; simp_all
  obtain ⟨rfl, rfl⟩ := trodVars_none hV
  have k0 := h0
  have lt0 : ∀ x ∈ p0, x.block < W.heap.size := by obtain ⟨m, hm⟩ := k0; exact DataW.trod_lt m _ _ _ hm
  have k1 := h1
  have lt1 : ∀ x ∈ p1, x.block < W.heap.size := by obtain ⟨m, hm⟩ := k1; exact DataW.trod_lt m _ _ _ hm
  obtain ⟨a0, len0, cap0, rfl⟩ := okWide_slice Tryd.underlying42 (hval 0 42 v0 rfl rfl)
  obtain ⟨b0, xs0, c0, he0, w0⟩ := (show ∃ (s : Option Addr) (xs : List Int) (c : Nat), Value.slice a0 len0 cap0 = .slice s xs.length c ∧ Bts W s c xs from by
    obtain ⟨fuel, hf⟩ := h0
    exact open_u8s Tryd.underlying42 Tryd.underlying5 (by kernel_rfl) hf)
  simp only [Value.slice.injEq] at he0
  obtain ⟨rfl, rfl, rfl⟩ := he0
  obtain ⟨a1, len1, cap1, rfl⟩ := okWide_slice Tryd.underlying42 (hval 1 42 v1 rfl rfl)
  obtain ⟨b1, xs1, c1, he1, w1⟩ := (show ∃ (s : Option Addr) (xs : List Int) (c : Nat), Value.slice a1 len1 cap1 = .slice s xs.length c ∧ Bts W s c xs from by
    obtain ⟨fuel, hf⟩ := h1
    exact open_u8s Tryd.underlying42 Tryd.underlying5 (by kernel_rfl) hf)
  simp only [Value.slice.injEq] at he1
  obtain ⟨rfl, rfl, rfl⟩ := he1
  clear hA0 hval0
  refine (FnFormat_any a0 cap0 xs0 a1 cap1 xs1 W w0.sl w0.len w0.cap1 w0.cap2 w0.range w1.sl w1.len w1.cap1 w1.cap2 w1.range (gl_of hL hS)).mono fun e W' ⟨he, bel⟩ => ?_
  subst he
  exact ⟨_, rfl, _, _, _, [], _, [], hW', trodAll_mk1 (shut_bool Tryd.underlying4 _), (trodAll_cons_mk (Below.trod pFnFormat_laidOut (by kernel_rfl) (of_decide_eq_true (by kernel_rfl)) k0 bel lt0) (trodAll_cons_mk (Below.trod pFnFormat_laidOut (by kernel_rfl) (of_decide_eq_true (by kernel_rfl)) k1 bel lt1) trodAll_mk0)), rfl, bel.frame _, fun h => by cases h⟩

theorem pFnFormat_fn : Tryd.pinned.checked.prog.funcNamed Rows.fnFormatRow.func = some 5 := by kernel_rfl

theorem pFnFormat_said : Rows.FnFormatSaid :=
  OpenClaim.holds_of_cond 5 Tryd.f5 rfl rfl rfl rfl rfl rfl rfl ⟨rfl, rfl, rfl, rfl, rfl⟩ rfl rfl rfl rfl rfl pFnFormat_fn Tryd.func5 (by kernel_rfl)
    (of_decide_eq_true (by kernel_rfl)) (by unfold Func.isWrapper; first | (rw [if_pos (by decide +kernel)]; kernel_rfl) | (rw [if_neg (by decide +kernel)]; exact ⟨rfl, rfl⟩))
    (fun os started H enc _ F => by rw [OpenClaim.pre_eq_preRow]; exact pFnFormat_lifted os started H enc F)

theorem pFnFormat_plain (f : FuncId) (fn : Func) (hf : Tryd.pinned.checked.prog.funcNamed Rows.fnFormatRow.func = some f) (hfn : Tryd.pinned.checked.prog.funcs[f]? = some fn) :
    true = Tryd.pinned.checked.prog.looks [] ∧ ∀ (j : Nat) t, fn.params[j]? = some t → Tryd.pinned.checked.prog.wantsStandIn t = false := by
  obtain rfl : f = 5 := Option.some.inj (pFnFormat_fn.symm.trans hf) |>.symm
  obtain rfl : fn = Tryd.f5 := (Option.some.inj (Tryd.func5.symm.trans hfn)).symm
  refine ⟨by kernel_rfl, fun j t ht => ?_⟩
  rw [Tryd.params5] at ht
  obtain rfl : t = 42 := by simpa using Array.mem_of_getElem? ht
  exact (show Tryd.prog.wantsStandIn 42 = false by kernel_rfl)

theorem fnFormat_holds : Rows.FnFormatCardSaid :=
  Claim7.holds_tied_plain_at .later [] _ _ _ _ pFnFormat_said (fun _ h => by cases h) (by kernel_rfl) (fun _ h => by cases h) fnFormat_row_tie rfl ⟨rfl, rfl⟩ (by kernel_rfl) rfl pFnFormat_plain (by kernel_rfl)
#print axioms fnFormat_holds
end Go.Proofs.YtnifgamlmaembaaDoor
