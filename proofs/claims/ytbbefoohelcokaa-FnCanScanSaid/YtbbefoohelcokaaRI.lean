import Derived.Test.YtbbefoohelcokaaY1
import Derived.Test.YtbbefoohelcokaaG3
import Derived.Test.YtbbefoohelcokaaB5
import Derived.Test.YtbbefoohelcokaaL4
import Derived.Test.YtbbefoohelcokaaQ1
namespace Go.Proofs.Ytbbefoohelcokaa
set_option linter.unusedVariables false
set_option linter.unusedSimpArgs false
open Go.RowKit

/-! Draws of one circuit. -/

/-- A circuit that was drawn. -/
def DrawnQ (w : World) (e : Ending) (w' : World) : Prop :=
  ∃ (C : Cir) (vn vg vo : Value), e = .returned (.agg #[.int .i64 C.inp, vn, vg, vo]) ∧ CirOwn w' w.heap.size C vn vg vo ∧ (-10 ≤ C.inp ∧ C.inp ≤ 10 ∧ C.next.length ≤ 8 ∧ C.gates.length ≤ 40 ∧ C.outs.length ≤ 16) ∧ Below w.heap.size w w'

/-! sameInts, sameCircuit of the laws for any arguments. -/

theorem aliveR_any (w : World) : Calls Try.prog 9 #[] w fun e w' => e = .returned (.bool true) ∧ Below w.heap.size w w' := by
  go_enter Try.func9, Try.ntmps9
  go_wp2_with (go_at_call 7; (refine (CircuitValid_i _ ⟨0, [], [], []⟩ _ ⟨none, 0, none, 0, none, 0, rfl, .inl rfl, .inl rfl, .inl rfl, by simp, by simp, by simp⟩).mono ?_); rintro e w' ⟨rfl, hq⟩; have HQ := Lib.hid hq; clear hq)
  go_ret
  exact ⟨by congr 1, HQ.out⟩

end Go.Proofs.Ytbbefoohelcokaa
