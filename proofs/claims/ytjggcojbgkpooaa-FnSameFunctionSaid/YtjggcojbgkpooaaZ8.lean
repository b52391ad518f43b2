import Derived.Test.YtjggcojbgkpooaaY2
import Derived.Test.YtjggcojbgkpooaaL3
import Derived.Test.YtjggcojbgkpooaaA4
namespace Go.Proofs.Ytjggcojbgkpooaa
set_option linter.unusedVariables false
set_option linter.unusedSimpArgs false
open Go.RowKit

/-! A circuit, a gate and a value drawn out of bytes. -/

/-- A circuit, a number and a bool that were drawn. -/
def DrawnCIB (w : World) (e : Ending) (w' : World) : Prop :=
  ∃ (C : Cir) (i : Int) (b : Bool) (vn vg vo : Value), e = .returned (.tuple #[.agg #[.int .i64 C.inp, vn, vg, vo], .int .i64 i, .bool b]) ∧ CirOwn w' w.heap.size C vn vg vo ∧ (-10 ≤ C.inp ∧ C.inp ≤ 10 ∧ C.next.length ≤ 8 ∧ C.gates.length ≤ 40 ∧ C.outs.length ≤ 16) ∧ (-100 ≤ i ∧ i ≤ 100) ∧ Below w.heap.size w w'
/-- A circuit and a number that were drawn. -/
def DrawnCJ (w : World) (e : Ending) (w' : World) : Prop :=
  ∃ (C : Cir) (i : Int) (vn vg vo : Value), e = .returned (.tuple #[.agg #[.int .i64 C.inp, vn, vg, vo], .int .i64 i]) ∧ CirOwn w' w.heap.size C vn vg vo ∧ (-10 ≤ C.inp ∧ C.inp ≤ 10 ∧ C.next.length ≤ 8 ∧ C.gates.length ≤ 40 ∧ C.outs.length ≤ 16) ∧ (-100 ≤ i ∧ i ≤ 100) ∧ Below w.heap.size w w'

/-! A literal of a circuit is drawn. -/

/-- A circuit and a literal that were drawn. -/
def DrawnCK (w : World) (e : Ending) (w' : World) : Prop :=
  ∃ (C : Cir) (i : Int) (vn vg vo : Value), e = .returned (.tuple #[.agg #[.int .i64 C.inp, vn, vg, vo], .int .i64 i]) ∧ CirOwn w' w.heap.size C vn vg vo ∧ (-10 ≤ C.inp ∧ C.inp ≤ 10 ∧ C.next.length ≤ 8 ∧ C.gates.length ≤ 40 ∧ C.outs.length ≤ 16) ∧ (-300 ≤ i ∧ i ≤ 300) ∧ Below w.heap.size w w'
/-- What l20Lit leaves. -/
def LiPost (R : Nat) (s : Option Addr) (c : Nat) (xs : List Int) (p : Nat) (w : World) (e : Ending) (w' : World) : Prop :=
  ∃ (k : Int) (p' : Nat), e = .returned (.int .i64 k) ∧ (-300 ≤ k ∧ k ≤ 300) ∧ p' ≤ p + 10 ∧ Rd w' R s c xs p' ∧ Upd R w w'

end Go.Proofs.Ytjggcojbgkpooaa
