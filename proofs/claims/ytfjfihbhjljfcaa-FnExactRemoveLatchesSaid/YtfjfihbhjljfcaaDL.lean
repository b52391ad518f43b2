import Derived.Test.YtfjfihbhjljfcaaDK
namespace Go.Proofs.Ytfjfihbhjljfcaa
set_option linter.unusedVariables false
set_option linter.unusedSimpArgs false
open Go.RowKit

/-! The program's search. -/

def SchPost (r : Option (List Int)) (ni : Nat) (w : World) (e : Ending) (w' : World) : Prop :=
  ∃ s cap vs, e = .returned (.tuple #[.slice s (r.elim [] (rowsX ni)).length cap, .bool r.isSome]) ∧ OwnSB w' w.heap.size (.slice s (r.elim [] (rowsX ni)).length cap) vs (r.elim [] (rowsX ni)) ∧ Below w.heap.size w w'

end Go.Proofs.Ytfjfihbhjljfcaa
