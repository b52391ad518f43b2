import Derived.Test.YtfjfihbhjljfcaaDL
import Derived.Test.YtfjfihbhjljfcaaDJ
namespace Go.Proofs.Ytfjfihbhjljfcaa
set_option linter.unusedVariables false
set_option linter.unusedSimpArgs false
open Go.RowKit

/-! Distinguish and SequentiallyEquivalent. -/

def DisOwn (r : Option (List Int)) (ni : Nat) (w : World) (e : Ending) (w' : World) : Prop :=
  ∃ s cap vs, e = .returned (.agg #[.bool r.isSome, .slice s (r.elim [] (rowsX ni)).length cap]) ∧ OwnSB w' w.heap.size (.slice s (r.elim [] (rowsX ni)).length cap) vs (r.elim [] (rowsX ni)) ∧ Below w.heap.size w w'
theorem OwnSB.setlow {w : World} {base r o : Nat} {v u : Value} {vs : List Value} {rows : List (List Bool)} (h : OwnSB w base v vs rows) (hr : r < base) : OwnSB (w.setCell ⟨r, o, none⟩ u) base v vs rows :=
  ⟨own_set_ne h.out (fun e => by have := (own_blk h.out e).1; omega) _, fun i x q e1 e2 => own_set_ne (h.row i x q e1 e2) (fun e => by have := (own_blk (h.row i x q e1 e2) e).1; omega) _, h.inj⟩

end Go.Proofs.Ytfjfihbhjljfcaa
