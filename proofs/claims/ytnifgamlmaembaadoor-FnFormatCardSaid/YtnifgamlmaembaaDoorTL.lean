import Derived.Test.YtnifgamlmaembaaDoorRows
import Derived.LaidLaws
namespace Go.Proofs.YtnifgamlmaembaaDoor
set_option linter.unusedVariables false
set_option linter.unusedSimpArgs false

/-! A world that holds what the rows list. -/

def litCells : List (DataW Unit) → List Value
  | .lit (.int k n) :: r => .int k n :: litCells r
  | .agg [.lit (.int k n), .lit (.int k2 n2)] :: r => .int k n :: .int k2 n2 :: litCells r
  | _ :: r => litCells r
  | [] => []
def aggCells : DataW Unit → Array Value
  | .agg l => (litCells l).toArray
  | _ => #[]
def putCells (c : Array Value) : Obj → Obj
  | .cells _ t frozen => .cells c t frozen
  | o => o
noncomputable def laidWorld (os : Os) : World :=
  { World.holding Tryd.prog os ⟨#[], #[], []⟩ with heap := (((World.holding Tryd.prog os ⟨#[], #[], []⟩).heap.modify 6 (putCells (aggCells Rows.laid_math_bits_deBruijn32tab))).modify 7 (putCells (aggCells Rows.laid_math_bits_deBruijn64tab))).modify 3 (putCells (aggCells Rows.laid_internal_strconv_uint64pow10)) }

end Go.Proofs.YtnifgamlmaembaaDoor
