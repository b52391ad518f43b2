import Derived.Test.YtfjfihbhjljfcaaDY
namespace Go.Proofs.Ytfjfihbhjljfcaa
set_option linter.unusedVariables false
set_option linter.unusedSimpArgs false
open Go.RowKit

/-! How long RemoveLatches' result is. -/

theorem rmR_len (c : Cir) : (rmR c).next.length ≤ 3 ∧ (rmR c).gates.length ≤ 14 ∧ (rmR c).outs.length ≤ 3 := by
  cases h : c.validB
  · rw [rmR_no h]; simp
  · rw [rmR_yes h]
    obtain ⟨-, -, a, b, d⟩ := (optC_valid (rmC_valid (c.validB_iff.1 h))).lim
    exact ⟨a, b, d⟩

end Go.Proofs.Ytfjfihbhjljfcaa
