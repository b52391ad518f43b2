import Derived.Test.YtfjfihbhjljfcaaW2
import Derived.Test.YtfjfihbhjljfcaaM3
namespace Go.Proofs.Ytfjfihbhjljfcaa
set_option linter.unusedVariables false
set_option linter.unusedSimpArgs false
open Go.RowKit

/-! One step of the reference, its next state and outputs. -/

theorem Sl.sets {w w' : World} {s : Option Addr} {cs : List Value} (h : Sl w s cs) {r : Nat} (hr : ∀ v ∈ cs, ∀ o, w.cell? ⟨r, o, none⟩ ≠ some v) (hw : ∀ b, b ≠ r → w'.heap[b]? = w.heap[b]?) : Sl w' s cs := by
  rcases h with h | ⟨b, off, rfl, h⟩
  · exact .inl h
  · refine .inr ⟨b, off, rfl, fun j v hv => ?_⟩
    have hne : b ≠ r := fun e => hr v (List.mem_of_getElem? hv) _ (e ▸ h j v hv)
    have := h j v hv
    simpa [World.cell?, hw b hne] using this
theorem Sl.boolsets {w w' : World} {s : Option Addr} {bs : List Bool} (h : Sl w s (bools bs)) {r : Nat} {a b : Option Addr} {n m c d : Nat} {t : TypeId} {fz : Nat × Nat} (hr : w.heap[r]? = some (.cells #[.slice a n c, .slice b m d] t fz)) (hw : ∀ b, b ≠ r → w'.heap[b]? = w.heap[b]?) : Sl w' s (bools bs) :=
  h.sets (fun v hv o e => by
    obtain ⟨x, _, rfl⟩ := List.mem_map.1 hv
    rw [blk_cell hr] at e
    rcases o with _ | _ | o <;> simp at e) hw

end Go.Proofs.Ytfjfihbhjljfcaa
