import Derived.Test.YtfjfihbhjljfcaaDI
import Derived.Test.YtfjfihbhjljfcaaH4
namespace Go.Proofs.Ytfjfihbhjljfcaa
set_option linter.unusedVariables false
set_option linter.unusedSimpArgs false
open Go.RowKit

/-! Distinguish of the reference. -/

def DisPost (r : Option (List Int)) (ni : Nat) (w : World) (e : Ending) (w' : World) : Prop :=
  ∃ s cap, e = .returned (.agg #[.bool r.isSome, .slice s (r.elim [] (rowsX ni)).length cap]) ∧ SlB w' s (r.elim [] (rowsX ni)) ∧ Below w.heap.size w w'
theorem SlB.nil' (w : World) : SlB w none [] := ⟨[], rfl, Sl.nil _ _, fun i r h => by simp at h⟩
theorem tri_new (w : World) (base : Nat) (hb : base ≤ w.heap.size) (x : Int) (T : TypeId) (hT : T = 3) : TriO (((w.alloc (.cells #[.int .i64 x] T)).alloc (.cells #[.int .i64 0] T)).alloc (.cells #[.int .i64 0] T)) base 1 1 1 (.slice (some ⟨w.heap.size, 0, none⟩) 1 1) (.slice (some ⟨w.heap.size + 1, 0, none⟩) 1 1) (.slice (some ⟨w.heap.size + 1 + 1, 0, none⟩) 1 1) [x] [0] [0] := by
  subst hT
  obtain ⟨h1, h2, h3, -⟩ := blk3 w (.cells #[.int .i64 x] 3) (.cells #[.int .i64 0] 3) (.cells #[.int .i64 0] 3)
  refine ⟨own_of_blk (n := 1) (cur := #[.int .i64 x]) h1 hb (by simp) (by unfold maxLen; omega), own_of_blk (n := 1) (cur := #[.int .i64 0]) h2 (by omega) (by simp) (by unfold maxLen; omega), own_of_blk (n := 1) (cur := #[.int .i64 0]) h3 (by omega) (by simp) (by unfold maxLen; omega), ?_, ?_, ?_⟩
  all_goals
    intro k h e
    simp [Value.ownBlock] at h e
    omega

end Go.Proofs.Ytfjfihbhjljfcaa
