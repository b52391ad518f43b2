import Derived.Test.YtddmgphlhfilnaaB3
import Derived.Deep.RegionWith
namespace Go.Proofs.Ytddmgphlhfilnaa
set_option linter.unusedVariables false
set_option linter.unusedSimpArgs false
open Go.RowKit

theorem lens_mem {rows : List (List Int)} {r : List Int} (h : r ∈ rows) : (r.length : Int) ≤ lens rows := by
  induction rows with
  | nil => cases h
  | cons x rows ih =>
    have := lens_nonneg rows
    rcases List.mem_cons.1 h with rfl | h
    · unfold lens at *; simp at *; omega
    · have := ih h
      unfold lens at *; simp at *; omega

end Go.Proofs.Ytddmgphlhfilnaa
