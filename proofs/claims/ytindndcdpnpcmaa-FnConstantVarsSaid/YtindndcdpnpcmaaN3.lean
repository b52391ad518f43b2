import Derived.Test.YtindndcdpnpcmaaN2
import Derived.Test.YtindndcdpnpcmaaM2
import Derived.Deep.DeepCutAuto
namespace Go.Proofs.Ytindndcdpnpcmaa
set_option linter.unusedVariables false
set_option linter.unusedSimpArgs false
open Go.RowKit

theorem fresh_iff (ns : List Nd) (k : Nat) (x : Nd) : freshP ns k x ↔ x ∉ (ns.take k).drop 2 := by
  unfold freshP
  rw [List.mem_iff_getElem?]
  simp only [List.getElem?_drop, List.getElem?_take]
  constructor
  · rintro h ⟨i, hi⟩
    split at hi
    · exact h (2 + i) (by omega) (by omega) hi
    · cases hi
  · intro h i h1 h2 e
    refine h ⟨i - 2, ?_⟩
    rw [show 2 + (i - 2) = i from by omega, if_pos h1]; exact e
theorem take_drop_snoc {ns : List Nd} {k : Nat} {x : Nd} (hk : 2 ≤ k) (hx : ns[k]? = some x) : (ns.take (k + 1)).drop 2 = (ns.take k).drop 2 ++ [x] := by
  have hlt := (List.getElem?_eq_some_iff.1 hx).1
  rw [List.take_add_one, hx, List.drop_append_of_le_length (by rw [List.length_take]; omega)]
  rfl

end Go.Proofs.Ytindndcdpnpcmaa
