import Derived.Test.YtfjfihbhjljfcaaV6
import Derived.Test.YtfjfihbhjljfcaaH2
namespace Go.Proofs.Ytfjfihbhjljfcaa
set_option linter.unusedVariables false
set_option linter.unusedSimpArgs false
open Go.RowKit

/-! Values under a fault: the reference's walks. -/

theorem map_app_eq (f g : Int → Bool) (xs ys : List Int) : ((xs ++ ys).map f = (xs ++ ys).map g) ↔ (ys.map f = ys.map g ∧ xs.map f = xs.map g) := by
  rw [List.map_append, List.map_append]
  constructor
  · intro h
    have := List.append_inj h (by simp)
    exact ⟨this.2, this.1⟩
  · rintro ⟨h1, h2⟩; rw [h1, h2]
theorem detV_eq (c : Cir) (p : Int) (val : Bool) (x : Int) : detV c p val x = !(decide (c.outs.map (litB (evalV c x (-1) false)) = c.outs.map (litB (evalV c x p val))) && decide (c.next.map (litB (evalV c x (-1) false)) = c.next.map (litB (evalV c x p val)))) := by
  unfold detV resV
  congr 1
  rw [Bool.eq_iff_iff]
  simp only [decide_eq_true_eq, Bool.and_eq_true]
  exact map_app_eq _ _ _ _

end Go.Proofs.Ytfjfihbhjljfcaa
