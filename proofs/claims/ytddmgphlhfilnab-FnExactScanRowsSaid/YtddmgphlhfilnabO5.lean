import Derived.Test.YtddmgphlhfilnabO2
import Derived.Test.YtddmgphlhfilnabV0
import Derived.Deep.Grids
namespace Go.Proofs.Ytddmgphlhfilnab
set_option linter.unusedVariables false
set_option linter.unusedSimpArgs false
open Go.RowKit Go.ChangeShapes Go.WideShapes Go.ChangeAt

/-! A slice of Booleans as it comes in. -/

variable {H : Type} {enc : TypeId × Value → H} {P : Program} {w : World}

structure Bls (w : World) (s : Option Addr) (cap : Nat) (xs : List Bool) : Prop where
  sl : Sl w s (bools xs)
  len : xs.length ≤ 9223372036854775807
  cap1 : xs.length ≤ cap
  cap2 : cap ≤ 9223372036854775807

theorem open_bls {t e : TypeId} {fuel : Nat} {v : Value} {held : Bool} {base : Nat} {x : DataW H × List MemPlace} (ht : P.underlying t = some (.slice e)) (he : P.underlying e = some .bool) (ce : P.cellsOf e = 1)
    (h : DataW.trod enc P w base (fun _ => true) held fuel t [v] = some x) :
    ∃ (s : Option Addr) (xs : List Bool) (c : Nat), v = .slice s xs.length c ∧ Bls w s c xs := by
  rcases Deep.open_bools ht he ce h with ⟨hcs, _⟩ | ⟨a, l, c, B, hcs, _, hl, hm, _, hcell⟩
  · simp at hcs; subst hcs
    exact ⟨none, [], 0, rfl, .inl rfl, by simp, by simp, by simp⟩
  · simp at hcs; subst hcs
    have hlen : ((List.range l).map B).length = l := by simp
    unfold maxLen at hm
    refine ⟨some a, (List.range l).map B, c, by rw [hlen], ?_, by rw [hlen]; omega, by rw [hlen]; omega, by omega⟩
    refine sl_of_add fun j v hv => ?_
    simp only [bools, List.getElem?_map] at hv
    obtain ⟨z, hz, rfl⟩ := Option.map_eq_some_iff.1 hv
    obtain ⟨y, hy, rfl⟩ := Option.map_eq_some_iff.1 hz
    obtain ⟨hj, rfl⟩ := List.getElem?_eq_some_iff.1 hy
    simp at hj
    rw [hcell j (by omega)]; simp

end Go.Proofs.Ytddmgphlhfilnab
