import Derived.Test.YtbcolcchchgldaaEB
import Derived.Test.YtbcolcchchgldaaV3
import Derived.Test.YtbcolcchchgldaaDI
namespace Go.Proofs.Ytbcolcchchgldaa
set_option linter.unusedVariables false
set_option linter.unusedSimpArgs false
open Go.RowKit

/-! A circuit is simulated over rows of input values. -/

def simV (c : Cir) (S I : List Bool) : List Bool := valsV (-1) false (stuckB (-1) false (false :: (I ++ S))) c.gates
def simN (c : Cir) (S I : List Bool) : List Bool := c.next.map (litB (simV c S I))
def simQ (c : Cir) (S I : List Bool) : List Bool := c.outs.map (litB (simV c S I))
def stS (c : Cir) (S : List Bool) (rows : List (List Bool)) : List Bool := rows.foldl (simN c) S
def outS (c : Cir) : List Bool → List (List Bool) → List (List Bool)
  | _, [] => []
  | S, I :: rs => simQ c S I :: outS c (simN c S I) rs
theorem outS_snoc (c : Cir) (I : List Bool) : ∀ (rows : List (List Bool)) (S : List Bool), outS c S (rows ++ [I]) = outS c S rows ++ [simQ c (stS c S rows) I]
  | [], _ => rfl
  | J :: rs, S => by
    show simQ c S J :: outS c (simN c S J) (rs ++ [I]) = _
    rw [outS_snoc c I rs (simN c S J)]; rfl
theorem stS_snoc (c : Cir) (I : List Bool) (rows : List (List Bool)) (S : List Bool) : stS c S (rows ++ [I]) = simN c (stS c S rows) I := by
  unfold stS; rw [List.foldl_append]; rfl
theorem outS_length (c : Cir) : ∀ (rows : List (List Bool)) (S : List Bool), (outS c S rows).length = rows.length
  | [], _ => rfl
  | J :: rs, S => by show (outS c (simN c S J) rs).length + 1 = _; rw [outS_length c rs]; rfl
theorem simN_length (c : Cir) (S I : List Bool) : (simN c S I).length = c.next.length := by simp [simN]
theorem simV_length {c : Cir} {S I : List Bool} {ni : Nat} (hi : c.inp = ni) (hS : S.length = c.next.length) (hI : I.length = ni) : ((simV c S I).length : Int) = c.vars := by
  unfold simV
  rw [valsV_length, stuckB_length, List.length_cons, List.length_append, hS, hI]
  unfold Cir.vars
  rw [hi]
  omega

end Go.Proofs.Ytbcolcchchgldaa
