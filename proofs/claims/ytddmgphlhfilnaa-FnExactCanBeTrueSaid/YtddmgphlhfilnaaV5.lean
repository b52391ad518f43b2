import Derived.Test.YtddmgphlhfilnaaV4
import Derived.Test.YtddmgphlhfilnaaA4
import Derived.Test.YtddmgphlhfilnaaL3
namespace Go.Proofs.Ytddmgphlhfilnaa
set_option linter.unusedVariables false
set_option linter.unusedSimpArgs false
open Go.RowKit

/-! Functions of variables: equal, opposite. The reference's walks. -/

def colV (c : Cir) (p : Nat) (x : Nat) : Bool := (evalV c (x : Int) (-1) false).getD p false
def eqAll (f g : Nat → Bool) (N : Nat) : Bool := (List.range N).all fun x => f x == g x
def neAll (f g : Nat → Bool) (N : Nat) : Bool := (List.range N).all fun x => f x != g x
theorem eqAll_succ (f g : Nat → Bool) (N : Nat) : eqAll f g (N + 1) = (eqAll f g N && (f N == g N)) := by simp [eqAll, List.range_succ]
theorem neAll_succ (f g : Nat → Bool) (N : Nat) : neAll f g (N + 1) = (neAll f g N && (f N != g N)) := by simp [neAll, List.range_succ]
def sameV (c : Cir) (p q : Nat) : Int := if eqAll (colV c p) (colV c q) (asgN c) then 1 else if neAll (colV c p) (colV c q) (asgN c) then -1 else 0
theorem beq_nbne (x y : Bool) : (x == y) = ((!x) != y) := by cases x <;> cases y <;> rfl
theorem bne_nbeq (x y : Bool) : (x != y) = ((!x) == y) := by cases x <;> cases y <;> rfl
theorem colV_get {c : Cir} {p x : Nat} {y : Bool} (h : (evalV c (x : Int) (-1) false)[p]? = some y) : colV c p x = y := by
  unfold colV; rw [List.getD_eq_getElem?_getD, h]; rfl
theorem Sl.bool2 {w wr : World} {s : Option Addr} {xs : List Bool} (h : Sl w s (bools xs)) (hbl : Below w.heap.size w wr) {j k : Nat} {x y : Bool} (hx : xs[j]? = some x) (hy : xs[k]? = some y) :
    ∃ b off, s = some ⟨b, off, none⟩ ∧ b < w.heap.size ∧ wr.cell? ⟨b, off + j, none⟩ = some (.bool x) ∧ wr.cell? ⟨b, off + k, none⟩ = some (.bool y) := by
  have hlt : j < xs.length := (List.getElem?_eq_some_iff.1 hx).1
  obtain ⟨b, off, rfl, hbw, hcs⟩ := h.at (k := j) (by simpa using hlt)
  exact ⟨b, off, rfl, hbw, by rw [hbl.cell (by exact hbw)]; exact hcs _ _ (bools_get hx), by rw [hbl.cell (by exact hbw)]; exact hcs _ _ (bools_get hy)⟩
theorem asgN_le {c : Cir} (h : c.valid) : 1 ≤ asgN c ∧ asgN c ≤ 128 := by
  obtain ⟨q1, q2, q3, q4, q5⟩ := h.lim
  unfold asgN
  exact ⟨Nat.pow_pos (by omega), Nat.le_trans (Nat.pow_le_pow_right (by omega) (show c.inp.toNat + c.next.length ≤ 7 by omega)) (by decide)⟩
theorem evalV_asg (c : Cir) (x : Int) (ni : Nat) (hi : c.inp = ni) : valsV (-1) false (false :: (bitsV x ni ++ bitsV (x / 2 ^ ni) c.next.length)) c.gates = evalV c x (-1) false := by
  rw [evalV_no]; unfold asgV; rw [hi]; simp

end Go.Proofs.Ytddmgphlhfilnaa
