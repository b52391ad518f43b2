import Derived.Test.YtfjfihbhjljfcaaG3
import Derived.Test.YtfjfihbhjljfcaaA4
import Derived.Test.YtfjfihbhjljfcaaL4
import Derived.Test.YtfjfihbhjljfcaaR1
namespace Go.Proofs.Ytfjfihbhjljfcaa
set_option linter.unusedVariables false
set_option linter.unusedSimpArgs false
open Go.RowKit

/-! l3Map, l18Force, ForceGate of the reference. -/

theorem xor_even (q : Nat) (hq : q ≤ 30) (b : Int) (hb : b = 0 ∨ b = 1) : bits .xor .i64 (2 * (q : Int)) b = 2 * (q : Int) + b := by
  have h0 : ∀ q : Fin 31, bits .xor .i64 (2 * ((q.val : Nat) : Int)) 0 = 2 * ((q.val : Nat) : Int) + 0 := by decide +kernel
  have h1 : ∀ q : Fin 31, bits .xor .i64 (2 * ((q.val : Nat) : Int)) 1 = 2 * ((q.val : Nat) : Int) + 1 := by decide +kernel
  rcases hb with rfl | rfl
  · exact h0 ⟨q, by omega⟩
  · exact h1 ⟨q, by omega⟩
def evL (k : Nat) : List Int := (List.range k).map fun (i : Nat) => 2 * (i : Int)
theorem evL_length (k : Nat) : (evL k).length = k := by simp [evL]
theorem evL_succ (k : Nat) : evL (k + 1) = evL k ++ [2 * (k : Int)] := by simp [evL, List.range_succ]
def mL (V p : Nat) (val : Bool) : List Int := (evL V).set p (if val then 1 else 0)
theorem mL_length (V p : Nat) (val : Bool) : (mL V p val).length = V := by simp [mL, evL_length]
theorem mL_get {V p q : Nat} {val : Bool} (h : q < V) : (mL V p val)[q]? = some (if q = p then (if val then 1 else 0) else 2 * (q : Int)) := by
  unfold mL
  by_cases e : q = p
  · subst e
    rw [List.getElem?_set_self (by rw [evL_length]; exact h), if_pos rfl]
  · rw [List.getElem?_set_ne (Ne.symm e), if_neg e]
    simp [evL, h]

end Go.Proofs.Ytfjfihbhjljfcaa
