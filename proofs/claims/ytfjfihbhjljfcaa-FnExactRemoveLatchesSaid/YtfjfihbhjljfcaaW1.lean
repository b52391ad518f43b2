import Derived.Test.YtfjfihbhjljfcaaH2
import Derived.Test.YtfjfihbhjljfcaaV6
import Derived.Test.YtfjfihbhjljfcaaL4
namespace Go.Proofs.Ytfjfihbhjljfcaa
set_option linter.unusedVariables false
set_option linter.unusedSimpArgs false
open Go.RowKit

/-! Numbers out of bits. -/

def numB : List Bool → Int
  | [] => 0
  | b :: bs => (if b then 1 else 0) + 2 * numB bs
theorem numB_bd : ∀ bs : List Bool, 0 ≤ numB bs ∧ numB bs < 2 ^ bs.length
  | [] => by simp [numB]
  | b :: bs => by
    have := numB_bd bs
    unfold numB
    rw [List.length_cons, Int.pow_succ]
    cases b <;> simp <;> omega
theorem numB_snoc : ∀ (bs : List Bool) (b : Bool), numB (bs ++ [b]) = numB bs + (if b then 2 ^ bs.length else 0)
  | [], b => by cases b <;> simp [numB]
  | a :: bs, b => by
    have := numB_snoc bs b
    show (if a then 1 else 0) + 2 * numB (bs ++ [b]) = (if a then 1 else 0) + 2 * numB bs + _
    rw [this, List.length_cons, Int.pow_succ]
    cases b <;> simp <;> omega
theorem numB_drop {bs : List Bool} {k : Nat} {b : Bool} (h : bs[k]? = some b) : numB (bs.drop k) = (if b then 1 else 0) + 2 * numB (bs.drop (k + 1)) := by
  obtain ⟨hk, rfl⟩ := List.getElem?_eq_some_iff.1 h
  rw [List.drop_eq_getElem_cons hk]; rfl
theorem or_pow (n i : Nat) (hi : i ≤ 4) (hn : n < 2 ^ i) : bits .or .i64 (n : Int) (2 ^ i) = (n : Int) + 2 ^ i := by
  have h : ∀ i : Fin 5, ∀ n : Fin 16, n.val < 2 ^ i.val → bits .or .i64 ((n.val : Nat) : Int) (2 ^ i.val) = ((n.val : Nat) : Int) + 2 ^ i.val := by decide +kernel
  have hp : 2 ^ i ≤ 2 ^ 4 := Nat.pow_le_pow_right (by omega) hi
  exact h ⟨i, by omega⟩ ⟨n, by omega⟩ hn

end Go.Proofs.Ytfjfihbhjljfcaa
