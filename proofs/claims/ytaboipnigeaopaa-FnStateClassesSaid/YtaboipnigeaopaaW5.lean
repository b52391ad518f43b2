import Derived.Test.YtaboipnigeaopaaW4
import Derived.Test.YtaboipnigeaopaaQ1
namespace Go.Proofs.Ytaboipnigeaopaa
set_option linter.unusedVariables false
set_option linter.unusedSimpArgs false
open Go.RowKit

/-! The states reached, and Reachable of the reference. -/

def addR (xs : List Int) (n : Int) : List Int := if n ∈ xs then xs else xs ++ [n]
theorem addR_in {xs : List Int} {n : Int} (h : n ∈ xs) : addR xs n = xs := by unfold addR; rw [if_pos h]
theorem addR_out {xs : List Int} {n : Int} (h : ¬ n ∈ xs) : addR xs n = xs ++ [n] := by unfold addR; rw [if_neg h]
def innR (c : Cir) (s : Int) (xs : List Int) : Nat → List Int
  | 0 => xs
  | m + 1 => addR (innR c s xs m) (nextN c s m)
def outR (c : Cir) (M : Nat) : Nat → Nat → List Int → List Int
  | 0, _, xs => xs
  | f + 1, k, xs => match xs[k]? with
    | none => xs
    | some s => outR c M f (k + 1) (innR c s xs M)
theorem outR_end {c : Cir} {M f k : Nat} {xs : List Int} (h : ¬ k < xs.length) : outR c M f k xs = xs := by
  cases f with
  | zero => rfl
  | succ f => unfold outR; rw [List.getElem?_eq_none (by omega)]
theorem outR_step {c : Cir} {M f k : Nat} {xs : List Int} {s : Int} (h : xs[k]? = some s) : outR c M (f + 1) k xs = outR c M f (k + 1) (innR c s xs M) := by
  show (match xs[k]? with
    | none => xs
    | some s => outR c M f (k + 1) (innR c s xs M)) = _
  rw [h]
def reachR (c : Cir) : List Int := if c.validB = true then outR c (2 ^ c.inp.toNat) (2 ^ c.next.length) 0 [0] else []
theorem reachR_no {c : Cir} (h : c.validB = false) : reachR c = [] := by unfold reachR; rw [h]; rfl
theorem reachR_yes {c : Cir} (h : c.validB = true) {ni : Nat} (hi : c.inp = ni) : reachR c = outR c (2 ^ ni) (2 ^ c.next.length) 0 [0] := by unfold reachR; rw [if_pos h, hi]; rfl
def goodR (N : Nat) (xs : List Int) : Prop := xs.Nodup ∧ ∀ x ∈ xs, 0 ≤ x ∧ x < N
theorem goodR_len : ∀ {N : Nat} {xs : List Int}, goodR N xs → xs.length ≤ N
  | 0, xs, h => by
    cases xs with
    | nil => simp
    | cons x xs => have := h.2 x (by simp); omega
  | N + 1, xs, h => by
    have := goodR_len (N := N) (xs := xs.erase (N : Int)) ⟨h.1.erase _, fun x hx => by
      have h1 := h.2 x (List.mem_of_mem_erase hx)
      have h2 := (h.1.mem_erase_iff.1 hx).1
      have : x ≠ (N : Int) := h2
      omega⟩
    rw [List.length_erase] at this
    split at this <;> omega
theorem goodR_add {N : Nat} {xs : List Int} {n : Int} (h : goodR N xs) (h0 : 0 ≤ n) (h1 : n < N) : goodR N (addR xs n) := by
  by_cases hm : n ∈ xs
  · rw [addR_in hm]; exact h
  · rw [addR_out hm]
    refine ⟨List.nodup_append.2 ⟨h.1, by simp, ?_⟩, fun x hx => ?_⟩
    · intro a ha b hb e
      simp at hb
      exact hm (hb ▸ e ▸ ha)
    · rcases List.mem_append.1 hx with h' | h'
      · exact h.2 x h'
      · simp at h'; omega
theorem nextN_lt (c : Cir) (s i : Int) : 0 ≤ nextN c s i ∧ nextN c s i < ((2 ^ c.next.length : Nat) : Int) := by
  have := nextN_bd c s i
  refine ⟨this.1, ?_⟩
  have h := this.2
  simpa using h
theorem goodR_inn {c : Cir} {s : Int} {xs : List Int} (h : goodR (2 ^ c.next.length) xs) : ∀ m, goodR (2 ^ c.next.length) (innR c s xs m)
  | 0 => h
  | m + 1 => goodR_add (goodR_inn h m) (nextN_lt c s m).1 (nextN_lt c s m).2
theorem addR_get {xs : List Int} {n x : Int} {k : Nat} (h : xs[k]? = some x) : (addR xs n)[k]? = some x := by
  by_cases hm : n ∈ xs
  · rw [addR_in hm]; exact h
  · rw [addR_out hm, List.getElem?_append_left (List.getElem?_eq_some_iff.1 h).1]; exact h
theorem innR_get {c : Cir} {s x : Int} {xs : List Int} {k : Nat} (h : xs[k]? = some x) : ∀ m, (innR c s xs m)[k]? = some x
  | 0 => h
  | m + 1 => addR_get (innR_get h m)
theorem goodR_zero (N : Nat) (h : 0 < N) : goodR N [0] := ⟨by simp, fun x hx => by simp at hx; subst hx; omega⟩
theorem goodR_out {c : Cir} {M : Nat} : ∀ {f k : Nat} {xs : List Int}, goodR (2 ^ c.next.length) xs → goodR (2 ^ c.next.length) (outR c M f k xs)
  | 0, _, _, h => h
  | f + 1, k, xs, h => by
    cases hx : xs[k]? with
    | none => unfold outR; rw [hx]; exact h
    | some s => rw [outR_step hx]; exact goodR_out (goodR_inn h M)
theorem reachR_len (c : Cir) : (reachR c).length ≤ 1000000 := by
  cases h : c.validB
  · rw [reachR_no h]; simp
  · have hv := c.validB_iff.1 h
    obtain ⟨q1, q2, q3, q4, q5⟩ := id hv.lim
    have hp : 2 ^ c.next.length ≤ 2 ^ 10 := Nat.pow_le_pow_right (by omega) (by omega)
    have := goodR_len (goodR_out (c := c) (M := 2 ^ c.inp.toNat) (f := 2 ^ c.next.length) (k := 0) (goodR_zero (2 ^ c.next.length) (Nat.pow_pos (by omega))))
    unfold reachR
    rw [if_pos h]
    omega

end Go.Proofs.Ytaboipnigeaopaa
