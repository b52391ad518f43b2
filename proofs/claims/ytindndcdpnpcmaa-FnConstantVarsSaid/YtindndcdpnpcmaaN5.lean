import Derived.Test.YtindndcdpnpcmaaN3
import Derived.Test.YtindndcdpnpcmaaM1
namespace Go.Proofs.Ytindndcdpnpcmaa
set_option linter.unusedVariables false
set_option linter.unusedSimpArgs false
open Go.RowKit

/-! EvalBdd, both. -/

def evalN (ns : List Nd) (x : Int) : Nat → Nat → Nat
  | 0, a => a
  | f + 1, a => if 1 < a then evalN ns x f (if x / 2 ^ ((ns.getD a default).v).toNat % 2 = 1 then (ns.getD a default).hi.toNat else (ns.getD a default).lo.toNat) else a
theorem evalN_end (ns : List Nd) (x : Int) (f a : Nat) (h : ¬ 1 < a) : evalN ns x f a = a := by
  cases f with
  | zero => rfl
  | succ f => unfold evalN; rw [if_neg h]
theorem evalN_hi {ns : List Nd} {x : Int} {f a : Nat} {g : Nd} (hg : ns[a]? = some g) (h : 1 < a) (hb : x / 2 ^ g.v.toNat % 2 = 1) : evalN ns x (f + 1) a = evalN ns x f g.hi.toNat := by
  show (if 1 < a then _ else _) = _
  rw [if_pos h, getD_of hg, if_pos hb]
theorem evalN_lo {ns : List Nd} {x : Int} {f a : Nat} {g : Nd} (hg : ns[a]? = some g) (h : 1 < a) (hb : ¬ x / 2 ^ g.v.toNat % 2 = 1) : evalN ns x (f + 1) a = evalN ns x f g.lo.toNat := by
  show (if 1 < a then _ else _) = _
  rw [if_pos h, getD_of hg, if_neg hb]
def Bd.evalB (d : Bd) (x : Int) : Bool := d.validB && (decide (0 ≤ x) && decide (evalN d.nodes x 1000 d.root.toNat = 1))
theorem evalB_inv {d : Bd} {x : Int} (h : d.validB = false) : d.evalB x = false := by simp [Bd.evalB, h]
theorem evalB_neg {d : Bd} {x : Int} (h : ¬ 0 ≤ x) : d.evalB x = false := by simp [Bd.evalB, h]
theorem evalB_eq {d : Bd} {x : Int} (h : d.validB = true) (hx : 0 ≤ x) : d.evalB x = decide (evalN d.nodes x 1000 d.root.toNat = 1) := by simp [Bd.evalB, h, hx]
theorem shr_bd (x v : Int) (h0 : 0 ≤ x) (h1 : x ≤ 9223372036854775807) : 0 ≤ x / 2 ^ v.toNat ∧ x / 2 ^ v.toNat ≤ 9223372036854775807 := by
  have hp : (0 : Int) < 2 ^ v.toNat := Int.pow_pos (by decide)
  exact ⟨Int.ediv_nonneg h0 (by omega), Int.le_trans (Int.ediv_le_self _ h0) h1⟩
theorem validB_at {d : Bd} (h : d.validB = true) {a : Nat} {g : Nd} (hg : d.nodes[a]? = some g) (ha : 2 ≤ a) : okAt d.nodes a g := by
  have := ((d.validB_iff).1 h).2 a (List.getElem?_eq_some_iff.1 hg).1 ha
  rwa [getD_of hg] at this

/-! CountBdd, both. -/

def Bd.under (d : Bd) (n : Int) (m : Nat) : Prop := ∀ i, i < m → 2 ≤ i → (d.nodes.getD i default).v < n
instance (d : Bd) (n : Int) (m : Nat) : Decidable (d.under n m) := inferInstanceAs (Decidable (∀ i, i < m → _))
theorem under_two (d : Bd) (n : Int) : d.under n 2 := by intro i h1 h2; omega
theorem under_snoc {d : Bd} {n : Int} {k : Nat} {x : Nd} (h : d.under n k) (hx : d.nodes[k]? = some x) (h1 : x.v < n) : d.under n (k + 1) := by
  intro i hi h2
  by_cases e : i = k
  · subst e; rw [getD_of hx]; exact h1
  · exact h i (by omega) h2
def cntB (d : Bd) (m : Nat) : Nat := ((List.range m).filter fun (x : Nat) => d.evalB (x : Int)).length
theorem cntB_zero (d : Bd) : cntB d 0 = 0 := rfl
theorem cntB_succ (d : Bd) (m : Nat) : cntB d (m + 1) = cntB d m + if d.evalB (m : Int) then 1 else 0 := by
  unfold cntB
  rw [List.range_succ, List.filter_append]
  by_cases h : d.evalB (m : Int) <;> simp [h]
theorem cntB_le (d : Bd) (m : Nat) : cntB d m ≤ m := by
  unfold cntB
  have := List.length_filter_le (fun (x : Nat) => d.evalB (x : Int)) (List.range m)
  simpa using this
def Bd.fine (d : Bd) (n : Int) : Prop := d.validB = true ∧ 0 ≤ n ∧ n ≤ 7 ∧ d.under n d.nodes.length
instance (d : Bd) (n : Int) : Decidable (d.fine n) := inferInstanceAs (Decidable (_ ∧ _))
def Bd.count (d : Bd) (n : Int) : Int := if d.fine n then (cntB d (2 ^ n.toNat) : Int) else -1
theorem count_no {d : Bd} {n : Int} (h : ¬ d.fine n) : d.count n = -1 := by unfold Bd.count; rw [if_neg h]
theorem count_yes {d : Bd} {n : Int} (h : d.fine n) : d.count n = cntB d (2 ^ n.toNat) := by unfold Bd.count; rw [if_pos h]
theorem pow_n {n : Int} (h0 : 0 ≤ n) (h7 : n ≤ 7) : ∃ P : Nat, 2 ^ n.toNat = P ∧ (2 : Int) ^ n.toNat = (P : Int) ∧ 1 ≤ P ∧ P ≤ 128 := by
  have : n.toNat ≤ 7 := by omega
  have hl : 2 ^ n.toNat ≤ 2 ^ 7 := Nat.pow_le_pow_right (by omega) this
  have hp : 0 < 2 ^ n.toNat := Nat.pow_pos (by omega)
  exact ⟨2 ^ n.toNat, rfl, by simp, by omega, by omega⟩

end Go.Proofs.Ytindndcdpnpcmaa
