import Derived.Test.YtjggcojbgkpooaaBH
import Derived.Test.YtjggcojbgkpooaaV8
namespace Go.Proofs.Ytjggcojbgkpooaa
set_option linter.unusedVariables false
set_option linter.unusedSimpArgs false
open Go.RowKit

/-! Functional equality of two variables, and their diagrams. -/

theorem eqAll_iff (f g : Nat → Bool) (N : Nat) : eqAll f g N = true ↔ ∀ x, x < N → f x = g x := by simp [eqAll]
theorem neAll_iff (f g : Nat → Bool) (N : Nat) : neAll f g N = true ↔ ∀ x, x < N → (!f x) = g x := by
  simp only [neAll, List.all_eq_true, List.mem_range, bne_nbeq, beq_iff_eq]
theorem sameV_sym (c : Cir) (p q : Nat) : sameV c p q = sameV c q p := by
  unfold sameV
  have e1 : eqAll (colV c p) (colV c q) (asgN c) = eqAll (colV c q) (colV c p) (asgN c) := by
    rw [Bool.eq_iff_iff, eqAll_iff, eqAll_iff]
    exact ⟨fun h x hx => (h x hx).symm, fun h x hx => (h x hx).symm⟩
  have e2 : neAll (colV c p) (colV c q) (asgN c) = neAll (colV c q) (colV c p) (asgN c) := by
    rw [Bool.eq_iff_iff, neAll_iff, neAll_iff]
    exact ⟨fun h x hx => by have := h x hx; rw [← this]; simp, fun h x hx => by have := h x hx; rw [← this]; simp⟩
  rw [e1, e2]
theorem sfR_sym (c : Cir) (p q : Int) : sfR c p q = sfR c q p := by
  by_cases h : sfOk c p q
  · rw [sfR_yes h, sfR_yes ⟨h.1, h.2.2, h.2.1⟩, sameV_sym]
  · rw [sfR_no h, sfR_no fun h2 => h ⟨h2.1, h2.2.2, h2.2.1⟩]
theorem sfR_self {c : Cir} {p : Int} (h : c.validB = true) (h1 : 0 ≤ p) (h2 : p < c.vars) : sfR c p p = 1 := by
  rw [sfR_yes ⟨h, ⟨h1, h2⟩, h1, h2⟩]
  unfold sameV
  rw [if_pos ((eqAll_iff _ _ _).2 fun _ _ => rfl)]
theorem sfR_bd (c : Cir) (p q : Int) : -1 ≤ sfR c p q ∧ sfR c p q ≤ 1 := by
  by_cases h : sfOk c p q
  · rw [sfR_yes h]; unfold sameV; split <;> (try split) <;> omega
  · rw [sfR_no h]; omega
theorem litF_even (c : Cir) (p : Nat) : litF c (2 * (p : Int)) = colV c p := by
  funext y
  unfold litF litB colV
  rw [show (2 * (p : Int)) / 2 = p by omega, Int.toNat_natCast, decide_eq_false (by omega)]
  simp
theorem litF_odd (c : Cir) (p : Nat) : litF c (2 * (p : Int) + 1) = fun y => !colV c p y := by
  funext y
  unfold litF litB colV
  rw [show (2 * (p : Int) + 1) / 2 = p by omega, Int.toNat_natCast, decide_eq_true (by omega)]
  simp
theorem asgN_pos (c : Cir) : 1 ≤ asgN c := by unfold asgN; exact Nat.pow_pos (by omega)
theorem asgN_pow (c : Cir) : asgN c = 2 ^ (c.inp.toNat + c.next.length) := by
  unfold asgN; first | rfl | simp
theorem sf_pos {c : Cir} {p q : Nat} (hv : c.validB = true) (hp : (p : Int) < c.vars) (hq : (q : Int) < c.vars) :
    (sfR c p q = 1 ↔ bdR c (2 * (p : Int)) = bdR c (2 * (q : Int))) ∧ (sfR c p q = -1 ↔ bdR c (2 * (p : Int) + 1) = bdR c (2 * (q : Int))) := by
  have hl := (c.validB_iff.1 hv).lim
  have h7 : c.inp.toNat + c.next.length ≤ 7 := by have := hl.1; have := hl.2.1; have := hl.2.2.1; omega
  have hP := asgN_pos c
  have k1 : tsOk c (2 * (p : Int)) := ⟨hv, by unfold litP; omega⟩
  have k2 : tsOk c (2 * (p : Int) + 1) := ⟨hv, by unfold litP; omega⟩
  have k3 : tsOk c (2 * (q : Int)) := ⟨hv, by unfold litP; omega⟩
  rw [sfR_yes ⟨hv, ⟨by omega, hp⟩, by omega, hq⟩, bdR_yes k1, bdR_yes k2, bdR_yes k3, litF_even, litF_even, litF_odd, bdK_iff _ _ h7, bdK_iff _ _ h7, ← asgN_pow, Int.toNat_natCast, Int.toNat_natCast, ← eqAll_iff, ← neAll_iff]
  unfold sameV
  by_cases h1 : eqAll (colV c p) (colV c q) (asgN c) = true
  · rw [if_pos h1]
    refine ⟨by simp [h1], ?_⟩
    constructor
    · intro h; omega
    · intro h
      have e1 := (eqAll_iff _ _ _).1 h1 0 (by omega)
      have e2 := (neAll_iff _ _ _).1 h 0 (by omega)
      rw [e1] at e2
      cases hh : colV c q 0 <;> rw [hh] at e2 <;> cases e2
  · rw [if_neg h1]
    by_cases h2 : neAll (colV c p) (colV c q) (asgN c) = true
    · rw [if_pos h2]; exact ⟨⟨fun h => by omega, fun h => absurd h h1⟩, by simp [h2]⟩
    · rw [if_neg h2]; exact ⟨⟨fun h => by omega, fun h => absurd h h1⟩, ⟨fun h => by omega, fun h => absurd h h2⟩⟩

end Go.Proofs.Ytjggcojbgkpooaa
