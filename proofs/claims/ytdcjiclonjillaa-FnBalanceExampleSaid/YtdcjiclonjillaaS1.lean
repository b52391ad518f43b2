import Derived.Test.YtdcjiclonjillaaZ2
import Derived.Test.YtdcjiclonjillaaQ4
import Derived.Test.YtdcjiclonjillaaZ6
import Derived.Test.YtdcjiclonjillaaG3
import Derived.Test.YtdcjiclonjillaaSF
namespace Go.Proofs.Ytdcjiclonjillaa
set_option linter.unusedVariables false
set_option linter.unusedSimpArgs false
open Go.RowKit

/-! A gate is the conjunction of its leaves. -/

theorem Lv_all {c : Cir} (hv : c.valid) (x : Int) : ∀ i, i < c.gates.length → (Lv c i).all (litB (evalV c x (-1) false)) = litB (evalV c x (-1) false) (2 * (c.first + i)) := by
  intro i
  induction i using Nat.strongRecOn with
  | ind i ih =>
    intro hi
    obtain ⟨g, hg⟩ := get_of_lt hi
    obtain ⟨⟨a0, a2⟩, b0, b2⟩ := valid_gate hv hg
    rw [evalV_gate hv x hg, Lv_eq hv hg, List.all_append]
    have key : ∀ l, 0 ≤ l → l / 2 < c.first + i → (lvP c l).all (litB (evalV c x (-1) false)) = litB (evalV c x (-1) false) l := fun l h0 hl => by
      unfold lvP
      by_cases h : oneP c l
      · rw [if_pos h]
        have hj := oneP_lt h hl
        obtain ⟨h1, h2, _⟩ := h
        rw [ih _ hj (by omega)]
        congr 1; omega
      · rw [if_neg h]; simp
    rw [key g.a a0 a2, key g.b b0 b2]

theorem Lv_two {c : Cir} (hv : c.valid) : ∀ i, i < c.gates.length → 2 ≤ (Lv c i).length := by
  intro i
  induction i using Nat.strongRecOn with
  | ind i ih =>
    intro hi
    obtain ⟨g, hg⟩ := get_of_lt hi
    obtain ⟨⟨a0, a2⟩, b0, b2⟩ := valid_gate hv hg
    rw [Lv_eq hv hg, List.length_append]
    have key : ∀ l, 0 ≤ l → l / 2 < c.first + i → 1 ≤ (lvP c l).length := fun l h0 hl => by
      unfold lvP
      by_cases h : oneP c l
      · rw [if_pos h]
        have hj := oneP_lt h hl
        have := ih _ hj (by omega); omega
      · rw [if_neg h]; simp
    have h1 := key g.a a0 a2
    have h2 := key g.b b0 b2
    omega

theorem Lv_mem {c : Cir} (hv : c.valid) : ∀ i, i < c.gates.length → ∀ l ∈ Lv c i, 0 ≤ l ∧ l / 2 < c.first + i := by
  intro i
  induction i using Nat.strongRecOn with
  | ind i ih =>
    intro hi l hl
    obtain ⟨g, hg⟩ := get_of_lt hi
    obtain ⟨⟨a0, a2⟩, b0, b2⟩ := valid_gate hv hg
    rw [Lv_eq hv hg, List.mem_append] at hl
    have key : ∀ m, 0 ≤ m → m / 2 < c.first + i → l ∈ lvP c m → 0 ≤ l ∧ l / 2 < c.first + i := fun m h0 hm hlm => by
      unfold lvP at hlm
      by_cases h : oneP c m
      · rw [if_pos h] at hlm
        have hj := oneP_lt h hm
        have := ih _ hj (by omega) l hlm; omega
      · rw [if_neg h] at hlm
        simp at hlm; subst hlm; exact ⟨h0, hm⟩
    rcases hl with hl | hl
    · exact key _ a0 a2 hl
    · exact key _ b0 b2 hl

end Go.Proofs.Ytdcjiclonjillaa
