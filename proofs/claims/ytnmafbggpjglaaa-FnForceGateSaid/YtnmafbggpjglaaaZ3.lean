import Derived.Test.YtnmafbggpjglaaaZ2
import Derived.Test.YtnmafbggpjglaaaQ3
namespace Go.Proofs.Ytnmafbggpjglaaa
set_option linter.unusedVariables false
set_option linter.unusedSimpArgs false
open Go.RowKit

/-! A gate is the conjunction of its leaves. -/

theorem evalV_gate {c : Cir} (hv : c.valid) (x : Int) {i : Nat} {g : Gt} (hg : c.gates[i]? = some g) :
    litB (evalV c x (-1) false) (2 * (c.first + i)) = (litB (evalV c x (-1) false) g.a && litB (evalV c x (-1) false) g.b) := by
  obtain ⟨⟨a0, a2⟩, b0, b2⟩ := valid_gate hv hg
  obtain ⟨q1, q2, q3, q4, q5⟩ := hv.lim
  have eF : c.first = 1 + c.inp + c.next.length := rfl
  have hi := (List.getElem?_eq_some_iff.1 hg).1
  rw [evalV_no]
  have e1 : valsV (-1) false (asgV c x) c.gates = valsV (-1) false (valsV (-1) false (asgV c x) (c.gates.take (i + 1))) (c.gates.drop (i + 1)) := by
    rw [← valsV_append, List.take_append_drop]
  obtain ⟨r, hr⟩ := valsV_pre (-1) false (valsV (-1) false (asgV c x) (c.gates.take (i + 1))) (c.gates.drop (i + 1))
  rw [e1, hr, valsV_snoc hg]
  obtain ⟨vs, hvs⟩ : ∃ vs, vs = valsV (-1) false (asgV c x) (c.gates.take i) := ⟨_, rfl⟩
  rw [← hvs]
  have hlen : vs.length = c.first.toNat + i := by
    rw [hvs, valsV_length, asgV_length, List.length_take]; omega
  unfold stepV
  rw [if_neg (by omega)]
  have p1 : (2 * (c.first + (i : Int)) / 2).toNat = vs.length := by omega
  have la : litB (vs ++ [litB vs g.a && litB vs g.b] ++ r) g.a = litB vs g.a := by rw [List.append_assoc]; exact litB_pre (by omega)
  have lb : litB (vs ++ [litB vs g.a && litB vs g.b] ++ r) g.b = litB vs g.b := by rw [List.append_assoc]; exact litB_pre (by omega)
  rw [la, lb]
  unfold litB
  rw [p1]
  have e2 : decide (2 * (c.first + (i : Int)) % 2 = 1) = false := by rw [decide_eq_false_iff_not]; omega
  rw [e2]
  simp [List.getD, List.getElem?_append]

theorem Lv_all {c : Cir} (hv : c.valid) (x : Int) : ∀ i, i < c.gates.length → (Lv c i).all (litB (evalV c x (-1) false)) = litB (evalV c x (-1) false) (2 * (c.first + i)) := by
  intro i
  induction i using Nat.strongRecOn with
  | ind i ih =>
    intro hi
    obtain ⟨g, hg⟩ := get_of_lt hi
    obtain ⟨⟨a0, a2⟩, b0, b2⟩ := valid_gate hv hg
    rw [evalV_gate hv x hg, Lv_eq hv hg, List.all_append]
    have key : ∀ l, 0 ≤ l → l / 2 < c.first + i → (lvP c l).all (litB (evalV c x (-1) false)) = litB (evalV c x (-1) false) l := fun l h0 hl => by
      unfold lvP
      by_cases h : oneP c l
      · rw [if_pos h]
        have hj := oneP_lt h hl
        obtain ⟨h1, h2, _⟩ := h
        rw [ih _ hj (by omega)]
        congr 1; omega
      · rw [if_neg h]; simp
    rw [key g.a a0 a2, key g.b b0 b2]

theorem Lv_two {c : Cir} (hv : c.valid) : ∀ i, i < c.gates.length → 2 ≤ (Lv c i).length := by
  intro i
  induction i using Nat.strongRecOn with
  | ind i ih =>
    intro hi
    obtain ⟨g, hg⟩ := get_of_lt hi
    obtain ⟨⟨a0, a2⟩, b0, b2⟩ := valid_gate hv hg
    rw [Lv_eq hv hg, List.length_append]
    have key : ∀ l, 0 ≤ l → l / 2 < c.first + i → 1 ≤ (lvP c l).length := fun l h0 hl => by
      unfold lvP
      by_cases h : oneP c l
      · rw [if_pos h]
        have hj := oneP_lt h hl
        have := ih _ hj (by omega); omega
      · rw [if_neg h]; simp
    have h1 := key g.a a0 a2
    have h2 := key g.b b0 b2
    omega

theorem Lv_mem {c : Cir} (hv : c.valid) : ∀ i, i < c.gates.length → ∀ l ∈ Lv c i, 0 ≤ l ∧ l / 2 < c.first + i := by
  intro i
  induction i using Nat.strongRecOn with
  | ind i ih =>
    intro hi l hl
    obtain ⟨g, hg⟩ := get_of_lt hi
    obtain ⟨⟨a0, a2⟩, b0, b2⟩ := valid_gate hv hg
    rw [Lv_eq hv hg, List.mem_append] at hl
    have key : ∀ m, 0 ≤ m → m / 2 < c.first + i → l ∈ lvP c m → 0 ≤ l ∧ l / 2 < c.first + i := fun m h0 hm hlm => by
      unfold lvP at hlm
      by_cases h : oneP c m
      · rw [if_pos h] at hlm
        have hj := oneP_lt h hm
        have := ih _ hj (by omega) l hlm; omega
      · rw [if_neg h] at hlm
        simp at hlm; subst hlm; exact ⟨h0, hm⟩
    rcases hl with hl | hl
    · exact key _ a0 a2 hl
    · exact key _ b0 b2 hl

end Go.Proofs.Ytnmafbggpjglaaa
