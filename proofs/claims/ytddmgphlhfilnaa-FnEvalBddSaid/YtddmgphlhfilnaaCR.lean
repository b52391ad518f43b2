import Derived.Test.YtddmgphlhfilnaaN5
namespace Go.Proofs.Ytddmgphlhfilnaa
set_option linter.unusedVariables false
set_option linter.unusedSimpArgs false
open Go.RowKit

/-! Values of diagrams: what they do not depend on, and counting with one more variable. -/

theorem bit_add (x n v : Nat) (h : v < n) : ((2 ^ n + x : Nat) : Int) / 2 ^ v % 2 = (x : Int) / 2 ^ v % 2 := by
  obtain ⟨m, rfl⟩ : ∃ m, n = v + (m + 1) := ⟨n - v - 1, by omega⟩
  have e : (2 : Nat) ^ (v + (m + 1)) = 2 ^ v * (2 * 2 ^ m) := by rw [Nat.pow_add, Nat.pow_succ, Nat.mul_comm (2 ^ m) 2]
  have hp : 0 < 2 ^ v := Nat.pow_pos (by omega)
  have h1 : (2 ^ (v + (m + 1)) + x) / 2 ^ v % 2 = x / 2 ^ v % 2 := by
    rw [e, Nat.mul_add_div hp]; omega
  exact_mod_cast h1
theorem bit_xor (x k v : Nat) (h : v ≠ k) : ((x ^^^ 2 ^ k : Nat) : Int) / 2 ^ v % 2 = (x : Int) / 2 ^ v % 2 := by
  have h1 : (x ^^^ 2 ^ k) / 2 ^ v % 2 = x / 2 ^ v % 2 := by
    have h2 : (x ^^^ 2 ^ k).testBit v = x.testBit v := by
      rw [Nat.testBit_xor, Nat.testBit_two_pow_of_ne (Ne.symm h)]; simp
    rw [Nat.testBit_eq_decide_div_mod_eq, Nat.testBit_eq_decide_div_mod_eq, decide_eq_decide] at h2
    omega
  exact_mod_cast h1
theorem evalN_agree {d : Bd} (hv : d.validB = true) {x y : Int} (hb : ∀ i g, d.nodes[i]? = some g → 2 ≤ i → x / 2 ^ g.v.toNat % 2 = y / 2 ^ g.v.toNat % 2) : ∀ f a : Nat, a < d.nodes.length → evalN d.nodes x f a = evalN d.nodes y f a := by
  intro f
  induction f with
  | zero => intros; rfl
  | succ f ih =>
    intro a ha
    by_cases h1 : 1 < a
    · obtain ⟨g, hg⟩ := get_of_lt ha
      obtain ⟨⟨p1, p2, p3, p4, p5, p6, -⟩, -, -, -⟩ := validB_at hv hg h1
      have e := hb a g hg h1
      by_cases h2 : x / 2 ^ g.v.toNat % 2 = 1
      · rw [evalN_hi hg h1 h2, evalN_hi hg h1 (e ▸ h2)]; exact ih _ (by omega)
      · rw [evalN_lo hg h1 h2, evalN_lo hg h1 (e ▸ h2)]; exact ih _ (by omega)
    · rw [evalN_end _ _ _ _ h1, evalN_end _ _ _ _ h1]
theorem evalB_agree {d : Bd} (hv : d.validB = true) {x y : Int} (hx : 0 ≤ x) (hy : 0 ≤ y) (hb : ∀ i g, d.nodes[i]? = some g → 2 ≤ i → x / 2 ^ g.v.toNat % 2 = y / 2 ^ g.v.toNat % 2) : d.evalB x = d.evalB y := by
  have hh := (d.validB_iff.1 hv).1
  have r0 := hh.r0
  have r1 := hh.r1
  rw [evalB_eq hv hx, evalB_eq hv hy, evalN_agree hv hb 1000 d.root.toNat (by omega)]
/-- No node below m tests variable k. -/
def Bd.free (d : Bd) (k : Int) (m : Nat) : Prop := ∀ i g, d.nodes[i]? = some g → 2 ≤ i → i < m → g.v ≠ k
theorem free_two (d : Bd) (k : Int) : d.free k 2 := by intro i g _ h1 h2; omega
theorem free_snoc {d : Bd} {k : Int} {m : Nat} {x : Nd} (h : d.free k m) (hx : d.nodes[m]? = some x) (h1 : x.v ≠ k) : d.free k (m + 1) := by
  intro i g hg h2 hi
  by_cases e : i = m
  · subst e; rw [hx] at hg; cases hg; exact h1
  · exact h i g hg h2 (by omega)
theorem evalB_flip {d : Bd} (hv : d.validB = true) {x k : Nat} (hf : d.free k d.nodes.length) : d.evalB ((x ^^^ 2 ^ k : Nat) : Int) = d.evalB (x : Int) := by
  refine evalB_agree hv (by omega) (by omega) fun i g hg hi => ?_
  have hlt := (List.getElem?_eq_some_iff.1 hg).1
  obtain ⟨⟨p1, p2, p3, p4, p5, p6, -⟩, -, -, -⟩ := validB_at hv hg hi
  have := hf i g hg hi hlt
  exact bit_xor _ _ _ (by omega)
theorem cnt_double {d : Bd} (hv : d.validB = true) {m : Nat} (hu : d.under m d.nodes.length) : cntB d (2 ^ (m + 1)) = 2 * cntB d (2 ^ m) := by
  unfold cntB
  rw [Nat.pow_succ, Nat.mul_two, List.range_add, List.filter_append, List.length_append, List.filter_map, List.length_map]
  have e : List.filter ((fun (x : Nat) => d.evalB (x : Int)) ∘ fun x => 2 ^ m + x) (List.range (2 ^ m)) = List.filter (fun (x : Nat) => d.evalB (x : Int)) (List.range (2 ^ m)) := by
    refine List.filter_congr fun x _ => ?_
    refine evalB_agree hv (by omega) (by omega) fun i g hg hi => ?_
    have hlt := (List.getElem?_eq_some_iff.1 hg).1
    obtain ⟨⟨p1, p2, p3, p4, p5, p6, -⟩, -, -, -⟩ := validB_at hv hg hi
    have := hu i hlt hi
    rw [getD_of hg] at this
    exact bit_add _ _ _ (by omega)
  rw [e]; omega
theorem count_fine {d : Bd} {n : Int} (h : 0 ≤ d.count n) : d.fine n := by
  by_cases hf : d.fine n
  · exact hf
  · rw [count_no hf] at h; omega
theorem count_next {d : Bd} {n : Int} (h : d.fine n) (h7 : n < 7) : d.count (n + 1) = 2 * d.count n := by
  obtain ⟨hv, h0, -, hu⟩ := h
  have hf2 : d.fine (n + 1) := ⟨hv, by omega, by omega, fun i hi h2 => by have := hu i hi h2; omega⟩
  rw [count_yes ⟨hv, h0, by omega, hu⟩, count_yes hf2]
  obtain ⟨m, rfl⟩ : ∃ m : Nat, n = m := ⟨n.toNat, by omega⟩
  have := cnt_double hv hu
  rw [show ((m : Int) + 1).toNat = m + 1 from by omega, Int.toNat_natCast, this]
  omega

end Go.Proofs.Ytddmgphlhfilnaa
