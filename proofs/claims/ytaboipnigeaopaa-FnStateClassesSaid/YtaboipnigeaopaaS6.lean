import Derived.Test.YtaboipnigeaopaaW5
namespace Go.Proofs.Ytaboipnigeaopaa
set_option linter.unusedVariables false
set_option linter.unusedSimpArgs false
open Go.RowKit

/-! The reachable states are closed under steps. -/

theorem addR_mem (xs : List Int) (n : Int) : n ∈ addR xs n := by
  by_cases h : n ∈ xs
  · rw [addR_in h]; exact h
  · rw [addR_out h]; simp
theorem addR_sub {xs : List Int} {n x : Int} (h : x ∈ xs) : x ∈ addR xs n := by
  by_cases h2 : n ∈ xs
  · rw [addR_in h2]; exact h
  · rw [addR_out h2]; simp [h]
theorem innR_sub {c : Cir} {s x : Int} {xs : List Int} (h : x ∈ xs) : ∀ m, x ∈ innR c s xs m
  | 0 => h
  | m + 1 => addR_sub (innR_sub h m)
theorem innR_mem {c : Cir} {s : Int} {xs : List Int} : ∀ m i : Nat, i < m → nextN c s i ∈ innR c s xs m
  | 0, i, h => by omega
  | m + 1, i, h => by
    by_cases e : i = m
    · subst e; exact addR_mem _ _
    · exact addR_sub (innR_mem m i (by omega))
theorem innR_len {c : Cir} {s : Int} {xs : List Int} : ∀ m, xs.length ≤ (innR c s xs m).length
  | 0 => Nat.le_refl _
  | m + 1 => by
    have := innR_len (c := c) (s := s) (xs := xs) m
    show _ ≤ (addR _ _).length
    by_cases h : nextN c s m ∈ innR c s xs m
    · rw [addR_in h]; exact this
    · rw [addR_out h]; simp; omega
theorem innR_new {c : Cir} {s : Int} {xs : List Int} : ∀ (M m : Nat) (x : Int), (innR c s xs M)[m]? = some x → xs[m]? = some x ∨ xs.length ≤ m ∧ ∃ i : Nat, i < M ∧ nextN c s i = x
  | 0, m, x, h => .inl h
  | M + 1, m, x, h => by
    have hl := innR_len (c := c) (s := s) (xs := xs) M
    have h' : (addR (innR c s xs M) (nextN c s M))[m]? = some x := h
    have lift : (xs[m]? = some x ∨ xs.length ≤ m ∧ ∃ i : Nat, i < M ∧ nextN c s i = x) → (xs[m]? = some x ∨ xs.length ≤ m ∧ ∃ i : Nat, i < M + 1 ∧ nextN c s i = x) := fun h => by
      rcases h with h | ⟨h1, i, h2, h3⟩
      · exact .inl h
      · exact .inr ⟨h1, i, by omega, h3⟩
    by_cases hin : nextN c s M ∈ innR c s xs M
    · rw [addR_in hin] at h'
      exact lift (innR_new M m x h')
    · rw [addR_out hin] at h'
      by_cases hm : m < (innR c s xs M).length
      · rw [List.getElem?_append_left hm] at h'
        exact lift (innR_new M m x h')
      · have hm2 := (List.getElem?_eq_some_iff.1 h').1
        simp at hm2
        have : m = (innR c s xs M).length := by omega
        subst this
        simp at h'
        exact .inr ⟨by omega, M, by omega, h'⟩

structure ReachP (c : Cir) (M : Nat) (L : List Int) : Prop where
  succ : ∀ (j : Nat) (s : Int), L[j]? = some s → ∀ i : Nat, i < M → nextN c s i ∈ L
  pred : ∀ (m : Nat) (x : Int), L[m]? = some x → 0 < m → ∃ (j : Nat) (s : Int), j < m ∧ L[j]? = some s ∧ ∃ i : Nat, i < M ∧ nextN c s i = x
  zero : L[0]? = some 0

theorem outR_spec {c : Cir} {M : Nat} : ∀ (f k : Nat) (xs : List Int), goodR (2 ^ c.next.length) xs → 2 ^ c.next.length ≤ f + k →
    (∀ (j : Nat) (s : Int), xs[j]? = some s → j < k → ∀ i : Nat, i < M → nextN c s i ∈ xs) →
    (∀ (m : Nat) (x : Int), xs[m]? = some x → 0 < m → ∃ (j : Nat) (s : Int), j < m ∧ xs[j]? = some s ∧ ∃ i : Nat, i < M ∧ nextN c s i = x) → xs[0]? = some 0 → ReachP c M (outR c M f k xs) := by
  intro f
  induction f with
  | zero =>
    intro k xs hg hN hC hD hz
    have hl := goodR_len hg
    have hl2 : xs.length ≤ k := Nat.le_trans hl (by rw [Nat.zero_add] at hN; exact hN)
    exact ⟨fun j s hj i hi => hC j s hj (by have hj' : xs[j]? = some s := hj; have := (List.getElem?_eq_some_iff.1 hj').1; omega) i hi, hD, hz⟩
  | succ f ih =>
    intro k xs hg hN hC hD hz
    by_cases hk : k < xs.length
    · obtain ⟨s, hs⟩ := get_of_lt hk
      rw [outR_step hs]
      refine ih (k + 1) _ (goodR_inn hg M) (by omega) (fun j t hj hjk i hi => ?_) (fun m x hm h0 => ?_) (innR_get hz M)
      · rcases Nat.lt_or_ge j k with h | h
        · have hjx : xs[j]? = some t := by
            obtain ⟨u, hu⟩ := get_of_lt (l := xs) (k := j) (by omega)
            have := innR_get (c := c) (s := s) hu M
            rw [hj] at this; rw [hu, this]
          exact innR_sub (hC j t hjx h i hi) M
        · obtain rfl : j = k := by omega
          have := innR_get (c := c) (s := s) hs M
          rw [hj] at this
          simp only [Option.some.injEq] at this
          subst this
          exact innR_mem M i hi
      · rcases innR_new M m x hm with h | ⟨h1, i, h2, h3⟩
        · obtain ⟨j, t, a, b, d⟩ := hD m x h h0
          exact ⟨j, t, a, innR_get b M, d⟩
        · exact ⟨k, s, by omega, innR_get hs M, i, h2, h3⟩
    · rw [outR_end hk]
      exact ⟨fun j s hj i hi => hC j s hj (by have := (List.getElem?_eq_some_iff.1 hj).1; omega) i hi, hD, hz⟩
theorem reach_spec {c : Cir} (hv : c.validB = true) {ni : Nat} (hi : c.inp = ni) : ReachP c (2 ^ ni) (reachR c) ∧ goodR (2 ^ c.next.length) (reachR c) := by
  rw [reachR_yes hv hi]
  have hg := goodR_zero (2 ^ c.next.length) (Nat.pow_pos (by omega))
  refine ⟨outR_spec _ 0 [0] hg (by omega) (fun j s _ h => by omega) (fun m x hm h0 => ?_) rfl, goodR_out hg⟩
  have := (List.getElem?_eq_some_iff.1 hm).1
  simp at this; omega
theorem good_take {N : Nat} {L : List Int} (h : goodR N L) {k : Nat} {x : Int} (hx : L[k]? = some x) : ¬ x ∈ L.take k := by
  intro hm
  obtain ⟨j, hj, he⟩ := List.mem_iff_getElem.1 hm
  have hk := (List.getElem?_eq_some_iff.1 hx)
  obtain ⟨hk1, hk2⟩ := hk
  have hj2 : j < k := by simp at hj; omega
  have e1 : L[j]'(by omega) = L[k] := by
    rw [hk2, ← he]; simp
  have := (List.getElem_inj h.1).1 e1
  omega

end Go.Proofs.Ytaboipnigeaopaa
