import Derived.Test.YtbcolcchchgldaaRA
namespace Go.Proofs.Ytbcolcchchgldaa
set_option linter.unusedVariables false
set_option linter.unusedSimpArgs false
open Go.RowKit

/-! Fewer gates after each step. -/

theorem markU_off {F : Int} {u : List Bool} {l : Int} {i : Nat} (h : u.getD i false = false) (hl : l / 2 ≠ F + i) (h0 : 0 ≤ l) : (markU F u l).getD i false = false := by
  unfold markU
  split
  · rename_i hF
    rw [List.getD_eq_getElem?_getD, List.getElem?_set_ne (by omega), ← List.getD_eq_getElem?_getD]
    exact h
  · exact h
theorem used_off {c : Cir} {i : Nat} (hg : ∀ g ∈ c.gates, (0 ≤ g.a ∧ g.a / 2 ≠ c.first + i) ∧ 0 ≤ g.b ∧ g.b / 2 ≠ c.first + i) (hr : ∀ l ∈ c.outs ++ c.next, 0 ≤ l ∧ l / 2 ≠ c.first + i) : (usedL c).getD i false = false := by
  have h0 : ∀ (rs : List Int), (∀ l ∈ rs, 0 ≤ l ∧ l / 2 ≠ c.first + i) → ∀ u : List Bool, u.getD i false = false → (rs.foldl (markU c.first) u).getD i false = false := by
    intro rs
    induction rs with
    | nil => intro _ u hu; exact hu
    | cons r rs ih =>
      intro hrs u hu
      exact ih (fun l hl => hrs l (by simp [hl])) _ (markU_off hu (hrs r (by simp)).2 (hrs r (by simp)).1)
  have h1 : ∀ (k : Nat) (u : List Bool), u.getD i false = false → (usedK c.first c.gates k u).getD i false = false := by
    intro k
    induction k with
    | zero => intro u hu; exact hu
    | succ k ih =>
      intro u hu
      refine ih _ ?_
      unfold usedS
      split
      · rename_i g hgk
        have := hg g (List.mem_of_getElem? hgk)
        split
        · exact markU_off (markU_off hu this.1.2 this.1.1) this.2.2 this.2.1
        · exact hu
      · exact hu
  unfold usedL
  refine h1 _ _ ?_
  unfold used0
  refine h0 _ hr _ ?_
  rw [List.getD_eq_getElem?_getD]
  cases h : (List.replicate c.gates.length false)[i]? with
  | none => rfl
  | some x => have := List.mem_of_getElem? h; rw [List.mem_replicate] at this; rw [this.2]; rfl
/-- How many gates of the first k are used. -/
def cntU (c : Cir) : Nat → Nat
  | 0 => 0
  | k + 1 => cntU c k + (if (usedL c).getD k false then 1 else 0)
theorem cntU_le (c : Cir) : ∀ k, cntU c k ≤ k
  | 0 => Nat.le_refl _
  | k + 1 => by have := cntU_le c k; unfold cntU; split <;> omega
theorem cntU_lt (c : Cir) {i : Nat} (h : (usedL c).getD i false = false) : ∀ k, i < k → cntU c k < k
  | 0, hk => by omega
  | k + 1, hk => by
    have := cntU_le c k
    unfold cntU
    by_cases e : i = k
    · subst e; rw [h]; simp; omega
    · have := cntU_lt c h k (by omega)
      split <;> omega
theorem andL_len (F : Int) (gs : List Gt) (a b : Int) : (andL F gs a b).1.length ≤ gs.length + 1 := by
  have hk : ∀ a b, (andK F gs a b).1.length ≤ gs.length + 1 := fun a b => by
    unfold andK
    split
    · simp
    · split
      · simp
      · split <;> simp
  unfold andL
  split <;> exact hk _ _
theorem bldP_cnt (c : Cir) (sh : Bool) : ∀ k, (bldP c sh k).1.length ≤ cntU c k
  | 0 => by simp [bldP]
  | k + 1 => by
    have ih := bldP_cnt c sh k
    cases h : c.gates[k]? with
    | none =>
      have e : bldP c sh (k + 1) = bldP c sh k := by
        show (match c.gates[k]? with | some g => _ | none => _) = _
        rw [h]
      rw [e]; unfold cntU; omega
    | some g =>
      rw [bldP_succ h]
      unfold bStep cntU
      split
      · split
        · have := andL_len c.first (bldP c sh k).1 (mapB (bldP c sh k).2 g.a) (mapB (bldP c sh k).2 g.b)
          show (andL _ _ _ _).1.length ≤ _
          omega
        · simp; omega
      · simpa using ih
theorem buildC_len (sh : Bool) (c : Cir) : (buildC sh c).gates.length ≤ cntU c c.gates.length := bldP_cnt c sh _
theorem optC_len (c : Cir) : (optC c).gates.length ≤ cntU c c.gates.length := by
  have h1 := buildC_len false (buildC true c)
  have h2 := cntU_le (buildC true c) (buildC true c).gates.length
  have h3 := buildC_len true c
  show (buildC false (buildC true c)).gates.length ≤ _
  omega
theorem optC_len_le (c : Cir) : (optC c).gates.length ≤ c.gates.length := Nat.le_trans (optC_len c) (cntU_le c _)

end Go.Proofs.Ytbcolcchchgldaa
