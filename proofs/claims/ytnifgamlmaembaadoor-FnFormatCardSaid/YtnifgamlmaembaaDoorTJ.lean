import Derived.Test.YtnifgamlmaembaaDoorTI
namespace Go.Proofs.YtnifgamlmaembaaDoor
set_option linter.unusedVariables false
set_option linter.unusedSimpArgs false
open Go.RowKit

/-! What parsing computes. -/

/-- The kind of a line's first word. -/
def kindT (x : Tx) : Int := if x = inputsW then 0 else if x = latchW then 1 else if x = gateW then 2 else if x = outW then 3 else -1
theorem kindT_cases (x : Tx) : kindT x = -1 ∨ kindT x = 0 ∨ kindT x = 1 ∨ kindT x = 2 ∨ kindT x = 3 := by
  unfold kindT
  repeat (first | (split; simp) | simp)
def kindL (l : Tx) : Int := kindT ((fieldsT l).headD [])
def argsW (l : Tx) : List Tx := (fieldsT l).tail
def argsL (l : Tx) : List Int := (argsW l).map numP
def wantK (k : Int) : Nat := if k = 2 then 2 else 1
/-- Line number i fits behind lines of which the last had kind part. -/
def lineOk (i : Nat) (part : Int) (l : Tx) : Prop := l.length ≤ 20 ∧ 0 ≤ kindL l ∧ numsB (argsW l) = true ∧ (argsW l).length = wantK (kindL l) ∧ (kindL l = 0 ↔ i = 0) ∧ part ≤ kindL l
def addP (k : Int) (ns : List Int) (c : Cir) : Cir :=
  if k = 0 then ⟨ns.getD 0 0, c.next, c.gates, c.outs⟩ else if k = 1 then ⟨c.inp, c.next ++ [ns.getD 0 0], c.gates, c.outs⟩ else if k = 2 then ⟨c.inp, c.next, c.gates ++ [⟨ns.getD 0 0, ns.getD 1 0⟩], c.outs⟩ else ⟨c.inp, c.next, c.gates, c.outs ++ [ns.getD 0 0]⟩
def c0 : Cir := ⟨0, [], [], []⟩
/-- After k lines, all of which fit: the last one's kind, the circuit. -/
inductive Pr (ls : List Tx) : Nat → Int → Cir → Prop where
  | nil : Pr ls 0 (-1) c0
  | step {k : Nat} {part : Int} {c : Cir} {l : Tx} (h : Pr ls k part c) (hl : ls[k]? = some l) (ho : lineOk k part l) : Pr ls (k + 1) (kindL l) (addP (kindL l) (argsL l) c)
theorem Pr.uniq {ls : List Tx} : ∀ {k : Nat} {p p' : Int} {c c' : Cir}, Pr ls k p c → Pr ls k p' c' → p = p' ∧ c = c' := by
  intro k
  induction k with
  | zero => intro p p' c c' h h'; cases h; cases h'; exact ⟨rfl, rfl⟩
  | succ k ih =>
    intro p p' c c' h h'
    cases h with
    | step h hl ho =>
      cases h' with
      | step h2 hl2 ho2 =>
        rw [hl] at hl2; cases hl2
        obtain ⟨rfl, rfl⟩ := ih h h2
        exact ⟨rfl, rfl⟩
theorem Pr.prev {ls : List Tx} {k : Nat} {p : Int} {c : Cir} (h : Pr ls k p c) : ∀ j, j < k → ∃ q d l, Pr ls j q d ∧ ls[j]? = some l ∧ lineOk j q l := by
  induction h with
  | nil => intro j hj; omega
  | step h hl ho ih =>
    rename_i k part c l
    intro j hj
    by_cases e : j = k
    · subst e; exact ⟨_, _, _, h, hl, ho⟩
    · exact ih j (by omega)
/-- What parsing the lines gives. -/
def PR (ls : List Tx) (D : Cir) (n : Int) : Prop :=
  (∃ k part c l, Pr ls k part c ∧ ls[k]? = some l ∧ ¬ lineOk k part l ∧ D = c0 ∧ n = (k : Int) + 1) ∨
  (∃ part c, Pr ls ls.length part c ∧ ((ls.length = 0 ∨ c.validB = false) ∧ D = c0 ∧ n = (ls.length : Int) + 1 ∨ 0 < ls.length ∧ c.validB = true ∧ D = c ∧ n = 0))
theorem PR.uniq {ls : List Tx} {D D' : Cir} {n n' : Int} (h : PR ls D n) (h' : PR ls D' n') : D = D' ∧ n = n' := by
  have bad : ∀ {k part c l m p' c'}, Pr ls k part c → ls[k]? = some l → ¬ lineOk k part l → Pr ls m p' c' → k < m → False := by
    intro k part c l m p' c' h1 h2 h3 h4 h5
    obtain ⟨q, d, l2, g1, g2, g3⟩ := h4.prev k h5
    obtain ⟨rfl, rfl⟩ := h1.uniq g1
    rw [h2] at g2; cases g2
    exact h3 g3
  rcases h with ⟨k, part, c, l, h1, h2, h3, rfl, rfl⟩ | ⟨part, c, h1, h2⟩
  · have hk := (List.getElem?_eq_some_iff.1 h2).1
    rcases h' with ⟨k', part', c', l', g1, g2, g3, rfl, rfl⟩ | ⟨part', c', g1, g2⟩
    · rcases Nat.lt_trichotomy k k' with e | e | e
      · exact (bad h1 h2 h3 g1 e).elim
      · subst e; exact ⟨rfl, rfl⟩
      · exact (bad g1 g2 g3 h1 e).elim
    · exact (bad h1 h2 h3 g1 hk).elim
  · rcases h' with ⟨k', part', c', l', g1, g2, g3, rfl, rfl⟩ | ⟨part', c', g1, g2⟩
    · exact (bad g1 g2 g3 h1 (List.getElem?_eq_some_iff.1 g2).1).elim
    · obtain ⟨rfl, rfl⟩ := h1.uniq g1
      rcases h2 with ⟨a, rfl, rfl⟩ | ⟨a, b, rfl, rfl⟩ <;> rcases g2 with ⟨a', rfl, rfl⟩ | ⟨a', b', rfl, rfl⟩
      · exact ⟨rfl, rfl⟩
      · rcases a with a | a
        · omega
        · rw [b'] at a; cases a
      · rcases a' with a' | a'
        · omega
        · rw [b] at a'; cases a'
      · exact ⟨rfl, rfl⟩
/-- Sizes. -/
theorem Pr.len {ls : List Tx} {k : Nat} {p : Int} {c : Cir} (h : Pr ls k p c) : c.next.length + c.gates.length + c.outs.length ≤ k ∧ 0 ≤ c.inp ∧ c.inp ≤ 99 ∧ -1 ≤ p ∧ p ≤ 3 ∧ (p = -1 ↔ k = 0) := by
  induction h with
  | nil => simp [c0]
  | step h hl ho ih =>
    rename_i k part c l
    obtain ⟨a, b, b2, d, e, f⟩ := ih
    have hk := kindT_cases ((fieldsT l).headD [])
    have hn : ∀ j, 0 ≤ (argsL l).getD j 0 ∧ (argsL l).getD j 0 ≤ 99 := fun j => by
      unfold argsL
      by_cases hj : j < (argsW l).length
      · rw [List.getD_eq_getElem?_getD, List.getElem?_map, List.getElem?_eq_getElem hj]
        have h1 := ho.2.2.1
        unfold numsB at h1
        rw [List.all_eq_true] at h1
        have h2 := of_decide_eq_true (h1 _ (List.getElem_mem hj))
        obtain ⟨n, hn1, hn2, -⟩ := numP_inv h2
        simp only [Option.map_some, Option.getD_some]
        omega
      · rw [List.getD_eq_getElem?_getD, List.getElem?_eq_none (by simpa using hj)]; simp
    have h0 := hn 0
    have ho2 := ho.2.1
    unfold kindL at ho2 ⊢
    refine ⟨?_, ?_, ?_, by omega, by omega, by omega⟩
    · unfold addP; split <;> (try split) <;> (try split) <;> simp <;> omega
    · unfold addP
      generalize (argsL l).getD 0 0 = x at h0 ⊢
      split <;> (try split) <;> (try split) <;> first | exact b | exact h0.1
    · unfold addP
      generalize (argsL l).getD 0 0 = x at h0 ⊢
      split <;> (try split) <;> (try split) <;> first | exact b2 | exact h0.2

end Go.Proofs.YtnifgamlmaembaaDoor
