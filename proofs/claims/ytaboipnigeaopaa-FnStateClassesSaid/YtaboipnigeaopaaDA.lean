import Derived.Test.YtaboipnigeaopaaW5
namespace Go.Proofs.Ytaboipnigeaopaa
set_option linter.unusedVariables false
set_option linter.unusedSimpArgs false
open Go.RowKit

/-! The breadth-first search over pairs of states: plain laws. -/

/-- A pair of states and the inputs that lead to it. -/
abbrev En := (Int × Int) × List Int
def hitD (a b : Cir) (s : Int × Int) (x : Int) : Bool := !decide (outN a s.1 x = outN b s.2 x)
def stpD (a b : Cir) (s : Int × Int) (x : Int) : Int × Int := (nextN a s.1 x, nextN b s.2 x)
def addD (es : List En) (n : Int × Int) (p : List Int) : List En := if n ∈ es.map (·.1) then es else es ++ [(n, p)]
theorem addD_in {es : List En} {n : Int × Int} {p : List Int} (h : n ∈ es.map (·.1)) : addD es n p = es := by unfold addD; rw [if_pos h]
theorem addD_out {es : List En} {n : Int × Int} {p : List Int} (h : ¬ n ∈ es.map (·.1)) : addD es n p = es ++ [(n, p)] := by unfold addD; rw [if_neg h]
def innD (a b : Cir) (e : En) (es : List En) : Nat → List En
  | 0 => es
  | m + 1 => addD (innD a b e es m) (stpD a b e.1 (m : Int)) (e.2 ++ [(m : Int)])
theorem innD_succ (a b : Cir) (e : En) (es : List En) (m : Nat) : innD a b e es (m + 1) = addD (innD a b e es m) (stpD a b e.1 (m : Int)) (e.2 ++ [(m : Int)]) := rfl
def outD (a b : Cir) (M : Nat) : Nat → Nat → List En → Option (List Int)
  | 0, _, _ => none
  | f + 1, k, es => match es[k]? with
    | none => none
    | some e => match (List.range M).find? (fun (x : Nat) => hitD a b e.1 (x : Int)) with
      | some x => some (e.2 ++ [(x : Int)])
      | none => outD a b M f (k + 1) (innD a b e es M)
theorem outD_end {a b : Cir} {M f k : Nat} {es : List En} (h : ¬ k < es.length) : outD a b M f k es = none := by
  cases f with
  | zero => rfl
  | succ f => unfold outD; rw [List.getElem?_eq_none (by omega)]
theorem outD_hit {a b : Cir} {M f k x : Nat} {es : List En} {e : En} (h : es[k]? = some e) (hx : x < M) (hh : hitD a b e.1 (x : Int) = true) (hn : ∀ y : Nat, y < x → hitD a b e.1 (y : Int) = false) :
    outD a b M (f + 1) k es = some (e.2 ++ [(x : Int)]) := by
  have e1 : (List.range M).find? (fun (x : Nat) => hitD a b e.1 (x : Int)) = some x := by
    rw [List.find?_range_eq_some]
    refine ⟨hh, List.mem_range.2 hx, fun j hj => by simp [hn j hj]⟩
  unfold outD; rw [h]; simp only []; rw [e1]
theorem outD_step {a b : Cir} {M f k : Nat} {es : List En} {e : En} (h : es[k]? = some e) (hn : ∀ y : Nat, y < M → hitD a b e.1 (y : Int) = false) :
    outD a b M (f + 1) k es = outD a b M f (k + 1) (innD a b e es M) := by
  have e1 : (List.range M).find? (fun (x : Nat) => hitD a b e.1 (x : Int)) = none := by
    rw [List.find?_eq_none]
    intro y hy
    simp [hn y (List.mem_range.1 hy)]
  conv => lhs; unfold outD
  rw [h]; simp only []; rw [e1]

/-- Two circuits that may be compared. -/
def cmpB (a b : Cir) : Bool := a.validB && (b.validB && (decide (a.inp = b.inp) && decide (a.outs.length = b.outs.length)))
theorem cmpB_iff {a b : Cir} : cmpB a b = true ↔ a.validB = true ∧ b.validB = true ∧ a.inp = b.inp ∧ a.outs.length = b.outs.length := by
  simp [cmpB]
def disD (a b : Cir) : Option (List Int) := outD a b (2 ^ a.inp.toNat) (2 ^ a.next.length * 2 ^ b.next.length) 0 [((0, 0), [])]
def disR (a b : Cir) : Option (List Int) := if cmpB a b then disD a b else none
theorem disR_no {a b : Cir} (h : cmpB a b = false) : disR a b = none := by unfold disR; rw [h]; rfl
theorem disR_yes {a b : Cir} (h : cmpB a b = true) : disR a b = disD a b := by unfold disR; rw [h]; rfl
def seqB (a b : Cir) : Bool := cmpB a b && (disR a b).isNone

/-- The pairs are different and within the numbers of states. -/
structure goodD (NA NB : Nat) (es : List En) : Prop where
  nd : (es.map (·.1)).Nodup
  bd : ∀ e ∈ es, (0 ≤ e.1.1 ∧ e.1.1 < NA) ∧ 0 ≤ e.1.2 ∧ e.1.2 < NB
theorem nodup_le : ∀ {xs ys : List Nat}, xs.Nodup → (∀ n ∈ xs, n ∈ ys) → xs.length ≤ ys.length
  | [], _, _, _ => Nat.zero_le _
  | x :: xs, ys, hn, hs => by
    obtain ⟨h1, h2⟩ := List.nodup_cons.1 hn
    have hx := hs x List.mem_cons_self
    have h3 : ∀ n ∈ xs, n ∈ ys.erase x := fun n hn' => by
      refine (List.mem_erase_of_ne ?_).2 (hs n (List.mem_cons_of_mem _ hn'))
      intro e; exact h1 (e ▸ hn')
    have h4 := nodup_le h2 h3
    rw [List.length_erase_of_mem hx] at h4
    have h5 := List.length_pos_of_mem hx
    simp only [List.length_cons]
    omega
theorem goodD_nd_len : ∀ {NA NB : Nat} {ps : List (Int × Int)}, ps.Nodup → (∀ s ∈ ps, (0 ≤ s.1 ∧ s.1 < NA) ∧ 0 ≤ s.2 ∧ s.2 < NB) → ps.length ≤ NA * NB := by
  intro NA NB ps hn hb
  have hnd : (ps.map fun (s : Int × Int) => s.1.toNat * NB + s.2.toNat).Nodup := by
    rw [List.Nodup, List.pairwise_map]
    refine List.Pairwise.imp_of_mem ?_ hn
    rintro ⟨p, q⟩ ⟨p', q'⟩ h1 h2 hne he
    obtain ⟨⟨a1, a2⟩, a3, a4⟩ := hb _ h1
    obtain ⟨⟨b1, b2⟩, b3, b4⟩ := hb _ h2
    simp only at a1 a2 a3 a4 b1 b2 b3 b4 he
    apply hne
    have q1 : q.toNat < NB := by omega
    have q2 : q'.toNat < NB := by omega
    have e1 : (p.toNat * NB + q.toNat) % NB = q.toNat := by rw [Nat.mul_comm, Nat.mul_add_mod, Nat.mod_eq_of_lt q1]
    have e2 : (p'.toNat * NB + q'.toNat) % NB = q'.toNat := by rw [Nat.mul_comm, Nat.mul_add_mod, Nat.mod_eq_of_lt q2]
    have e3 : q.toNat = q'.toNat := by rw [← e1, ← e2, he]
    have e4 : p.toNat * NB = p'.toNat * NB := by omega
    have e5 : p.toNat = p'.toNat := Nat.eq_of_mul_eq_mul_right (by omega) e4
    have : p = p' := by omega
    have : q = q' := by omega
    simp_all
  have hsub : ∀ n ∈ ps.map fun (s : Int × Int) => s.1.toNat * NB + s.2.toNat, n ∈ List.range (NA * NB) := by
    intro n hn
    obtain ⟨⟨p, q⟩, h1, rfl⟩ := List.mem_map.1 hn
    obtain ⟨⟨a1, a2⟩, a3, a4⟩ := hb _ h1
    simp only at a1 a2 a3 a4
    rw [List.mem_range]
    have h1 : p.toNat + 1 ≤ NA := by omega
    have h2 := Nat.mul_le_mul_right NB h1
    rw [Nat.add_mul] at h2
    simp only
    omega
  have h9 := nodup_le hnd hsub
  simpa using h9
theorem goodD_len {NA NB : Nat} {es : List En} (h : goodD NA NB es) : es.length ≤ NA * NB := by
  have := goodD_nd_len h.nd (fun s hs => by obtain ⟨e, he, rfl⟩ := List.mem_map.1 hs; exact h.bd e he)
  simpa using this
theorem goodD_add {NA NB : Nat} {es : List En} {n : Int × Int} {p : List Int} (h : goodD NA NB es) (hn : (0 ≤ n.1 ∧ n.1 < NA) ∧ 0 ≤ n.2 ∧ n.2 < NB) : goodD NA NB (addD es n p) := by
  by_cases hm : n ∈ es.map (·.1)
  · rw [addD_in hm]; exact h
  · rw [addD_out hm]
    refine ⟨?_, ?_⟩
    · rw [List.map_append]
      refine List.nodup_append.2 ⟨h.nd, by simp, ?_⟩
      intro u hu v hv e
      simp at hv
      subst hv; subst e
      exact hm hu
    · intro e he
      rcases List.mem_append.1 he with he | he
      · exact h.bd e he
      · simp at he; subst he; exact hn
theorem stpD_bd (a b : Cir) (s : Int × Int) (x : Int) : (0 ≤ (stpD a b s x).1 ∧ (stpD a b s x).1 < ((2 ^ a.next.length : Nat) : Int)) ∧ 0 ≤ (stpD a b s x).2 ∧ (stpD a b s x).2 < ((2 ^ b.next.length : Nat) : Int) :=
  ⟨nextN_lt a s.1 x, nextN_lt b s.2 x⟩
theorem goodD_inn {a b : Cir} {e : En} {es : List En} (h : goodD (2 ^ a.next.length) (2 ^ b.next.length) es) : ∀ m, goodD (2 ^ a.next.length) (2 ^ b.next.length) (innD a b e es m)
  | 0 => h
  | m + 1 => goodD_add (goodD_inn h m) (stpD_bd a b e.1 m)
theorem goodD_start (a b : Cir) : goodD (2 ^ a.next.length) (2 ^ b.next.length) [((0, 0), [])] :=
  ⟨by simp, fun e he => by
    simp at he; subst he
    have h1 : 0 < 2 ^ a.next.length := Nat.pow_pos (by omega)
    have h2 : 0 < 2 ^ b.next.length := Nat.pow_pos (by omega)
    simp only
    omega⟩
theorem addD_get {es : List En} {n : Int × Int} {p : List Int} {k : Nat} {e : En} (h : es[k]? = some e) : (addD es n p)[k]? = some e := by
  unfold addD; split
  · exact h
  · rw [List.getElem?_append_left (List.getElem?_eq_some_iff.1 h).1]; exact h
theorem innD_get {a b : Cir} {e x : En} {es : List En} {k : Nat} (h : es[k]? = some x) : ∀ m, (innD a b e es m)[k]? = some x
  | 0 => h
  | m + 1 => addD_get (innD_get h m)
theorem addD_sub {es : List En} {n : Int × Int} {p : List Int} {s : Int × Int} (h : s ∈ es.map (·.1)) : s ∈ (addD es n p).map (·.1) := by
  unfold addD; split
  · exact h
  · rw [List.map_append]; exact List.mem_append_left _ h
theorem addD_mem (es : List En) (n : Int × Int) (p : List Int) : n ∈ (addD es n p).map (·.1) := by
  unfold addD; split
  · assumption
  · simp
theorem innD_sub {a b : Cir} {e : En} {es : List En} {s : Int × Int} (h : s ∈ es.map (·.1)) : ∀ m, s ∈ (innD a b e es m).map (·.1)
  | 0 => h
  | m + 1 => addD_sub (innD_sub h m)
theorem innD_mem {a b : Cir} {e : En} {es : List En} : ∀ m i : Nat, i < m → stpD a b e.1 (i : Int) ∈ (innD a b e es m).map (·.1)
  | 0, _, h => by omega
  | m + 1, i, h => by
    by_cases hi : i = m
    · subst hi; exact addD_mem _ _ _
    · exact addD_sub (innD_mem m i (by omega))
theorem addD_all {es : List En} {n : Int × Int} {p : List Int} {P : En → Prop} (h : ∀ e ∈ es, P e) (hn : P (n, p)) : ∀ e ∈ addD es n p, P e := by
  unfold addD; split
  · exact h
  · intro e he
    rcases List.mem_append.1 he with he | he
    · exact h e he
    · simp at he; subst he; exact hn
theorem innD_all {a b : Cir} {e : En} {es : List En} {P : En → Prop} (h : ∀ e ∈ es, P e) : ∀ m, (∀ x : Nat, x < m → P (stpD a b e.1 (x : Int), e.2 ++ [(x : Int)])) → ∀ y ∈ innD a b e es m, P y
  | 0, _ => h
  | m + 1, hn => addD_all (innD_all h m fun x hx => hn x (by omega)) (hn m (by omega))

/-- No difference: a set of pairs that is closed under steps and in which the outputs agree. -/
structure BisD (a b : Cir) (M : Nat) (P : Int × Int → Prop) : Prop where
  start : P (0, 0)
  agree : ∀ s, P s → ∀ x : Nat, x < M → hitD a b s (x : Int) = false
  step : ∀ s, P s → ∀ x : Nat, x < M → P (stpD a b s (x : Int))
theorem outD_bis {a b : Cir} {M : Nat} {P : Int × Int → Prop} (h : BisD a b M P) : ∀ (f k : Nat) (es : List En), (∀ e ∈ es, P e.1) → outD a b M f k es = none
  | 0, _, _, _ => rfl
  | f + 1, k, es, he => by
    by_cases hk : k < es.length
    · obtain ⟨e, hke⟩ : ∃ e, es[k]? = some e := ⟨es[k], by simp [hk]⟩
      have hP := he e (List.mem_of_getElem? hke)
      rw [outD_step hke (h.agree _ hP)]
      exact outD_bis h f (k + 1) _ (innD_all (P := fun e => P e.1) he M (fun x hx => h.step _ hP x hx))
    · exact outD_end hk
theorem outD_closed {a b : Cir} {M : Nat} : ∀ (f k : Nat) (es : List En), goodD (2 ^ a.next.length) (2 ^ b.next.length) es → 2 ^ a.next.length * 2 ^ b.next.length ≤ f + k → k ≤ es.length →
    (∀ (j : Nat) (e : En), j < k → es[j]? = some e → ∀ x : Nat, x < M → hitD a b e.1 (x : Int) = false ∧ stpD a b e.1 (x : Int) ∈ es.map (·.1)) → (0, 0) ∈ es.map (·.1) →
    outD a b M f k es = none → ∃ L : List (Int × Int), (0, 0) ∈ L ∧ (∀ s ∈ L, (0 ≤ s.1 ∧ s.1 < ((2 ^ a.next.length : Nat) : Int)) ∧ 0 ≤ s.2 ∧ s.2 < ((2 ^ b.next.length : Nat) : Int)) ∧ ∀ s ∈ L, ∀ x : Nat, x < M → hitD a b s (x : Int) = false ∧ stpD a b s (x : Int) ∈ L
  | f, k, es, hg, hf, hk, hcl, h0, hno => by
    have hlen := goodD_len hg
    by_cases hlt : k < es.length
    · obtain ⟨f, rfl⟩ : ∃ g, f = g + 1 := ⟨f - 1, by omega⟩
      obtain ⟨e, hke⟩ : ∃ e, es[k]? = some e := ⟨es[k], by simp [hlt]⟩
      by_cases hh : ∃ x : Nat, x < M ∧ hitD a b e.1 (x : Int) = true
      · exfalso
        obtain ⟨x, hx, hx2⟩ := hh
        unfold outD at hno
        rw [hke] at hno
        simp only at hno
        split at hno
        · cases hno
        · next hq =>
          rw [List.find?_eq_none] at hq
          exact hq x (List.mem_range.2 hx) hx2
      · have hn : ∀ y : Nat, y < M → hitD a b e.1 (y : Int) = false := fun y hy => by
          cases hq : hitD a b e.1 (y : Int)
          · rfl
          · exact absurd ⟨y, hy, hq⟩ hh
        rw [outD_step hke hn] at hno
        refine outD_closed f (k + 1) (innD a b e es M) (goodD_inn hg M) (by omega) ?_ ?_ (innD_sub h0 M) hno
        · have := (List.getElem?_eq_some_iff.1 (innD_get (a := a) (b := b) (e := e) hke M)).1
          omega
        · intro j e' hj hje x hx
          by_cases hjk : j = k
          · subst hjk
            rw [innD_get hke M] at hje
            cases hje
            exact ⟨hn x hx, innD_mem M x hx⟩
          · obtain ⟨e2, he2⟩ : ∃ x : En, es[j]? = some x := ⟨es[j]'(by omega), by simp⟩
            rw [innD_get he2 M] at hje
            cases hje
            obtain ⟨h1, h2⟩ := hcl j _ (by omega) he2 x hx
            exact ⟨h1, innD_sub h2 M⟩
    · refine ⟨es.map (·.1), h0, fun s hs => ?_, fun s hs x hx => ?_⟩
      · obtain ⟨e, he, rfl⟩ := List.mem_map.1 hs
        exact hg.bd e he
      · obtain ⟨e, he, rfl⟩ := List.mem_map.1 hs
        obtain ⟨j, hj⟩ := List.mem_iff_getElem?.1 he
        have hj2 := (List.getElem?_eq_some_iff.1 hj).1
        exact hcl j e (by omega) hj x hx
theorem disD_closed {a b : Cir} (h : disD a b = none) : ∃ L : List (Int × Int), (0, 0) ∈ L ∧ (∀ s ∈ L, (0 ≤ s.1 ∧ s.1 < ((2 ^ a.next.length : Nat) : Int)) ∧ 0 ≤ s.2 ∧ s.2 < ((2 ^ b.next.length : Nat) : Int)) ∧ ∀ s ∈ L, ∀ x : Nat, x < 2 ^ a.inp.toNat → hitD a b s (x : Int) = false ∧ stpD a b s (x : Int) ∈ L :=
  outD_closed _ 0 _ (goodD_start a b) (Nat.le_refl _) (Nat.zero_le _) (fun j e hj => by omega) (by simp) h
theorem seqB_bis {a b : Cir} (hc : cmpB a b = true) {P : Int × Int → Prop} (h : BisD a b (2 ^ a.inp.toNat) P) : seqB a b = true := by
  unfold seqB
  rw [hc, disR_yes hc]
  unfold disD
  rw [outD_bis h _ _ _ (fun e he => by simp at he; subst he; exact h.start)]
  rfl
theorem seqB_rel {a b : Cir} (h : seqB a b = true) : cmpB a b = true ∧ ∃ P : Int × Int → Prop, BisD a b (2 ^ a.inp.toNat) P ∧ ∀ s, P s → (0 ≤ s.1 ∧ s.1 < ((2 ^ a.next.length : Nat) : Int)) ∧ 0 ≤ s.2 ∧ s.2 < ((2 ^ b.next.length : Nat) : Int) := by
  unfold seqB at h
  simp at h
  obtain ⟨h1, h2⟩ := h
  rw [disR_yes h1] at h2
  obtain ⟨L, l0, l1, l2⟩ := disD_closed h2
  exact ⟨h1, (· ∈ L), ⟨l0, fun s hs x hx => (l2 s hs x hx).1, fun s hs x hx => (l2 s hs x hx).2⟩, l1⟩
theorem cmpB_sym (a b : Cir) : cmpB a b = cmpB b a := by
  rw [Bool.eq_iff_iff, cmpB_iff, cmpB_iff]
  exact ⟨fun ⟨h1, h2, h3, h4⟩ => ⟨h2, h1, h3.symm, h4.symm⟩, fun ⟨h1, h2, h3, h4⟩ => ⟨h2, h1, h3.symm, h4.symm⟩⟩
theorem hitD_sym (a b : Cir) (p q x : Int) : hitD b a (q, p) x = hitD a b (p, q) x := by
  unfold hitD; simp [eq_comm]
theorem seqB_sym1 {a b : Cir} (h : seqB a b = true) : seqB b a = true := by
  obtain ⟨hc, P, hP, -⟩ := seqB_rel h
  have hi := (cmpB_iff.1 hc).2.2.1
  refine seqB_bis (by rw [cmpB_sym]; exact hc) (P := fun s => P (s.2, s.1)) ?_
  rw [← hi]
  exact ⟨hP.start, fun ⟨p, q⟩ hs x hx => by rw [hitD_sym]; exact hP.agree (q, p) hs x hx, fun ⟨p, q⟩ hs x hx => hP.step (q, p) hs x hx⟩
theorem seqB_sym (a b : Cir) : seqB a b = seqB b a := by
  rw [Bool.eq_iff_iff]; exact ⟨seqB_sym1, seqB_sym1⟩

/-- The pair of states after some inputs. -/
def runD (a b : Cir) (s : Int × Int) (xs : List Int) : Int × Int := xs.foldl (stpD a b) s
theorem runD_snoc (a b : Cir) (s : Int × Int) (xs : List Int) (x : Int) : runD a b s (xs ++ [x]) = stpD a b (runD a b s xs) x := by simp [runD]
/-- Inputs for which the outputs agree at every step. -/
def cleanD (a b : Cir) (M : Nat) (xs : List Int) : Prop := (∀ x ∈ xs, 0 ≤ x ∧ x < M) ∧ ∀ (i : Nat) (x : Int), xs[i]? = some x → hitD a b (runD a b (0, 0) (xs.take i)) x = false
theorem cleanD_snoc {a b : Cir} {M : Nat} {xs : List Int} {x : Int} (h : cleanD a b M xs) (hx : 0 ≤ x ∧ x < M) (hn : hitD a b (runD a b (0, 0) xs) x = false) : cleanD a b M (xs ++ [x]) := by
  refine ⟨fun y hy => ?_, fun i y hy => ?_⟩
  · rcases List.mem_append.1 hy with hy | hy
    · exact h.1 y hy
    · simp at hy; subst hy; exact hx
  · by_cases hi : i < xs.length
    · rw [List.getElem?_append_left hi] at hy
      rw [List.take_append_of_le_length (by omega)]
      exact h.2 i y hy
    · have hi2 := (List.getElem?_eq_some_iff.1 hy).1
      simp at hi2
      obtain rfl : i = xs.length := by omega
      rw [List.take_append_of_le_length (Nat.le_refl _), List.take_length]
      simp at hy
      subst hy
      exact hn
def WayD (a b : Cir) (M : Nat) (e : En) : Prop := runD a b (0, 0) e.2 = e.1 ∧ cleanD a b M e.2
theorem outD_found {a b : Cir} {M : Nat} : ∀ (f k : Nat) (es : List En) (r : List Int), (∀ e ∈ es, WayD a b M e) → outD a b M f k es = some r →
    ∃ (xs : List Int) (x : Int), r = xs ++ [x] ∧ cleanD a b M xs ∧ (0 ≤ x ∧ x < M) ∧ hitD a b (runD a b (0, 0) xs) x = true
  | 0, _, _, _, _, h => by cases h
  | f + 1, k, es, r, he, h => by
    by_cases hk : k < es.length
    · obtain ⟨e, hke⟩ : ∃ e, es[k]? = some e := ⟨es[k], by simp [hk]⟩
      obtain ⟨hw1, hw2⟩ := he e (List.mem_of_getElem? hke)
      cases hq : (List.range M).find? (fun (x : Nat) => hitD a b e.1 (x : Int)) with
      | some x =>
        have h' := h
        unfold outD at h'
        rw [hke] at h'
        simp only at h'
        rw [hq] at h'
        simp at h'
        have hx := List.mem_range.1 (List.mem_of_find?_eq_some hq)
        have hx2 := List.find?_some hq
        exact ⟨e.2, x, h'.symm, hw2, ⟨by omega, by omega⟩, by rw [hw1]; exact hx2⟩
      | none =>
        have hn : ∀ y : Nat, y < M → hitD a b e.1 (y : Int) = false := fun y hy => by
          have := List.find?_eq_none.1 hq y (List.mem_range.2 hy)
          simpa using this
        rw [outD_step hke hn] at h
        refine outD_found f (k + 1) _ r (innD_all he M fun x hx => ⟨?_, ?_⟩) h
        · rw [runD_snoc, hw1]
        · exact cleanD_snoc hw2 ⟨by omega, by omega⟩ (by rw [hw1]; exact hn x hx)
    · rw [outD_end hk] at h; cases h
theorem disD_found {a b : Cir} {r : List Int} (h : disD a b = some r) : ∃ (xs : List Int) (x : Int), r = xs ++ [x] ∧ cleanD a b (2 ^ a.inp.toNat) xs ∧ (0 ≤ x ∧ x < ((2 ^ a.inp.toNat : Nat) : Int)) ∧ hitD a b (runD a b (0, 0) xs) x = true :=
  outD_found _ _ _ _ (fun e he => by
    simp at he; subst he
    exact ⟨rfl, fun x hx => by simp at hx, fun i x hx => by simp at hx⟩) h

/-! Filters. -/

theorem filter_mono_len {p q : Nat → Bool} : ∀ (xs : List Nat), (∀ x ∈ xs, p x = true → q x = true) → (xs.filter p).length ≤ (xs.filter q).length
  | [], _ => Nat.le_refl _
  | x :: xs, h => by
    have ih := filter_mono_len xs fun y hy => h y (List.mem_cons_of_mem _ hy)
    have hx := h x List.mem_cons_self
    rw [List.filter_cons, List.filter_cons]
    by_cases hp : p x = true
    · rw [if_pos hp, if_pos (hx hp)]; simpa using ih
    · rw [if_neg hp]
      split
      · simp; omega
      · exact ih
theorem filter_mono_eq {p q : Nat → Bool} : ∀ (xs : List Nat), (∀ x ∈ xs, p x = true → q x = true) → (xs.filter q).length ≤ (xs.filter p).length → ∀ x ∈ xs, q x = true → p x = true
  | [], _, _, x, hx, _ => by simp at hx
  | y :: xs, h, hl, x, hx, hq => by
    have h' : ∀ z ∈ xs, p z = true → q z = true := fun z hz => h z (List.mem_cons_of_mem _ hz)
    have ih := filter_mono_len xs h'
    have hy := h y List.mem_cons_self
    rw [List.filter_cons, List.filter_cons] at hl
    by_cases hp : p y = true
    · rw [if_pos hp, if_pos (hy hp)] at hl
      rcases List.mem_cons.1 hx with rfl | hx
      · exact hp
      · exact filter_mono_eq xs h' (by simpa using hl) x hx hq
    · rw [if_neg hp] at hl
      by_cases hqy : q y = true
      · rw [if_pos hqy] at hl; simp at hl; omega
      · rw [if_neg hqy] at hl
        rcases List.mem_cons.1 hx with rfl | hx
        · exact absurd hq hqy
        · exact filter_mono_eq xs h' hl x hx hq

end Go.Proofs.Ytaboipnigeaopaa
