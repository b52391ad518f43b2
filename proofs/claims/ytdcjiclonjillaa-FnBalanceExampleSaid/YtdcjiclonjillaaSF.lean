import Derived.Test.YtdcjiclonjillaaZ2
import Derived.Test.YtdcjiclonjillaaZ6
import Derived.Test.YtdcjiclonjillaaG3
namespace Go.Proofs.Ytdcjiclonjillaa
set_option linter.unusedVariables false
set_option linter.unusedSimpArgs false
open Go.RowKit

/-! Forcing a gate is a stuck-at fault. -/

theorem forceL_le {p : Int} {val : Bool} {l : Int} (hp : 0 ≤ p) (h0 : 0 ≤ l) : 0 ≤ forceL p val l ∧ forceL p val l / 2 ≤ l / 2 := by
  unfold forceL
  by_cases e : l / 2 = p
  · rw [if_pos e]; cases val <;> simp <;> omega
  · rw [if_neg e]; omega
theorem mapC_valid {c : Cir} {p : Int} {val : Bool} (hv : c.valid) (hp : 0 ≤ p) : (c.mapC (forceL p val)).valid := by
  have eV : (c.mapC (forceL p val)).vars = c.vars := by simp [Cir.vars, Cir.mapC, mapG]
  have eF : (c.mapC (forceL p val)).first = c.first := by simp [Cir.first, Cir.mapC]
  obtain ⟨q1, q2, q3, q4, q5⟩ := hv.lim
  have key : ∀ {l b : Int}, litP l b → litP (forceL p val l) b := fun {l b} h => by
    obtain ⟨h0, h1⟩ := h
    have := forceL_le (val := val) hp h0
    unfold litP; omega
  refine ⟨⟨q1, q2, ?_, ?_, ?_⟩, ?_, ?_, ?_⟩
  · simpa [Cir.mapC] using q3
  · simpa [Cir.mapC, mapG] using q4
  · simpa [Cir.mapC] using q5
  · rw [eF]
    intro i h
    have hi : i < c.gates.length := by simpa [Cir.mapC, mapG] using h
    have := hv.gates i hi
    simp only [Cir.mapC, mapG, List.getElem_map]
    exact ⟨key this.1, key this.2⟩
  · rw [eV]
    intro x hx
    simp only [Cir.mapC, List.mem_map] at hx
    obtain ⟨y, hy, rfl⟩ := hx
    exact key (hv.next y hy)
  · rw [eV]
    intro x hx
    simp only [Cir.mapC, List.mem_map] at hx
    obtain ⟨y, hy, rfl⟩ := hx
    exact key (hv.outs y hy)

theorem litB_def (vs : List Bool) (l : Int) : litB vs l = (vs.getD (l / 2).toNat false != decide (l % 2 = 1)) := rfl
theorem litB_last {vs : List Bool} {z : Bool} {l : Int} (h : (l / 2).toNat = vs.length) : litB (vs ++ [z]) l = (z != decide (l % 2 = 1)) := by
  unfold litB
  rw [h]; simp
structure FInv (F : Nat) (p : Int) (val : Bool) (k : Nat) (vs es : List Bool) : Prop where
  lv : vs.length = F + k
  le : es.length = F + k
  lit : ∀ l : Int, 0 ≤ l → l / 2 < (F : Int) + k → litB es (forceL p val l) = litB vs l
  zero : es.getD 0 false = false
  at_p : p < (F : Int) + k → vs.getD p.toNat false = val
theorem FInv.step {F : Nat} {p : Int} {val : Bool} {k : Nat} {vs es : List Bool} {g : Gt} (h : FInv F p val k vs es) (hF : 1 ≤ F) (hp : F ≤ p) (a0 : 0 ≤ g.a) (a1 : g.a / 2 < F + k) (b0 : 0 ≤ g.b) (b1 : g.b / 2 < F + k) :
    FInv F p val (k + 1) (stepV p val vs g) (stepV (-1) false es ⟨forceL p val g.a, forceL p val g.b⟩) := by
  have e1 : stepV (-1) false es ⟨forceL p val g.a, forceL p val g.b⟩ = es ++ [litB vs g.a && litB vs g.b] := by
    unfold stepV
    rw [if_neg (by omega)]
    show es ++ [litB es (forceL p val g.a) && litB es (forceL p val g.b)] = _
    rw [h.lit _ a0 a1, h.lit _ b0 b1]
  have e2 : stepV p val vs g = vs ++ [if ((F + k : Nat) : Int) = p then val else litB vs g.a && litB vs g.b] := by
    unfold stepV
    rw [h.lv]
  have lv := h.lv
  have le := h.le
  have hz : (es ++ [litB vs g.a && litB vs g.b]).getD 0 false = false := by
    have := h.zero
    cases es with
    | nil => simp at le; omega
    | cons x xs => simpa using this
  have hat : p < (F : Int) + ((k + 1 : Nat) : Int) → (vs ++ [if ((F + k : Nat) : Int) = p then val else litB vs g.a && litB vs g.b]).getD p.toNat false = val := fun hlt => by
    by_cases e : ((F + k : Nat) : Int) = p
    · rw [if_pos e]
      have : p.toNat = vs.length := by omega
      rw [this]; simp
    · have h1 := h.at_p (by omega)
      have : p.toNat < vs.length := by omega
      simp only [List.getD_eq_getElem?_getD] at h1 ⊢
      rw [List.getElem?_append_left this]; exact h1
  rw [e1, e2]
  refine ⟨by simp; omega, by simp; omega, fun l h0 hl => ?_, hz, hat⟩
  by_cases e : l / 2 = p
  · have h1 := hat (by omega)
    have e3 : litB (vs ++ [if ((F + k : Nat) : Int) = p then val else litB vs g.a && litB vs g.b]) l = (val != decide (l % 2 = 1)) := by
      rw [litB_def, e, h1]
    rw [e3]
    unfold forceL
    rw [if_pos e]
    cases val
    · have : litB (es ++ [litB vs g.a && litB vs g.b]) (l % 2) = (false != decide (l % 2 = 1)) := by
        rw [litB_def, show (l % 2 / 2).toNat = 0 by omega, hz, show l % 2 % 2 = l % 2 by omega]
      simpa using this
    · have : litB (es ++ [litB vs g.a && litB vs g.b]) (1 - l % 2) = (false != decide ((1 - l % 2) % 2 = 1)) := by
        rw [litB_def, show ((1 - l % 2) / 2).toNat = 0 by omega, hz]
      rw [if_pos rfl, this]
      rcases (show l % 2 = 0 ∨ l % 2 = 1 by omega) with e | e <;> rw [e] <;> decide
  · have e4 : forceL p val l = l := by unfold forceL; rw [if_neg e]
    rw [e4]
    by_cases hlt : l / 2 < F + k
    · rw [litB_pre (by omega), litB_pre (by omega)]
      have := h.lit l h0 hlt
      rwa [e4] at this
    · have hl2 : l / 2 = ((F + k : Nat) : Int) := by omega
      rw [litB_last (by omega), litB_last (by omega), if_neg (by omega)]

theorem force_eval {c : Cir} {p : Int} {val : Bool} (hv : c.valid) (hp : c.first ≤ p) (x : Int) {l : Int} (h0 : 0 ≤ l) (h1 : l / 2 < c.vars) :
    litB (evalV (c.mapC (forceL p val)) x (-1) false) (forceL p val l) = litB (evalV c x p val) l := by
  obtain ⟨q1, q2, q3, q4, q5⟩ := hv.lim
  obtain ⟨f1, f2, f3, f4⟩ := valid_first hv
  obtain ⟨F, hF⟩ : ∃ F : Nat, c.first = F := ⟨c.first.toNat, by omega⟩
  have eF : c.first = 1 + c.inp + c.next.length := rfl
  have hla := asgV_length c x
  have key : ∀ k, k ≤ c.gates.length → FInv F p val k (valsV p val (asgV c x) (c.gates.take k)) (valsV (-1) false (asgV c x) (mapG (forceL p val) (c.gates.take k))) := by
    intro k
    induction k with
    | zero =>
      intro _
      refine ⟨by simp [valsV]; omega, by simp [valsV, mapG]; omega, fun l h0 hl => ?_, rfl, fun h => by omega⟩
      have : forceL p val l = l := by unfold forceL; rw [if_neg (by omega)]
      rw [this]; rfl
    | succ k ih =>
      intro hk
      obtain ⟨g, hg⟩ := get_of_lt (l := c.gates) (k := k) (by omega)
      obtain ⟨⟨a0, a2⟩, b0, b2⟩ := valid_gate hv hg
      rw [valsV_snoc hg, mapG_snoc hg, valsV_append]
      exact (ih (by omega)).step (by omega) (by omega) a0 (by omega) b0 (by omega)
  have h := (key c.gates.length (Nat.le_refl _)).lit l h0 (by omega)
  rw [List.take_length] at h
  have e1 : stuckB p val (asgV c x) = asgV c x := by
    unfold stuckB
    rw [if_pos (by omega), List.set_eq_of_length_le (by omega)]
  have e2 : evalV c x p val = valsV p val (asgV c x) c.gates := by unfold evalV; rw [e1]
  have e3 : evalV (c.mapC (forceL p val)) x (-1) false = valsV (-1) false (asgV c x) (mapG (forceL p val) c.gates) := by
    rw [evalV_no]
    have : asgV (c.mapC (forceL p val)) x = asgV c x := by simp [asgV, Cir.mapC]
    rw [this]; rfl
  rw [e2, e3]; exact h
theorem force_map {c : Cir} {p : Int} {val : Bool} (hv : c.valid) (hp : c.first ≤ p) (x : Int) (ls : List Int) (hl : litsP c.vars ls) :
    (ls.map (forceL p val)).map (litB (evalV (c.mapC (forceL p val)) x (-1) false)) = ls.map (litB (evalV c x p val)) := by
  rw [List.map_map]
  refine List.map_congr_left fun l hll => ?_
  obtain ⟨h0, h1⟩ := hl l hll
  exact force_eval hv hp x h0 (by omega)
theorem det_split (c : Cir) (p : Int) (val : Bool) (x : Int) : detV c p val x = (!decide (c.outs.map (litB (evalV c x (-1) false)) = c.outs.map (litB (evalV c x p val))) || !decide (c.next.map (litB (evalV c x (-1) false)) = c.next.map (litB (evalV c x p val)))) := by
  unfold detV resV
  rw [List.map_append, List.map_append]
  by_cases h1 : c.next.map (litB (evalV c x (-1) false)) = c.next.map (litB (evalV c x p val))
  · rw [h1, decide_eq_true (rfl : c.next.map (litB (evalV c x p val)) = _)]
    by_cases h2 : c.outs.map (litB (evalV c x (-1) false)) = c.outs.map (litB (evalV c x p val))
    · rw [h2]; simp
    · rw [decide_eq_false h2, decide_eq_false (fun h => h2 (List.append_cancel_left h))]; rfl
  · rw [decide_eq_false h1, decide_eq_false (fun h => h1 (List.append_inj h (by simp)).1)]; simp

end Go.Proofs.Ytdcjiclonjillaa
