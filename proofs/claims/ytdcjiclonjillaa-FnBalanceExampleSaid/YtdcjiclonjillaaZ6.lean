import Derived.Test.YtdcjiclonjillaaZ2
import Derived.Test.YtdcjiclonjillaaM1
import Derived.Test.YtdcjiclonjillaaR1
import Derived.Test.YtdcjiclonjillaaP2
import Derived.Test.YtdcjiclonjillaaCD
namespace Go.Proofs.Ytdcjiclonjillaa
set_option linter.unusedVariables false
set_option linter.unusedSimpArgs false
open Go.RowKit

/-! The value of a gate. -/

theorem evalV_gate {c : Cir} (hv : c.valid) (x : Int) {i : Nat} {g : Gt} (hg : c.gates[i]? = some g) :
    litB (evalV c x (-1) false) (2 * (c.first + i)) = (litB (evalV c x (-1) false) g.a && litB (evalV c x (-1) false) g.b) := by
  obtain ⟨⟨a0, a2⟩, b0, b2⟩ := valid_gate hv hg
  obtain ⟨q1, q2, q3, q4, q5⟩ := hv.lim
  have eF : c.first = 1 + c.inp + c.next.length := rfl
  have hi := (List.getElem?_eq_some_iff.1 hg).1
  rw [evalV_no]
  have e1 : valsV (-1) false (asgV c x) c.gates = valsV (-1) false (valsV (-1) false (asgV c x) (c.gates.take (i + 1))) (c.gates.drop (i + 1)) := by
    rw [← valsV_append, List.take_append_drop]
  obtain ⟨r, hr⟩ := valsV_pre (-1) false (valsV (-1) false (asgV c x) (c.gates.take (i + 1))) (c.gates.drop (i + 1))
  rw [e1, hr, valsV_snoc hg]
  obtain ⟨vs, hvs⟩ : ∃ vs, vs = valsV (-1) false (asgV c x) (c.gates.take i) := ⟨_, rfl⟩
  rw [← hvs]
  have hlen : vs.length = c.first.toNat + i := by
    rw [hvs, valsV_length, asgV_length, List.length_take]; omega
  unfold stepV
  rw [if_neg (by omega)]
  have p1 : (2 * (c.first + (i : Int)) / 2).toNat = vs.length := by omega
  have la : litB (vs ++ [litB vs g.a && litB vs g.b] ++ r) g.a = litB vs g.a := by rw [List.append_assoc]; exact litB_pre (by omega)
  have lb : litB (vs ++ [litB vs g.a && litB vs g.b] ++ r) g.b = litB vs g.b := by rw [List.append_assoc]; exact litB_pre (by omega)
  rw [la, lb]
  unfold litB
  rw [p1]
  have e2 : decide (2 * (c.first + (i : Int)) % 2 = 1) = false := by rw [decide_eq_false_iff_not]; omega
  rw [e2]
  simp [List.getD, List.getElem?_append]

/-! The clauses describe the circuit. -/

def b2i (b : Bool) : Int := if b then 1 else -1
/-- The values of the formula's variables after m steps. -/
def vI (E : List Bool) (m : Nat) : List Int := 0 :: ((E.take m).map b2i ++ List.replicate (25 - m) 0)
theorem vI_length (E : List Bool) (m : Nat) (h : m ≤ E.length) (h2 : m ≤ 25) : (vI E m).length = 26 := by
  simp [vI]; omega
theorem vI_zero (E : List Bool) : vI E 0 = List.replicate 26 0 := rfl
theorem vI_step {E : List Bool} {m : Nat} {b : Bool} (h : E[m]? = some b) (h2 : m < 25) : (vI E m).set (m + 1) (b2i b) = vI E (m + 1) := by
  have hm : m < E.length := (List.getElem?_eq_some_iff.1 h).1
  unfold vI
  obtain ⟨n, hn⟩ : ∃ n, 25 - m = n + 1 := ⟨24 - m, by omega⟩
  rw [hn, show 25 - (m + 1) = n by omega, List.set_cons_succ, List.take_add_one, h, List.replicate_succ]
  congr 1
  have hl : ((E.take m).map b2i).length = m := by simp; omega
  rw [List.set_append, if_neg (by rw [hl]; omega), hl, Nat.sub_self]
  simp
theorem vI_get {E : List Bool} {q : Nat} {b : Bool} (h : E[q]? = some b) : (vI E E.length)[q + 1]? = some (b2i b) := by
  have hq : q < E.length := (List.getElem?_eq_some_iff.1 h).1
  unfold vI
  rw [List.getElem?_cons_succ, List.take_length, List.getElem?_append_left (by simpa using hq)]
  simp [h]
theorem sat_pos {E : List Bool} {q : Nat} (h : q < E.length) : satN (vI E E.length) ((q : Int) + 1) = E.getD q false := by
  obtain ⟨b, hb⟩ := get_of_lt h
  unfold satN
  rw [show ((q : Int) + 1).toNat = q + 1 by omega]
  simp only [List.getD_eq_getElem?_getD]
  rw [vI_get hb, hb]
  have e1 : decide (0 < (q : Int) + 1) = true := decide_eq_true (by omega)
  have e2 : decide ((q : Int) + 1 < 0) = false := decide_eq_false (by omega)
  rw [e1, e2]
  cases b <;> simp [b2i]
theorem sat_neg {E : List Bool} {q : Nat} (h : q < E.length) : satN (vI E E.length) (-((q : Int) + 1)) = !E.getD q false := by
  obtain ⟨b, hb⟩ := get_of_lt h
  unfold satN
  rw [show (- -((q : Int) + 1)).toNat = q + 1 by omega]
  simp only [List.getD_eq_getElem?_getD]
  rw [vI_get hb, hb]
  have e1 : decide (0 < -((q : Int) + 1)) = false := decide_eq_false (by omega)
  have e2 : decide (-((q : Int) + 1) < 0) = true := decide_eq_true (by omega)
  rw [e1, e2]
  cases b <;> simp [b2i]
theorem sat_dim {E : List Bool} {l : Int} (h0 : 0 ≤ l) (h : l / 2 < E.length) : satN (vI E E.length) (dimL l) = litB E l ∧ satN (vI E E.length) (-dimL l) = !litB E l := by
  obtain ⟨q, hq⟩ : ∃ q : Nat, l / 2 = q := ⟨(l / 2).toNat, by omega⟩
  unfold dimL litB
  rw [hq, Int.toNat_natCast]
  have hql : q < E.length := by omega
  by_cases e : l % 2 = 1
  · rw [if_pos e, decide_eq_true e, sat_neg hql, Int.neg_neg, sat_pos hql]
    cases E.getD q false <;> exact ⟨rfl, rfl⟩
  · rw [if_neg e, decide_eq_false e, sat_neg hql, sat_pos hql]
    cases E.getD q false <;> exact ⟨rfl, rfl⟩
theorem gRows_sat {E : List Bool} {k : Nat} {g : Gt} (hk : k < E.length) (a0 : 0 ≤ g.a) (a1 : g.a / 2 < E.length) (b0 : 0 ≤ g.b) (b1 : g.b / 2 < E.length) (h : E.getD k false = (litB E g.a && litB E g.b)) :
    holdsV (vI E E.length) (gRows ((k : Int) + 1) g) = true := by
  unfold holdsV gRows
  simp only [List.all_cons, List.all_nil, List.any_cons, List.any_nil, Bool.or_false, Bool.and_true, sat_pos hk, sat_neg hk, (sat_dim a0 a1).1, (sat_dim b0 b1).1, (sat_dim a0 a1).2, (sat_dim b0 b1).2, h]
  cases litB E g.a <;> cases litB E g.b <;> rfl
theorem tsL_holds {c : Cir} (hv : c.valid) (x : Int) : ∀ k, k ≤ c.gates.length → holdsV (vI (evalV c x (-1) false) (evalV c x (-1) false).length) (tsL c k) = true := by
  obtain ⟨q1, q2, q3, q4, q5⟩ := hv.lim
  have hl := evalV_length c x (-1) false
  have eF : c.first = 1 + c.inp + c.next.length := rfl
  intro k
  induction k with
  | zero =>
    intro _
    have h := sat_neg (E := evalV c x (-1) false) (q := 0) (by omega)
    have e0 : (evalV c x (-1) false).getD 0 false = false := by
      rw [evalV_no]
      obtain ⟨r, hr⟩ := valsV_pre (-1) false (asgV c x) c.gates
      rw [hr]; rfl
    unfold holdsV tsL
    rw [e0] at h
    simpa using h
  | succ k ih =>
    intro hk
    obtain ⟨g, hg⟩ := get_of_lt (l := c.gates) (k := k) (by omega)
    obtain ⟨⟨a0, a2⟩, b0, b2⟩ := valid_gate hv hg
    have hE := evalV_gate hv x hg
    obtain ⟨F, hF⟩ : ∃ F : Nat, c.first = F := ⟨c.first.toNat, by omega⟩
    have hE2 : (evalV c x (-1) false).getD (F + k) false = (litB (evalV c x (-1) false) g.a && litB (evalV c x (-1) false) g.b) := by
      rw [← hE, hF]
      unfold litB
      rw [show (2 * ((F : Int) + (k : Int)) / 2).toNat = F + k by omega, show decide (2 * ((F : Int) + (k : Int)) % 2 = 1) = false by rw [decide_eq_false_iff_not]; omega]
      simp
    have hr := gRows_sat (E := evalV c x (-1) false) (k := F + k) (g := g) (by omega) a0 (by omega) b0 (by omega) hE2
    rw [tsL_succ hg (n := ((F + k : Nat) : Int) + 1) (by omega)]
    unfold holdsV at hr ⊢
    rw [List.all_append, hr]
    have h2 := ih (by omega)
    unfold holdsV at h2
    rw [h2]; rfl
theorem tsR_holds {c : Cir} {l : Int} (h : tsOk c l) (x : Int) : holdsV (vI (evalV c x (-1) false) (evalV c x (-1) false).length) (tsR c l) = litB (evalV c x (-1) false) l := by
  have hv := c.validB_iff.1 h.1
  obtain ⟨q1, q2, q3, q4, q5⟩ := hv.lim
  have hl := evalV_length c x (-1) false
  have eV : c.vars = 1 + c.inp + c.next.length + c.gates.length := by unfold Cir.vars; rfl
  obtain ⟨l0, l1⟩ := h.2
  rw [tsR_yes h]
  have h1 := tsL_holds hv x c.gates.length (Nat.le_refl _)
  unfold holdsV at h1 ⊢
  rw [List.all_append, h1]
  have h2 := (sat_dim (E := evalV c x (-1) false) (l := l) l0 (by omega)).1
  simp [h2]
theorem dimL_25 {c : Cir} (hv : c.valid) {l : Int} (h0 : 0 ≤ l) (h1 : l / 2 < c.vars) : lit25 (dimL l) ∧ lit25 (-dimL l) := by
  obtain ⟨f1, f2, f3, f4⟩ := valid_first hv
  have h22 : c.vars ≤ 22 := by
    obtain ⟨q1, q2, q3, q4, q5⟩ := hv.lim
    have eV : c.vars = 1 + c.inp + c.next.length + c.gates.length := by unfold Cir.vars; rfl
    omega
  unfold lit25 dimL
  split <;> omega
theorem tsL_lits {c : Cir} (hv : c.valid) : ∀ k, k ≤ c.gates.length → ∀ r ∈ tsL c k, ∀ n ∈ r, lit25 n := by
  obtain ⟨q1, q2, q3, q4, q5⟩ := hv.lim
  have eF : c.first = 1 + c.inp + c.next.length := rfl
  have eV : c.vars = 1 + c.inp + c.next.length + c.gates.length := by unfold Cir.vars; rfl
  intro k
  induction k with
  | zero => intro _ r hr n hn; simp [tsL] at hr; subst hr; simp at hn; subst hn; unfold lit25; omega
  | succ k ih =>
    intro hk r hr n hn
    obtain ⟨g, hg⟩ := get_of_lt (l := c.gates) (k := k) (by omega)
    obtain ⟨⟨a0, a2⟩, b0, b2⟩ := valid_gate hv hg
    rw [tsL_succ hg rfl, List.mem_append] at hr
    rcases hr with hr | hr
    · exact ih (by omega) r hr n hn
    · have ha := dimL_25 hv (l := g.a) a0 (by omega)
      have hb := dimL_25 hv (l := g.b) b0 (by omega)
      have hN : lit25 (c.first + k + 1) ∧ lit25 (-(c.first + k + 1)) := by unfold lit25; omega
      simp [gRows] at hr
      rcases hr with rfl | rfl | rfl
      · simp at hn; rcases hn with rfl | rfl
        · exact hN.2
        · exact ha.1
      · simp at hn; rcases hn with rfl | rfl
        · exact hN.2
        · exact hb.1
      · simp at hn; rcases hn with rfl | rfl | rfl
        · exact hN.1
        · exact ha.2
        · exact hb.2
theorem tsR_lits (c : Cir) (l : Int) : ∀ r ∈ tsR c l, ∀ n ∈ r, lit25 n := by
  intro r hr n hn
  by_cases h : tsOk c l
  · have hv := c.validB_iff.1 h.1
    rw [tsR_yes h, List.mem_append] at hr
    rcases hr with hr | hr
    · exact tsL_lits hv _ (Nat.le_refl _) r hr n hn
    · obtain ⟨l0, l1⟩ := h.2
      simp at hr; subst hr; simp at hn; subst hn
      exact (dimL_25 hv l0 (by omega)).1
  · rw [tsR_no h] at hr; cases hr
theorem tsR_clauses (c : Cir) (l : Int) : clausesB (tsR c l) = true :=
  clausesB_true ⟨by have := (tsR_small c l).1; omega, fun r hr => ⟨(tsR_small c l).2 r hr, tsR_lits c l r hr⟩⟩
theorem tsR_len {c : Cir} {l : Int} (h : tsOk c l) : (tsR c l).length = 3 * c.gates.length + 2 := by
  rw [tsR_yes h, List.length_append, tsL_len]; simp; omega

end Go.Proofs.Ytdcjiclonjillaa
