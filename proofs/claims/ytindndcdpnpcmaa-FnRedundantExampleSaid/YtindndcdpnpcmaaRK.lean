import Derived.Test.YtindndcdpnpcmaaRB
import Derived.Test.YtindndcdpnpcmaaOX
import Derived.Test.YtindndcdpnpcmaaOI
import Derived.Test.YtindndcdpnpcmaaRG
import Derived.Test.YtindndcdpnpcmaaV8
namespace Go.Proofs.Ytindndcdpnpcmaa
set_option linter.unusedVariables false
set_option linter.unusedSimpArgs false
open Go.RowKit

/-! A swept circuit's variables have different functions: plain laws. -/

/-- What is used, is used by something. -/
theorem used_by {c : Cir} (hv : c.valid) {i : Nat} (hu : (usedL c).getD i false = true) : (∃ g ∈ c.gates, g.a / 2 = c.first + i ∨ g.b / 2 = c.first + i) ∨ ∃ l ∈ c.outs ++ c.next, l / 2 = c.first + i := by
  refine Classical.byContradiction fun hn => ?_
  have h1 : ∀ g ∈ c.gates, (0 ≤ g.a ∧ g.a / 2 ≠ c.first + i) ∧ 0 ≤ g.b ∧ g.b / 2 ≠ c.first + i := fun g hg => by
    obtain ⟨k, hk⟩ := List.getElem?_of_mem hg
    have hp := gatesP_at hv.gates hk
    exact ⟨⟨hp.1.1, fun e => hn (.inl ⟨g, hg, .inl e⟩)⟩, hp.2.1, fun e => hn (.inl ⟨g, hg, .inr e⟩)⟩
  have h2 : ∀ l ∈ c.outs ++ c.next, 0 ≤ l ∧ l / 2 ≠ c.first + i := fun l hl => by
    have hp : litP l c.vars := by
      rcases List.mem_append.1 hl with h | h
      · exact hv.outs l h
      · exact hv.next l h
    exact ⟨hp.1, fun e => hn (.inr ⟨l, hl, e⟩)⟩
  have := used_off h1 h2
  rw [hu] at this
  cases this

/-- Bit j of an assignment is variable 1 + j. -/
theorem asgV_get {c : Cir} (hv : c.valid) (x : Nat) {j : Nat} (hj : j < c.inp.toNat + c.next.length) : (asgV c (x : Int)).getD (j + 1) false = decide (((x / 2 ^ j : Nat) : Int) % 2 = 1) := by
  unfold asgV
  rw [List.getD_eq_getElem?_getD, List.getElem?_cons_succ]
  by_cases h : j < c.inp.toNat
  · rw [List.getElem?_append_left (by rw [bitsV_length]; exact h)]
    unfold bitsV
    rw [List.getElem?_map, List.getElem?_range h]
    show decide ((x : Int) / 2 ^ j % 2 = 1) = _
    rw [show ((x / 2 ^ j : Nat) : Int) = (x : Int) / 2 ^ j by simp]
  · rw [List.getElem?_append_right (by rw [bitsV_length]; omega), bitsV_length]
    unfold bitsV
    rw [List.getElem?_map, List.getElem?_range (by omega)]
    show decide ((x : Int) / 2 ^ c.inp.toNat / 2 ^ (j - c.inp.toNat) % 2 = 1) = _
    rw [Int.ediv_ediv_of_nonneg (by exact Int.pow_nonneg (by omega)), ← Int.pow_add, show c.inp.toNat + (j - c.inp.toNat) = j by omega, show ((x / 2 ^ j : Nat) : Int) = (x : Int) / 2 ^ j by simp]
theorem colV_base {c : Cir} (x : Nat) {v : Nat} (h : v < 1 + c.inp.toNat + c.next.length) : colV c v x = (asgV c (x : Int)).getD v false := by
  unfold colV
  rw [evalV_vN]
  obtain ⟨r, hr⟩ := vN_base (asgV c (x : Int)) c.gates
  rw [hr]
  simp only [List.getD_eq_getElem?_getD]
  rw [List.getElem?_append_left (by rw [asgV_length]; exact h)]
theorem base_diff {c : Cir} (hv : c.valid) {p q : Nat} (hq : q < p) (hp : p < 1 + c.inp.toNat + c.next.length) : sameV c p q = 0 := by
  obtain ⟨j, rfl⟩ : ∃ j, p = j + 1 := ⟨p - 1, by omega⟩
  have hj : j < c.inp.toNat + c.next.length := by omega
  refine sameV_zero.2 ⟨⟨2 ^ j, by unfold asgN; exact Nat.pow_lt_pow_right (by omega) hj, ?_⟩, 0, asgN_pos c, ?_⟩
  · rw [colV_base _ hp, colV_base _ (by omega), asgV_get hv _ hj, Nat.div_self (Nat.pow_pos (by omega))]
    cases q with
    | zero => show decide (((1 : Nat) : Int) % 2 = 1) ≠ false; simp
    | succ k =>
      rw [asgV_get hv _ (by omega), show j = k + (j - k) by omega, Nat.pow_add, Nat.mul_div_cancel_left _ (Nat.pow_pos (by omega)), show j - k = (j - k - 1) + 1 by omega, Nat.pow_succ]
      simp
  · rw [colV_base _ hp, colV_base _ (by omega), asgV_get hv _ hj]
    cases q with
    | zero => show _ = false; simp
    | succ k => rw [asgV_get hv _ (by omega)]; simp

/-- A gate that is used in the merged circuit is the first one with its function. -/
theorem used_rep {o : Cir} (hv : o.valid) {i : Nat} (hu : (usedL (swpM o)).getD i false = true) : ∀ w, w < o.first.toNat + i → sameV o (o.first.toNat + i) w = 0 := by
  have h0 := hv.lim.1
  have eF : o.first = 1 + o.inp + o.next.length := rfl
  have eF' : (swpM o).first = o.first := by unfold swpM Cir.first Cir.mapC; simp
  have key : ∀ l : Int, swpL o l / 2 = o.first + i → ∀ w, w < o.first.toNat + i → sameV o (o.first.toNat + i) w = 0 := fun l hl => by
    obtain ⟨u, -, hr, hn, -⟩ := repV_spec o (l / 2).toNat
    have e : swpL o l / 2 = u := by
      unfold swpL
      rw [xrb_half]
      rcases hr with hr | hr <;> rw [hr] <;> omega
    obtain rfl : u = o.first.toNat + i := by omega
    exact hn
  rcases used_by (swpM_valid hv) hu with ⟨g, hg, h⟩ | ⟨l, hl, h⟩
  · rw [eF'] at h
    obtain ⟨g0, hg0, rfl⟩ := List.mem_map.1 (show g ∈ o.gates.map fun g => (⟨swpL o g.a, swpL o g.b⟩ : Gt) from hg)
    rcases h with h | h
    · exact key _ h
    · exact key _ h
  · rw [eF'] at h
    have : l ∈ (o.outs ++ o.next).map (swpL o) := by rw [List.map_append]; exact hl
    obtain ⟨l0, -, rfl⟩ := List.mem_map.1 this
    exact key _ h

/-- Variables of a rebuilt circuit are variables of the circuit: the i-th used. -/
theorem buildC_col {c : Cir} {F : Nat} (hF : c.first = F) (hv : c.valid) (sh : Bool) : ∃ ψ : Nat → Nat, (∀ v, v < F → ψ v = v) ∧ (∀ v, F ≤ v → v < F + (buildC sh c).gates.length → F ≤ ψ v ∧ ψ v < F + c.gates.length ∧ (usedL c).getD (ψ v - F) false = true) ∧
    (∀ u v, u < v → v < F + (buildC sh c).gates.length → ψ u < ψ v) ∧ ∀ v, v < F + (buildC sh c).gates.length → ∀ x : Nat, colV (buildC sh c) v x = colV c (ψ v) x := by
  obtain ⟨φ, hφ⟩ := bldP_src hF hv sh c.gates.length (Nat.le_refl _)
  have hlen : (buildC sh c).gates.length = φ.length := hφ.len.symm
  have h0 := hv.lim.1
  have eF : c.first = 1 + c.inp + c.next.length := rfl
  have hget : ∀ v, F ≤ v → v < F + φ.length → φ[v - F]? = some (φ.getD (v - F) 0) := fun v h1 h2 => by
    obtain ⟨y, hy⟩ := get_of_lt (l := φ) (k := v - F) (by omega)
    rw [List.getD_eq_getElem?_getD, hy]; rfl
  refine ⟨fun v => if v < F then v else F + φ.getD (v - F) 0, fun v h => if_pos h, fun v h1 h2 => ?_, fun u v huv h2 => ?_, fun v h2 x => ?_⟩
  · rw [hlen] at h2
    dsimp only
    rw [if_neg (by omega)]
    have := hφ.used _ (List.mem_of_getElem? (hget v h1 h2))
    exact ⟨by omega, by omega, by rw [Nat.add_sub_cancel_left]; exact this.2⟩
  · rw [hlen] at h2
    dsimp only
    by_cases hv1 : v < F
    · rw [if_pos hv1, if_pos (by omega)]; exact huv
    · rw [if_neg hv1]
      by_cases hu1 : u < F
      · rw [if_pos hu1]; omega
      · rw [if_neg hu1]
        have a1 := hget v (by omega) h2
        have a2 := hget u (by omega) (by omega)
        obtain ⟨b1, e1⟩ := List.getElem?_eq_some_iff.1 a1
        obtain ⟨b2, e2⟩ := List.getElem?_eq_some_iff.1 a2
        have := List.pairwise_iff_getElem.1 hφ.inc (u - F) (v - F) b2 b1 (by omega)
        rw [e1, e2] at this
        omega
  · rw [hlen] at h2
    dsimp only
    have ea : asgV (buildC sh c) (x : Int) = asgV c (x : Int) := by unfold asgV buildC; simp
    have hb := asgV_Bs hv (x : Int)
    rw [hF, Int.toNat_natCast] at hb
    unfold colV
    rw [evalV_vN, evalV_vN, ea]
    by_cases hv1 : v < F
    · rw [if_pos hv1]
      obtain ⟨r1, e1⟩ := vN_base (asgV c (x : Int)) (buildC sh c).gates
      obtain ⟨r2, e2⟩ := vN_base (asgV c (x : Int)) c.gates
      rw [e1, e2]
      simp only [List.getD_eq_getElem?_getD]
      rw [List.getElem?_append_left (by rw [hb.len]; exact hv1), List.getElem?_append_left (by rw [hb.len]; exact hv1)]
    · rw [if_neg hv1]
      have := hφ.val _ hb (v - F) _ (hget v (by omega) h2)
      rw [show F + (v - F) = v by omega] at this
      exact this
theorem sameV_congr {c d : Cir} {p q p' q' : Nat} (hN : asgN c = asgN d) (hp : ∀ x : Nat, x < asgN d → colV c p x = colV d p' x) (hq : ∀ x : Nat, x < asgN d → colV c q x = colV d q' x) : sameV c p q = sameV d p' q' := by
  rcases sameV_tri d p' q' with h | h | h
  · rw [h]; exact sameV_one.2 fun x hx => by rw [hN] at hx; rw [hp x hx, hq x hx]; exact sameV_one.1 h x hx
  · rw [h]; exact sameV_neg.2 fun x hx => by rw [hN] at hx; rw [hp x hx, hq x hx]; exact sameV_neg.1 h x hx
  · rw [h]
    obtain ⟨⟨x, hx, h1⟩, y, hy, h2⟩ := sameV_zero.1 h
    exact sameV_zero.2 ⟨⟨x, by rw [hN]; exact hx, by rw [hp x hx, hq x hx]; exact h1⟩, y, by rw [hN]; exact hy, by rw [hp y hy, hq y hy]; exact h2⟩
/-- No two variables of a swept circuit have the same or opposite functions. -/
theorem sweepC_diff {c : Cir} (hc : c.valid) {p q : Nat} (hq : q < p) (hp : (p : Int) < (sweepC c).vars) : sameV (sweepC c) p q = 0 := by
  obtain ⟨o, ho⟩ : ∃ o, o = optC c := ⟨_, rfl⟩
  have hv : o.valid := by rw [ho]; exact optC_valid hc
  obtain ⟨F, hF⟩ : ∃ F : Nat, o.first = F := ⟨o.first.toNat, by have := hv.lim.1; unfold Cir.first; omega⟩
  have hF1 : (swpM o).first = F := by rw [← hF]; unfold swpM Cir.first Cir.mapC; simp
  have hy := swpM_valid hv
  have hF2 : (buildC true (swpM o)).first = F := by rw [← hF1]; unfold Cir.first buildC; simp
  have hF3 : (sweepC c).first = F := by rw [← hF2]; unfold sweepC optC; rw [ho]; unfold Cir.first buildC; simp [optC, buildC]
  have es : sweepC c = buildC false (buildC true (swpM o)) := by unfold sweepC; rw [ho]; rfl
  have eV : (sweepC c).vars = (F : Int) + ((sweepC c).gates.length : Int) := by rw [← hF3]; rfl
  rw [eV] at hp
  rw [es] at hp ⊢
  obtain ⟨ψ2, a1, a2, a3, a4⟩ := buildC_col hF2 (buildC_valid hy true) false
  obtain ⟨ψ1, b1, b2, b3, b4⟩ := buildC_col hF1 hy true
  have hp' : p < F + (buildC false (buildC true (swpM o))).gates.length := by omega
  have hps : ∀ v, v < F + (buildC false (buildC true (swpM o))).gates.length → ψ2 v < F + (buildC true (swpM o)).gates.length := fun v hv => by
    by_cases h : v < F
    · rw [a1 v h]; omega
    · exact (a2 v (by omega) hv).2.1
  have hN : asgN (buildC false (buildC true (swpM o))) = asgN o := by rw [asgN_buildC, asgN_buildC]; unfold swpM; rw [asgN_mapC]
  have hcol : ∀ v, v < F + (buildC false (buildC true (swpM o))).gates.length → ∀ x : Nat, x < asgN o → colV (buildC false (buildC true (swpM o))) v x = colV o (ψ1 (ψ2 v)) x := fun v hv1 x hx => by
    rw [a4 v hv1 x, b4 _ (hps v hv1) x]
    unfold colV
    rw [swpM_evalV hv hx]
  rw [sameV_congr hN (hcol p hp') (hcol q (by omega))]
  have h2 := a3 q p hq hp'
  have h1 := b3 _ _ h2 (hps p hp')
  have eF : o.first = 1 + o.inp + o.next.length := rfl
  have h0 := hv.lim.1
  by_cases e : p < F
  · rw [a1 p e, b1 p e] at h1 ⊢
    exact base_diff hv h1 (by omega)
  · obtain ⟨c1, c2, c3⟩ := a2 p (by omega) hp'
    obtain ⟨d1, d2, d3⟩ := b2 _ c1 c2
    have := used_rep hv d3
    rw [hF, Int.toNat_natCast, show F + (ψ1 (ψ2 p) - F) = ψ1 (ψ2 p) by omega] at this
    exact this _ h1
theorem sweepC_len {c : Cir} (hc : c.valid) : (sweepC c).gates.length ≤ (optC c).gates.length := by
  have := optC_len_le (swpM (optC c))
  unfold sweepC
  refine Nat.le_trans this ?_
  unfold swpM Cir.mapC
  simp [mapG_length]

/-! What the laws of Sweep and of removal say, of the plain functions. -/

theorem optC_if (c : Cir) : (optC c).inp = c.inp ∧ (optC c).next.length = c.next.length ∧ (optC c).outs.length = c.outs.length := by
  unfold optC buildC
  exact ⟨rfl, by simp, by simp⟩
theorem mapC_if (f : Int → Int) (c : Cir) : (c.mapC f).inp = c.inp ∧ (c.mapC f).next.length = c.next.length ∧ (c.mapC f).outs.length = c.outs.length := by
  unfold Cir.mapC
  exact ⟨rfl, by simp, by simp⟩
theorem sweepC_if (c : Cir) : (sweepC c).inp = c.inp ∧ (sweepC c).next.length = c.next.length ∧ (sweepC c).outs.length = c.outs.length := by
  obtain ⟨a1, a2, a3⟩ := optC_if (swpM (optC c))
  obtain ⟨b1, b2, b3⟩ := mapC_if (swpL (optC c)) (optC c)
  obtain ⟨d1, d2, d3⟩ := optC_if c
  unfold sweepC
  refine ⟨a1.trans (b1.trans d1), ?_, ?_⟩
  · rw [a2]; unfold swpM; rw [b2, d2]
  · rw [a3]; unfold swpM; rw [b3, d3]
theorem equivB_mk {a b : Cir} (ha : a.valid) (hb : b.valid) (hi : b.inp = a.inp ∧ b.next.length = a.next.length ∧ b.outs.length = a.outs.length) (h : ∀ x : Nat, x < asgN a → resV b (x : Int) (-1) false = resV a (x : Int) (-1) false) : equivB a b = true :=
  equivB_iff.2 ⟨sifB_iff.2 ⟨(Cir.validB_iff _).2 ha, (Cir.validB_iff _).2 hb, hi.1.symm, hi.2.1.symm, hi.2.2.symm⟩, fun x hx => (h x hx).symm⟩
structure SweepSays (c d o : Cir) : Prop where
  ok : d.validB = true
  eqv : equivB c d = true
  len : d.gates.length ≤ o.gates.length
  diff : ∀ p q : Nat, q < p → (p : Int) < d.vars → sfR d p q = 0
theorem sweepR_says {c : Cir} (hv : c.validB = true) : SweepSays c (sweepR c) (optR c) := by
  have hc := c.validB_iff.1 hv
  have hs := sweepC_valid hc
  rw [sweepR_yes hv, optR_yes hv]
  refine ⟨(Cir.validB_iff _).2 hs, equivB_mk hc hs (sweepC_if c) (fun x hx => sweepC_res hc hx), sweepC_len hc, fun p q hq hp => ?_⟩
  by_cases h : sfOk (sweepC c) p q
  · rw [sfR_yes h, Int.toNat_natCast, Int.toNat_natCast]
    exact sweepC_diff hc hq hp
  · exact sfR_no h

end Go.Proofs.Ytindndcdpnpcmaa
