import Derived.Test.YtindndcdpnpcmaaRA
import Derived.Test.YtindndcdpnpcmaaV6
import Derived.Test.YtindndcdpnpcmaaG1
namespace Go.Proofs.Ytindndcdpnpcmaa
set_option linter.unusedVariables false
set_option linter.unusedSimpArgs false
open Go.RowKit

/-! Sweeping: plain laws. -/

/-- The literal of the first variable with the same or the opposite function. -/
def repV (c : Cir) (v : Nat) : Int :=
  match (List.range v).find? (fun w => decide (sameV c v w ≠ 0)) with
  | some w => if sameV c v w = 1 then 2 * (w : Int) else 2 * (w : Int) + 1
  | none => 2 * (v : Int)
theorem repV_some {c : Cir} {v w : Nat} (hw : w < v) (h : sameV c v w ≠ 0) (hn : ∀ u, u < w → sameV c v u = 0) : repV c v = if sameV c v w = 1 then 2 * (w : Int) else 2 * (w : Int) + 1 := by
  have : (List.range v).find? (fun w => decide (sameV c v w ≠ 0)) = some w := by
    rw [List.find?_range_eq_some]
    exact ⟨by simpa using h, by simpa using hw, fun j hj => by simpa using hn j hj⟩
  unfold repV
  rw [this]
theorem repV_none {c : Cir} {v : Nat} (hn : ∀ u, u < v → sameV c v u = 0) : repV c v = 2 * (v : Int) := by
  have : (List.range v).find? (fun w => decide (sameV c v w ≠ 0)) = none := by
    rw [List.find?_eq_none]
    intro x hx
    simpa using hn x (List.mem_range.1 hx)
  unfold repV
  rw [this]
/-- Either a first one is found, or none. -/
theorem first_or {p : Nat → Prop} [DecidablePred p] (v : Nat) : (∃ w, w < v ∧ p w ∧ ∀ u, u < w → ¬ p u) ∨ ∀ u, u < v → ¬ p u := by
  induction v with
  | zero => exact .inr fun u h => by omega
  | succ v ih =>
    rcases ih with ⟨w, h1, h2, h3⟩ | h
    · exact .inl ⟨w, by omega, h2, h3⟩
    · by_cases hp : p v
      · exact .inl ⟨v, by omega, hp, h⟩
      · refine .inr fun u hu => ?_
        rcases Nat.lt_or_ge u v with h1 | h1
        · exact h u h1
        · obtain rfl : u = v := by omega
          exact hp
theorem sameV_tri (c : Cir) (p q : Nat) : sameV c p q = 1 ∨ sameV c p q = -1 ∨ sameV c p q = 0 := by
  unfold sameV; split
  · exact .inl rfl
  · split
    · exact .inr (.inl rfl)
    · exact .inr (.inr rfl)
theorem eqAll_iff (f g : Nat → Bool) (N : Nat) : eqAll f g N = true ↔ ∀ x, x < N → f x = g x := by simp [eqAll]
theorem neAll_iff (f g : Nat → Bool) (N : Nat) : neAll f g N = true ↔ ∀ x, x < N → f x ≠ g x := by simp [neAll]
theorem sameV_one {c : Cir} {p q : Nat} : sameV c p q = 1 ↔ ∀ x, x < asgN c → colV c p x = colV c q x := by
  rw [← eqAll_iff]
  unfold sameV
  split
  · simp [*]
  · split <;> simp [*]
theorem asgN_pos (c : Cir) : 0 < asgN c := Nat.pow_pos (by omega)
theorem sameV_neg {c : Cir} {p q : Nat} : sameV c p q = -1 ↔ ∀ x, x < asgN c → colV c p x ≠ colV c q x := by
  rw [← neAll_iff]
  unfold sameV
  split
  · rename_i h
    have h1 := (eqAll_iff _ _ _).1 h 0 (asgN_pos c)
    constructor
    · intro h2; omega
    · intro h2; exact absurd h1 ((neAll_iff _ _ _).1 h2 0 (asgN_pos c))
  · split <;> simp [*]
theorem sameV_zero {c : Cir} {p q : Nat} : sameV c p q = 0 ↔ (∃ x, x < asgN c ∧ colV c p x ≠ colV c q x) ∧ ∃ x, x < asgN c ∧ colV c p x = colV c q x := by
  constructor
  · intro h
    constructor
    · refine Classical.byContradiction fun hn => ?_
      have : sameV c p q = 1 := sameV_one.2 fun x hx => Classical.byContradiction fun he => hn ⟨x, hx, he⟩
      omega
    · refine Classical.byContradiction fun hn => ?_
      have : sameV c p q = -1 := sameV_neg.2 fun x hx he => hn ⟨x, hx, he⟩
      omega
  · rintro ⟨⟨x, hx, h1⟩, y, hy, h2⟩
    rcases sameV_tri c p q with h | h | h
    · exact absurd (sameV_one.1 h x hx) h1
    · exact absurd h2 (sameV_neg.1 h y hy)
    · exact h
theorem sameV_trans {c : Cir} {v w u : Nat} (h1 : sameV c v w ≠ 0) (h2 : sameV c v u = 0) : sameV c w u = 0 := by
  obtain ⟨⟨x, hx, hx1⟩, y, hy, hy1⟩ := sameV_zero.1 h2
  rcases sameV_tri c v w with h | h | h
  · have e := sameV_one.1 h
    exact sameV_zero.2 ⟨⟨x, hx, by rw [← e x hx]; exact hx1⟩, y, hy, by rw [← e y hy]; exact hy1⟩
  · have e := sameV_neg.1 h
    refine sameV_zero.2 ⟨⟨y, hy, ?_⟩, x, hx, ?_⟩
    · have := e y hy; revert this; rw [hy1]; exact fun h => Ne.symm h
    · have := e x hx; revert this hx1; cases colV c v x <;> cases colV c w x <;> cases colV c u x <;> simp
  · exact absurd h h1

theorem sameV_sym (c : Cir) (p q : Nat) : sameV c p q = sameV c q p := by
  rcases sameV_tri c q p with h | h | h
  · rw [h]; exact sameV_one.2 fun x hx => (sameV_one.1 h x hx).symm
  · rw [h]; exact sameV_neg.2 fun x hx => Ne.symm (sameV_neg.1 h x hx)
  · rw [h]
    obtain ⟨⟨x, hx, h1⟩, y, hy, h2⟩ := sameV_zero.1 h
    exact sameV_zero.2 ⟨⟨x, hx, Ne.symm h1⟩, y, hy, h2.symm⟩

/-- What a representative is. -/
theorem repV_spec (c : Cir) (v : Nat) : ∃ u : Nat, u ≤ v ∧ (repV c v = 2 * (u : Int) ∨ repV c v = 2 * (u : Int) + 1) ∧ (∀ w, w < u → sameV c u w = 0) ∧ ∀ x, x < asgN c → ∀ vs : List Bool, vs = evalV c (x : Int) (-1) false → litB vs (repV c v) = vs.getD v false := by
  rcases first_or (p := fun w => sameV c v w ≠ 0) v with ⟨w, hw, h, hn⟩ | hn
  · have hn' : ∀ u, u < w → sameV c v u = 0 := fun u hu => Classical.byContradiction fun he => hn u hu he
    have er := repV_some hw h hn'
    refine ⟨w, by omega, ?_, fun u hu => sameV_trans h (hn' u hu), fun x hx vs hvs => ?_⟩
    · rw [er]; split
      · exact .inl rfl
      · exact .inr rfl
    · rw [er]
      rcases sameV_tri c v w with h1 | h1 | h1
      · rw [if_pos h1, litB_nat]
        have := sameV_one.1 h1 x hx
        unfold colV at this
        rw [hvs]; exact this.symm
      · rw [if_neg (by omega), litB_not (by omega), litB_nat]
        have := sameV_neg.1 h1 x hx
        unfold colV at this
        rw [hvs]
        revert this
        cases (evalV c (x : Int) (-1) false).getD v false <;> cases (evalV c (x : Int) (-1) false).getD w false <;> simp
      · exact absurd h1 h
  · have hn' : ∀ u, u < v → sameV c v u = 0 := fun u hu => Classical.byContradiction fun he => hn u hu he
    refine ⟨v, Nat.le_refl _, .inl (repV_none hn'), hn', fun x hx vs hvs => ?_⟩
    rw [repV_none hn', litB_nat]

def swpL (c : Cir) (l : Int) : Int := xrb (repV c (l / 2).toNat) (l % 2)
theorem xrb_half (y b : Int) : xrb y b / 2 = y / 2 := by unfold xrb; omega
theorem swpL_le {c : Cir} {l : Int} (h : 0 ≤ l) : 0 ≤ swpL c l ∧ swpL c l / 2 ≤ l / 2 := by
  obtain ⟨u, hu, hr, -, -⟩ := repV_spec c (l / 2).toNat
  have e : swpL c l / 2 = u := by
    unfold swpL
    rw [xrb_half]
    rcases hr with hr | hr <;> rw [hr] <;> omega
  omega
theorem swpL_lit {c : Cir} {x : Nat} (hx : x < asgN c) {vs : List Bool} (hvs : vs = evalV c (x : Int) (-1) false) (l : Int) : litB vs (swpL c l) = litB vs l := by
  obtain ⟨u, -, -, -, h⟩ := repV_spec c (l / 2).toNat
  unfold swpL
  rw [litB_xrb (by omega), h x hx vs hvs]
  rfl

/-! A circuit under a map of literals that goes down. -/
theorem mapG_length (f : Int → Int) (gs : List Gt) : (mapG f gs).length = gs.length := by simp [mapG]
theorem mapG_get {f : Int → Int} {gs : List Gt} {k : Nat} {g : Gt} (h : gs[k]? = some g) : (mapG f gs)[k]? = some ⟨f g.a, f g.b⟩ := by simp [mapG, h]
theorem mapC_valid' {c : Cir} {f : Int → Int} (hf : ∀ l, 0 ≤ l → 0 ≤ f l ∧ f l / 2 ≤ l / 2) (hv : c.valid) : (c.mapC f).valid := by
  obtain ⟨q1, q2, q3, q4, q5⟩ := id hv.lim
  have hl : ∀ l v, litP l v → litP (f l) v := fun l v h => by
    have := hf l h.1
    unfold litP at *
    omega
  have eF : (c.mapC f).first = c.first := by unfold Cir.first Cir.mapC; simp
  have eV : (c.mapC f).vars = c.vars := by unfold Cir.vars Cir.mapC; simp [mapG_length]
  refine ⟨⟨q1, q2, by simpa [Cir.mapC] using q3, by simpa [Cir.mapC, mapG_length] using q4, by simpa [Cir.mapC] using q5⟩, ?_, fun x hx => ?_, fun x hx => ?_⟩
  · rw [eF]
    intro i hi
    have hi' : i < c.gates.length := by simpa [Cir.mapC, mapG_length] using hi
    have h := hv.gates i hi'
    have e : (c.mapC f).gates[i] = ⟨f (c.gates[i]).a, f (c.gates[i]).b⟩ := by simp [Cir.mapC, mapG]
    rw [e]
    exact ⟨hl _ _ h.1, hl _ _ h.2⟩
  · rw [eV]
    obtain ⟨l, h, rfl⟩ := List.mem_map.1 (show x ∈ c.next.map f from hx)
    exact hl _ _ (hv.next l h)
  · rw [eV]
    obtain ⟨l, h, rfl⟩ := List.mem_map.1 (show x ∈ c.outs.map f from hx)
    exact hl _ _ (hv.outs l h)
theorem mapG_vals {b : List Bool} {gs : List Gt} {F : Nat} (hF : b.length = F) (hg : gatesP F gs) {f : Int → Int} (hf : ∀ l, 0 ≤ l → 0 ≤ f l ∧ f l / 2 ≤ l / 2)
    (h : ∀ l, litP l (F + gs.length) → litB (vN b gs) (f l) = litB (vN b gs) l) : ∀ k, k ≤ gs.length → vN b (mapG f (gs.take k)) = vN b (gs.take k)
  | 0, _ => by simp [mapG]
  | k + 1, hk => by
    obtain ⟨g, hgk⟩ := get_of_lt (l := gs) (k := k) (by omega)
    have hp := gatesP_at hg hgk
    have hl : (gs.take k).length = k := by simp; omega
    have hrng : ∀ l, litP l (F + k) → litB (vN b (gs.take k)) l = litB (vN b gs) l := fun l h => by
      have e : vN b gs = vN b (gs.take k ++ ([g] ++ gs.drop (k + 1))) := by rw [← take_split hgk]
      rw [e]; exact (litB_app hF (by rw [hl]; exact h)).symm
    have hfl : ∀ l, litP l ((F : Int) + k) → litB (vN b (gs.take k)) (f l) = litB (vN b (gs.take k)) l := fun l hl => by
      have h1 := hf l hl.1
      rw [hrng l hl, hrng (f l) ⟨h1.1, by have := hl.2; omega⟩]
      exact h l ⟨hl.1, by have := hl.2; omega⟩
    rw [mapG_snoc hgk, vN_snoc, mapG_vals hF hg hf h k (by omega), show gs.take (k + 1) = gs.take k ++ [g] by rw [List.take_add_one, hgk]; rfl, vN_snoc, hfl _ hp.1, hfl _ hp.2]
theorem mapC_evalV {c : Cir} (hv : c.valid) {f : Int → Int} (hf : ∀ l, 0 ≤ l → 0 ≤ f l ∧ f l / 2 ≤ l / 2) {x : Int}
    (h : ∀ l, litP l c.vars → litB (evalV c x (-1) false) (f l) = litB (evalV c x (-1) false) l) : evalV (c.mapC f) x (-1) false = evalV c x (-1) false := by
  have h0 := hv.lim.1
  obtain ⟨F, hF⟩ : ∃ F : Nat, c.first = F := ⟨c.first.toNat, by unfold Cir.first; omega⟩
  have hb := asgV_Bs hv x
  rw [hF, Int.toNat_natCast] at hb
  have eV : c.vars = c.first + c.gates.length := rfl
  have ea : asgV (c.mapC f) x = asgV c x := by unfold asgV Cir.mapC; simp
  rw [evalV_vN] at h ⊢
  rw [evalV_vN, ea]
  have := mapG_vals hb.len (gatesP_nat hF hv) hf (fun l hl => h l (by rw [eV, hF]; exact hl)) c.gates.length (Nat.le_refl _)
  rw [List.take_length] at this
  exact this
theorem mapC_res {c : Cir} (hv : c.valid) {f : Int → Int} (hf : ∀ l, 0 ≤ l → 0 ≤ f l ∧ f l / 2 ≤ l / 2) {x : Int}
    (h : ∀ l, litP l c.vars → litB (evalV c x (-1) false) (f l) = litB (evalV c x (-1) false) l) : resV (c.mapC f) x (-1) false = resV c x (-1) false := by
  unfold resV
  rw [mapC_evalV hv hf h]
  show (c.next.map f ++ c.outs.map f).map _ = _
  rw [← List.map_append, List.map_map]
  apply List.map_congr_left
  intro l hl
  exact h l (by rcases List.mem_append.1 hl with h | h; exact hv.next l h; exact hv.outs l h)

/-- The swept circuit. -/
def swpM (o : Cir) : Cir := o.mapC (swpL o)
def sweepC (c : Cir) : Cir := optC (swpM (optC c))
def sweepR (c : Cir) : Cir := if c.validB then sweepC c else ⟨0, [], [], []⟩
theorem sweepR_no {c : Cir} (h : c.validB = false) : sweepR c = ⟨0, [], [], []⟩ := by unfold sweepR; rw [h]; rfl
theorem sweepR_yes {c : Cir} (h : c.validB = true) : sweepR c = sweepC c := by unfold sweepR; rw [h]; rfl
theorem swpM_valid {o : Cir} (hv : o.valid) : (swpM o).valid := mapC_valid' (fun _ h => swpL_le h) hv
theorem swpM_evalV {o : Cir} (hv : o.valid) {x : Nat} (hx : x < asgN o) : evalV (swpM o) (x : Int) (-1) false = evalV o (x : Int) (-1) false :=
  mapC_evalV hv (fun _ h => swpL_le h) (fun l _ => swpL_lit hx rfl l)
theorem asgN_buildC (sh : Bool) (c : Cir) : asgN (buildC sh c) = asgN c := by unfold asgN buildC; simp
theorem asgN_optC (c : Cir) : asgN (optC c) = asgN c := by unfold optC; rw [asgN_buildC, asgN_buildC]
theorem asgN_mapC (f : Int → Int) (c : Cir) : asgN (c.mapC f) = asgN c := by unfold asgN Cir.mapC; simp
theorem sweepC_valid {c : Cir} (hv : c.valid) : (sweepC c).valid := optC_valid (swpM_valid (optC_valid hv))
theorem sweepC_res {c : Cir} (hv : c.valid) {x : Nat} (hx : x < asgN c) : resV (sweepC c) (x : Int) (-1) false = resV c (x : Int) (-1) false := by
  unfold sweepC
  rw [optC_res (swpM_valid (optC_valid hv))]
  unfold swpM
  rw [mapC_res (optC_valid hv) (fun _ h => swpL_le h) (fun l _ => swpL_lit (by rw [asgN_optC]; exact hx) rfl l), optC_res hv]
theorem sweepR_len (c : Cir) : (sweepR c).next.length ≤ 3 ∧ (sweepR c).gates.length ≤ 14 ∧ (sweepR c).outs.length ≤ 3 ∧ 0 ≤ (sweepR c).inp ∧ (sweepR c).inp ≤ 4 := by
  cases hv : c.validB
  · rw [sweepR_no hv]; simp
  · rw [sweepR_yes hv]
    obtain ⟨q1, q2, q3, q4, q5⟩ := (sweepC_valid (c.validB_iff.1 hv)).lim
    exact ⟨q3, q4, q5, q1, q2⟩

end Go.Proofs.Ytindndcdpnpcmaa
