import Derived.Test.YtindndcdpnpcmaaA3
import Derived.Test.YtindndcdpnpcmaaA6
namespace Go.Proofs.Ytindndcdpnpcmaa
set_option linter.unusedVariables false
set_option linter.unusedSimpArgs false
open Go.RowKit

/-! The optimized circuit: what the reference builds. -/

def xrb (y b : Int) : Int := 2 * (y / 2) + (y + b) % 2
theorem bits_xrb (y : Int) (b : Int) (h0 : 0 ≤ y) (h1 : y ≤ 80) (hb : b = 0 ∨ b = 1) : bits .xor .i64 y b = xrb y b := by
  have e0 : ∀ q : Fin 81, bits .xor .i64 ((q.val : Nat) : Int) 0 = 2 * (((q.val : Nat) : Int) / 2) + (((q.val : Nat) : Int) + 0) % 2 := by decide +kernel
  have e1 : ∀ q : Fin 81, bits .xor .i64 ((q.val : Nat) : Int) 1 = 2 * (((q.val : Nat) : Int) / 2) + (((q.val : Nat) : Int) + 1) % 2 := by decide +kernel
  obtain ⟨q, rfl⟩ : ∃ q : Nat, y = q := ⟨y.toNat, by omega⟩
  rcases hb with rfl | rfl
  · exact e0 ⟨q, by omega⟩
  · exact e1 ⟨q, by omega⟩
theorem xrb_litP {y b v : Int} (h : litP y v) (hb : b = 0 ∨ b = 1) : litP (xrb y b) v := by
  unfold litP xrb at *; omega

/-- A literal under a map of the variables. -/
def mapB (m : List Int) (l : Int) : Int := xrb (m.getD (l / 2).toNat 0) (l % 2)
theorem mapB_eq {m : List Int} {l x : Int} {p : Nat} (hp : l / 2 = (p : Int)) (hx : m[p]? = some x) : mapB m l = xrb x (l % 2) := by
  unfold mapB; rw [hp, Int.toNat_natCast, List.getD_eq_getElem?_getD, hx]; rfl
theorem mapB_litP {m : List Int} {l v : Int} (hm : ∀ x ∈ m, litP x v) (h0 : 0 ≤ l) (h1 : l / 2 < m.length) : litP (mapB m l) v := by
  obtain ⟨p, hp⟩ : ∃ p : Nat, l / 2 = p := ⟨(l / 2).toNat, by omega⟩
  obtain ⟨x, hx⟩ := get_of_lt (l := m) (k := p) (by omega)
  rw [mapB_eq hp hx]
  exact xrb_litP (hm x (List.mem_of_getElem? hx)) (by omega)

/-- Where a gate stands. -/
def fndG : List Gt → Gt → Nat → Option Nat
  | [], _, _ => none
  | x :: xs, g, k => if x = g then some k else fndG xs g (k + 1)
theorem fndG_some {g : Gt} : ∀ {gs : List Gt} {k i : Nat}, gs[i]? = some g → (∀ j, j < i → gs[j]? ≠ some g) → fndG gs g k = some (k + i)
  | [], _, _, h, _ => by simp at h
  | x :: xs, k, 0, h, _ => by simp at h; subst h; simp [fndG]
  | x :: xs, k, i + 1, h, hn => by
    have h0 := hn 0 (by omega)
    simp at h0
    rw [fndG, if_neg h0, fndG_some (k := k + 1) (i := i) (by simpa using h) (fun j hj => by have := hn (j + 1) (by omega); simpa using this)]
    congr 1; omega
theorem fndG_none {g : Gt} : ∀ {gs : List Gt} {k : Nat}, (∀ j, j < gs.length → gs[j]? ≠ some g) → fndG gs g k = none
  | [], _, _ => rfl
  | x :: xs, k, hn => by
    have h0 := hn 0 (by simp)
    simp at h0
    rw [fndG, if_neg h0, fndG_none (k := k + 1) (fun j hj => by have := hn (j + 1) (by simp; omega); simpa using this)]
theorem fndG_at {g : Gt} : ∀ {gs : List Gt} {k i : Nat}, fndG gs g k = some i → k ≤ i ∧ gs[i - k]? = some g
  | [], _, _, h => by simp [fndG] at h
  | x :: xs, k, i, h => by
    unfold fndG at h
    by_cases e : x = g
    · rw [if_pos e] at h; cases h; simp [e]
    · rw [if_neg e] at h
      obtain ⟨h1, h2⟩ := fndG_at h
      refine ⟨by omega, ?_⟩
      rw [show i - k = (i - (k + 1)) + 1 by omega]
      simpa using h2

/-- The conjunction of two literals over gates, the smaller first. -/
def andK (F : Int) (gs : List Gt) (a b : Int) : List Gt × Int :=
  if a = 0 ∨ (a = b - 1 ∧ a % 2 = 0) then (gs, 0) else if a = 1 ∨ a = b then (gs, b) else
  match fndG gs ⟨a, b⟩ 0 with
  | some i => (gs, 2 * (F + i))
  | none => (gs ++ [⟨a, b⟩], 2 * (F + gs.length))
def andL (F : Int) (gs : List Gt) (a b : Int) : List Gt × Int := if b < a then andK F gs b a else andK F gs a b
theorem andK_zero {F : Int} {gs : List Gt} {a b : Int} (h : a = 0 ∨ (a = b - 1 ∧ a % 2 = 0)) : andK F gs a b = (gs, 0) := by unfold andK; rw [if_pos h]
theorem andK_same {F : Int} {gs : List Gt} {a b : Int} (h0 : ¬ (a = 0 ∨ (a = b - 1 ∧ a % 2 = 0))) (h : a = 1 ∨ a = b) : andK F gs a b = (gs, b) := by unfold andK; rw [if_neg h0, if_pos h]
theorem andK_old {F : Int} {gs : List Gt} {a b : Int} {i : Nat} (h0 : ¬ (a = 0 ∨ (a = b - 1 ∧ a % 2 = 0))) (h : ¬ (a = 1 ∨ a = b)) (hi : fndG gs ⟨a, b⟩ 0 = some i) : andK F gs a b = (gs, 2 * (F + i)) := by
  unfold andK; rw [if_neg h0, if_neg h, hi]
theorem andK_new {F : Int} {gs : List Gt} {a b : Int} (h0 : ¬ (a = 0 ∨ (a = b - 1 ∧ a % 2 = 0))) (h : ¬ (a = 1 ∨ a = b)) (hi : fndG gs ⟨a, b⟩ 0 = none) : andK F gs a b = (gs ++ [⟨a, b⟩], 2 * (F + gs.length)) := by
  unfold andK; rw [if_neg h0, if_neg h, hi]
/-- What the conjunction leaves: gates in order, a literal of theirs. -/
structure AndOk (F : Int) (gs : List Gt) (r : List Gt × Int) : Prop where
  gates : gatesP F r.1
  lit : litP r.2 (F + r.1.length)
  len : gs.length ≤ r.1.length ∧ r.1.length ≤ gs.length + 1
theorem gatesP_app {F : Int} {gs : List Gt} {g : Gt} (h : gatesP F gs) (h1 : litP g.a (F + gs.length)) (h2 : litP g.b (F + gs.length)) : gatesP F (gs ++ [g]) := by
  intro i hi
  by_cases e : i < gs.length
  · rw [List.getElem_append_left e]; exact h i e
  · simp at hi
    obtain rfl : i = gs.length := by omega
    simpa using ⟨h1, h2⟩
theorem andK_ok {F : Int} {gs : List Gt} {a b : Int} (hF : 1 ≤ F) (hg : gatesP F gs) (ha : litP a (F + gs.length)) (hb : litP b (F + gs.length)) : AndOk F gs (andK F gs a b) := by
  by_cases h0 : a = 0 ∨ (a = b - 1 ∧ a % 2 = 0)
  · rw [andK_zero h0]; exact ⟨hg, ⟨by simp, by show (0 : Int) < _; omega⟩, by simp, by simp⟩
  · by_cases h1 : a = 1 ∨ a = b
    · rw [andK_same h0 h1]; exact ⟨hg, hb, by simp, by simp⟩
    · cases hf : fndG gs ⟨a, b⟩ 0 with
      | some i =>
        rw [andK_old h0 h1 hf]
        have := (List.getElem?_eq_some_iff.1 (fndG_at hf).2).1
        exact ⟨hg, ⟨by show (0 : Int) ≤ 2 * (F + i); omega, by show 2 * (F + (i : Int)) < 2 * (F + gs.length); omega⟩, by simp, by simp⟩
      | none =>
        rw [andK_new h0 h1 hf]
        refine ⟨gatesP_app hg ha hb, ⟨by show (0 : Int) ≤ 2 * (F + gs.length); omega, ?_⟩, by simp, by simp⟩
        show 2 * (F + (gs.length : Int)) < 2 * (F + ((gs ++ [(⟨a, b⟩ : Gt)]).length : Int))
        simp; omega
theorem andL_ok {F : Int} {gs : List Gt} {a b : Int} (hF : 1 ≤ F) (hg : gatesP F gs) (ha : litP a (F + gs.length)) (hb : litP b (F + gs.length)) : AndOk F gs (andL F gs a b) := by
  unfold andL
  split
  · exact andK_ok hF hg hb ha
  · exact andK_ok hF hg ha hb

/-- The gates that something depends on. -/
def markU (F : Int) (u : List Bool) (l : Int) : List Bool := if F ≤ l / 2 then u.set (l / 2 - F).toNat true else u
theorem markU_length (F : Int) (u : List Bool) (l : Int) : (markU F u l).length = u.length := by unfold markU; split <;> simp
theorem markU_keep {F : Int} {u : List Bool} {l : Int} {k : Nat} (h : u[k]? = some true) : (markU F u l)[k]? = some true := by
  unfold markU
  split
  · have hl := (List.getElem?_eq_some_iff.1 h).1
    by_cases e : (l / 2 - F).toNat = k
    · subst e; simp [hl]
    · rw [List.getElem?_set_ne e]; exact h
  · exact h
def used0 (F : Int) (n : Nat) (roots : List Int) : List Bool := roots.foldl (markU F) (List.replicate n false)
theorem used0_length (F : Int) (n : Nat) (roots : List Int) : (used0 F n roots).length = n := by
  have : ∀ (u : List Bool), (roots.foldl (markU F) u).length = u.length := by
    induction roots with
    | nil => intro u; rfl
    | cons r rs ih => intro u; simp only [List.foldl_cons]; rw [ih, markU_length]
  unfold used0; rw [this]; simp
theorem used0_snoc {F : Int} {n : Nat} {roots : List Int} {k : Nat} {l : Int} (h : roots[k]? = some l) : used0 F n (roots.take (k + 1)) = markU F (used0 F n (roots.take k)) l := by
  unfold used0; rw [List.take_add_one, h]; simp
def usedS (F : Int) (gs : List Gt) (k : Nat) (u : List Bool) : List Bool :=
  match gs[k]? with
  | some g => if u.getD k false then markU F (markU F u g.a) g.b else u
  | none => u
theorem usedS_length (F : Int) (gs : List Gt) (k : Nat) (u : List Bool) : (usedS F gs k u).length = u.length := by
  unfold usedS
  split
  · split
    · rw [markU_length, markU_length]
    · rfl
  · rfl
/-- From gate k - 1 down. -/
def usedK (F : Int) (gs : List Gt) : Nat → List Bool → List Bool
  | 0, u => u
  | k + 1, u => usedK F gs k (usedS F gs k u)
theorem usedK_length (F : Int) (gs : List Gt) : ∀ (k : Nat) (u : List Bool), (usedK F gs k u).length = u.length
  | 0, _ => rfl
  | k + 1, u => by unfold usedK; rw [usedK_length F gs k, usedS_length]
def usedL (c : Cir) : List Bool := usedK c.first c.gates c.gates.length (used0 c.first c.gates.length (c.outs ++ c.next))
theorem usedL_length (c : Cir) : (usedL c).length = c.gates.length := by unfold usedL; rw [usedK_length, used0_length]

/-- A circuit rebuilt gate by gate. -/
def evE (k : Nat) : List Int := (List.range k).map fun (i : Nat) => 2 * (i : Int)
theorem evE_length (k : Nat) : (evE k).length = k := by simp [evE]
theorem evE_succ (k : Nat) : evE (k + 1) = evE k ++ [2 * (k : Int)] := by simp [evE, List.range_succ]
def bStep (F : Int) (sh : Bool) (u : List Bool) (st : List Gt × List Int) (g : Gt) (i : Nat) : List Gt × List Int :=
  if u.getD i false then
    if sh then ((andL F st.1 (mapB st.2 g.a) (mapB st.2 g.b)).1, st.2 ++ [(andL F st.1 (mapB st.2 g.a) (mapB st.2 g.b)).2])
    else (st.1 ++ [⟨mapB st.2 g.a, mapB st.2 g.b⟩], st.2 ++ [2 * (F + st.1.length)])
  else (st.1, st.2 ++ [0])
def bldP (c : Cir) (sh : Bool) : Nat → List Gt × List Int
  | 0 => ([], evE c.first.toNat)
  | k + 1 => match c.gates[k]? with
    | some g => bStep c.first sh (usedL c) (bldP c sh k) g k
    | none => bldP c sh k
theorem bldP_succ {c : Cir} {sh : Bool} {k : Nat} {g : Gt} (h : c.gates[k]? = some g) : bldP c sh (k + 1) = bStep c.first sh (usedL c) (bldP c sh k) g k := by
  show (match c.gates[k]? with | some g => _ | none => _) = _
  rw [h]
def buildC (sh : Bool) (c : Cir) : Cir := ⟨c.inp, c.next.map (mapB (bldP c sh c.gates.length).2), (bldP c sh c.gates.length).1, c.outs.map (mapB (bldP c sh c.gates.length).2)⟩
def optC (c : Cir) : Cir := buildC false (buildC true c)
def optR (c : Cir) : Cir := if c.validB then optC c else ⟨0, [], [], []⟩
theorem optR_no {c : Cir} (h : c.validB = false) : optR c = ⟨0, [], [], []⟩ := by unfold optR; rw [h]; rfl
theorem optR_yes {c : Cir} (h : c.validB = true) : optR c = optC c := by unfold optR; rw [h]; rfl

/-- What stands after k gates. -/
structure BldOk (F : Int) (k : Nat) (st : List Gt × List Int) : Prop where
  gates : gatesP F st.1
  glen : st.1.length ≤ k
  mlen : (st.2.length : Int) = F + k
  lits : ∀ x ∈ st.2, litP x (F + st.1.length)
theorem BldOk.step {F : Int} {k : Nat} {st : List Gt × List Int} {g : Gt} (h : BldOk F k st) (hF : 1 ≤ F) (ha : litP g.a (F + k)) (hb : litP g.b (F + k)) (sh : Bool) (u : List Bool) : BldOk F (k + 1) (bStep F sh u st g k) := by
  have ma : litP (mapB st.2 g.a) (F + st.1.length) := mapB_litP h.lits ha.1 (by have := h.mlen; unfold litP at ha; omega)
  have mb : litP (mapB st.2 g.b) (F + st.1.length) := mapB_litP h.lits hb.1 (by have := h.mlen; unfold litP at hb; omega)
  have hm := h.mlen
  have hl := h.glen
  unfold bStep
  by_cases hu : u.getD k false = true
  · rw [if_pos hu]
    cases sh with
    | true =>
      rw [if_pos rfl]
      have ho := andL_ok hF h.gates ma mb
      refine ⟨ho.gates, by have := ho.len.2; show (andL _ _ _ _).1.length ≤ _; omega, by simp; omega, fun x hx => ?_⟩
      rcases List.mem_append.1 hx with hx | hx
      · have := h.lits x hx
        have h3 := ho.len.1
        exact ⟨this.1, by have := this.2; show x < 2 * (F + ((andL F st.1 (mapB st.2 g.a) (mapB st.2 g.b)).1.length : Int)); omega⟩
      · simp at hx; subst hx; exact ho.lit
    | false =>
      rw [if_neg (by simp)]
      refine ⟨gatesP_app h.gates ma mb, by simp; omega, by simp; omega, fun x hx => ?_⟩
      rcases List.mem_append.1 hx with hx | hx
      · have := h.lits x hx
        exact ⟨this.1, by have := this.2; simp; omega⟩
      · simp at hx; subst hx; exact ⟨by omega, by simp; omega⟩
  · rw [if_neg hu]
    refine ⟨h.gates, by show st.1.length ≤ k + 1; omega, by simp; omega, fun x hx => ?_⟩
    rcases List.mem_append.1 hx with hx | hx
    · exact h.lits x hx
    · simp at hx; subst hx; exact ⟨by omega, by show (0 : Int) < 2 * (F + st.1.length); omega⟩
theorem bldP_ok {c : Cir} (hv : c.valid) (sh : Bool) : ∀ k, k ≤ c.gates.length → BldOk c.first k (bldP c sh k)
  | 0, _ => by
    have := hv.lim.1
    have eF : c.first = 1 + c.inp + c.next.length := rfl
    refine ⟨fun i hi => by simp [bldP] at hi, by simp [bldP], by show ((evE c.first.toNat).length : Int) = _; rw [evE_length]; omega, fun x hx => ?_⟩
    obtain ⟨i, hi, rfl⟩ := List.mem_map.1 (show x ∈ (List.range c.first.toNat).map fun (i : Nat) => 2 * (i : Int) from hx)
    simp at hi
    exact ⟨by omega, by simp [bldP]; omega⟩
  | k + 1, hk => by
    obtain ⟨g, hg⟩ := get_of_lt (l := c.gates) (k := k) (by omega)
    have hp := gatesP_at hv.gates hg
    have := hv.lim.1
    have eF : c.first = 1 + c.inp + c.next.length := rfl
    rw [bldP_succ hg]
    exact (bldP_ok hv sh k (by omega)).step (by omega) hp.1 hp.2 sh _
theorem buildC_valid {c : Cir} (hv : c.valid) (sh : Bool) : (buildC sh c).valid := by
  have ho := bldP_ok hv sh c.gates.length (Nat.le_refl _)
  obtain ⟨q1, q2, q3, q4, q5⟩ := id hv.lim
  have eF : (buildC sh c).first = c.first := by unfold Cir.first buildC; simp
  have eF0 : c.first = 1 + c.inp + c.next.length := rfl
  have eV : (buildC sh c).vars = c.first + ((bldP c sh c.gates.length).1.length : Int) := by unfold Cir.vars Cir.first buildC; simp
  have eV0 : c.vars = c.first + c.gates.length := rfl
  have hm : ∀ l, litP l c.vars → litP (mapB (bldP c sh c.gates.length).2 l) (buildC sh c).vars := fun l hl => by
    rw [eV]
    exact mapB_litP ho.lits hl.1 (by have := ho.mlen; unfold litP at hl; omega)
  refine ⟨⟨q1, q2, by simpa [buildC] using q3, by have := ho.glen; show (bldP c sh c.gates.length).1.length ≤ 14; omega, by simpa [buildC] using q5⟩, by rw [eF]; exact ho.gates, fun x hx => ?_, fun x hx => ?_⟩
  · obtain ⟨l, hl, rfl⟩ := List.mem_map.1 (show x ∈ c.next.map (mapB (bldP c sh c.gates.length).2) from hx)
    exact hm l (hv.next l hl)
  · obtain ⟨l, hl, rfl⟩ := List.mem_map.1 (show x ∈ c.outs.map (mapB (bldP c sh c.gates.length).2) from hx)
    exact hm l (hv.outs l hl)
theorem optC_valid {c : Cir} (hv : c.valid) : (optC c).valid := buildC_valid (buildC_valid hv true) false
theorem optR_len (c : Cir) : (optR c).next.length ≤ 3 ∧ (optR c).gates.length ≤ 14 ∧ (optR c).outs.length ≤ 3 ∧ 0 ≤ (optR c).inp ∧ (optR c).inp ≤ 4 := by
  cases hv : c.validB
  · rw [optR_no hv]; simp
  · rw [optR_yes hv]
    obtain ⟨q1, q2, q3, q4, q5⟩ := (optC_valid (c.validB_iff.1 hv)).lim
    exact ⟨q3, q4, q5, q1, q2⟩

end Go.Proofs.Ytindndcdpnpcmaa
