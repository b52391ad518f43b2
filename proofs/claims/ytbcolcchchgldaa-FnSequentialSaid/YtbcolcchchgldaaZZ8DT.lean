import Derived.Test.YtbcolcchchgldaaZZ8DM
import Derived.Test.YtbcolcchchgldaaZZ8OH
import Derived.Test.YtbcolcchchgldaaZZ8DB
import Derived.Test.YtbcolcchchgldaaZZ8Y0
namespace Go.Proofs.Ytbcolcchchgldaa
set_option linter.unusedVariables false
set_option linter.unusedSimpArgs false
open Go.RowKit

/-! Part of the proof of one law. -/

/-- What a variable depends on at once. -/
def edgeV (c : Cir) (v u : Nat) : Prop :=
  (∃ (k : Nat) (g : Gt), c.gates[k]? = some g ∧ v = c.first.toNat + k ∧ (u = (g.a / 2).toNat ∨ u = (g.b / 2).toNat)) ∨
  (∃ (k : Nat) (l : Int), c.next[k]? = some l ∧ v = 1 + c.inp.toNat + k ∧ u = (l / 2).toNat)

def closV (c : Cir) (S : Nat → Prop) : Prop := ∀ v u, S v → edgeV c v u → S u

/-- The least set that holds the outputs' variables and what they depend on. -/
structure LeastV (c : Cir) (S : Nat → Prop) : Prop where
  root : ∀ l ∈ c.outs, S (l / 2).toNat
  clos : closV c S
  least : ∀ T : Nat → Prop, (∀ l ∈ c.outs, T (l / 2).toNat) → closV c T → ∀ v, S v → T v

theorem LeastV.iff {c : Cir} {S T : Nat → Prop} (h : LeastV c S) (h2 : LeastV c T) (v : Nat) : S v ↔ T v :=
  ⟨h.least T h2.root h2.clos v, h2.least S h.root h.clos v⟩

def onB (u : List Bool) (v : Nat) : Prop := u.getD v false = true

theorem onB_ext {u t : List Bool} (hl : u.length = t.length) (h : ∀ v, onB u v ↔ onB t v) : u = t := by
  apply List.ext_getElem hl
  intro i h1 h2
  have := h i
  unfold onB at this
  rw [List.getD_eq_getElem?_getD, List.getD_eq_getElem?_getD, List.getElem?_eq_getElem h1, List.getElem?_eq_getElem h2] at this
  simp only [Option.getD_some] at this
  exact Bool.eq_iff_iff.2 this

theorem onB_set {u : List Bool} {p v : Nat} (hp : p < u.length) : onB (u.set p true) v ↔ v = p ∨ onB u v := by
  unfold onB
  simp only [List.getD_eq_getElem?_getD]
  by_cases e : v = p
  · subst e
    rw [List.getElem?_set_self hp]; simp
  · rw [List.getElem?_set_ne (by omega)]; simp [e]

theorem onB_set1 {u : List Bool} {p v : Nat} (h : onB (u.set p true) v) : v = p ∨ onB u v := by
  by_cases hp : p < u.length
  · exact (onB_set hp).1 h
  · rw [List.set_eq_of_length_le (by omega)] at h
    exact Or.inr h

theorem onB_keep {u : List Bool} {p v : Nat} (h : onB u v) : onB (u.set p true) v := by
  by_cases hp : p < u.length
  · exact (onB_set hp).2 (Or.inr h)
  · rw [List.set_eq_of_length_le (by omega)]; exact h

def markW (u : List Bool) (l : Int) : List Bool := u.set (l / 2).toNat true

theorem markW_length (u : List Bool) (l : Int) : (markW u l).length = u.length := by simp [markW]

def latW (c : Cir) (u : List Bool) : Nat → List Bool
  | 0 => u
  | k + 1 => match c.next[k]? with
    | some l => if (latW c u k).getD (1 + c.inp.toNat + k) false then markW (latW c u k) l else latW c u k
    | none => latW c u k

theorem latW_some {c : Cir} {u : List Bool} {k : Nat} {l : Int} (h : c.next[k]? = some l) : latW c u (k + 1) = if (latW c u k).getD (1 + c.inp.toNat + k) false then markW (latW c u k) l else latW c u k := by
  conv => lhs; unfold latW
  rw [h]

/-- Gates from the last to the first: gatW c k u has walked those below k. -/
def gatW (c : Cir) : Nat → List Bool → List Bool
  | 0, u => u
  | k + 1, u => match c.gates[k]? with
    | some g => gatW c k (if u.getD (c.first.toNat + k) false then markW (markW u g.a) g.b else u)
    | none => gatW c k u

theorem gatW_some {c : Cir} {u : List Bool} {k : Nat} {g : Gt} (h : c.gates[k]? = some g) : gatW c (k + 1) u = gatW c k (if u.getD (c.first.toNat + k) false then markW (markW u g.a) g.b else u) := by
  conv => lhs; unfold gatW
  rw [h]

def rndW (c : Cir) (u : List Bool) : List Bool := gatW c c.gates.length (latW c u c.next.length)

def rndsW (c : Cir) : Nat → List Bool → List Bool
  | 0, u => u
  | n + 1, u => rndW c (rndsW c n u)

def outW (c : Cir) (k : Nat) : List Bool := (c.outs.take k).foldl markW (List.replicate c.vars.toNat false)

theorem outW_snoc {c : Cir} {k : Nat} {l : Int} (h : c.outs[k]? = some l) : outW c (k + 1) = markW (outW c k) l := by
  unfold outW; rw [List.take_add_one, h]; simp

def usedW (c : Cir) : List Bool := rndsW c (c.next.length + 1) (outW c c.outs.length)

theorem foldl_markW_length (xs : List Int) : ∀ u : List Bool, (xs.foldl markW u).length = u.length := by
  induction xs with
  | nil => intro u; rfl
  | cons x xs ih => intro u; show (xs.foldl markW (markW u x)).length = _; rw [ih, markW_length]

theorem outW_length (c : Cir) (k : Nat) : (outW c k).length = c.vars.toNat := by unfold outW; rw [foldl_markW_length]; simp

theorem latW_length (c : Cir) (u : List Bool) : ∀ k, (latW c u k).length = u.length
  | 0 => rfl
  | k + 1 => by
    unfold latW
    split
    · split
      · rw [markW_length, latW_length]
      · exact latW_length c u k
    · exact latW_length c u k

theorem gatW_length (c : Cir) : ∀ (k : Nat) (u : List Bool), (gatW c k u).length = u.length
  | 0, _ => rfl
  | k + 1, u => by
    unfold gatW
    split
    · rw [gatW_length]; split
      · rw [markW_length, markW_length]
      · rfl
    · exact gatW_length c k u

theorem rndsW_length (c : Cir) : ∀ (n : Nat) (u : List Bool), (rndsW c n u).length = u.length
  | 0, _ => rfl
  | n + 1, u => by show (rndW c (rndsW c n u)).length = _; unfold rndW; rw [gatW_length, latW_length, rndsW_length]

theorem usedW_length (c : Cir) : (usedW c).length = c.vars.toNat := by unfold usedW; rw [rndsW_length, outW_length]

/-- A step only adds, and only what a closed set holds. -/
theorem latW_keep {c : Cir} {u : List Bool} {v : Nat} (h : onB u v) : ∀ k, onB (latW c u k) v
  | 0 => h
  | k + 1 => by
    unfold latW
    split
    · split
      · exact onB_keep (latW_keep h k)
      · exact latW_keep h k
    · exact latW_keep h k

theorem gatW_keep {c : Cir} {v : Nat} : ∀ (k : Nat) {u : List Bool}, onB u v → onB (gatW c k u) v
  | 0, _, h => h
  | k + 1, u, h => by
    unfold gatW
    split
    · apply gatW_keep k
      split
      · exact onB_keep (onB_keep h)
      · exact h
    · exact gatW_keep k h

theorem latW_in {c : Cir} {T : Nat → Prop} (hT : closV c T) {u : List Bool} (hu : ∀ v, onB u v → T v) : ∀ k, ∀ v, onB (latW c u k) v → T v
  | 0 => hu
  | k + 1 => by
    intro v h
    unfold latW at h
    split at h
    · next l hl =>
      split at h
      · next hon =>
        rcases onB_set1 h with e | h
        · exact hT _ _ (latW_in hT hu k _ hon) (Or.inr ⟨k, l, hl, rfl, e⟩)
        · exact latW_in hT hu k v h
      · exact latW_in hT hu k v h
    · exact latW_in hT hu k v h

theorem gatW_in {c : Cir} {T : Nat → Prop} (hT : closV c T) : ∀ (k : Nat) {u : List Bool}, (∀ v, onB u v → T v) → ∀ v, onB (gatW c k u) v → T v
  | 0, _, hu => hu
  | k + 1, u, hu => by
    intro v h
    unfold gatW at h
    split at h
    · next g hg =>
      refine gatW_in hT k ?_ v h
      split
      · next hon =>
        intro w hw
        rcases onB_set1 hw with e | hw
        · exact hT _ _ (hu _ hon) (Or.inl ⟨k, g, hg, rfl, Or.inr e⟩)
        · rcases onB_set1 hw with e | hw
          · exact hT _ _ (hu _ hon) (Or.inl ⟨k, g, hg, rfl, Or.inl e⟩)
          · exact hu w hw
      · exact hu
    · exact gatW_in hT k hu v h

theorem foldl_markW_on : ∀ (xs : List Int) (u : List Bool) (v : Nat), onB (xs.foldl markW u) v → onB u v ∨ ∃ l ∈ xs, v = (l / 2).toNat
  | [], _, _, h => Or.inl h
  | x :: xs, u, v, h => by
    rcases foldl_markW_on xs (markW u x) v h with h | ⟨l, hl, e⟩
    · rcases onB_set1 h with e | h
      · exact Or.inr ⟨x, List.mem_cons_self, e⟩
      · exact Or.inl h
    · exact Or.inr ⟨l, List.mem_cons_of_mem _ hl, e⟩

theorem foldl_markW_keep : ∀ (xs : List Int) (u : List Bool) (v : Nat), onB u v → onB (xs.foldl markW u) v
  | [], _, _, h => h
  | x :: xs, u, v, h => foldl_markW_keep xs (markW u x) v (onB_keep h)

theorem foldl_markW_hit : ∀ (xs : List Int) (u : List Bool) (l : Int), l ∈ xs → (l / 2).toNat < u.length → onB (xs.foldl markW u) (l / 2).toNat
  | [], _, _, h, _ => by simp at h
  | x :: xs, u, l, h, hl => by
    rcases List.mem_cons.1 h with rfl | h
    · exact foldl_markW_keep xs _ _ ((onB_set hl).2 (Or.inl rfl))
    · exact foldl_markW_hit xs _ l h (by rw [markW_length]; exact hl)

theorem rep_off (n v : Nat) : ¬ onB (List.replicate n false) v := by unfold onB; rw [getD_rep]; simp

/-- After its pass a set is closed under gates. -/
theorem gatW_off {c : Cir} (hv : c.valid) {F : Nat} (hF : c.first = F) : ∀ (k : Nat) {u : List Bool} {v : Nat}, F + k ≤ v → k ≤ c.gates.length → (onB (gatW c k u) v ↔ onB u v)
  | 0, _, _, _, _ => Iff.rfl
  | k + 1, u, v, hle, hk => by
    obtain ⟨g, hg⟩ := get_of_lt (l := c.gates) (k := k) (by omega)
    have hp := gatesP_at hv.gates hg
    rw [hF] at hp
    have h1 := litP_lt hp.1
    have h2 := litP_lt hp.2
    rw [gatW_some hg, gatW_off hv hF k (by omega) (by omega)]
    split
    · constructor
      · intro h
        rcases onB_set1 h with e | h
        · omega
        · rcases onB_set1 h with e | h
          · omega
          · exact h
      · intro h; exact onB_keep (onB_keep h)
    · exact Iff.rfl

theorem gatW_clos {c : Cir} (hv : c.valid) {F : Nat} (hF : c.first = F) : ∀ (k : Nat) {u : List Bool}, k ≤ c.gates.length → u.length = F + c.gates.length → ∀ (j : Nat) (g : Gt), j < k → c.gates[j]? = some g → onB (gatW c k u) (F + j) →
    onB (gatW c k u) (g.a / 2).toNat ∧ onB (gatW c k u) (g.b / 2).toNat
  | 0, _, _, _, _, _, hj, _, _ => by omega
  | k + 1, u, hk, hl, j, g, hj, hg, hon => by
    obtain ⟨g', hg'⟩ := get_of_lt (l := c.gates) (k := k) (by omega)
    have hp := gatesP_at hv.gates hg'
    rw [hF] at hp
    have h1 := litP_lt hp.1
    have h2 := litP_lt hp.2
    rw [gatW_some hg', hF, Int.toNat_natCast] at hon ⊢
    by_cases e : j = k
    · subst e
      rw [hg] at hg'
      cases hg'
      have hu : onB u (F + j) := by
        rw [gatW_off hv hF j (Nat.le_refl _) (by omega)] at hon
        split at hon
        · next h => exact h
        · exact hon
      have hu' : u.getD (F + j) false = true := hu
      rw [if_pos hu']
      exact ⟨gatW_keep j (onB_keep ((onB_set (by omega)).2 (Or.inl rfl))), gatW_keep j ((onB_set (by rw [markW_length]; omega)).2 (Or.inl rfl))⟩
    · exact gatW_clos hv hF k (by omega) (by split <;> simp [markW_length, hl]) j g (by omega) hg hon

theorem latW_hit {c : Cir} {u : List Bool} (hv : c.valid) {ni : Nat} (hi : c.inp = ni) (hl : u.length = 1 + ni + c.next.length + c.gates.length) : ∀ (k j : Nat) (l : Int), j < k → c.next[j]? = some l → onB u (1 + ni + j) → onB (latW c u k) (l / 2).toNat
  | 0, _, _, h, _, _ => by omega
  | k + 1, j, l, hj, hg, hon => by
    by_cases e : j = k
    · subst e
      rw [latW_some hg, hi, Int.toNat_natCast]
      have h1 : (latW c u j).getD (1 + ni + j) false = true := latW_keep hon j
      rw [if_pos h1]
      have h2 := hv.next l (List.mem_of_getElem? hg)
      unfold litP Cir.vars at h2
      exact (onB_set (by rw [latW_length]; omega)).2 (Or.inl rfl)
    · have := latW_hit hv hi hl k j l (by omega) hg hon
      unfold latW
      split
      · split
        · exact onB_keep this
        · exact this
      · exact this

/-- How many latches are in a set. -/
def cntW (c : Cir) (u : List Bool) : Nat := ((List.range c.next.length).filter fun (k : Nat) => u.getD (1 + c.inp.toNat + k) false).length

theorem cntW_le (c : Cir) (u : List Bool) : cntW c u ≤ c.next.length := by
  have := List.length_filter_le (fun (k : Nat) => u.getD (1 + c.inp.toNat + k) false) (List.range c.next.length)
  simpa [cntW] using this

theorem rndW_keep {c : Cir} {u : List Bool} {v : Nat} (h : onB u v) : onB (rndW c u) v := gatW_keep _ (latW_keep h _)

/-- A round that adds no latch leaves a closed set. -/
theorem rndW_clos {c : Cir} (hv : c.valid) {u : List Bool} (hl : u.length = c.vars.toNat) (h : cntW c (rndW c u) ≤ cntW c u) : closV c (onB (rndW c u)) := by
  obtain ⟨q1, q2, q3, q4, q5⟩ := hv.lim
  obtain ⟨ni, hi⟩ : ∃ ni : Nat, c.inp = ni := ⟨c.inp.toNat, by omega⟩
  obtain ⟨F, hF⟩ : ∃ F : Nat, c.first = F := ⟨c.first.toNat, by unfold Cir.first; omega⟩
  have hl2 : u.length = 1 + ni + c.next.length + c.gates.length := by rw [hl]; unfold Cir.vars; omega
  have hFn : F = 1 + ni + c.next.length := by unfold Cir.first at hF; omega
  rintro v w hon (⟨k, g, hg, e, hw⟩ | ⟨k, l, hg, e, hw⟩)
  · rw [hF, Int.toNat_natCast] at e
    subst e
    have := gatW_clos hv hF c.gates.length (u := latW c u c.next.length) (Nat.le_refl _) (by rw [latW_length]; omega) k g (List.getElem?_eq_some_iff.1 hg).1 hg hon
    rcases hw with e | e
    · rw [e]; exact this.1
    · rw [e]; exact this.2
  · have hk := (List.getElem?_eq_some_iff.1 hg).1
    have hu : onB u v := by
      rw [e] at hon ⊢
      exact filter_mono_eq (List.range c.next.length) (p := fun (k : Nat) => u.getD (1 + c.inp.toNat + k) false) (q := fun (k : Nat) => (rndW c u).getD (1 + c.inp.toNat + k) false) (fun x _ hx => rndW_keep hx) h k (List.mem_range.2 hk) hon
    rw [hw]
    refine gatW_keep _ (latW_hit hv hi hl2 c.next.length k l hk hg ?_)
    rw [e, hi, Int.toNat_natCast] at hu
    exact hu

/-- A closed set stays as it is. -/
theorem latW_same {c : Cir} {u : List Bool} (hc : closV c (onB u)) : ∀ k, latW c u k = u := fun k =>
  onB_ext (latW_length c u k) fun v => ⟨latW_in hc (fun _ h => h) k v, fun h => latW_keep h k⟩

theorem rndW_same {c : Cir} {u : List Bool} (hc : closV c (onB u)) : rndW c u = u := by
  unfold rndW
  rw [latW_same hc]
  exact onB_ext (gatW_length c _ u) fun v => ⟨gatW_in hc _ (fun _ h => h) v, gatW_keep _⟩

theorem rndsW_clos {c : Cir} (hv : c.valid) {u : List Bool} (hl : u.length = c.vars.toNat) : ∀ n, closV c (onB (rndsW c n u)) ∧ 0 < n ∨ n ≤ cntW c (rndsW c n u)
  | 0 => Or.inr (Nat.zero_le _)
  | n + 1 => by
    show closV c (onB (rndW c (rndsW c n u))) ∧ _ ∨ n + 1 ≤ cntW c (rndW c (rndsW c n u))
    rcases rndsW_clos hv hl n with ⟨h, -⟩ | h
    · left; rw [rndW_same h]; exact ⟨h, by omega⟩
    · by_cases e : cntW c (rndW c (rndsW c n u)) ≤ cntW c (rndsW c n u)
      · exact Or.inl ⟨rndW_clos hv (by rw [rndsW_length]; exact hl) e, by omega⟩
      · right; omega

theorem rndsW_in {c : Cir} {T : Nat → Prop} (hT : closV c T) {u : List Bool} (hu : ∀ v, onB u v → T v) : ∀ n, ∀ v, onB (rndsW c n u) v → T v
  | 0 => hu
  | n + 1 => gatW_in hT _ (latW_in hT (rndsW_in hT hu n) _)

theorem rndsW_keep {c : Cir} {u : List Bool} {v : Nat} (h : onB u v) : ∀ n, onB (rndsW c n u) v
  | 0 => h
  | n + 1 => rndW_keep (rndsW_keep h n)

theorem usedW_least {c : Cir} (hv : c.valid) : LeastV c (onB (usedW c)) := by
  have hl := outW_length c c.outs.length
  have hvr : c.outs.take c.outs.length = c.outs := List.take_length
  refine ⟨fun l h => ?_, ?_, fun T hr hT v h => ?_⟩
  · refine rndsW_keep ?_ _
    unfold outW
    rw [hvr]
    have := hv.outs l h
    unfold litP at this
    exact foldl_markW_hit _ _ l h (by simp; omega)
  · rcases rndsW_clos hv hl (c.next.length + 1) with ⟨h, -⟩ | h
    · exact h
    · have := cntW_le c (rndsW c (c.next.length + 1) (outW c c.outs.length))
      omega
  · refine rndsW_in hT (fun v h => ?_) _ v h
    unfold outW at h
    rw [hvr] at h
    rcases foldl_markW_on _ _ _ h with h | ⟨l, hl, e⟩
    · exact absurd h (rep_off _ _)
    · rw [e]; exact hr l hl

/-- The program's search finds the same set. -/
theorem least_eq {c : Cir} (hv : c.valid) {u : List Bool} (hl : u.length = c.vars.toNat) (h : LeastV c (onB u)) : u = usedW c :=
  onB_ext (by rw [hl, usedW_length]) fun v => h.iff (usedW_least hv) v

/-! The circuit without unused latches. -/

/-- How many of the first k latches are kept. -/
def kpW (c : Cir) (k : Nat) : Nat := ((List.range k).filter fun (j : Nat) => (usedW c).getD (1 + c.inp.toNat + j) false).length

theorem kpW_succ (c : Cir) (k : Nat) : kpW c (k + 1) = kpW c k + if (usedW c).getD (1 + c.inp.toNat + k) false then 1 else 0 := by
  unfold kpW
  rw [List.range_succ, List.filter_append, List.length_append]
  congr 1
  rw [List.filter_cons]
  split <;> simp_all

theorem kpW_le (c : Cir) (k : Nat) : kpW c k ≤ k := by
  have := List.length_filter_le (fun (j : Nat) => (usedW c).getD (1 + c.inp.toNat + j) false) (List.range k)
  simpa [kpW] using this

theorem kpW_mono (c : Cir) (j : Nat) : ∀ d, kpW c j ≤ kpW c (j + d)
  | 0 => Nat.le_refl _
  | d + 1 => by rw [← Nat.add_assoc, kpW_succ]; have := kpW_mono c j d; omega

theorem kpW_lt {c : Cir} {j n : Nat} (h : (usedW c).getD (1 + c.inp.toNat + j) false = true) (hj : j < n) : kpW c j < kpW c n := by
  have h1 := kpW_succ c j
  rw [if_pos h] at h1
  have h2 := kpW_mono c (j + 1) (n - (j + 1))
  rw [show j + 1 + (n - (j + 1)) = n by omega] at h2
  omega

/-- Where a variable goes. -/
def plW (c : Cir) (v : Nat) : Nat :=
  if v < 1 + c.inp.toNat then v
  else if v < 1 + c.inp.toNat + c.next.length then (if (usedW c).getD v false then 1 + c.inp.toNat + kpW c (v - (1 + c.inp.toNat)) else 0)
  else 1 + c.inp.toNat + kpW c c.next.length + (v - (1 + c.inp.toNat + c.next.length))

def rmL (c : Cir) (l : Int) : Int := 2 * ((plW c (l / 2).toNat : Nat) : Int) + l % 2

/-- The next-state literals of the first k latches that are kept. -/
def nxW (c : Cir) : Nat → List Int
  | 0 => []
  | k + 1 => match c.next[k]? with
    | some l => if (usedW c).getD (1 + c.inp.toNat + k) false then nxW c k ++ [rmL c l] else nxW c k
    | none => nxW c k

theorem nxW_some {c : Cir} {k : Nat} {l : Int} (h : c.next[k]? = some l) : nxW c (k + 1) = if (usedW c).getD (1 + c.inp.toNat + k) false then nxW c k ++ [rmL c l] else nxW c k := by
  conv => lhs; unfold nxW
  rw [h]

theorem nxW_length (c : Cir) : ∀ k, k ≤ c.next.length → (nxW c k).length = kpW c k
  | 0, _ => rfl
  | k + 1, h => by
    obtain ⟨l, hl⟩ := get_of_lt (l := c.next) (k := k) (by omega)
    rw [nxW_some hl, kpW_succ]
    have := nxW_length c k (by omega)
    split <;> simp [this]

theorem nxW_get {c : Cir} {j : Nat} {l : Int} (hj : c.next[j]? = some l) (hu : (usedW c).getD (1 + c.inp.toNat + j) false = true) : ∀ k, j < k → k ≤ c.next.length → (nxW c k)[kpW c j]? = some (rmL c l)
  | 0, h, _ => by omega
  | k + 1, h, hk => by
    obtain ⟨l', hl'⟩ := get_of_lt (l := c.next) (k := k) (by omega)
    rw [nxW_some hl']
    have hlen := nxW_length c k (by omega)
    by_cases e : j = k
    · subst e
      rw [hj] at hl'
      cases hl'
      rw [if_pos hu, List.getElem?_append_right (by omega), hlen, Nat.sub_self]
      rfl
    · have ih := nxW_get hj hu k (by omega) (by omega)
      split
      · rw [List.getElem?_append_left (List.getElem?_eq_some_iff.1 ih).1]; exact ih
      · exact ih

def rmC (c : Cir) : Cir := ⟨c.inp, nxW c c.next.length, mapG (rmL c) c.gates, c.outs.map (rmL c)⟩

theorem rmC_next (c : Cir) : (rmC c).next.length = kpW c c.next.length := nxW_length c _ (Nat.le_refl _)

theorem rmL_lit {c : Cir} {ni : Nat} (hi : c.inp = ni) {l n : Int} (h : litP l (1 + ni + c.next.length + n)) (hn : 0 ≤ n) : litP (rmL c l) (1 + ni + kpW c c.next.length + n) := by
  obtain ⟨h0, h1⟩ := h
  obtain ⟨v, hv⟩ : ∃ v : Nat, l / 2 = v := ⟨(l / 2).toNat, by omega⟩
  unfold rmL plW litP
  rw [hv, hi, Int.toNat_natCast, Int.toNat_natCast]
  by_cases e1 : v < 1 + ni
  · rw [if_pos e1]; omega
  · rw [if_neg e1]
    by_cases e2 : v < 1 + ni + c.next.length
    · rw [if_pos e2]
      by_cases e3 : (usedW c).getD v false = true
      · rw [if_pos e3]
        have := kpW_lt (c := c) (j := v - (1 + ni)) (n := c.next.length) (by rw [hi, Int.toNat_natCast, show 1 + ni + (v - (1 + ni)) = v by omega]; exact e3) (by omega)
        omega
      · rw [if_neg e3]; omega
    · rw [if_neg e2]; omega

theorem rmC_valid {c : Cir} (hv : c.valid) : (rmC c).valid := by
  obtain ⟨q1, q2, q3, q4, q5⟩ := hv.lim
  obtain ⟨ni, hi⟩ : ∃ ni : Nat, c.inp = ni := ⟨c.inp.toNat, by omega⟩
  have hkn := kpW_le c c.next.length
  have eF : (rmC c).first = 1 + ni + kpW c c.next.length := by unfold Cir.first; rw [rmC_next]; show 1 + c.inp + _ = _; rw [hi]
  have eV : (rmC c).vars = 1 + ni + kpW c c.next.length + c.gates.length := by unfold Cir.vars; rw [rmC_next]; simp [rmC, mapG, hi]
  have cF : c.first = 1 + ni + c.next.length := by unfold Cir.first; rw [hi]
  have cV : c.vars = 1 + ni + c.next.length + c.gates.length := by unfold Cir.vars; rw [hi]
  refine ⟨⟨q1, q2, by rw [rmC_next]; omega, by simpa [rmC, mapG] using q4, by simpa [rmC] using q5⟩, ?_, ?_, ?_⟩
  · rw [eF]
    intro i h
    have hi' : i < c.gates.length := by simpa [rmC, mapG] using h
    have := hv.gates i hi'
    rw [cF] at this
    simp only [rmC, mapG, List.getElem_map]
    exact ⟨rmL_lit hi this.1 (by omega), rmL_lit hi this.2 (by omega)⟩
  · rw [eV]
    have key : ∀ k, ∀ x ∈ nxW c k, litP x (1 + ni + kpW c c.next.length + c.gates.length) := by
      intro k
      induction k with
      | zero => intro x hx; simp [nxW] at hx
      | succ k ih =>
        intro x hx
        unfold nxW at hx
        split at hx
        · next l hl =>
          have h1 := hv.next l (List.mem_of_getElem? hl)
          rw [cV] at h1
          split at hx
          · rcases List.mem_append.1 hx with hx | hx
            · exact ih x hx
            · simp at hx; subst hx; exact rmL_lit hi h1 (by omega)
          · exact ih x hx
        · exact ih x hx
    exact key _
  · rw [eV]
    intro x hx
    simp only [rmC, List.mem_map] at hx
    obtain ⟨y, hy, rfl⟩ := hx
    have h1 := hv.outs y hy
    rw [cV] at h1
    exact rmL_lit hi h1 (by omega)

/-- States that agree in the latches that are kept. -/
def relW (c : Cir) (s t : Int) : Prop := ∀ j, j < c.next.length → (usedW c).getD (1 + c.inp.toNat + j) false = true → (bitsV t (kpW c c.next.length)).getD (kpW c j) false = (bitsV s c.next.length).getD j false

theorem rmC_vals {c : Cir} (hv : c.valid) {s t x : Int} (hr : relW c s t) : ∀ l : Int, litP l c.vars → onB (usedW c) (l / 2).toNat → litB (cycV (rmC c) t x) (rmL c l) = litB (cycV c s x) l := by
  intro l hl hu
  obtain ⟨q1, q2, q3, q4, q5⟩ := hv.lim
  obtain ⟨ni, hi⟩ : ∃ ni : Nat, c.inp = ni := ⟨c.inp.toNat, by omega⟩
  have hL := usedW_least hv
  have hval := rmC_valid hv
  obtain ⟨F, hF⟩ : ∃ F : Nat, F = 1 + ni + c.next.length := ⟨_, rfl⟩
  obtain ⟨F', hF'⟩ : ∃ F' : Nat, F' = 1 + ni + kpW c c.next.length := ⟨_, rfl⟩
  have eF : (rmC c).first = F' := by unfold Cir.first; rw [rmC_next]; show 1 + c.inp + _ = _; rw [hi, hF']; omega
  have cF : c.first = F := by unfold Cir.first; rw [hi, hF]; omega
  have cV : c.vars = (F : Int) + c.gates.length := by unfold Cir.vars; rw [hi, hF]; omega
  have hgF : gatesP F c.gates := by rw [← cF]; exact hv.gates
  have hgX : gatesP F' (rmC c).gates := by rw [← eF]; exact hval.gates
  have hbl : (bC c s x).length = F := by rw [bC_length, hi, Int.toNat_natCast, hF]
  have hbl' : (bC (rmC c) t x).length = F' := by rw [bC_length, rmC_next]; show 1 + c.inp.toNat + _ = _; rw [hi, Int.toNat_natCast, hF']
  have hf : ∀ l : Int, 0 ≤ l → rmL c l = xrb (2 * ((plW c (l / 2).toNat : Nat) : Int)) (l % 2) := fun l h0 => by unfold rmL xrb; omega
  rw [cycV_vN, cycV_vN]
  rw [cV] at hl
  refine ren_lit (m := fun v => 2 * ((plW c v : Nat) : Int)) hf hl.1 ?_
  refine ren_vals hbl hbl' hgF hgX (m := fun v => 2 * ((plW c v : Nat) : Int)) (f := rmL c) (U := onB (usedW c)) hf ?_ ?_ ?_ ?_ _ (litP_lt hl) hu
  · intro k g hg hon
    refine ⟨hL.clos _ _ hon (Or.inl ⟨k, g, hg, by rw [cF, Int.toNat_natCast], Or.inl rfl⟩), hL.clos _ _ hon (Or.inl ⟨k, g, hg, by rw [cF, Int.toNat_natCast], Or.inr rfl⟩)⟩
  · intro v hvF hon
    have hp := rmL_lit (c := c) hi (l := 2 * (v : Int)) (n := 0) (by unfold litP; omega) (by omega)
    unfold rmL at hp
    rw [show (2 * (v : Int) / 2).toNat = v by omega] at hp
    refine ⟨by unfold litP at hp ⊢; omega, ?_⟩
    rw [litB_nat]
    unfold plW
    rw [hi, Int.toNat_natCast]
    by_cases e1 : v < 1 + ni
    · rw [if_pos e1]
      unfold bC
      rw [show (rmC c).inp = c.inp from rfl, hi, Int.toNat_natCast]
      simp only [List.getD_eq_getElem?_getD]
      rw [← List.cons_append, ← List.cons_append, List.getElem?_append_left (by simp [bitsV_length]; omega), List.getElem?_append_left (by simp [bitsV_length]; omega)]
    · rw [if_neg e1, if_pos (by omega), if_pos (show (usedW c).getD v false = true from hon)]
      obtain ⟨j, rfl⟩ : ∃ j, v = 1 + ni + j := ⟨v - (1 + ni), by omega⟩
      rw [show 1 + ni + j - (1 + ni) = j by omega]
      have h1 := bits_tail (rmC c) t x (j := kpW c j)
      have h2 := bits_tail c s x (j := j)
      rw [show (rmC c).inp = c.inp from rfl, hi, Int.toNat_natCast] at h1
      rw [hi, Int.toNat_natCast] at h2
      rw [h1, h2, rmC_next]
      exact hr j (by omega) (by rw [hi, Int.toNat_natCast]; exact hon)
  · intro k g hg
    simp [rmC, mapG, hg]
  · intro k hk hon
    left
    show 2 * ((plW c (F + k) : Nat) : Int) = _
    unfold plW
    rw [hi, Int.toNat_natCast, if_neg (by omega), if_neg (by omega)]
    omega

theorem rmC_rel {c : Cir} (hv : c.valid) {s t x : Int} (hr : relW c s t) : relW c (nextN c s x) (nextN (rmC c) t x) := by
  intro j hj hu
  have e1 := nextN_bits (rmC c) t x
  rw [rmC_next] at e1
  rw [e1, nextN_bits c s x]
  obtain ⟨l, hl⟩ := get_of_lt hj
  have hx : (rmC c).next[kpW c j]? = some (rmL c l) := nxW_get hl hu _ hj (Nat.le_refl _)
  simp only [List.getD_eq_getElem?_getD]
  rw [List.getElem?_map, List.getElem?_map, hl, hx]
  simp only [Option.map_some, Option.getD_some]
  exact rmC_vals hv hr l (hv.next l (List.mem_of_getElem? hl)) ((usedW_least hv).clos _ _ hu (Or.inr ⟨j, l, hl, rfl, rfl⟩))

theorem rmC_outs {c : Cir} (hv : c.valid) {s t x : Int} (hr : relW c s t) : (rmC c).outs.map (litB (cycV (rmC c) t x)) = c.outs.map (litB (cycV c s x)) := by
  show (c.outs.map (rmL c)).map _ = _
  rw [List.map_map]
  apply List.map_congr_left
  intro l hl
  exact rmC_vals hv hr l (hv.outs l hl) ((usedW_least hv).root l hl)

/-! Combinational equivalence is sequential equivalence. -/

theorem bitsV_add {n : Nat} : ∀ {x s : Int}, 0 ≤ x → x < 2 ^ n → bitsV (x + 2 ^ n * s) n = bitsV x n := by
  induction n with
  | zero => intro x s _ _; rfl
  | succ n ih =>
    intro x s h0 h1
    rw [Int.pow_succ] at h1 ⊢
    rw [bitsV_cons, bitsV_cons]
    have e : x + 2 ^ n * 2 * s = x + 2 * (2 ^ n * s) := by rw [Int.mul_assoc, Int.mul_left_comm]
    rw [e]
    have e1 : (x + 2 * (2 ^ n * s)) % 2 = x % 2 := by omega
    have e2 : (x + 2 * (2 ^ n * s)) / 2 = x / 2 + 2 ^ n * s := by omega
    rw [e1, e2, ih (by omega) (by omega)]

theorem asg_bC (c : Cir) {s x : Int} (h0 : 0 ≤ x) (h1 : x < 2 ^ c.inp.toNat) : asgV c (x + 2 ^ c.inp.toNat * s) = bC c s x := by
  unfold asgV bC
  have hp : (0 : Int) < 2 ^ c.inp.toNat := Int.pow_pos (by omega)
  rw [bitsV_add h0 h1]
  congr 2
  rw [Int.add_mul_ediv_left _ _ (by omega), Int.ediv_eq_zero_of_lt h0 h1, Int.zero_add]

theorem cyc_eval (c : Cir) {s x : Int} (h0 : 0 ≤ x) (h1 : x < 2 ^ c.inp.toNat) : evalV c (x + 2 ^ c.inp.toNat * s) (-1) false = cycV c s x := by
  rw [evalV_no, asg_bC c h0 h1]; rfl

theorem res_map {a b : Cir} (hn : a.next.length = b.next.length) {y : Int} (h : resV a y (-1) false = resV b y (-1) false) :
    a.next.map (litB (evalV a y (-1) false)) = b.next.map (litB (evalV b y (-1) false)) ∧ a.outs.map (litB (evalV a y (-1) false)) = b.outs.map (litB (evalV b y (-1) false)) := by
  unfold resV at h
  rw [List.map_append, List.map_append] at h
  exact List.append_inj h (by simpa using hn)

/-- Circuits with the same results for all assignments do the same in every state. -/
theorem res_step {a b : Cir} (hi : a.inp = b.inp) (hn : a.next.length = b.next.length) (h : ∀ y : Nat, y < asgN a → resV a (y : Int) (-1) false = resV b (y : Int) (-1) false) {s x : Int} (h0 : 0 ≤ x) (h1 : x < 2 ^ a.inp.toNat) (s0 : 0 ≤ s) (s1 : s < 2 ^ a.next.length) :
    nextN a s x = nextN b s x ∧ a.outs.map (litB (cycV a s x)) = b.outs.map (litB (cycV b s x)) := by
  obtain ⟨y, hy⟩ : ∃ y : Nat, x + 2 ^ a.inp.toNat * s = y := ⟨(x + 2 ^ a.inp.toNat * s).toNat, by
    have hp : (0 : Int) ≤ 2 ^ a.inp.toNat := Int.le_of_lt (Int.pow_pos (by omega))
    have := Int.mul_nonneg hp s0
    omega⟩
  have hlt : y < asgN a := by
    unfold asgN
    have hp : (0 : Int) < 2 ^ a.inp.toNat := Int.pow_pos (by omega)
    have e1 : (2 : Int) ^ a.inp.toNat * s + 2 ^ a.inp.toNat ≤ 2 ^ a.inp.toNat * 2 ^ a.next.length := by
      have := Int.mul_le_mul_of_nonneg_left (show s + 1 ≤ 2 ^ a.next.length by omega) (Int.le_of_lt hp)
      rw [Int.mul_add] at this
      omega
    have e2 : ((2 ^ (a.inp.toNat + a.next.length) : Nat) : Int) = 2 ^ a.inp.toNat * 2 ^ a.next.length := by rw [Nat.pow_add]; simp
    omega
  have hr := res_map hn (h y hlt)
  rw [← hy, cyc_eval a h0 h1, hi, cyc_eval b h0 (by rw [← hi]; exact h1)] at hr
  exact ⟨by unfold nextN; rw [hr.1], hr.2⟩

theorem seq_res {a b : Cir} (hva : a.validB = true) (hvb : b.validB = true) (hi : a.inp = b.inp) (hn : a.next.length = b.next.length) (ho : a.outs.length = b.outs.length) (h : ∀ y : Nat, y < asgN a → resV a (y : Int) (-1) false = resV b (y : Int) (-1) false) : seqB a b = true := by
  refine seqB_bis (cmpB_iff.2 ⟨hva, hvb, hi, ho⟩) (P := fun s => s.1 = s.2 ∧ 0 ≤ s.1 ∧ s.1 < 2 ^ a.next.length) ⟨⟨rfl, Int.le_refl _, Int.pow_pos (by omega)⟩, ?_, ?_⟩
  · rintro ⟨s, t⟩ ⟨e, h0, h1⟩ x hx
    simp only at e h0 h1
    subst e
    rw [hitD_iff ho]
    exact (res_step hi hn h (by omega) (by exact_mod_cast hx) h0 h1).2
  · rintro ⟨s, t⟩ ⟨e, h0, h1⟩ x hx
    simp only at e h0 h1
    subst e
    have := (res_step hi hn h (s := s) (x := x) (by omega) (by exact_mod_cast hx) h0 h1).1
    refine ⟨this, ?_⟩
    have hb := nextN_bd a s x
    exact hb

def rmR (c : Cir) : Cir := if c.validB then optC (rmC c) else ⟨0, [], [], []⟩

theorem rmR_no {c : Cir} (h : c.validB = false) : rmR c = ⟨0, [], [], []⟩ := by unfold rmR; rw [h]; rfl

theorem rmR_yes {c : Cir} (h : c.validB = true) : rmR c = optC (rmC c) := by unfold rmR; rw [h]; rfl

theorem rmR_seq {c : Cir} (h : c.validB = true) : seqB c (rmR c) = true := by
  have hv := c.validB_iff.1 h
  have hvr := rmC_valid hv
  have hvo := optC_valid hvr
  rw [rmR_yes h]
  have ei : (optC (rmC c)).inp = c.inp := rfl
  have en : (optC (rmC c)).next.length = (rmC c).next.length := by simp [optC, buildC]
  have eo : (optC (rmC c)).outs.length = c.outs.length := by simp [optC, buildC, rmC]
  refine seqB_bis (cmpB_iff.2 ⟨h, (Cir.validB_iff _).2 hvo, ei.symm, eo.symm⟩) (P := fun s => relW c s.1 s.2 ∧ 0 ≤ s.2 ∧ s.2 < 2 ^ (rmC c).next.length) ⟨⟨?_, Int.le_refl _, Int.pow_pos (by omega)⟩, ?_, ?_⟩
  · intro j hj hu
    rw [bitsV_zero, bitsV_zero, getD_rep, getD_rep]
  · rintro ⟨s, t⟩ ⟨hr, h0, h1⟩ x hx
    simp only at hr h0 h1
    rw [hitD_iff eo.symm]
    simp only
    have h2 := (res_step (a := rmC c) (b := optC (rmC c)) rfl en.symm (fun y hy => (optC_res hvr y).symm) (s := t) (x := x) (by omega) (by exact_mod_cast hx) h0 h1).2
    rw [← h2, rmC_outs hv hr]
  · rintro ⟨s, t⟩ ⟨hr, h0, h1⟩ x hx
    simp only at hr h0 h1
    have h2 := (res_step (a := rmC c) (b := optC (rmC c)) rfl en.symm (fun y hy => (optC_res hvr y).symm) (s := t) (x := x) (by omega) (by exact_mod_cast hx) h0 h1).1
    show relW c (nextN c s x) (nextN (optC (rmC c)) t x) ∧ 0 ≤ nextN (optC (rmC c)) t x ∧ nextN (optC (rmC c)) t x < 2 ^ (rmC c).next.length
    rw [← h2]
    exact ⟨rmC_rel hv hr, nextN_bd (rmC c) t x⟩

theorem optC_seq {c : Cir} (h : c.validB = true) : seqB c (optC c) = true := by
  have hv := c.validB_iff.1 h
  exact seq_res h ((Cir.validB_iff _).2 (optC_valid hv)) rfl (by simp [optC, buildC]) (by simp [optC, buildC]) (fun y _ => (optC_res hv y).symm)

def mW (c : Cir) (k : Nat) : List Int := (List.range k).map fun (v : Nat) => 2 * ((plW c v : Nat) : Int)

theorem mW_length (c : Cir) (k : Nat) : (mW c k).length = k := by simp [mW]

theorem mW_succ (c : Cir) (k : Nat) : mW c (k + 1) = mW c k ++ [2 * ((plW c k : Nat) : Int)] := by simp [mW, List.range_succ]

theorem plW_le (c : Cir) (v : Nat) : plW c v ≤ v := by
  unfold plW
  have h1 := kpW_le c c.next.length
  split
  · omega
  · split
    · split
      · have := kpW_le c (v - (1 + c.inp.toNat)); omega
      · omega
    · omega

theorem mW_mem {c : Cir} {k : Nat} {x : Int} (h : x ∈ mW c k) : 0 ≤ x ∧ x < 2 * (k : Int) := by
  obtain ⟨v, hv, rfl⟩ := List.mem_map.1 h
  have h1 := List.mem_range.1 hv
  have h2 := plW_le c v
  omega

theorem mW_map {c : Cir} {K : Nat} {l : Int} (h0 : 0 ≤ l) (h1 : l / 2 < (K : Int)) : mapB (mW c K) l = rmL c l := by
  have e : (mW c K).getD (l / 2).toNat 0 = 2 * ((plW c (l / 2).toNat : Nat) : Int) := by
    unfold mW
    rw [List.getD_eq_getElem?_getD, List.getElem?_map, List.getElem?_range (by omega)]; rfl
  unfold mapB
  rw [e]
  unfold xrb rmL
  omega

theorem rmL_bd {c : Cir} {l : Int} (h0 : 0 ≤ l) (h1 : l < 44) : 0 ≤ rmL c l ∧ rmL c l < 44 := by
  unfold rmL
  have := plW_le c (l / 2).toNat
  omega

theorem chg_set {S : Nat → Prop} (w : World) {b : Nat} (o : Nat) (v : Value) (h : S b) : Chg S w (w.setCell ⟨b, o, none⟩ v) :=
  ⟨rfl, rfl, rfl, by simp, fun k _ hn => blk_set_ne (fun e => hn (e ▸ h)) rfl⟩

theorem ints_snoc {xs : List Int} {x y : Int} (h : x = y) : ints xs ++ [Value.int .i64 x] = ints (xs ++ [y]) := by rw [h, ← ints_append]; rfl

/-- Only one block turns below Y. -/
def OneB (X Y : Nat) (w w' : World) : Prop := Chg (fun k => k = X ∨ Y ≤ k) w w' ∧ Y ≤ w.heap.size

theorem OneB.refl {X Y : Nat} {w : World} (h : Y ≤ w.heap.size) : OneB X Y w w := ⟨Chg.refl _ _, h⟩

theorem OneB.trans {X Y : Nat} {a b d : World} (h : OneB X Y a b) (k : OneB X Y b d) : OneB X Y a d := ⟨h.1.trans k.1, h.2⟩

theorem OneB.below {X Y : Nat} {a b d : World} (h : OneB X Y a b) (k : Below Y b d) : OneB X Y a d := ⟨h.1.trans ⟨k.os, k.tape, k.output, k.size, fun i _ hn => k.block i (by simp at hn; omega)⟩, h.2⟩

theorem OneB.set {X Y : Nat} {a b : World} (h : OneB X Y a b) (o : Nat) (v : Value) : OneB X Y a (b.setCell ⟨X, o, none⟩ v) := ⟨h.1.trans (chg_set b o v (.inl rfl)), h.2⟩

theorem OneB.size {X Y : Nat} {a b : World} (h : OneB X Y a b) : Y ≤ b.heap.size := Nat.le_trans h.2 h.1.size

theorem OneB.below2 {X Y B : Nat} {a b : World} (h : OneB X Y a b) (hX : B ≤ X) (hY : B ≤ Y) : Below B a b := h.1.below (by have := h.2; omega) (fun k hk e => by omega)

theorem OneB.own {X Y : Nat} {a b : World} (h : OneB X Y a b) {base : Nat} {e : TypeId} {size : Nat} {v : Value} {n : Nat} {xs : List Value} (ho : a.ownsRow base e size v n xs) (h1 : v.ownBlock ≠ some X) (h2 : ∀ k, v.ownBlock = some k → k < Y) : b.ownsRow base e size v n xs :=
  h.1.own ho (fun k hk e => by rcases e with e | e
                               · subst e; exact h1 hk
                               · have := h2 k hk; omega)

theorem OneB.up {X Y Y2 : Nat} {a b : World} (h : OneB X Y2 a b) (hy : Y ≤ Y2) : OneB X Y a b :=
  ⟨⟨h.1.os, h.1.tape, h.1.output, h.1.size, fun k hk hn => h.1.block k hk (fun e => hn (by rcases e with e | e; exact .inl e; exact .inr (by omega)))⟩, Nat.le_trans hy h.2⟩

theorem drewB {w : World} {X : Nat} {o : Obj} (h : w.heap[X]? = some o) : w.drew.heap[X]? = some o := h

theorem markW_nat {u : List Bool} {l : Int} {p : Nat} (h : l / 2 = p) : markW u l = u.set p true := by unfold markW; rw [h, Int.toNat_natCast]

set_option maxRecDepth 100000 in
set_option maxHeartbeats 3200000 in
theorem l20Used_any (v : Value) (c : Cir) (w : World) (h : CirV w v c) (hv : c.valid) :
    Calls Try.prog 110 #[v] w fun e w' => ∃ s, e = .returned (.slice s c.vars.toNat c.vars.toNat) ∧ Sl w' s (bools (usedW c)) ∧ Below w.heap.size w w' := by
  have HG := Lib.hid h
  obtain ⟨sn, cn, sg, cg, so, co, rfl, h1, h2, h3, -, -, -⟩ := h
  obtain ⟨i0, i1, l1, l2, l3⟩ := id hv.lim
  obtain ⟨ni, hni⟩ : ∃ ni : Nat, c.inp = ni := ⟨c.inp.toNat, by omega⟩
  obtain ⟨V, hV⟩ : ∃ V : Nat, c.vars = V := ⟨c.vars.toNat, by unfold Cir.vars; omega⟩
  obtain ⟨F, hF⟩ : ∃ F : Nat, c.first = F := ⟨c.first.toNat, by unfold Cir.first; omega⟩
  have hVF : V = F + c.gates.length := by
    have e : c.vars = c.first + c.gates.length := rfl
    omega
  have hFn : F = 1 + ni + c.next.length := by unfold Cir.first at hF; omega
  have eF : 1 + (ni : Int) + (c.next.length : Int) = F := by omega
  have hV22 : V ≤ 22 := by omega
  have n4 : ni ≤ 4 := by omega
  rw [show c.vars.toNat = V by omega]
  have HV := Lib.hid (And.intro hv (And.intro hV (And.intro hF (And.intro hni (And.intro hFn eF)))))
  have HS := Lib.hid (And.intro h1 (And.intro h2 h3))
  have hw1 : IntKind.i64.wrap ((F : Int) + (c.gates.length : Int)) = (V : Int) := by rw [IntWalk.i64_in _ ⟨by omega, by omega⟩]; omega
  have hmk := fun W => mkBools W V (by omega)
  rw [hni] at HG ⊢
  clear h1 h2 h3 hv hV hF hni hVF hFn eF i0 i1
  obtain ⟨A, hA⟩ : ∃ A, A = w.heap.size := ⟨_, rfl⟩
  obtain ⟨W0, hW0⟩ : ∃ W0, W0 = w.alloc (.cells #[.int .i64 ni, .slice sn c.next.length cn, .slice sg c.gates.length cg, .slice so c.outs.length co] 26) := ⟨_, rfl⟩
  have z1 : W0.heap[A]? = some (.cells #[.int .i64 ni, .slice sn c.next.length cn, .slice sg c.gates.length cg, .slice so c.outs.length co] 26 (0, 0)) := by rw [hW0, hA]; exact blk_new _ _
  have z2 : Below w.heap.size w W0 := by rw [hW0]; exact (Below.refl _ _).alloc (Nat.le_refl _) _
  have HA := Lib.hid (And.intro hW0 hA)
  have HW := Lib.hid (And.intro z1 z2)
  have hAl := blk_lt z1
  have hA2 : w.heap.size ≤ A := by omega
  clear hW0 hA z2
  go_enter Try.func110, Try.ntmps110
  go_upto_region 1 with fail
  rw [← HA.out.1, ← HA.out.2]
  refine wp_region_T (fun w' => ∀ o, w'.cell? ⟨A, o, none⟩ = #[Value.int .i64 ni, .slice sn c.next.length cn, .slice sg c.gates.length cg, .slice so c.outs.length co][o]?) (.q 0 (.q 2 (.q 3 (.q 4 (.e 1 (.q 5 (.e 6 (.q 7 .nil)))))))) (by kernel_rfl) (by kernel_rfl) (by kernel_rfl) (blk_all z1).1 ?_
  clear z1
  repeat (first | (refine ordt_s (o := ?_) ?_ ?_ ?_; rotate_left 1; (focus ((simp only [zD, zE, zF]) <;> rfl)); (focus rfl); simp only [Act.put, zA, zB, zC]) | (refine ordt_q (o := ?_) (v := ?_) ?_ ?_ ?_ ?_; rotate_left 2; (focus ((simp only [zD, zE, zF]) <;> rfl)); (focus rfl); (focus (intro w' hS; (try dsimp only at hS); go_split_ands; go_simp; (try (with_reducible rfl)))); simp only [Act.put, zA, zB, zC]))
  refine ordt_e ?_
  (refine op_e (o := ?_) ?_ ?_ (fun K hK => ?_); rotate_left 1; (focus ((simp only [zD, zE, zF]) <;> rfl)); (focus rfl); go_simp)
  refine (l1First_any _ _ _ _ _ _ _ (by omega) (by omega)).mono ?_
  rintro e w2 ⟨rfl, hq⟩
  rw [HV.out.2.2.2.2.2]
  have hb2 : Below W0.heap.size W0 w2 := (Below.refl _ _).drew.trans hq
  refine hK.out _ _ (blk_all (blk_below hb2 hAl HW.out.1)).1 ?_
  clear hK K hq
  have H2 := Lib.hid hb2
  clear hb2
  (try simp only [Act.put, zA, zB, zC])
  repeat (first | (refine ordt_s (o := ?_) ?_ ?_ ?_; rotate_left 1; (focus ((simp only [zD, zE, zF]) <;> rfl)); (focus rfl); simp only [Act.put, zA, zB, zC]) | (refine ordt_q (o := ?_) (v := ?_) ?_ ?_ ?_ ?_; rotate_left 2; (focus ((simp only [zD, zE, zF]) <;> rfl)); (focus rfl); (focus (intro w' hS; (try dsimp only at hS); go_split_ands; go_simp; (try (with_reducible rfl)))); simp only [Act.put, zA, zB, zC]))
  refine ordt_e ?_
  (refine op_e (o := ?_) ?_ ?_ (fun K hK => ?_); rotate_left 1; (focus ((simp only [zD, zE, zF]) <;> rfl)); (focus rfl); go_simp)
  have hgx := blk_new w2 (.cells (bools (List.replicate V false)).toArray 4)
  have hb3 := H2.out.alloc H2.out.size (.cells (bools (List.replicate V false)).toArray 4)
  obtain ⟨G, hG⟩ : ∃ G, G = w2.heap.size := ⟨_, rfl⟩
  have hGA : A < G := by rw [hG]; exact Nat.lt_of_lt_of_le hAl H2.out.size
  rw [← hG] at hgx
  rw [← hG]
  have hG0 : W0.heap.size ≤ G := by rw [hG]; exact H2.out.size
  clear hG
  revert hgx hb3
  generalize w2.alloc (.cells (bools (List.replicate V false)).toArray 4) = W1
  intro hb3 hgx
  refine hK.out _ _ (blk_all (blk_below hb3 hAl HW.out.1)).1 ?_
  clear hK K
  have hou : outW c 0 = List.replicate V false := by unfold outW; rw [HV.out.2.1]; rfl
  rw [← hou] at hgx
  have H1 := Lib.hid (And.intro hgx (And.intro (blk_below hb3 hAl HW.out.1) (HW.out.2.trans (hb3.mono HW.out.2.size))))
  have hGl := blk_lt hgx
  clear hgx hb3 hou H2 hw1
  (try simp only [Act.put, zA, zB, zC])
  repeat (first | (refine ordt_s (o := ?_) ?_ ?_ ?_; rotate_left 1; (focus ((simp only [zD, zE, zF]) <;> rfl)); (focus rfl); simp only [Act.put, zA, zB, zC]) | (refine ordt_q (o := ?_) (v := ?_) ?_ ?_ ?_ ?_; rotate_left 2; (focus ((simp only [zD, zE, zF]) <;> rfl)); (focus rfl); (focus (intro w' hS; (try dsimp only at hS); go_split_ands; go_simp; (try (with_reducible rfl)))); simp only [Act.put, zA, zB, zC]))
  refine ordt_nil ?_
  have HX : Hid (∀ W, Below G W1 W → (∀ o, W.cell? ⟨A, o, none⟩ = #[Value.int .i64 ni, .slice sn c.next.length cn, .slice sg c.gates.length cg, .slice so c.outs.length co][o]?) ∧ CirV W (.agg #[.int .i64 ni, .slice sn c.next.length cn, .slice sg c.gates.length cg, .slice so c.outs.length co]) c ∧ Below w.heap.size w W) := fun W hW => by
    have h9 : Below w.heap.size w W := H1.out.2.2.trans (hW.mono (by have h1 := HW.out.2.size; omega))
    exact ⟨(blk_all (blk_below hW hGA H1.out.2.1)).1, HG.out.mono h9, h9⟩
  clear hmk
  go_upto_region 3 with fail
  go_loopw [4] (fun i wr => ∃ k : Nat, k ≤ c.outs.length ∧ i = .int .i64 k ∧ wr.heap[G]? = some (.cells (bools (outW c k)).toArray 4 (0, 0)) ∧ Below G W1 wr) (fun i _ => c.outs.length - (intOf i).toNat)
  case atStart => exact ⟨0, Nat.zero_le _, rfl, H1.out.1, Below.refl _ _⟩
  case round =>
    obtain ⟨k, hk, rfl, hg, hbl⟩ := hrel
    have ca := (HX.out _ hbl).1
    by_cases hlt : k < c.outs.length
    · obtain ⟨l, hl⟩ := get_of_lt hlt
      obtain ⟨x0, x1⟩ : 0 ≤ l ∧ l < 2 * c.vars := HV.out.1.outs l (List.mem_of_getElem? hl)
      rw [HV.out.2.1] at x1
      obtain ⟨p, hp⟩ : ∃ p : Nat, l / 2 = p := ⟨(l / 2).toNat, by omega⟩
      have hpV : p < V := by omega
      obtain ⟨b, off, rfl, -, z⟩ := HS.out.2.2.int (HX.out _ hbl).2.2 hl
      have hlen : (outW c k).length = V := by rw [outW_length, HV.out.2.1]; omega
      obtain ⟨y, hy⟩ := get_of_lt (l := outW c k) (k := p) (by omega)
      have hc2 := bools_cell hg hy
      have hf2 : wr.frozen? ⟨G, p, none⟩ = false := blk_free hg
      have HR := Lib.hid (And.intro hg (And.intro hbl hl))
      have HPp := Lib.hid hp
      clear hg hbl hl hy hlen
      go_wp2_with fail
      clear hp
      go_roundw
      case rel =>
        refine ⟨k + 1, by omega, by go_num, ?_, HR.out.2.1.setCell (Nat.le_refl _) _⟩
        rw [outW_snoc HR.out.2.2, markW_nat HPp.out]
        exact bools_blk_set HR.out.1 p true
      case measure => simp [intOf]; omega
    · obtain rfl : k = c.outs.length := by omega
      obtain ⟨u0, hu0⟩ : ∃ u0, u0 = outW c c.outs.length := ⟨_, rfl⟩
      rw [← hu0] at hg
      have hul : u0.length = V := by rw [hu0, outW_length, HV.out.2.1]; omega
      have HU := Lib.hid (And.intro hu0 hul)
      have HR := Lib.hid (And.intro hg hbl)
      clear hg hbl hu0 hul
      go_upto_region 7 with fail
      clear ca
      go_loopw [5] (fun i wr => ∃ r : Nat, r ≤ c.next.length + 1 ∧ i = .int .i64 r ∧ wr.heap[G]? = some (.cells (bools (rndsW c r u0)).toArray 4 (0, 0)) ∧ Below G W1 wr) (fun i _ => c.next.length + 1 - (intOf i).toNat)
      case atStart => exact ⟨0, Nat.zero_le _, rfl, HR.out.1, HR.out.2⟩
      case round =>
        obtain ⟨r, hr, rfl, hg, hbl⟩ := hrel
        have ca := (HX.out _ hbl).1
        by_cases hlr : r < c.next.length + 1
        · obtain ⟨u, hu⟩ : ∃ u, u = rndsW c r u0 := ⟨_, rfl⟩
          rw [← hu] at hg
          have hul : u.length = V := by rw [hu, rndsW_length]; exact HU.out.2
          obtain ⟨ws, rfl⟩ : ∃ ws, ws = wr := ⟨_, rfl⟩
          have HRr := Lib.hid (And.intro hg (And.intro hbl (And.intro hu hul)))
          clear hg hbl hu hul
          have hlr2 : (r : Int) ≤ (c.next.length : Int) := by omega
          go_upto_region 10 with fail
          clear ca
          go_loopw [6] (fun i wr => ∃ k : Nat, k ≤ c.next.length ∧ i = .int .i64 k ∧ wr.heap[G]? = some (.cells (bools (latW c u k)).toArray 4 (0, 0)) ∧ Below G W1 wr) (fun i _ => c.next.length - (intOf i).toNat)
          case atStart => exact ⟨0, Nat.zero_le _, rfl, HRr.out.1, HRr.out.2.1⟩
          case round =>
            obtain ⟨k, hk, rfl, hg, hbl⟩ := hrel
            have ca := (HX.out _ hbl).1
            by_cases hlt : k < c.next.length
            · obtain ⟨l, hl⟩ := get_of_lt hlt
              obtain ⟨x0, x1⟩ : 0 ≤ l ∧ l < 2 * c.vars := HV.out.1.next l (List.mem_of_getElem? hl)
              rw [HV.out.2.1] at x1
              obtain ⟨p, hp⟩ : ∃ p : Nat, l / 2 = p := ⟨(l / 2).toNat, by omega⟩
              have hpV : p < V := by omega
              obtain ⟨b, off, rfl, -, z⟩ := HS.out.1.int (HX.out _ hbl).2.2 hl
              have hlen : (latW c u k).length = V := by rw [latW_length]; exact HRr.out.2.2.2
              obtain ⟨y, hy⟩ := get_of_lt (l := latW c u k) (k := p) (by omega)
              obtain ⟨q, hq⟩ : ∃ q : Nat, (ni : Int) + 1 + (k : Int) = q := ⟨ni + 1 + k, by omega⟩
              have hqV : q < V := by have := HV.out.2.2.2.2.1; have := HV.out.2.2.1; have := HV.out.2.1; have e : c.vars = c.first + c.gates.length := rfl; omega
              obtain ⟨x, hx⟩ := get_of_lt (l := latW c u k) (k := q) (by omega)
              have hstep := latW_some (c := c) (u := u) hl
              have hxe : (latW c u k).getD (1 + c.inp.toNat + k) false = x := by
                rw [show 1 + c.inp.toNat + k = q by have := HV.out.2.2.2.1; omega, List.getD_eq_getElem?_getD, hx]; rfl
              rw [hxe] at hstep
              have hc1 := bools_cell hg hx
              have hc2 := bools_cell hg hy
              have hf2 : wr.frozen? ⟨G, p, none⟩ = false := blk_free hg
              have HR := Lib.hid (And.intro hg (And.intro hbl hstep))
              have HPp := Lib.hid hp
              clear hg hbl hl hy hx hlen hstep hxe
              cases x
              · go_wp2_with fail
                clear hp hq
                go_roundw
                case rel => exact ⟨k + 1, by omega, by go_num, by rw [HR.out.2.2, if_neg (by simp)]; exact HR.out.1, HR.out.2.1⟩
                case measure => simp [intOf]; omega
              · go_wp2_with fail
                clear hp hq
                go_roundw
                case rel =>
                  refine ⟨k + 1, by omega, by go_num, ?_, HR.out.2.1.setCell (Nat.le_refl _) _⟩
                  rw [HR.out.2.2, if_pos rfl, markW_nat HPp.out]
                  exact bools_blk_set HR.out.1 p true
                case measure => simp [intOf]; omega
            · obtain rfl : k = c.next.length := by omega
              obtain ⟨T, hT⟩ : ∃ T, T = rndW c u := ⟨_, rfl⟩
              have HT := Lib.hid hT
              clear hT
              have HR := Lib.hid (And.intro hg hbl)
              clear hg hbl
              go_upto_region 15 with fail
              clear ca
              go_loopw [7] (fun i wr => ∃ (n : Nat) (u' : List Bool), n ≤ c.gates.length ∧ i = .int .i64 ((n : Int) - 1) ∧ wr.heap[G]? = some (.cells (bools u').toArray 4 (0, 0)) ∧ u'.length = V ∧ gatW c n u' = T ∧ Below G W1 wr) (fun i _ => (intOf i + 1).toNat)
              case atStart => exact ⟨c.gates.length, latW c u c.next.length, Nat.le_refl _, rfl, HR.out.1, by rw [latW_length]; exact HRr.out.2.2.2, HT.out.symm, HR.out.2⟩
              case round =>
                obtain ⟨n, u', hn, rfl, hg, hul, hgt, hbl⟩ := hrel
                have ca := (HX.out _ hbl).1
                by_cases hn0 : n = 0
                · subst hn0
                  have hu'T : u' = T := hgt
                  subst hu'T
                  have HR := Lib.hid (And.intro hg hbl)
                  clear hg hul hgt hbl
                  go_wp2_with fail
                  go_roundw
                  case rel => exact ⟨r + 1, by omega, by go_num, by show _ = some (Obj.cells (bools (rndW c (rndsW c r u0))).toArray _ _); rw [← HRr.out.2.2.1, ← HT.out]; exact HR.out.1, HR.out.2⟩
                  case measure => simp [intOf] <;> omega
                · obtain ⟨j, rfl⟩ : ∃ j, n = j + 1 := ⟨n - 1, by omega⟩
                  rw [show ((j + 1 : Nat) : Int) - 1 = (j : Int) by omega]
                  obtain ⟨g, hgj⟩ := get_of_lt (l := c.gates) (k := j) (by omega)
                  obtain ⟨⟨a0, a1⟩, b0, b1⟩ := valid_gate HV.out.1 hgj
                  rw [HV.out.2.2.1] at a1 b1
                  obtain ⟨gb, gf, rfl, -, za, zb⟩ := HS.out.2.1.gate (HX.out _ hbl).2.2 hgj
                  obtain ⟨p, hp⟩ : ∃ p : Nat, g.a / 2 = p := ⟨(g.a / 2).toNat, by omega⟩
                  obtain ⟨p2, hp2⟩ : ∃ p : Nat, g.b / 2 = p := ⟨(g.b / 2).toNat, by omega⟩
                  obtain ⟨q, hq⟩ : ∃ q : Nat, (F : Int) + (j : Int) = q := ⟨F + j, by omega⟩
                  have hqV : q < V := by have h1 := HV.out.2.1; have h2 := HV.out.2.2.1; have e : c.vars = c.first + c.gates.length := rfl; omega
                  have hpV : p < V := by omega
                  have hp2V : p2 < V := by omega
                  have ha60 : g.a ≤ 60 := by omega
                  have hb60 : g.b ≤ 60 := by omega
                  obtain ⟨x, hx⟩ := get_of_lt (l := u') (k := q) (by omega)
                  rw [gatW_some hgj] at hgt
                  have hxe : u'.getD (c.first.toNat + j) false = x := by
                    rw [show c.first.toNat + j = q by have := HV.out.2.2.1; omega, List.getD_eq_getElem?_getD, hx]; rfl
                  rw [hxe] at hgt
                  have HR := Lib.hid (And.intro hg (And.intro hbl (And.intro hul (And.intro hgt hx))))
                  have HP := Lib.hid (And.intro hp hp2)
                  have HZ : Hid (∀ W, Below G W1 W → W.cell? ⟨gb, gf + j * 2, none⟩ = some (.int .i64 g.a) ∧ W.cell? ⟨gb, gf + j * 2 + 1, none⟩ = some (.int .i64 g.b)) := fun W hW => by
                    obtain ⟨_, _, e1, -, q1, q2⟩ := HS.out.2.1.gate (HX.out _ hW).2.2 hgj
                    cases e1
                    exact ⟨q1, q2⟩
                  clear hg hbl hul hgt hx hxe hgj za zb hp hp2 a1 b1
                  go_upto_region 18 with (go_at_call 76; ((with_reducible refine (l1First_any _ _ _ _ _ _ _ (by omega) (by omega)).mono ?_); rintro e w3 ⟨rfl, hq3⟩; rw [HV.out.2.2.2.2.2]; have H3 := Lib.hid (And.intro (blk_below hq3 (blk_lt HR.out.1) HR.out.1) (HR.out.2.1.trans (hq3.mono (Nat.le_of_lt (blk_lt HR.out.1))))); clear hq3 ca; have cq := bools_cell H3.out.1 HR.out.2.2.2.2; have ca := (HX.out _ H3.out.2).1; cases x))
                  · clear ca cq hq
                    go_roundw
                    case rel => exact ⟨j, u', by omega, by go_num, H3.out.1, HR.out.2.2.1, by have := HR.out.2.2.2.1; simpa using this, H3.out.2⟩
                    case measure => simp [intOf] <;> omega
                  · obtain ⟨y, hy⟩ := get_of_lt (l := u') (k := p) (by have := HR.out.2.2.1; omega)
                    obtain ⟨za, zb⟩ := HZ.out _ H3.out.2
                    have hc2 := bools_cell H3.out.1 hy
                    have hf2 : w3.frozen? ⟨G, p, none⟩ = false := blk_free H3.out.1
                    have hp := HP.out.1
                    clear cq hq hy zb
                    go_upto_region 19 with fail
                    clear ca za hc2 hf2 hp
                    have hg4 := bools_blk_set H3.out.1 p true
                    have hb4 := H3.out.2.setCell (p := ⟨G, p, none⟩) (Nat.le_refl _) (.bool true)
                    revert hg4 hb4
                    generalize w3.setCell ⟨G, p, none⟩ (.bool true) = w4
                    intro hg4 hb4
                    obtain ⟨y2, hy2⟩ := get_of_lt (l := u'.set p true) (k := p2) (by have := HR.out.2.2.1; simp; omega)
                    obtain ⟨za, zb⟩ := HZ.out _ hb4
                    have ca := (HX.out _ hb4).1
                    have hc2 := bools_cell hg4 hy2
                    have hf2 : w4.frozen? ⟨G, p2, none⟩ = false := blk_free hg4
                    have hp2 := HP.out.2
                    have H4 := Lib.hid (And.intro hg4 hb4)
                    clear hg4 hb4 hy2 za
                    go_wp2_with fail
                    clear hp2
                    go_roundw
                    case rel =>
                      refine ⟨j, (u'.set p true).set p2 true, by omega, by go_num, bools_blk_set H4.out.1 p2 true, by simp; exact HR.out.2.2.1, ?_, H4.out.2.setCell (Nat.le_refl _) _⟩
                      have h9 : gatW c j (markW (markW u' g.a) g.b) = T := HR.out.2.2.2.1
                      rw [markW_nat HP.out.1, markW_nat HP.out.2] at h9
                      exact h9
                    case measure => simp [intOf] <;> omega
        · obtain rfl : r = c.next.length + 1 := by omega
          have hfin : rndsW c (c.next.length + 1) u0 = usedW c := by unfold usedW; rw [HU.out.1]
          rw [hfin] at hg
          have HR := Lib.hid (And.intro hg hbl)
          clear hg hbl hfin
          go_wp2_with fail
          go_ret
          exact ⟨_, rfl, Sl.toB HR.out.1, (HX.out _ HR.out.2).2.2⟩

end Go.Proofs.Ytbcolcchchgldaa
