import Derived.Test.YtdcjiclonjillaaP2
import Derived.Test.YtdcjiclonjillaaOA
import Derived.Test.YtdcjiclonjillaaQ1
namespace Go.Proofs.Ytdcjiclonjillaa
set_option linter.unusedVariables false
set_option linter.unusedSimpArgs false
open Go.RowKit

/-! Formulas: values, models, the first model of a formula. -/
def satN (vs : List Int) (n : Int) : Bool := (decide (0 < n) && decide (vs.getD n.toNat 0 = 1)) || (decide (n < 0) && decide (vs.getD (-n).toNat 0 = -1))
def holdsV (vs : List Int) (rows : List (List Int)) : Bool := rows.all fun r => r.any (satN vs)

/-- The value of a literal under values; a literal made true. -/
def litV (vs : List Int) (n : Int) : Int := if n < 0 then -(vs.getD (-n).toNat 0) else vs.getD n.toNat 0
def setL (vs : List Int) (n : Int) : List Int := if n < 0 then vs.set (-n).toNat (-1) else vs.set n.toNat 1
theorem getD_set (vs : List Int) (i j : Nat) (a : Int) (h : i < vs.length) : (vs.set i a).getD j 0 = if i = j then a else vs.getD j 0 := by
  simp only [List.getD_eq_getElem?_getD]
  by_cases e : i = j
  · subst e; simp [h]
  · rw [List.getElem?_set_ne e, if_neg e]
theorem satN_litV {vs : List Int} {n : Int} (h : n ≠ 0) : satN vs n = decide (litV vs n = 1) := by
  unfold satN litV
  by_cases hn : n < 0
  · rw [if_pos hn, decide_eq_false (show ¬ 0 < n by omega), decide_eq_true hn]
    simp only [Bool.false_and, Bool.true_and, Bool.false_or]
    rw [Bool.eq_iff_iff]; simp only [decide_eq_true_eq]; omega
  · rw [if_neg hn, decide_eq_true (show 0 < n by omega), decide_eq_false hn]
    simp
/-- Values of all variables: 0 where there is none. -/
structure WV (vs : List Int) : Prop where
  len : vs.length = 26
  zero : vs.getD 0 0 = 0
  tri : ∀ i, vs.getD i 0 = 0 ∨ vs.getD i 0 = 1 ∨ vs.getD i 0 = -1
def WV.tot (r : List Int) : Prop := WV r ∧ ∀ i, 1 ≤ i → i < 26 → r.getD i 0 ≠ 0
theorem WV.set {vs : List Int} (h : WV vs) {v : Nat} (hv : 1 ≤ v) (hv2 : v < 26) {a : Int} (ha : a = 0 ∨ a = 1 ∨ a = -1) : WV (vs.set v a) := by
  have hl := h.len
  refine ⟨by simpa using hl, ?_, fun i => ?_⟩
  · rw [getD_set _ _ _ _ (by omega), if_neg (by omega)]; exact h.zero
  · rw [getD_set _ _ _ _ (by omega)]; split
    · exact ha
    · exact h.tri i
theorem setL_var {n : Int} (h : lit25 n) : ∃ v : Nat, 1 ≤ v ∧ v < 26 ∧ ((n < 0 ∧ n = -(v : Int)) ∨ (0 < n ∧ n = (v : Int))) := by
  obtain ⟨h0, h1, h2⟩ := h
  by_cases hn : n < 0
  · exact ⟨(-n).toNat, by omega, by omega, .inl ⟨hn, by omega⟩⟩
  · exact ⟨n.toNat, by omega, by omega, .inr ⟨by omega, by omega⟩⟩
theorem WV.putL {vs : List Int} (h : WV vs) {n : Int} (hn : lit25 n) : WV (setL vs n) := by
  obtain ⟨v, h1, h2, h3⟩ := setL_var hn
  unfold setL
  split
  · exact h.set (by omega) (by omega) (by simp)
  · exact h.set (by omega) (by omega) (by simp)
theorem litV_tri {vs : List Int} (h : WV vs) (n : Int) : litV vs n = 0 ∨ litV vs n = 1 ∨ litV vs n = -1 := by
  unfold litV
  split
  · have := h.tri (-n).toNat; omega
  · exact h.tri n.toNat
/-- r is a model that agrees with the values vs. -/
def mdl (F : List (List Int)) (vs r : List Int) : Prop := WV.tot r ∧ (∀ i, 1 ≤ i → i < 26 → vs.getD i 0 ≠ 0 → r.getD i 0 = vs.getD i 0) ∧ holdsV r F = true
def lexle (r s : List Int) : Prop := r = s ∨ ∃ v, v < 26 ∧ r.getD v 0 < s.getD v 0 ∧ ∀ u, u < v → r.getD u 0 = s.getD u 0
theorem lexle_anti {r s : List Int} (h : lexle r s) (k : lexle s r) : r = s := by
  rcases h with h | ⟨v, _, h1, h2⟩
  · exact h
  · rcases k with k | ⟨u, _, k1, k2⟩
    · exact k.symm
    · rcases Nat.lt_trichotomy u v with e | e | e
      · have := h2 u e; omega
      · subst e; omega
      · have := k2 v e; omega
/-- The first model, or none. -/
def isRes (F : List (List Int)) (vs : List Int) : Option (List Int) → Prop
  | some r => mdl F vs r ∧ ∀ s, mdl F vs s → lexle r s
  | none => ∀ s, ¬ mdl F vs s
theorem isRes_uniq {F : List (List Int)} {vs : List Int} {o p : Option (List Int)} (h : isRes F vs o) (k : isRes F vs p) : o = p := by
  cases o with
  | none =>
    cases p with
    | none => rfl
    | some s => exact absurd k.1 (h s)
  | some r =>
    cases p with
    | none => exact absurd h.1 (k r)
    | some s => rw [lexle_anti (h.2 s k.1) (k.2 r h.1)]
theorem isRes_congr {F : List (List Int)} {vs us : List Int} (h : ∀ r, mdl F vs r ↔ mdl F us r) {o : Option (List Int)} (k : isRes F us o) : isRes F vs o := by
  cases o with
  | none => exact fun s hs => k s ((h s).1 hs)
  | some r => exact ⟨(h r).2 k.1, fun s hs => k.2 s ((h s).1 hs)⟩
theorem holdsV_mem {vs : List Int} {F : List (List Int)} (h : holdsV vs F = true) {c : List Int} (hc : c ∈ F) : ∃ n ∈ c, satN vs n = true := by
  have := List.all_eq_true.1 h c hc
  simpa using List.any_eq_true.1 this
theorem litV_ext {F : List (List Int)} {vs r : List Int} (h : mdl F vs r) {n : Int} (hn : lit25 n) (h0 : litV vs n ≠ 0) : litV r n = litV vs n := by
  obtain ⟨v, h1, h2, h3⟩ := setL_var hn
  unfold litV at h0 ⊢
  rcases h3 with ⟨h3, rfl⟩ | ⟨h3, rfl⟩
  · rw [if_pos h3] at h0 ⊢
    rw [if_pos h3]
    simp only [Int.neg_neg, Int.toNat_natCast] at h0 ⊢
    rw [h.2.1 v h1 h2 (by omega)]
  · rw [if_neg (by omega)] at h0 ⊢
    rw [if_neg (by omega)]
    simp only [Int.toNat_natCast] at h0 ⊢
    exact h.2.1 v h1 h2 h0
theorem res_conf {F : List (List Int)} {vs c : List Int} (hc : c ∈ F) (h25 : ∀ n ∈ c, lit25 n) (h : ∀ n ∈ c, litV vs n = -1) : isRes F vs none := by
  intro s hs
  obtain ⟨n, hn, hsat⟩ := holdsV_mem hs.2.2 hc
  rw [satN_litV (h25 n hn).1] at hsat
  have h1 := h n hn
  have := litV_ext hs (h25 n hn) (by omega)
  simp at hsat
  omega
theorem res_unit {F : List (List Int)} {vs c : List Int} {l : Int} (hv : WV vs) (hc : c ∈ F) (h25 : ∀ n ∈ c, lit25 n) (hl : l ∈ c) (h0 : litV vs l = 0) (h : ∀ n ∈ c, n ≠ l → litV vs n = -1) {o : Option (List Int)} (k : isRes F (setL vs l) o) : isRes F vs o := by
  refine isRes_congr (fun r => ?_) k
  obtain ⟨v, v1, v2, v3⟩ := setL_var (h25 l hl)
  have hvl := hv.len
  constructor
  · intro hm
    obtain ⟨n, hn, hsat⟩ := holdsV_mem hm.2.2 hc
    rw [satN_litV (h25 n hn).1] at hsat
    simp at hsat
    have hnl : n = l := by
      refine Decidable.byContradiction fun e => ?_
      have h1 := h n hn e
      have := litV_ext hm (h25 n hn) (by omega)
      omega
    subst hnl
    refine ⟨hm.1, fun i i1 i2 i3 => ?_, hm.2.2⟩
    unfold litV at hsat
    rcases v3 with ⟨w, rfl⟩ | ⟨w, rfl⟩
    · unfold setL at i3 ⊢
      rw [if_pos w] at i3 ⊢ hsat
      simp only [Int.neg_neg, Int.toNat_natCast] at i3 hsat ⊢
      rw [getD_set _ _ _ _ (by omega)] at i3 ⊢
      split
      · rename_i e; subst e; omega
      · rename_i e; rw [if_neg e] at i3; exact hm.2.1 i i1 i2 i3
    · unfold setL at i3 ⊢
      rw [if_neg (by omega)] at i3 ⊢ hsat
      simp only [Int.toNat_natCast] at i3 hsat ⊢
      rw [getD_set _ _ _ _ (by omega)] at i3 ⊢
      split
      · rename_i e; subst e; omega
      · rename_i e; rw [if_neg e] at i3; exact hm.2.1 i i1 i2 i3
  · intro hm
    refine ⟨hm.1, fun i i1 i2 i3 => ?_, hm.2.2⟩
    have h1 := hm.2.1 i i1 i2
    unfold litV at h0
    rcases v3 with ⟨w, rfl⟩ | ⟨w, rfl⟩
    · unfold setL at h1
      rw [if_pos w] at h1 h0
      simp only [Int.neg_neg, Int.toNat_natCast] at h1 h0
      rw [getD_set _ _ _ _ (by omega)] at h1
      by_cases e : v = i
      · subst e; omega
      · rw [if_neg e] at h1; exact h1 i3
    · unfold setL at h1
      rw [if_neg (by omega)] at h1 h0
      simp only [Int.toNat_natCast] at h1 h0
      rw [getD_set _ _ _ _ (by omega)] at h1
      by_cases e : v = i
      · subst e; omega
      · rw [if_neg e] at h1; exact h1 i3
theorem holds_of {F : List (List Int)} {vs : List Int} (h : ∀ c ∈ F, ∃ n ∈ c, lit25 n ∧ litV vs n = 1) : holdsV vs F = true := by
  refine List.all_eq_true.2 fun c hc => List.any_eq_true.2 ?_
  obtain ⟨n, hn, h1, h2⟩ := h c hc
  exact ⟨n, hn, by rw [satN_litV h1.1, h2]; rfl⟩
theorem res_full {F : List (List Int)} {vs : List Int} (hv : WV vs) (hf : ∀ i, 1 ≤ i → i < 26 → vs.getD i 0 ≠ 0) (h : ∀ c ∈ F, ∃ n ∈ c, lit25 n ∧ litV vs n = 1) : isRes F vs (some vs) := by
  refine ⟨⟨⟨hv, hf⟩, fun _ _ _ _ => rfl, holds_of h⟩, fun s hs => .inl ?_⟩
  refine List.ext_getElem? fun i => ?_
  by_cases hi : i < 26
  · obtain ⟨x, hx⟩ := get_of_lt (l := vs) (k := i) (by rw [hv.len]; exact hi)
    obtain ⟨y, hy⟩ := get_of_lt (l := s) (k := i) (by rw [hs.1.1.len]; exact hi)
    have e1 : vs.getD i 0 = x := by simp [List.getD_eq_getElem?_getD, hx]
    have e2 : s.getD i 0 = y := by simp [List.getD_eq_getElem?_getD, hy]
    rw [hx, hy]
    by_cases i0 : i = 0
    · subst i0; rw [← e1, ← e2, hv.zero, hs.1.1.zero]
    · rw [← e1, ← e2, hs.2.1 i (by omega) hi (hf i (by omega) hi)]
  · rw [List.getElem?_eq_none (by rw [hv.len]; omega), List.getElem?_eq_none (by rw [hs.1.1.len]; omega)]
/-- v is the first variable without a value. -/
def fzV (vs : List Int) (v : Nat) : Prop := 1 ≤ v ∧ v < 26 ∧ vs.getD v 0 = 0 ∧ ∀ u, 1 ≤ u → u < v → vs.getD u 0 ≠ 0
theorem mdl_set {F : List (List Int)} {vs r : List Int} {v : Nat} (hv : WV vs) (h : fzV vs v) {a : Int} (ha : a ≠ 0) : mdl F (vs.set v a) r ↔ mdl F vs r ∧ r.getD v 0 = a := by
  have hl := hv.len
  obtain ⟨f1, f2, f3, f4⟩ := h
  constructor
  · intro hm
    have e := hm.2.1 v f1 f2 (by rw [getD_set _ _ _ _ (by omega), if_pos rfl]; exact ha)
    rw [getD_set _ _ _ _ (by omega), if_pos rfl] at e
    refine ⟨⟨hm.1, fun i i1 i2 i3 => ?_, hm.2.2⟩, e⟩
    have h1 := hm.2.1 i i1 i2
    rw [getD_set _ _ _ _ (by omega)] at h1
    by_cases e : v = i
    · subst e; omega
    · rw [if_neg e] at h1; exact h1 i3
  · intro ⟨hm, e⟩
    refine ⟨hm.1, fun i i1 i2 i3 => ?_, hm.2.2⟩
    rw [getD_set _ _ _ _ (by omega)] at i3 ⊢
    by_cases e' : v = i
    · subst e'; rw [if_pos rfl]; exact e
    · rw [if_neg e'] at i3 ⊢; exact hm.2.1 i i1 i2 i3
theorem mdl_two {F : List (List Int)} {vs r : List Int} {v : Nat} (hm : mdl F vs r) (h : fzV vs v) : r.getD v 0 = -1 ∨ r.getD v 0 = 1 := by
  have h1 := hm.1.1.tri v
  have h2 := hm.1.2 v h.1 h.2.1
  omega
theorem mdl_pre {F : List (List Int)} {vs r s : List Int} {v : Nat} (hm : mdl F vs r) (hs : mdl F vs s) (h : fzV vs v) : ∀ u, u < v → r.getD u 0 = s.getD u 0 := by
  intro u hu
  by_cases u0 : u = 0
  · subst u0; rw [hm.1.1.zero, hs.1.1.zero]
  · have := h.2.2.2 u (by omega) hu
    have h2 := h.2.1
    rw [hm.2.1 u (by omega) (by omega) this, hs.2.1 u (by omega) (by omega) this]
theorem res_false {F : List (List Int)} {vs r : List Int} {v : Nat} (hv : WV vs) (h : fzV vs v) (k : isRes F (vs.set v (-1)) (some r)) : isRes F vs (some r) := by
  obtain ⟨k1, k2⟩ := k
  obtain ⟨m1, m2⟩ := (mdl_set hv h (by decide)).1 k1
  refine ⟨m1, fun s hs => ?_⟩
  rcases mdl_two hs h with e | e
  · exact k2 s ((mdl_set hv h (by decide)).2 ⟨hs, e⟩)
  · exact .inr ⟨v, h.2.1, by omega, mdl_pre m1 hs h⟩
theorem res_true {F : List (List Int)} {vs : List Int} {v : Nat} (hv : WV vs) (h : fzV vs v) (k0 : isRes F (vs.set v (-1)) none) {o : Option (List Int)} (k : isRes F (vs.set v 1) o) : isRes F vs o := by
  refine isRes_congr (fun s => ?_) k
  rw [mdl_set hv h (by decide)]
  refine ⟨fun hs => ⟨hs, ?_⟩, fun hs => hs.1⟩
  rcases mdl_two hs h with e | e
  · exact absurd ((mdl_set hv h (by decide)).2 ⟨hs, e⟩) (k0 s)
  · exact e
/-- How many variables have no value. -/
def zc (vs : List Int) : Nat := vs.count 0
theorem zc_set {vs : List Int} {v : Nat} (hv : WV vs) (hv2 : v < 26) (h0 : vs.getD v 0 = 0) {a : Int} (ha : a ≠ 0) : zc (vs.set v a) + 1 = zc vs := by
  have hl := hv.len
  obtain ⟨x, hx⟩ := get_of_lt (l := vs) (k := v) (by omega)
  have e : vs.getD v 0 = x := by simp [List.getD_eq_getElem?_getD, hx]
  have hx0 : vs[v]'(by omega) = 0 := by
    have := List.getElem?_eq_some_iff.1 hx
    obtain ⟨h, hh⟩ := this
    rw [hh, ← e]; exact h0
  have hm : 0 < vs.count 0 := List.count_pos_iff.2 (by rw [← hx0]; exact List.getElem_mem _)
  unfold zc
  rw [List.count_set (by omega), hx0]
  simp [ha]
  omega
theorem zc_setL {vs : List Int} {n : Int} (hv : WV vs) (hn : lit25 n) (h0 : litV vs n = 0) : zc (setL vs n) + 1 = zc vs := by
  obtain ⟨v, v1, v2, v3⟩ := setL_var hn
  unfold litV at h0
  unfold setL
  rcases v3 with ⟨w, rfl⟩ | ⟨w, rfl⟩
  · rw [if_pos w] at h0 ⊢
    simp only [Int.neg_neg, Int.toNat_natCast] at h0 ⊢
    exact zc_set hv v2 (by omega) (by decide)
  · rw [if_neg (by omega)] at h0 ⊢
    simp only [Int.toNat_natCast] at h0 ⊢
    exact zc_set hv v2 h0 (by decide)

/-! Satisfy of the reference. -/

theorem litV_pos {vs : List Int} {q : Nat} {x : Int} (hx : vs[q]? = some x) : litV vs (q : Int) = x := by
  unfold litV
  rw [if_neg (by omega), Int.toNat_natCast, List.getD_eq_getElem?_getD, hx]; rfl
theorem litV_neg {vs : List Int} {q : Nat} {x : Int} (h0 : 0 < (q : Int)) (hx : vs[q]? = some x) : litV vs (-(q : Int)) = -x := by
  unfold litV
  rw [if_pos (by omega), Int.neg_neg, Int.toNat_natCast, List.getD_eq_getElem?_getD, hx]; rfl
theorem WV.mem {vs : List Int} (h : WV vs) {q : Nat} {x : Int} (hx : vs[q]? = some x) : -1 ≤ x ∧ x ≤ 1 := by
  have := h.tri q
  rw [List.getD_eq_getElem?_getD, hx] at this
  simp at this; omega

/-- What the first literals of a clause show: how many are open, and which. -/
def openP (vs c : List Int) (o : Nat) (u : Int) : Prop :=
  (o = 0 ∧ u = 0 ∧ ∀ n ∈ c, litV vs n = -1) ∨ (o = 1 ∧ u ∈ c ∧ litV vs u = 0 ∧ ∀ n ∈ c, n ≠ u → litV vs n = -1) ∨ (2 ≤ o ∧ ∃ n ∈ c, litV vs n = 0)
theorem openP_nil (vs : List Int) : openP vs [] 0 0 := .inl ⟨rfl, rfl, by simp⟩
theorem openP_false {vs c : List Int} {o : Nat} {u n : Int} {k : Nat} (h : openP vs (c.take k) o u) (hn : c[k]? = some n) (hv : litV vs n = -1) : openP vs (c.take (k + 1)) o u := by
  have e : c.take (k + 1) = c.take k ++ [n] := by rw [List.take_add_one, hn]; rfl
  rw [e]
  rcases h with ⟨h1, h2, h3⟩ | ⟨h1, h2, h3, h4⟩ | ⟨h1, m, h2, h3⟩
  · exact .inl ⟨h1, h2, fun m hm => by rcases List.mem_append.1 hm with hm | hm; exact h3 m hm; simp at hm; subst hm; exact hv⟩
  · exact .inr (.inl ⟨h1, List.mem_append_left _ h2, h3, fun m hm hne => by rcases List.mem_append.1 hm with hm | hm; exact h4 m hm hne; simp at hm; subst hm; exact hv⟩)
  · exact .inr (.inr ⟨h1, m, List.mem_append_left _ h2, h3⟩)
theorem openP_open {vs c : List Int} {o : Nat} {u n : Int} {k : Nat} (h : openP vs (c.take k) o u) (hn : c[k]? = some n) (hv : litV vs n = 0) : openP vs (c.take (k + 1)) (o + 1) n := by
  have e : c.take (k + 1) = c.take k ++ [n] := by rw [List.take_add_one, hn]; rfl
  rw [e]
  have hm : n ∈ c.take k ++ [n] := List.mem_append_right _ (by simp)
  rcases h with ⟨rfl, h2, h3⟩ | ⟨rfl, h2, h3, h4⟩ | ⟨h1, m, h2, h3⟩
  · exact .inr (.inl ⟨rfl, hm, hv, fun m hm hne => by rcases List.mem_append.1 hm with hm | hm; exact h3 m hm; simp at hm; exact absurd hm hne⟩)
  · exact .inr (.inr ⟨by omega, n, hm, hv⟩)
  · exact .inr (.inr ⟨by omega, n, hm, hv⟩)
/-- What a clause asks for. -/
def stP (vs c : List Int) (st u : Int) : Prop :=
  (st = 1 ∧ u = 0 ∧ ∃ n ∈ c, litV vs n = 1) ∨ (st = -1 ∧ u = 0 ∧ ∀ n ∈ c, litV vs n = -1) ∨ (st = 0 ∧ u = 0 ∧ ∃ n ∈ c, litV vs n = 0) ∨ (st = 0 ∧ u ∈ c ∧ litV vs u = 0 ∧ ∀ n ∈ c, n ≠ u → litV vs n = -1)
def SdPost (vs c : List Int) (w : World) (e : Ending) (w' : World) : Prop := ∃ st u : Int, e = .returned (.tuple #[.int .i64 st, .int .i64 u]) ∧ stP vs c st u ∧ w = w'

def SetPost (us : List Int) (w : World) (e : Ending) (w' : World) : Prop := ∃ s' c', e = .returned (.slice s' 26 c') ∧ Sl w' s' (ints us) ∧ Below w.heap.size w w'

theorem SlS.row' {w : World} {s : Option Addr} {rows : List (List Int)} (h : SlS w s rows) {k : Nat} {r : List Int} (hr : rows[k]? = some r) : ∃ b off sr cr, s = some ⟨b, off, none⟩ ∧ b < w.heap.size ∧ w.cell? ⟨b, off + k, none⟩ = some (.slice sr r.length cr) ∧ Sl w sr (ints r) := by
  obtain ⟨b, off, sr, cr, h1, h2, h3, h4⟩ := h.row (Below.refl _ _) hr
  exact ⟨b, off, sr, cr, h1, h2, h3, h4⟩
/-- A clause is not refuted. -/
def okC (vs c : List Int) : Prop := ∃ n ∈ c, litV vs n = 1 ∨ litV vs n = 0
def PrPost (F : List (List Int)) (vs : List Int) (w : World) (e : Ending) (w' : World) : Prop :=
  ∃ (s' : Option Addr) (c' : Nat) (us : List Int) (ok : Bool), e = .returned (.tuple #[.slice s' 26 c', .bool ok]) ∧ Sl w' s' (ints us) ∧ WV us ∧ Below w.heap.size w w' ∧ zc us ≤ zc vs ∧ (∀ o, isRes F us o → isRes F vs o) ∧ (ok = false → isRes F vs none) ∧ (ok = true → ∀ c ∈ F, okC us c)

def SoPost (F : List (List Int)) (vs : List Int) (w : World) (e : Ending) (w' : World) : Prop :=
  ∃ (s' : Option Addr) (c' : Nat) (o : Option (List Int)), e = .returned (.tuple #[.slice s' (o.getD []).length c', .bool o.isSome]) ∧ Sl w' s' (ints (o.getD [])) ∧ isRes F vs o ∧ Below w.heap.size w w'
theorem full_ok {F : List (List Int)} {us : List Int} (hv : WV us) (hf : ∀ i, 1 ≤ i → i < 26 → us.getD i 0 ≠ 0) (h25 : ∀ c ∈ F, c.length ≤ 3 ∧ ∀ n ∈ c, lit25 n) (h : ∀ c ∈ F, okC us c) : isRes F us (some us) := by
  refine res_full hv hf fun c hc => ?_
  obtain ⟨n, hn, h1⟩ := h c hc
  have h2 := (h25 c hc).2 n hn
  refine ⟨n, hn, h2, ?_⟩
  rcases h1 with h1 | h1
  · exact h1
  · exfalso
    obtain ⟨v, v1, v2, v3⟩ := setL_var h2
    have := hf v v1 v2
    unfold litV at h1
    rcases v3 with ⟨w, rfl⟩ | ⟨w, rfl⟩
    · rw [if_pos w, Int.neg_neg, Int.toNat_natCast] at h1; omega
    · rw [if_neg (by omega), Int.toNat_natCast] at h1; omega
theorem isRes_len {F : List (List Int)} {vs r : List Int} (h : isRes F vs (some r)) : r.length = 26 := h.1.1.1.len

def zero26 : List Int := List.replicate 26 0
theorem zero26_wv : WV zero26 := by
  exact ⟨by decide, by decide, fun i => .inl (by unfold zero26; rw [List.getD_eq_getElem?_getD, List.getElem?_replicate]; split <;> rfl)⟩
/-- What Satisfy returns. -/
def satP (F : List (List Int)) (o : Option (List Int)) : Prop := (clausesB F = true ∧ isRes F zero26 o) ∨ (clausesB F = false ∧ o = none)
theorem satP_uniq {F : List (List Int)} {o p : Option (List Int)} (h : satP F o) (k : satP F p) : o = p := by
  rcases h with ⟨h1, h2⟩ | ⟨h1, rfl⟩ <;> rcases k with ⟨k1, k2⟩ | ⟨k1, rfl⟩
  · exact isRes_uniq h2 k2
  · rw [h1] at k1; cases k1
  · rw [h1] at k1; cases k1
  · rfl
theorem satP_len {F : List (List Int)} {o : Option (List Int)} (h : satP F o) : (o.getD []).length ≤ 26 := by
  cases o with
  | none => simp
  | some r =>
    rcases h with ⟨_, h⟩ | ⟨_, h⟩
    · exact Nat.le_of_eq (isRes_len h)
    · cases h
def SaPost (F : List (List Int)) (w : World) (e : Ending) (w' : World) : Prop :=
  ∃ (s' : Option Addr) (c' : Nat) (o : Option (List Int)), e = .returned (.tuple #[.slice s' (o.getD []).length c', .bool o.isSome]) ∧ Sl w' s' (ints (o.getD [])) ∧ satP F o ∧ Below w.heap.size w w'

end Go.Proofs.Ytdcjiclonjillaa
