import Derived.Test.YtddmgphlhfilnaaB3
import Derived.Test.YtddmgphlhfilnaaA2
import Derived.Test.YtddmgphlhfilnaaQ1
namespace Go.Proofs.Ytddmgphlhfilnaa
set_option linter.unusedVariables false
set_option linter.unusedSimpArgs false
open Go.RowKit

/-! Formulas: values, models, the first model of a formula. -/
def satN (vs : List Int) (n : Int) : Bool := (decide (0 < n) && decide (vs.getD n.toNat 0 = 1)) || (decide (n < 0) && decide (vs.getD (-n).toNat 0 = -1))
def holdsV (vs : List Int) (rows : List (List Int)) : Bool := rows.all fun r => r.any (satN vs)

/-- The value of a literal under values; a literal made true. -/
def litV (vs : List Int) (n : Int) : Int := if n < 0 then -(vs.getD (-n).toNat 0) else vs.getD n.toNat 0
def setL (vs : List Int) (n : Int) : List Int := if n < 0 then vs.set (-n).toNat (-1) else vs.set n.toNat 1
theorem getD_set (vs : List Int) (i j : Nat) (a : Int) (h : i < vs.length) : (vs.set i a).getD j 0 = if i = j then a else vs.getD j 0 := by
  simp only [List.getD_eq_getElem?_getD]
  by_cases e : i = j
  · subst e; simp [h]
  · rw [List.getElem?_set_ne e, if_neg e]
theorem satN_litV {vs : List Int} {n : Int} (h : n ≠ 0) : satN vs n = decide (litV vs n = 1) := by
  unfold satN litV
  by_cases hn : n < 0
  · rw [if_pos hn, decide_eq_false (show ¬ 0 < n by omega), decide_eq_true hn]
    simp only [Bool.false_and, Bool.true_and, Bool.false_or]
    rw [Bool.eq_iff_iff]; simp only [decide_eq_true_eq]; omega
  · rw [if_neg hn, decide_eq_true (show 0 < n by omega), decide_eq_false hn]
    simp
/-- Values of all variables: 0 where there is none. -/
structure WV (vs : List Int) : Prop where
  len : vs.length = 26
  zero : vs.getD 0 0 = 0
  tri : ∀ i, vs.getD i 0 = 0 ∨ vs.getD i 0 = 1 ∨ vs.getD i 0 = -1
def WV.tot (r : List Int) : Prop := WV r ∧ ∀ i, 1 ≤ i → i < 26 → r.getD i 0 ≠ 0
theorem WV.set {vs : List Int} (h : WV vs) {v : Nat} (hv : 1 ≤ v) (hv2 : v < 26) {a : Int} (ha : a = 0 ∨ a = 1 ∨ a = -1) : WV (vs.set v a) := by
  have hl := h.len
  refine ⟨by simpa using hl, ?_, fun i => ?_⟩
  · rw [getD_set _ _ _ _ (by omega), if_neg (by omega)]; exact h.zero
  · rw [getD_set _ _ _ _ (by omega)]; split
    · exact ha
    · exact h.tri i
theorem setL_var {n : Int} (h : lit25 n) : ∃ v : Nat, 1 ≤ v ∧ v < 26 ∧ ((n < 0 ∧ n = -(v : Int)) ∨ (0 < n ∧ n = (v : Int))) := by
  obtain ⟨h0, h1, h2⟩ := h
  by_cases hn : n < 0
  · exact ⟨(-n).toNat, by omega, by omega, .inl ⟨hn, by omega⟩⟩
  · exact ⟨n.toNat, by omega, by omega, .inr ⟨by omega, by omega⟩⟩
theorem WV.putL {vs : List Int} (h : WV vs) {n : Int} (hn : lit25 n) : WV (setL vs n) := by
  obtain ⟨v, h1, h2, h3⟩ := setL_var hn
  unfold setL
  split
  · exact h.set (by omega) (by omega) (by simp)
  · exact h.set (by omega) (by omega) (by simp)
theorem litV_tri {vs : List Int} (h : WV vs) (n : Int) : litV vs n = 0 ∨ litV vs n = 1 ∨ litV vs n = -1 := by
  unfold litV
  split
  · have := h.tri (-n).toNat; omega
  · exact h.tri n.toNat
/-- r is a model that agrees with the values vs. -/
def mdl (F : List (List Int)) (vs r : List Int) : Prop := WV.tot r ∧ (∀ i, 1 ≤ i → i < 26 → vs.getD i 0 ≠ 0 → r.getD i 0 = vs.getD i 0) ∧ holdsV r F = true
def lexle (r s : List Int) : Prop := r = s ∨ ∃ v, v < 26 ∧ r.getD v 0 < s.getD v 0 ∧ ∀ u, u < v → r.getD u 0 = s.getD u 0
theorem lexle_anti {r s : List Int} (h : lexle r s) (k : lexle s r) : r = s := by
  rcases h with h | ⟨v, _, h1, h2⟩
  · exact h
  · rcases k with k | ⟨u, _, k1, k2⟩
    · exact k.symm
    · rcases Nat.lt_trichotomy u v with e | e | e
      · have := h2 u e; omega
      · subst e; omega
      · have := k2 v e; omega
/-- The first model, or none. -/
def isRes (F : List (List Int)) (vs : List Int) : Option (List Int) → Prop
  | some r => mdl F vs r ∧ ∀ s, mdl F vs s → lexle r s
  | none => ∀ s, ¬ mdl F vs s
theorem isRes_uniq {F : List (List Int)} {vs : List Int} {o p : Option (List Int)} (h : isRes F vs o) (k : isRes F vs p) : o = p := by
  cases o with
  | none =>
    cases p with
    | none => rfl
    | some s => exact absurd k.1 (h s)
  | some r =>
    cases p with
    | none => exact absurd h.1 (k r)
    | some s => rw [lexle_anti (h.2 s k.1) (k.2 r h.1)]
theorem isRes_congr {F : List (List Int)} {vs us : List Int} (h : ∀ r, mdl F vs r ↔ mdl F us r) {o : Option (List Int)} (k : isRes F us o) : isRes F vs o := by
  cases o with
  | none => exact fun s hs => k s ((h s).1 hs)
  | some r => exact ⟨(h r).2 k.1, fun s hs => k.2 s ((h s).1 hs)⟩
theorem holdsV_mem {vs : List Int} {F : List (List Int)} (h : holdsV vs F = true) {c : List Int} (hc : c ∈ F) : ∃ n ∈ c, satN vs n = true := by
  have := List.all_eq_true.1 h c hc
  simpa using List.any_eq_true.1 this
theorem litV_ext {F : List (List Int)} {vs r : List Int} (h : mdl F vs r) {n : Int} (hn : lit25 n) (h0 : litV vs n ≠ 0) : litV r n = litV vs n := by
  obtain ⟨v, h1, h2, h3⟩ := setL_var hn
  unfold litV at h0 ⊢
  rcases h3 with ⟨h3, rfl⟩ | ⟨h3, rfl⟩
  · rw [if_pos h3] at h0 ⊢
    rw [if_pos h3]
    simp only [Int.neg_neg, Int.toNat_natCast] at h0 ⊢
    rw [h.2.1 v h1 h2 (by omega)]
  · rw [if_neg (by omega)] at h0 ⊢
    rw [if_neg (by omega)]
    simp only [Int.toNat_natCast] at h0 ⊢
    exact h.2.1 v h1 h2 h0
theorem res_conf {F : List (List Int)} {vs c : List Int} (hc : c ∈ F) (h25 : ∀ n ∈ c, lit25 n) (h : ∀ n ∈ c, litV vs n = -1) : isRes F vs none := by
  intro s hs
  obtain ⟨n, hn, hsat⟩ := holdsV_mem hs.2.2 hc
  rw [satN_litV (h25 n hn).1] at hsat
  have h1 := h n hn
  have := litV_ext hs (h25 n hn) (by omega)
  simp at hsat
  omega
theorem res_unit {F : List (List Int)} {vs c : List Int} {l : Int} (hv : WV vs) (hc : c ∈ F) (h25 : ∀ n ∈ c, lit25 n) (hl : l ∈ c) (h0 : litV vs l = 0) (h : ∀ n ∈ c, n ≠ l → litV vs n = -1) {o : Option (List Int)} (k : isRes F (setL vs l) o) : isRes F vs o := by
  refine isRes_congr (fun r => ?_) k
  obtain ⟨v, v1, v2, v3⟩ := setL_var (h25 l hl)
  have hvl := hv.len
  constructor
  · intro hm
    obtain ⟨n, hn, hsat⟩ := holdsV_mem hm.2.2 hc
    rw [satN_litV (h25 n hn).1] at hsat
    simp at hsat
    have hnl : n = l := by
      refine Decidable.byContradiction fun e => ?_
      have h1 := h n hn e
      have := litV_ext hm (h25 n hn) (by omega)
      omega
    subst hnl
    refine ⟨hm.1, fun i i1 i2 i3 => ?_, hm.2.2⟩
    unfold litV at hsat
    rcases v3 with ⟨w, rfl⟩ | ⟨w, rfl⟩
    · unfold setL at i3 ⊢
      rw [if_pos w] at i3 ⊢ hsat
      simp only [Int.neg_neg, Int.toNat_natCast] at i3 hsat ⊢
      rw [getD_set _ _ _ _ (by omega)] at i3 ⊢
      split
      · rename_i e; subst e; omega
      · rename_i e; rw [if_neg e] at i3; exact hm.2.1 i i1 i2 i3
    · unfold setL at i3 ⊢
      rw [if_neg (by omega)] at i3 ⊢ hsat
      simp only [Int.toNat_natCast] at i3 hsat ⊢
      rw [getD_set _ _ _ _ (by omega)] at i3 ⊢
      split
      · rename_i e; subst e; omega
      · rename_i e; rw [if_neg e] at i3; exact hm.2.1 i i1 i2 i3
  · intro hm
    refine ⟨hm.1, fun i i1 i2 i3 => ?_, hm.2.2⟩
    have h1 := hm.2.1 i i1 i2
    unfold litV at h0
    rcases v3 with ⟨w, rfl⟩ | ⟨w, rfl⟩
    · unfold setL at h1
      rw [if_pos w] at h1 h0
      simp only [Int.neg_neg, Int.toNat_natCast] at h1 h0
      rw [getD_set _ _ _ _ (by omega)] at h1
      by_cases e : v = i
      · subst e; omega
      · rw [if_neg e] at h1; exact h1 i3
    · unfold setL at h1
      rw [if_neg (by omega)] at h1 h0
      simp only [Int.toNat_natCast] at h1 h0
      rw [getD_set _ _ _ _ (by omega)] at h1
      by_cases e : v = i
      · subst e; omega
      · rw [if_neg e] at h1; exact h1 i3
theorem holds_of {F : List (List Int)} {vs : List Int} (h : ∀ c ∈ F, ∃ n ∈ c, lit25 n ∧ litV vs n = 1) : holdsV vs F = true := by
  refine List.all_eq_true.2 fun c hc => List.any_eq_true.2 ?_
  obtain ⟨n, hn, h1, h2⟩ := h c hc
  exact ⟨n, hn, by rw [satN_litV h1.1, h2]; rfl⟩
theorem res_full {F : List (List Int)} {vs : List Int} (hv : WV vs) (hf : ∀ i, 1 ≤ i → i < 26 → vs.getD i 0 ≠ 0) (h : ∀ c ∈ F, ∃ n ∈ c, lit25 n ∧ litV vs n = 1) : isRes F vs (some vs) := by
  refine ⟨⟨⟨hv, hf⟩, fun _ _ _ _ => rfl, holds_of h⟩, fun s hs => .inl ?_⟩
  refine List.ext_getElem? fun i => ?_
  by_cases hi : i < 26
  · obtain ⟨x, hx⟩ := get_of_lt (l := vs) (k := i) (by rw [hv.len]; exact hi)
    obtain ⟨y, hy⟩ := get_of_lt (l := s) (k := i) (by rw [hs.1.1.len]; exact hi)
    have e1 : vs.getD i 0 = x := by simp [List.getD_eq_getElem?_getD, hx]
    have e2 : s.getD i 0 = y := by simp [List.getD_eq_getElem?_getD, hy]
    rw [hx, hy]
    by_cases i0 : i = 0
    · subst i0; rw [← e1, ← e2, hv.zero, hs.1.1.zero]
    · rw [← e1, ← e2, hs.2.1 i (by omega) hi (hf i (by omega) hi)]
  · rw [List.getElem?_eq_none (by rw [hv.len]; omega), List.getElem?_eq_none (by rw [hs.1.1.len]; omega)]
/-- v is the first variable without a value. -/
def fzV (vs : List Int) (v : Nat) : Prop := 1 ≤ v ∧ v < 26 ∧ vs.getD v 0 = 0 ∧ ∀ u, 1 ≤ u → u < v → vs.getD u 0 ≠ 0
theorem mdl_set {F : List (List Int)} {vs r : List Int} {v : Nat} (hv : WV vs) (h : fzV vs v) {a : Int} (ha : a ≠ 0) : mdl F (vs.set v a) r ↔ mdl F vs r ∧ r.getD v 0 = a := by
  have hl := hv.len
  obtain ⟨f1, f2, f3, f4⟩ := h
  constructor
  · intro hm
    have e := hm.2.1 v f1 f2 (by rw [getD_set _ _ _ _ (by omega), if_pos rfl]; exact ha)
    rw [getD_set _ _ _ _ (by omega), if_pos rfl] at e
    refine ⟨⟨hm.1, fun i i1 i2 i3 => ?_, hm.2.2⟩, e⟩
    have h1 := hm.2.1 i i1 i2
    rw [getD_set _ _ _ _ (by omega)] at h1
    by_cases e : v = i
    · subst e; omega
    · rw [if_neg e] at h1; exact h1 i3
  · intro ⟨hm, e⟩
    refine ⟨hm.1, fun i i1 i2 i3 => ?_, hm.2.2⟩
    rw [getD_set _ _ _ _ (by omega)] at i3 ⊢
    by_cases e' : v = i
    · subst e'; rw [if_pos rfl]; exact e
    · rw [if_neg e'] at i3 ⊢; exact hm.2.1 i i1 i2 i3
theorem mdl_two {F : List (List Int)} {vs r : List Int} {v : Nat} (hm : mdl F vs r) (h : fzV vs v) : r.getD v 0 = -1 ∨ r.getD v 0 = 1 := by
  have h1 := hm.1.1.tri v
  have h2 := hm.1.2 v h.1 h.2.1
  omega
theorem mdl_pre {F : List (List Int)} {vs r s : List Int} {v : Nat} (hm : mdl F vs r) (hs : mdl F vs s) (h : fzV vs v) : ∀ u, u < v → r.getD u 0 = s.getD u 0 := by
  intro u hu
  by_cases u0 : u = 0
  · subst u0; rw [hm.1.1.zero, hs.1.1.zero]
  · have := h.2.2.2 u (by omega) hu
    have h2 := h.2.1
    rw [hm.2.1 u (by omega) (by omega) this, hs.2.1 u (by omega) (by omega) this]
theorem res_false {F : List (List Int)} {vs r : List Int} {v : Nat} (hv : WV vs) (h : fzV vs v) (k : isRes F (vs.set v (-1)) (some r)) : isRes F vs (some r) := by
  obtain ⟨k1, k2⟩ := k
  obtain ⟨m1, m2⟩ := (mdl_set hv h (by decide)).1 k1
  refine ⟨m1, fun s hs => ?_⟩
  rcases mdl_two hs h with e | e
  · exact k2 s ((mdl_set hv h (by decide)).2 ⟨hs, e⟩)
  · exact .inr ⟨v, h.2.1, by omega, mdl_pre m1 hs h⟩
theorem res_true {F : List (List Int)} {vs : List Int} {v : Nat} (hv : WV vs) (h : fzV vs v) (k0 : isRes F (vs.set v (-1)) none) {o : Option (List Int)} (k : isRes F (vs.set v 1) o) : isRes F vs o := by
  refine isRes_congr (fun s => ?_) k
  rw [mdl_set hv h (by decide)]
  refine ⟨fun hs => ⟨hs, ?_⟩, fun hs => hs.1⟩
  rcases mdl_two hs h with e | e
  · exact absurd ((mdl_set hv h (by decide)).2 ⟨hs, e⟩) (k0 s)
  · exact e
/-- How many variables have no value. -/
def zc (vs : List Int) : Nat := vs.count 0
theorem zc_set {vs : List Int} {v : Nat} (hv : WV vs) (hv2 : v < 26) (h0 : vs.getD v 0 = 0) {a : Int} (ha : a ≠ 0) : zc (vs.set v a) + 1 = zc vs := by
  have hl := hv.len
  obtain ⟨x, hx⟩ := get_of_lt (l := vs) (k := v) (by omega)
  have e : vs.getD v 0 = x := by simp [List.getD_eq_getElem?_getD, hx]
  have hx0 : vs[v]'(by omega) = 0 := by
    have := List.getElem?_eq_some_iff.1 hx
    obtain ⟨h, hh⟩ := this
    rw [hh, ← e]; exact h0
  have hm : 0 < vs.count 0 := List.count_pos_iff.2 (by rw [← hx0]; exact List.getElem_mem _)
  unfold zc
  rw [List.count_set (by omega), hx0]
  simp [ha]
  omega
theorem zc_setL {vs : List Int} {n : Int} (hv : WV vs) (hn : lit25 n) (h0 : litV vs n = 0) : zc (setL vs n) + 1 = zc vs := by
  obtain ⟨v, v1, v2, v3⟩ := setL_var hn
  unfold litV at h0
  unfold setL
  rcases v3 with ⟨w, rfl⟩ | ⟨w, rfl⟩
  · rw [if_pos w] at h0 ⊢
    simp only [Int.neg_neg, Int.toNat_natCast] at h0 ⊢
    exact zc_set hv v2 (by omega) (by decide)
  · rw [if_neg (by omega)] at h0 ⊢
    simp only [Int.toNat_natCast] at h0 ⊢
    exact zc_set hv v2 h0 (by decide)

/-! Satisfy of the reference. -/

theorem litV_pos {vs : List Int} {q : Nat} {x : Int} (hx : vs[q]? = some x) : litV vs (q : Int) = x := by
  unfold litV
  rw [if_neg (by omega), Int.toNat_natCast, List.getD_eq_getElem?_getD, hx]; rfl
theorem litV_neg {vs : List Int} {q : Nat} {x : Int} (h0 : 0 < (q : Int)) (hx : vs[q]? = some x) : litV vs (-(q : Int)) = -x := by
  unfold litV
  rw [if_pos (by omega), Int.neg_neg, Int.toNat_natCast, List.getD_eq_getElem?_getD, hx]; rfl
theorem WV.mem {vs : List Int} (h : WV vs) {q : Nat} {x : Int} (hx : vs[q]? = some x) : -1 ≤ x ∧ x ≤ 1 := by
  have := h.tri q
  rw [List.getD_eq_getElem?_getD, hx] at this
  simp at this; omega

theorem l15Value_any (s : Option Addr) (vs : List Int) (cap : Nat) (n : Int) (w : World) (h : Sl w s (ints vs)) (hv : WV vs) (hn : lit25 n) :
    Calls Try.prog 112 #[.slice s 26 cap, .int .i64 n] w fun e w' => e = .returned (.int .i64 (litV vs n)) ∧ w = w' := by
  obtain ⟨q, q1, q2, q3⟩ := setL_var hn
  obtain ⟨x, hx⟩ := get_of_lt (l := vs) (k := q) (by rw [hv.len]; exact q2)
  obtain ⟨x1, x2⟩ := hv.mem hx
  obtain ⟨b, off, rfl, hbw, hz⟩ := h.int (Below.refl _ _) hx
  have H := Lib.hid (And.intro hx hv)
  clear hx hv h hn
  rcases q3 with ⟨q3, rfl⟩ | ⟨q3, rfl⟩
  · rw [litV_neg (by omega) H.out.1]
    go_enter Try.func112, Try.ntmps112
    go_wp2
    go_ret
    exact ⟨rfl, rfl⟩
  · rw [litV_pos H.out.1]
    go_enter Try.func112, Try.ntmps112
    go_wp2
    go_ret
    exact ⟨rfl, rfl⟩

/-- What the first literals of a clause show: how many are open, and which. -/
def openP (vs c : List Int) (o : Nat) (u : Int) : Prop :=
  (o = 0 ∧ u = 0 ∧ ∀ n ∈ c, litV vs n = -1) ∨ (o = 1 ∧ u ∈ c ∧ litV vs u = 0 ∧ ∀ n ∈ c, n ≠ u → litV vs n = -1) ∨ (2 ≤ o ∧ ∃ n ∈ c, litV vs n = 0)
theorem openP_nil (vs : List Int) : openP vs [] 0 0 := .inl ⟨rfl, rfl, by simp⟩
theorem openP_false {vs c : List Int} {o : Nat} {u n : Int} {k : Nat} (h : openP vs (c.take k) o u) (hn : c[k]? = some n) (hv : litV vs n = -1) : openP vs (c.take (k + 1)) o u := by
  have e : c.take (k + 1) = c.take k ++ [n] := by rw [List.take_add_one, hn]; rfl
  rw [e]
  rcases h with ⟨h1, h2, h3⟩ | ⟨h1, h2, h3, h4⟩ | ⟨h1, m, h2, h3⟩
  · exact .inl ⟨h1, h2, fun m hm => by rcases List.mem_append.1 hm with hm | hm; exact h3 m hm; simp at hm; subst hm; exact hv⟩
  · exact .inr (.inl ⟨h1, List.mem_append_left _ h2, h3, fun m hm hne => by rcases List.mem_append.1 hm with hm | hm; exact h4 m hm hne; simp at hm; subst hm; exact hv⟩)
  · exact .inr (.inr ⟨h1, m, List.mem_append_left _ h2, h3⟩)
theorem openP_open {vs c : List Int} {o : Nat} {u n : Int} {k : Nat} (h : openP vs (c.take k) o u) (hn : c[k]? = some n) (hv : litV vs n = 0) : openP vs (c.take (k + 1)) (o + 1) n := by
  have e : c.take (k + 1) = c.take k ++ [n] := by rw [List.take_add_one, hn]; rfl
  rw [e]
  have hm : n ∈ c.take k ++ [n] := List.mem_append_right _ (by simp)
  rcases h with ⟨rfl, h2, h3⟩ | ⟨rfl, h2, h3, h4⟩ | ⟨h1, m, h2, h3⟩
  · exact .inr (.inl ⟨rfl, hm, hv, fun m hm hne => by rcases List.mem_append.1 hm with hm | hm; exact h3 m hm; simp at hm; exact absurd hm hne⟩)
  · exact .inr (.inr ⟨by omega, n, hm, hv⟩)
  · exact .inr (.inr ⟨by omega, n, hm, hv⟩)
/-- What a clause asks for. -/
def stP (vs c : List Int) (st u : Int) : Prop :=
  (st = 1 ∧ u = 0 ∧ ∃ n ∈ c, litV vs n = 1) ∨ (st = -1 ∧ u = 0 ∧ ∀ n ∈ c, litV vs n = -1) ∨ (st = 0 ∧ u = 0 ∧ ∃ n ∈ c, litV vs n = 0) ∨ (st = 0 ∧ u ∈ c ∧ litV vs u = 0 ∧ ∀ n ∈ c, n ≠ u → litV vs n = -1)
def StPost (vs c : List Int) (w : World) (e : Ending) (w' : World) : Prop := ∃ st u : Int, e = .returned (.tuple #[.int .i64 st, .int .i64 u]) ∧ stP vs c st u ∧ w = w'

set_option maxHeartbeats 1600000 in
theorem l15State_any (s sc : Option Addr) (vs c : List Int) (cap cc : Nat) (w : World) (h : Sl w s (ints vs)) (hv : WV vs) (hc : Sl w sc (ints c)) (h25 : ∀ n ∈ c, lit25 n) (hl : c.length ≤ 3) :
    Calls Try.prog 110 #[.slice s 26 cap, .slice sc c.length cc] w (StPost vs c w) := by
  have H : Hid (Sl w s (ints vs) ∧ WV vs ∧ Sl w sc (ints c) ∧ ∀ n ∈ c, lit25 n) := ⟨h, hv, hc, h25⟩
  clear h hv hc h25
  go_enter Try.func110, Try.ntmps110
  go_wp2_with fail
  go_loop [6, 7, 8] (fun v6 v7 v8 => ∃ (k o : Nat) (u : Int), k ≤ c.length ∧ o ≤ k ∧ v8 = .int .i64 k ∧ v6 = .int .i64 o ∧ v7 = .int .i64 u ∧ openP vs (c.take k) o u) (fun _ _ v8 => c.length - (intOf v8).toNat)
  case atStart => exact ⟨0, 0, 0, Nat.zero_le _, Nat.zero_le _, rfl, rfl, rfl, openP_nil _⟩
  case round =>
    obtain ⟨k, o, u, hk, ho, rfl, rfl, rfl, hp⟩ := hrel
    have HP := Lib.hid hp
    clear hp
    by_cases hlt : k < c.length
    · obtain ⟨n, hn⟩ := get_of_lt hlt
      have hn25 := H.out.2.2.2 n (List.mem_of_getElem? hn)
      obtain ⟨n0, n1, n2⟩ := id hn25
      obtain ⟨b, off, rfl, hbw, hz⟩ := H.out.2.2.1.int (Below.refl _ _) hn
      have htri := litV_tri H.out.2.1 n
      obtain ⟨x, hx⟩ : ∃ x, x = litV vs n := ⟨_, rfl⟩
      rw [← hx] at htri
      have HN := Lib.hid (And.intro hn (And.intro hx hn25))
      clear hn hx hn25 n0
      rcases htri with rfl | rfl | rfl
      · go_wp2_with (go_at_call 112; ((with_reducible refine (l15Value_any s vs _ n _ H.out.1 H.out.2.1 HN.out.2.2).mono ?_); rintro e w1 ⟨rfl, rfl⟩; rw [← HN.out.2.1]))
        go_round
        case rel => exact ⟨k + 1, o + 1, n, by omega, by omega, by go_num, by go_num, rfl, openP_open HP.out HN.out.1 HN.out.2.1.symm⟩
        case measure => simp [intOf]; omega
      · go_wp2_with (go_at_call 112; ((with_reducible refine (l15Value_any s vs _ n _ H.out.1 H.out.2.1 HN.out.2.2).mono ?_); rintro e w1 ⟨rfl, rfl⟩; rw [← HN.out.2.1]))
        exact bodyPost_ret (v := .tuple #[.int .i64 1, .int .i64 0]) (by simp [results, Try.results110, go_sem]) rfl ⟨1, 0, rfl, .inl ⟨rfl, rfl, n, List.mem_of_getElem? HN.out.1, HN.out.2.1.symm⟩, rfl⟩
      · go_wp2_with (go_at_call 112; ((with_reducible refine (l15Value_any s vs _ n _ H.out.1 H.out.2.1 HN.out.2.2).mono ?_); rintro e w1 ⟨rfl, rfl⟩; rw [← HN.out.2.1]))
        go_round
        case rel => exact ⟨k + 1, o, u, by omega, by omega, by go_num, rfl, rfl, openP_false HP.out HN.out.1 HN.out.2.1.symm⟩
        case measure => simp [intOf]; omega
    · obtain rfl : k = c.length := by omega
      have hp := HP.out
      rw [List.take_length] at hp
      rcases (show o = 0 ∨ o = 1 ∨ 2 ≤ o by omega) with h0 | h1 | h2
      · subst h0
        have hq : ∀ n ∈ c, litV vs n = -1 := by
          rcases hp with hp | hp | hp
          · exact hp.2.2
          · omega
          · omega
        have HQ := Lib.hid hq
        clear hp hq
        go_wp2_with fail
        exact bodyPost_ret (v := .tuple #[.int .i64 (-1), .int .i64 0]) (by simp [results, Try.results110, go_sem]) rfl ⟨-1, 0, rfl, .inr (.inl ⟨rfl, rfl, HQ.out⟩), rfl⟩
      · subst h1
        have hq : u ∈ c ∧ litV vs u = 0 ∧ ∀ n ∈ c, n ≠ u → litV vs n = -1 := by
          rcases hp with hp | hp | hp
          · omega
          · exact hp.2
          · omega
        have HQ := Lib.hid hq
        clear hp hq
        go_wp2_with fail
        exact bodyPost_ret (v := .tuple #[.int .i64 0, .int .i64 u]) (by simp [results, Try.results110, go_sem]) rfl ⟨0, u, rfl, .inr (.inr (.inr ⟨rfl, HQ.out⟩)), rfl⟩
      · have hq : ∃ n ∈ c, litV vs n = 0 := by
          rcases hp with hp | hp | hp
          · omega
          · omega
          · exact hp.2
        have HQ := Lib.hid hq
        clear hp hq
        go_wp2_with fail
        exact bodyPost_ret (v := .tuple #[.int .i64 0, .int .i64 0]) (by simp [results, Try.results110, go_sem]) rfl ⟨0, 0, rfl, .inr (.inr (.inl ⟨rfl, rfl, HQ.out⟩)), rfl⟩

def SetPost (us : List Int) (w : World) (e : Ending) (w' : World) : Prop := ∃ s' c', e = .returned (.slice s' 26 c') ∧ Sl w' s' (ints us) ∧ Below w.heap.size w w'

set_option maxHeartbeats 800000 in
theorem l15Set_any (s : Option Addr) (vs : List Int) (cap : Nat) (n : Int) (w : World) (h : Sl w s (ints vs)) (hv : WV vs) (hn : lit25 n) :
    Calls Try.prog 103 #[.slice s 26 cap, .int .i64 n] w (SetPost (setL vs n) w) := by
  obtain ⟨q, q1, q2, q3⟩ := setL_var hn
  have hl := hv.len
  have hb1 := (Below.refl w.heap.size w).alloc (Nat.le_refl _) (.cells #[] 3)
  have ho := own_of_blk (base := w.heap.size) (size := 1) (n := 0) (cur := #[]) (blk_new w (.cells #[] 3)) (Nat.le_refl _) (by simp) (by unfold maxLen; omega)
  have HA := Lib.hid (And.intro (h.mono hb1) (And.intro hb1 (And.intro ho hb1.size)))
  have HL := Lib.hid hl
  clear h hv hn hb1 ho hl
  rcases q3 with ⟨q3, rfl⟩ | ⟨q3, rfl⟩
  · have e : setL vs (-(q : Int)) = vs.set q (-1) := by unfold setL; rw [if_pos q3]; simp
    rw [e]
    clear e
    go_enter Try.func103, Try.ntmps103
    go_wp2_with (at_builtin; refine wpl_app rfl _ _ rfl elem_int HA.out.2.2.1 rfl rfl (by rw [ints_length, HL.out]) HA.out.1 (ints_one _) 26 rfl (ints vs) (by simp) (by unfold maxLen; omega) (by omega) HA.out.2.2.2 ?_; intro s6 c6 w6 h6 hb6 _ _; rcases own_some h6 with ⟨_, hbad, _⟩ | ⟨g6, rfl⟩; (first | (exfalso; omega) | skip); have z1 := h6.cellAt q (by rw [Nat.mul_one]; exact q2); obtain ⟨y, hy⟩ := get_of_lt (l := ints vs) (k := q) (by rw [ints_length, HL.out]; exact q2); rw [hy] at z1; have z2 := h6.frozenAt q; have HB := Lib.hid (And.intro h6 (HA.out.2.1.trans hb6)); clear h6 hb6 hy)
    go_ret
    have hst := (HB.out.1.stored q (.int .i64 (-1))).1
    have hset : (ints vs).set q (.int .i64 (-1)) = ints (vs.set q (-1)) := by simp [ints, List.map_set]
    rw [hset] at hst
    have hg := (own_blk HB.out.1 (k := g6) rfl).1
    exact ⟨_, _, rfl, own_sl hst, HB.out.2.setCell (p := ⟨g6, q, none⟩) hg _⟩
  · have e : setL vs (q : Int) = vs.set q 1 := by unfold setL; rw [if_neg (by omega)]; simp
    rw [e]
    clear e
    go_enter Try.func103, Try.ntmps103
    go_wp2_with (at_builtin; refine wpl_app rfl _ _ rfl elem_int HA.out.2.2.1 rfl rfl (by rw [ints_length, HL.out]) HA.out.1 (ints_one _) 26 rfl (ints vs) (by simp) (by unfold maxLen; omega) (by omega) HA.out.2.2.2 ?_; intro s6 c6 w6 h6 hb6 _ _; rcases own_some h6 with ⟨_, hbad, _⟩ | ⟨g6, rfl⟩; (first | (exfalso; omega) | skip); have z1 := h6.cellAt q (by rw [Nat.mul_one]; exact q2); obtain ⟨y, hy⟩ := get_of_lt (l := ints vs) (k := q) (by rw [ints_length, HL.out]; exact q2); rw [hy] at z1; have z2 := h6.frozenAt q; have HB := Lib.hid (And.intro h6 (HA.out.2.1.trans hb6)); clear h6 hb6 hy)
    go_ret
    have hst := (HB.out.1.stored q (.int .i64 (1))).1
    have hset : (ints vs).set q (.int .i64 (1)) = ints (vs.set q (1)) := by simp [ints, List.map_set]
    rw [hset] at hst
    have hg := (own_blk HB.out.1 (k := g6) rfl).1
    exact ⟨_, _, rfl, own_sl hst, HB.out.2.setCell (p := ⟨g6, q, none⟩) hg _⟩

theorem SlS.row' {w : World} {s : Option Addr} {rows : List (List Int)} (h : SlS w s rows) {k : Nat} {r : List Int} (hr : rows[k]? = some r) : ∃ b off sr cr, s = some ⟨b, off, none⟩ ∧ b < w.heap.size ∧ w.cell? ⟨b, off + k, none⟩ = some (.slice sr r.length cr) ∧ Sl w sr (ints r) := by
  obtain ⟨b, off, sr, cr, h1, h2, h3, h4⟩ := h.row (Below.refl _ _) hr
  exact ⟨b, off, sr, cr, h1, h2, h3, h4⟩
/-- A clause is not refuted. -/
def okC (vs c : List Int) : Prop := ∃ n ∈ c, litV vs n = 1 ∨ litV vs n = 0
def PrPost (F : List (List Int)) (vs : List Int) (w : World) (e : Ending) (w' : World) : Prop :=
  ∃ (s' : Option Addr) (c' : Nat) (us : List Int) (ok : Bool), e = .returned (.tuple #[.slice s' 26 c', .bool ok]) ∧ Sl w' s' (ints us) ∧ WV us ∧ Below w.heap.size w w' ∧ zc us ≤ zc vs ∧ (∀ o, isRes F us o → isRes F vs o) ∧ (ok = false → isRes F vs none) ∧ (ok = true → ∀ c ∈ F, okC us c)

set_option maxHeartbeats 1600000 in
theorem l15Propagate_any (F : List (List Int)) (hF : F.length ≤ 80) (h25 : ∀ c ∈ F, c.length ≤ 3 ∧ ∀ n ∈ c, lit25 n) : ∀ (z : Nat) (s sf : Option Addr) (cap cf : Nat) (vs : List Int) (w : World), zc vs = z → SlS w sf F → Sl w s (ints vs) → WV vs →
    Calls Try.prog 102 #[.slice sf F.length cf, .slice s 26 cap] w (PrPost F vs w) := by
  intro z
  induction z using Nat.strongRecOn with
  | ind z ih =>
    intro s sf cap cf vs w hz hf hs hv
    have H : Hid (SlS w sf F ∧ Sl w s (ints vs) ∧ WV vs) := ⟨hf, hs, hv⟩
    have HI := Lib.hid (And.intro ih hz)
    have H25 := Lib.hid h25
    clear hf hs hv ih hz
    go_enter Try.func102, Try.ntmps102
    go_wp2_with fail
    go_loop [6] (fun v6 => ∃ k : Nat, k ≤ F.length ∧ v6 = .int .i64 k ∧ ∀ c ∈ F.take k, okC vs c) (fun v6 => F.length - (intOf v6).toNat)
    case atStart => exact ⟨0, Nat.zero_le _, rfl, by simp⟩
    case round =>
      obtain ⟨k, hk, rfl, hp⟩ := hrel
      have HP := Lib.hid hp
      clear hp
      by_cases hlt : k < F.length
      · obtain ⟨c, hc⟩ := get_of_lt hlt
        obtain ⟨hc3, hc25⟩ := H25.out c (List.mem_of_getElem? hc)
        obtain ⟨b, off, sc, cc, rfl, hbw, hz, hsc⟩ := H.out.1.row' hc
        have HC := Lib.hid (And.intro hc (And.intro hsc hc25))
        have hmem := Lib.hid (List.mem_of_getElem? hc)
        clear hc hsc hc25 hbw
        go_upto_region 5 with (go_at_call 110; ((with_reducible refine (l15State_any s sc vs c _ _ _ H.out.2.1 H.out.2.2 HC.out.2.1 HC.out.2.2 hc3).mono ?_); rintro e w1 ⟨st, u, rfl, hst, rfl⟩))
        rcases hst with ⟨rfl, rfl, hq⟩ | ⟨rfl, rfl, hq⟩ | ⟨rfl, rfl, hq⟩ | ⟨rfl, hq⟩
        · obtain ⟨m, hm1, hm2⟩ := hq
          have HO : Hid (∀ c ∈ F.take (k + 1), okC vs c) := Lib.hid (all_snoc HP.out HC.out.1 ⟨m, hm1, .inl hm2⟩)
          clear hm1 hm2
          go_wp2_with fail
          go_round
          case rel => exact ⟨k + 1, by omega, by go_num, HO.out⟩
          case measure => simp [intOf]; omega
        · have HQ := Lib.hid hq
          clear hq
          go_wp2_with fail
          exact bodyPost_ret (v := .tuple #[.slice s 26 cap, .bool false]) (by simp [results, Try.results102, go_sem]) rfl ⟨s, cap, vs, false, rfl, H.out.2.1, H.out.2.2, Below.refl _ _, Nat.le_refl _, fun o h => h, fun _ => res_conf hmem.out HC.out.2.2 HQ.out, fun h => by cases h⟩
        · obtain ⟨m, hm1, hm2⟩ := hq
          have HO : Hid (∀ c ∈ F.take (k + 1), okC vs c) := Lib.hid (all_snoc HP.out HC.out.1 ⟨m, hm1, .inr hm2⟩)
          clear hm1 hm2
          go_wp2_with fail
          go_round
          case rel => exact ⟨k + 1, by omega, by go_num, HO.out⟩
          case measure => simp [intOf]; omega
        · obtain ⟨hu1, hu2, hu3⟩ := hq
          have hu25 := HC.out.2.2 u hu1
          have hu0 : u ≠ 0 := hu25.1
          have hzs := zc_setL H.out.2.2 hu25 hu2
          have HU := Lib.hid (And.intro hu1 (And.intro hu2 (And.intro hu3 (And.intro hu25 hzs))))
          have hun : (u != 0) = true := by simpa using hu0
          clear hu1 hu2 hu3 hu25 hzs
          go_wp2_with (first
            | (go_at_call 103; ((with_reducible refine (l15Set_any s vs cap u _ H.out.2.1 H.out.2.2 HU.out.2.2.2.1).mono ?_); rintro e w2 ⟨s2, c2, rfl, h2, hq⟩; have H2 := Lib.hid (And.intro h2 hq); clear h2 hq))
            | (go_at_call 102; ((with_reducible refine (HI.out.1 _ (by have h1 := HU.out.2.2.2.2; have h2 := HI.out.2; omega) s2 _ c2 _ (setL vs u) _ rfl (H.out.1.mono H2.out.2) H2.out.1 (H.out.2.2.putL HU.out.2.2.2.1)).mono ?_); rintro e w3 ⟨s3, c3, us, ok, rfl, a1, a2, a3, a4, a5, a6, a7⟩; have H3 := Lib.hid (And.intro a1 (And.intro a2 (And.intro (H2.out.2.trans (a3.mono H2.out.2.size)) (And.intro a4 (And.intro a5 (And.intro a6 a7)))))); clear a1 a2 a3 a4 a5 a6 a7)))
          have hru := fun o (h : isRes F (setL vs u) o) => res_unit H.out.2.2 hmem.out HC.out.2.2 HU.out.1 HU.out.2.1 HU.out.2.2.1 h
          exact bodyPost_ret (v := .tuple #[.slice s3 26 c3, .bool ok]) (by simp [results, Try.results102, go_sem]) rfl ⟨s3, c3, us, ok, rfl, H3.out.1, H3.out.2.1, H3.out.2.2.1, (by have h1 := H3.out.2.2.2.1; have h2 := HU.out.2.2.2.2; omega), fun o h => hru o (H3.out.2.2.2.2.1 o h), fun h => hru _ (H3.out.2.2.2.2.2.1 h), H3.out.2.2.2.2.2.2⟩
      · obtain rfl : k = F.length := by omega
        have hp := HP.out
        rw [List.take_length] at hp
        have HQ := Lib.hid hp
        clear hp
        go_wp2_with fail
        exact bodyPost_ret (v := .tuple #[.slice s 26 cap, .bool true]) (by simp [results, Try.results102, go_sem]) rfl ⟨s, cap, vs, true, rfl, H.out.2.1, H.out.2.2, Below.refl _ _, Nat.le_refl _, fun o h => h, (fun h => by cases h), fun _ => HQ.out⟩

def SoPost (F : List (List Int)) (vs : List Int) (w : World) (e : Ending) (w' : World) : Prop :=
  ∃ (s' : Option Addr) (c' : Nat) (o : Option (List Int)), e = .returned (.tuple #[.slice s' (o.getD []).length c', .bool o.isSome]) ∧ Sl w' s' (ints (o.getD [])) ∧ isRes F vs o ∧ Below w.heap.size w w'
theorem full_ok {F : List (List Int)} {us : List Int} (hv : WV us) (hf : ∀ i, 1 ≤ i → i < 26 → us.getD i 0 ≠ 0) (h25 : ∀ c ∈ F, c.length ≤ 3 ∧ ∀ n ∈ c, lit25 n) (h : ∀ c ∈ F, okC us c) : isRes F us (some us) := by
  refine res_full hv hf fun c hc => ?_
  obtain ⟨n, hn, h1⟩ := h c hc
  have h2 := (h25 c hc).2 n hn
  refine ⟨n, hn, h2, ?_⟩
  rcases h1 with h1 | h1
  · exact h1
  · exfalso
    obtain ⟨v, v1, v2, v3⟩ := setL_var h2
    have := hf v v1 v2
    unfold litV at h1
    rcases v3 with ⟨w, rfl⟩ | ⟨w, rfl⟩
    · rw [if_pos w, Int.neg_neg, Int.toNat_natCast] at h1; omega
    · rw [if_neg (by omega), Int.toNat_natCast] at h1; omega
theorem isRes_len {F : List (List Int)} {vs r : List Int} (h : isRes F vs (some r)) : r.length = 26 := h.1.1.1.len

set_option maxHeartbeats 1600000 in
theorem l15Solve_any (F : List (List Int)) (hF : F.length ≤ 80) (h25 : ∀ c ∈ F, c.length ≤ 3 ∧ ∀ n ∈ c, lit25 n) : ∀ (z : Nat) (s sf : Option Addr) (cap cf : Nat) (vs : List Int) (w : World), zc vs = z → SlS w sf F → Sl w s (ints vs) → WV vs →
    Calls Try.prog 80 #[.slice sf F.length cf, .slice s 26 cap] w (SoPost F vs w) := by
  intro z
  induction z using Nat.strongRecOn with
  | ind z ih =>
    intro s sf cap cf vs w hz hf hs hv
    have H : Hid (SlS w sf F ∧ Sl w s (ints vs) ∧ WV vs) := ⟨hf, hs, hv⟩
    have HI := Lib.hid (And.intro ih hz)
    have H25 := Lib.hid h25
    clear hf hs hv ih hz
    go_enter Try.func80, Try.ntmps80
    go_upto_region 2 with (go_at_call 102; ((with_reducible refine (l15Propagate_any F hF H25.out _ s sf _ _ vs _ rfl H.out.1 H.out.2.1 H.out.2.2).mono ?_); rintro e w1 ⟨s1, c1, us, ok, rfl, a1, a2, a3, a4, a5, a6, a7⟩; have H1 := Lib.hid (And.intro a1 (And.intro a2 (And.intro a3 (And.intro a4 (And.intro a5 (And.intro a6 a7)))))); clear a1 a2 a3 a4 a5 a6 a7))
    cases ok
    · go_wp2_with fail
      have hb1 := (Below.refl w1.heap.size w1).alloc (Nat.le_refl _) (.cells #[] 3)
      exact bodyPost_ret (v := .tuple #[.slice (some ⟨w1.heap.size, 0, none⟩) 0 0, .bool false]) (by simp [results, Try.results80, go_sem]) rfl ⟨_, _, none, rfl, Sl.nil _ _, H1.out.2.2.2.2.2.1 (by first | trivial | rfl), H1.out.2.2.1.trans (hb1.mono H1.out.2.2.1.size)⟩
    · go_wp2_with fail
      go_loop [8] (fun v8 => ∃ k : Nat, 1 ≤ k ∧ k ≤ 26 ∧ v8 = .int .i64 k ∧ ∀ u, 1 ≤ u → u < k → us.getD u 0 ≠ 0) (fun v8 => 26 - (intOf v8).toNat)
      case atStart => exact ⟨1, by omega, by omega, rfl, fun u h1 h2 => by omega⟩
      case round =>
        obtain ⟨k, hk1, hk, rfl, hp⟩ := hrel
        have HP := Lib.hid hp
        clear hp
        by_cases hlt : k < 26
        · obtain ⟨x, hx⟩ := get_of_lt (l := us) (k := k) (by rw [H1.out.2.1.len]; exact hlt)
          obtain ⟨b, off, rfl, hbw, hz⟩ := H1.out.1.int (Below.refl _ _) hx
          obtain ⟨x1, x2⟩ := H1.out.2.1.mem hx
          have hgd : us.getD k 0 = x := by rw [List.getD_eq_getElem?_getD, hx]; rfl
          by_cases h0 : x = 0
          · subst h0
            have hfz : fzV us k := ⟨hk1, hlt, hgd, HP.out⟩
            have hz1 := zc_set H1.out.2.1 hlt hgd (a := -1) (by decide)
            have hz2 := zc_set H1.out.2.1 hlt hgd (a := 1) (by decide)
            have hwv1 := H1.out.2.1.set hk1 hlt (a := -1) (by simp)
            have hwv2 := H1.out.2.1.set hk1 hlt (a := 1) (by simp)
            have hs1 : setL us (-(k : Int)) = us.set k (-1) := by unfold setL; rw [if_pos (by omega)]; simp
            have hs2 : setL us (k : Int) = us.set k 1 := by unfold setL; rw [if_neg (by omega)]; simp
            have hl1 : lit25 (-(k : Int)) := ⟨by omega, by omega, by omega⟩
            have hl2 : lit25 (k : Int) := ⟨by omega, by omega, by omega⟩
            have hlt1 : zc (us.set k (-1)) < z := by have h1 := H1.out.2.2.2.1; have h2 := HI.out.2; omega
            have hlt2 : zc (us.set k 1) < z := by have h1 := H1.out.2.2.2.1; have h2 := HI.out.2; omega
            have HK := Lib.hid (And.intro hfz (And.intro hwv1 (And.intro hwv2 (And.intro hs1 (And.intro hs2 (And.intro hl1 (And.intro hl2 (And.intro hlt1 hlt2))))))))
            clear hx hgd hfz hz1 hz2 hwv1 hwv2 hs1 hs2 hl1 hl2 hlt1 hlt2 hbw
            go_upto_region 9 with (first
              | (go_at_call 103; ((with_reducible refine (l15Set_any _ us c1 (-(k : Int)) _ H1.out.1 H1.out.2.1 HK.out.2.2.2.2.2.1).mono ?_); rintro e w2 ⟨s2, c2, rfl, h2, hq⟩; rw [HK.out.2.2.2.1] at h2; have H2 := Lib.hid (And.intro h2 (And.intro hq (H1.out.2.2.1.trans (hq.mono H1.out.2.2.1.size)))); clear h2 hq))
              | (go_at_call 80; ((with_reducible refine (HI.out.1 _ HK.out.2.2.2.2.2.2.2.1 s2 _ c2 _ (us.set k (-1)) _ rfl (H.out.1.mono H2.out.2.2) H2.out.1 HK.out.2.1).mono ?_); rintro e w3 ⟨s3, c3, o, rfl, a1, a2, a3⟩; have H3 := Lib.hid (And.intro a1 (And.intro a2 (And.intro (H2.out.2.1.trans (a3.mono H2.out.2.1.size)) (H2.out.2.2.trans (a3.mono H2.out.2.2.size))))); clear a1 a2 a3)))
            cases o with
            | some r =>
              have hrl := isRes_len H3.out.2.1
              go_wp2_with fail
              exact bodyPost_ret (v := .tuple #[.slice s3 r.length c3, .bool true]) (by simp [results, Try.results80, go_sem]) rfl ⟨s3, c3, some r, rfl, H3.out.1, H1.out.2.2.2.2.1 _ (res_false H1.out.2.1 HK.out.1 H3.out.2.1), H3.out.2.2.2⟩
            | none =>
              go_wp2_with (first
                | (go_at_call 103; ((with_reducible refine (l15Set_any _ us c1 (k : Int) _ (H1.out.1.mono H3.out.2.2.1) H1.out.2.1 HK.out.2.2.2.2.2.2.1).mono ?_); rintro e w4 ⟨s4, c4, rfl, h2, hq⟩; rw [HK.out.2.2.2.2.1] at h2; have H4 := Lib.hid (And.intro h2 (H3.out.2.2.2.trans (hq.mono H3.out.2.2.2.size))); clear h2 hq))
                | (go_at_call 80; ((with_reducible refine (HI.out.1 _ HK.out.2.2.2.2.2.2.2.2 s4 _ c4 _ (us.set k 1) _ rfl (H.out.1.mono H4.out.2) H4.out.1 HK.out.2.2.1).mono ?_); rintro e w5 ⟨s5, c5, o, rfl, a1, a2, a3⟩; have H5 := Lib.hid (And.intro a1 (And.intro a2 (H4.out.2.trans (a3.mono H4.out.2.size)))); clear a1 a2 a3)))
              exact bodyPost_ret (v := .tuple #[.slice s5 (o.getD []).length c5, .bool o.isSome]) (by simp [results, Try.results80, go_sem]) rfl ⟨s5, c5, o, rfl, H5.out.1, H1.out.2.2.2.2.1 _ (res_true H1.out.2.1 HK.out.1 H3.out.2.1 H5.out.2.1), H5.out.2.2⟩
          · have HP2 : Hid (∀ u, 1 ≤ u → u < k + 1 → us.getD u 0 ≠ 0) := Lib.hid fun u h1 h2 => by
              by_cases e : u = k
              · subst e; rw [hgd]; exact h0
              · exact HP.out u h1 (by omega)
            clear hx hgd hbw
            go_wp2_with fail
            go_round
            case rel => exact ⟨k + 1, by omega, by omega, by go_num, HP2.out⟩
            case measure => simp [intOf]; omega
        · obtain rfl : k = 26 := by omega
          have hr := full_ok H1.out.2.1 (fun i h1 h2 => HP.out i h1 h2) H25.out (H1.out.2.2.2.2.2.2 (by first | trivial | rfl))
          have HR := Lib.hid (And.intro hr H1.out.2.1.len)
          clear hr
          go_wp2_with fail
          exact bodyPost_ret (v := .tuple #[.slice s1 26 c1, .bool true]) (by simp [results, Try.results80, go_sem]) rfl ⟨s1, c1, some us, by rw [Option.getD_some, HR.out.2]; rfl, H1.out.1, H1.out.2.2.2.2.1 _ HR.out.1, H1.out.2.2.1⟩

def zero26 : List Int := List.replicate 26 0
theorem zero26_wv : WV zero26 := by
  exact ⟨by decide, by decide, fun i => .inl (by unfold zero26; rw [List.getD_eq_getElem?_getD, List.getElem?_replicate]; split <;> rfl)⟩
/-- What Satisfy returns. -/
def satP (F : List (List Int)) (o : Option (List Int)) : Prop := (clausesB F = true ∧ isRes F zero26 o) ∨ (clausesB F = false ∧ o = none)
theorem satP_uniq {F : List (List Int)} {o p : Option (List Int)} (h : satP F o) (k : satP F p) : o = p := by
  rcases h with ⟨h1, h2⟩ | ⟨h1, rfl⟩ <;> rcases k with ⟨k1, k2⟩ | ⟨k1, rfl⟩
  · exact isRes_uniq h2 k2
  · rw [h1] at k1; cases k1
  · rw [h1] at k1; cases k1
  · rfl
theorem satP_len {F : List (List Int)} {o : Option (List Int)} (h : satP F o) : (o.getD []).length ≤ 26 := by
  cases o with
  | none => simp
  | some r =>
    rcases h with ⟨_, h⟩ | ⟨_, h⟩
    · exact Nat.le_of_eq (isRes_len h)
    · cases h
def SaPost (F : List (List Int)) (w : World) (e : Ending) (w' : World) : Prop :=
  ∃ (s' : Option Addr) (c' : Nat) (o : Option (List Int)), e = .returned (.tuple #[.slice s' (o.getD []).length c', .bool o.isSome]) ∧ Sl w' s' (ints (o.getD [])) ∧ satP F o ∧ Below w.heap.size w w'

set_option maxHeartbeats 800000 in
theorem Satisfy_s (s : Option Addr) (cap : Nat) (F : List (List Int)) (w : World) (hs : SlS w s F) (hn : F.length ≤ 1048576) (hr : ∀ r ∈ F, r.length ≤ 1048576) :
    Calls Try.prog 40 #[.slice s F.length cap] w (SaPost F w) := by
  have HS := Lib.hid (And.intro hs hr)
  clear hs hr
  cases hv : clausesB F
  · have HV := Lib.hid hv
    clear hv
    go_enter Try.func40, Try.ntmps40
    go_wp2_with (go_at_call 50; ((with_reducible refine (ClausesValid_s s _ F _ HS.out.1 hn HS.out.2).mono ?_); rintro e w1 ⟨rfl, rfl⟩; rw [HV.out]))
    exact bodyPost_ret (v := .tuple #[.slice (some ⟨w.heap.size, 0, none⟩) 0 0, .bool false]) (by simp [results, Try.results40, go_sem]) rfl ⟨some ⟨w.heap.size, 0, none⟩, 0, none, rfl, Sl.nil _ _, .inr ⟨HV.out, rfl⟩, (Below.refl _ _).alloc (Nat.le_refl _) _⟩
  · have hcl : clausesP F := by simpa [clausesB] using hv
    have h80 := hcl.1
    have h25 : ∀ c ∈ F, c.length ≤ 3 ∧ ∀ n ∈ c, lit25 n := hcl.2
    have HV := Lib.hid (And.intro hv h25)
    clear h25
    have hmk : ∀ w, (Instr.makeSlice 36 (.int .i64 26) (.int .i64 26)).run Try.prog w = .ok (.slice (some ⟨w.heap.size, 0, none⟩) 26 26) (w.alloc (.cells (ints zero26).toArray 3)) := fun w => mkInts w 26 (by omega)
    have hb := (Below.refl w.heap.size w).alloc (Nat.le_refl _) (.cells (ints zero26).toArray 3)
    have hz : Sl (w.alloc (.cells (ints zero26).toArray 3)) (some ⟨w.heap.size, 0, none⟩) (ints zero26) := by
      have := Sl.blk (blk_new w (.cells (ints zero26).toArray 3)); simpa using this
    have HB := Lib.hid (And.intro hb (And.intro hz (HS.out.1.mono hb)))
    clear hv hcl hb hz
    go_enter Try.func40, Try.ntmps40
    go_wp2_with (first
      | (go_at_call 50; ((with_reducible refine (ClausesValid_s s _ F _ HS.out.1 hn HS.out.2).mono ?_); rintro e w1 ⟨rfl, rfl⟩; rw [HV.out.1]))
      | (go_at_call 80; ((with_reducible refine (l15Solve_any F h80 HV.out.2 _ _ s _ _ zero26 _ rfl HB.out.2.2 HB.out.2.1 zero26_wv).mono ?_); rintro e w2 ⟨s2, c2, o, rfl, a1, a2, a3⟩; have H2 := Lib.hid (And.intro a1 (And.intro a2 (HB.out.1.trans (a3.mono HB.out.1.size)))); clear a1 a2 a3)))
    exact bodyPost_ret (v := .tuple #[.slice s2 (o.getD []).length c2, .bool o.isSome]) (by simp [results, Try.results40, go_sem]) rfl ⟨s2, c2, o, rfl, H2.out.1, .inl ⟨HV.out.1, H2.out.2.1⟩, H2.out.2.2⟩

end Go.Proofs.Ytddmgphlhfilnaa
