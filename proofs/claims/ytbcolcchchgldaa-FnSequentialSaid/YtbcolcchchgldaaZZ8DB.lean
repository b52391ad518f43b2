import Derived.Test.YtbcolcchchgldaaZZ8W5
import Derived.Test.YtbcolcchchgldaaZZ8OA
import Derived.Test.YtbcolcchchgldaaZZ8V2
namespace Go.Proofs.Ytbcolcchchgldaa
set_option linter.unusedVariables false
set_option linter.unusedSimpArgs false
open Go.RowKit

/-! Part of the proof of one law. -/

/-- The values of all variables, none stuck. -/
def vN (b : List Bool) (gs : List Gt) : List Bool := valsV (-1) false b gs

theorem vN_length (b : List Bool) (gs : List Gt) : (vN b gs).length = b.length + gs.length := valsV_length _ _ _ _

theorem vN_snoc (b : List Bool) (gs : List Gt) (g : Gt) : vN b (gs ++ [g]) = vN b gs ++ [litB (vN b gs) g.a && litB (vN b gs) g.b] := by
  unfold vN
  rw [valsV_append]
  show stepV (-1) false (valsV (-1) false b gs) g = _
  unfold stepV
  rw [if_neg (by omega)]

theorem vN_pre (b : List Bool) (gs hs : List Gt) : ∃ r, vN b (gs ++ hs) = vN b gs ++ r := by
  unfold vN
  rw [valsV_append]
  exact valsV_pre _ _ _ _

theorem vN_base (b : List Bool) (gs : List Gt) : ∃ r, vN b gs = b ++ r := valsV_pre _ _ _ _

theorem litP_lt {l : Int} {F n : Nat} (h : litP l (F + n)) : (l / 2).toNat < F + n := by unfold litP at h; omega

theorem litB_app {b : List Bool} {gs hs : List Gt} {F : Nat} (hF : b.length = F) {l : Int} (h : litP l (F + gs.length)) : litB (vN b (gs ++ hs)) l = litB (vN b gs) l := by
  obtain ⟨r, hr⟩ := vN_pre b gs hs
  rw [hr]
  exact litB_pre (by rw [vN_length, hF]; exact litP_lt h)

theorem getD_app {b : List Bool} {gs hs : List Gt} {v : Nat} (h : v < b.length + gs.length) : (vN b (gs ++ hs)).getD v false = (vN b gs).getD v false := by
  obtain ⟨r, hr⟩ := vN_pre b gs hs
  rw [hr]
  simp only [List.getD_eq_getElem?_getD]
  rw [List.getElem?_append_left (by rw [vN_length]; exact h)]

theorem take_split {gs : List Gt} {k : Nat} {g : Gt} (h : gs[k]? = some g) : gs = gs.take k ++ ([g] ++ gs.drop (k + 1)) := by
  obtain ⟨hk, rfl⟩ := List.getElem?_eq_some_iff.1 h
  simp

/-- A gate's value is the conjunction of its operands' values. -/
theorem vN_gate {b : List Bool} {gs : List Gt} {F : Nat} (hF : b.length = F) (hg : gatesP F gs) {k : Nat} {g : Gt} (h : gs[k]? = some g) :
    (vN b gs).getD (F + k) false = (litB (vN b gs) g.a && litB (vN b gs) g.b) := by
  have hk := (List.getElem?_eq_some_iff.1 h).1
  have hp := gatesP_at hg h
  have hl : (gs.take k).length = k := by simp; omega
  have e : vN b gs = vN b (gs.take k ++ ([g] ++ gs.drop (k + 1))) := by rw [← take_split h]
  have ea : litB (vN b gs) g.a = litB (vN b (gs.take k)) g.a := by rw [e]; exact litB_app hF (by rw [hl]; exact hp.1)
  have eb : litB (vN b gs) g.b = litB (vN b (gs.take k)) g.b := by rw [e]; exact litB_app hF (by rw [hl]; exact hp.2)
  rw [ea, eb, e, ← List.append_assoc, getD_app (by simp; omega), vN_snoc, List.getD_eq_getElem?_getD, List.getElem?_append_right (by rw [vN_length, hl]; omega), vN_length, hl, hF, Nat.sub_self]
  rfl

theorem litB_nat (vs : List Bool) (v : Nat) : litB vs (2 * (v : Int)) = vs.getD v false := by
  unfold litB
  rw [show (2 * (v : Int) / 2).toNat = v by omega, show decide (2 * (v : Int) % 2 = 1) = false from decide_eq_false (by omega)]
  simp

theorem litB_xrb {vs : List Bool} {y b : Int} (hb : b = 0 ∨ b = 1) : litB vs (xrb y b) = (litB vs y != decide (b = 1)) := by
  unfold litB xrb
  rw [show (2 * (y / 2) + (y + b) % 2) / 2 = y / 2 by omega]
  rcases hb with rfl | rfl
  · by_cases h : y % 2 = 1
    · rw [decide_eq_true (show (2 * (y / 2) + (y + 0) % 2) % 2 = 1 by omega), decide_eq_true h]
      simp
    · rw [decide_eq_false (show ¬ ((2 * (y / 2) + (y + 0) % 2) % 2 = 1) by omega), decide_eq_false h]
      simp
  · by_cases h : y % 2 = 1
    · rw [decide_eq_false (show ¬ ((2 * (y / 2) + (y + 1) % 2) % 2 = 1) by omega), decide_eq_true h]
      simp
    · rw [decide_eq_true (show (2 * (y / 2) + (y + 1) % 2) % 2 = 1 by omega), decide_eq_false h]
      simp

theorem litB_mapB {vs us : List Bool} {m : List Int} {l : Int} (h : litB us (m.getD (l / 2).toNat 0) = vs.getD (l / 2).toNat false) : litB us (mapB m l) = litB vs l := by
  unfold mapB
  rw [litB_xrb (by omega), h]
  rfl

theorem litB_zero {vs : List Bool} (h : vs.getD 0 false = false) : litB vs 0 = false := by
  rw [show (0 : Int) = 2 * ((0 : Nat) : Int) from rfl, litB_nat, h]

theorem litB_one {vs : List Bool} (h : vs.getD 0 false = false) : litB vs 1 = true := by
  unfold litB
  rw [show ((1 : Int) / 2).toNat = 0 from rfl, h]; rfl

theorem litB_not {vs : List Bool} {a : Int} (h : a % 2 = 0) : litB vs (a + 1) = !litB vs a := by
  unfold litB
  rw [show (a + 1) / 2 = a / 2 by omega, decide_eq_true (show (a + 1) % 2 = 1 by omega), decide_eq_false (show ¬ a % 2 = 1 by omega)]
  simp

/-- What may stand ahead of the gates: as many values as variables, the first one false. -/
structure Bs (F : Nat) (b : List Bool) : Prop where
  len : b.length = F
  zero : b[0]? = some false

theorem Bs.z {F : Nat} {b : List Bool} (h : Bs F b) (gs : List Gt) : (vN b gs).getD 0 false = false := by
  obtain ⟨r, hr⟩ := vN_base b gs
  have hb := (List.getElem?_eq_some_iff.1 h.zero).1
  rw [hr, List.getD_eq_getElem?_getD, List.getElem?_append_left hb, h.zero]; rfl

theorem andK_val {F : Nat} {b : List Bool} (hb : Bs F b) {gs : List Gt} (hg : gatesP F gs) {x y : Int} (hx : litP x (F + gs.length)) (hy : litP y (F + gs.length)) :
    litB (vN b (andK F gs x y).1) (andK F gs x y).2 = (litB (vN b gs) x && litB (vN b gs) y) := by
  have hz := hb.z gs
  by_cases h0 : x = 0 ∨ (x = y - 1 ∧ x % 2 = 0)
  · rw [andK_zero h0]
    show litB (vN b gs) 0 = _
    rw [litB_zero hz]
    rcases h0 with rfl | ⟨h1, h2⟩
    · rw [litB_zero hz]; rfl
    · rw [show y = x + 1 by omega, litB_not h2]; cases litB (vN b gs) x <;> rfl
  · by_cases h1 : x = 1 ∨ x = y
    · rw [andK_same h0 h1]
      show litB (vN b gs) y = _
      rcases h1 with rfl | rfl
      · rw [litB_one hz]; rfl
      · cases litB (vN b gs) x <;> rfl
    · cases hf : fndG gs ⟨x, y⟩ 0 with
      | some i =>
        rw [andK_old h0 h1 hf]
        show litB (vN b gs) (2 * ((F : Int) + (i : Int))) = _
        rw [show (2 * ((F : Int) + (i : Int))) = 2 * ((F + i : Nat) : Int) by omega, litB_nat]
        exact vN_gate hb.len hg (fndG_at hf).2
      | none =>
        rw [andK_new h0 h1 hf]
        show litB (vN b (gs ++ [⟨x, y⟩])) (2 * ((F : Int) + (gs.length : Int))) = _
        rw [show (2 * ((F : Int) + (gs.length : Int))) = 2 * ((F + gs.length : Nat) : Int) by omega, litB_nat, vN_snoc, List.getD_eq_getElem?_getD, List.getElem?_append_right (by rw [vN_length, hb.len]; omega), vN_length, hb.len, Nat.sub_self]
        rfl

theorem andL_val {F : Nat} {b : List Bool} (hb : Bs F b) {gs : List Gt} (hg : gatesP F gs) {x y : Int} (hx : litP x (F + gs.length)) (hy : litP y (F + gs.length)) :
    litB (vN b (andL F gs x y).1) (andL F gs x y).2 = (litB (vN b gs) x && litB (vN b gs) y) := by
  unfold andL
  split
  · rw [andK_val hb hg hy hx, Bool.and_comm]
  · exact andK_val hb hg hx hy

/-- The gates after a conjunction: as before, or one more, whose literal is the result. -/
theorem andK_ext (F : Int) (gs : List Gt) (x y : Int) : (andK F gs x y).1 = gs ∨ ∃ g, (andK F gs x y).1 = gs ++ [g] ∧ (andK F gs x y).2 = 2 * (F + gs.length) := by
  by_cases h0 : x = 0 ∨ (x = y - 1 ∧ x % 2 = 0)
  · rw [andK_zero h0]; exact .inl rfl
  · by_cases h1 : x = 1 ∨ x = y
    · rw [andK_same h0 h1]; exact .inl rfl
    · cases hf : fndG gs ⟨x, y⟩ 0 with
      | some i => rw [andK_old h0 h1 hf]; exact .inl rfl
      | none => rw [andK_new h0 h1 hf]; exact .inr ⟨_, rfl, rfl⟩

theorem andL_ext (F : Int) (gs : List Gt) (x y : Int) : (andL F gs x y).1 = gs ∨ ∃ g, (andL F gs x y).1 = gs ++ [g] ∧ (andL F gs x y).2 = 2 * (F + gs.length) := by
  unfold andL
  split <;> exact andK_ext _ _ _ _

/-! What is used. -/
theorem getD_true {u : List Bool} {j : Nat} : u.getD j false = true ↔ u[j]? = some true := by
  rw [List.getD_eq_getElem?_getD]
  cases u[j]? with
  | none => simp
  | some x => simp

theorem markU_keep' {F : Int} {u : List Bool} {l : Int} {j : Nat} (h : u.getD j false = true) : (markU F u l).getD j false = true := getD_true.2 (markU_keep (getD_true.1 h))

theorem markU_hit {F : Int} {u : List Bool} {l : Int} (h : F ≤ l / 2) (hl : (l / 2 - F).toNat < u.length) : (markU F u l).getD (l / 2 - F).toNat false = true := by
  unfold markU
  rw [if_pos h]
  exact getD_true.2 (by simp [hl])

theorem markU_hi {F : Int} {u : List Bool} {l : Int} {j : Nat} (h : l / 2 < F + j) : (markU F u l).getD j false = u.getD j false := by
  unfold markU
  split
  · simp only [List.getD_eq_getElem?_getD]
    rw [List.getElem?_set_ne (by omega)]
  · rfl

theorem usedS_keep {F : Int} {gs : List Gt} {k : Nat} {u : List Bool} {j : Nat} (h : u.getD j false = true) : (usedS F gs k u).getD j false = true := by
  unfold usedS
  split
  · split
    · exact markU_keep' (markU_keep' h)
    · exact h
  · exact h

theorem usedK_keep {F : Int} {gs : List Gt} : ∀ (k : Nat) {u : List Bool} {j : Nat}, u.getD j false = true → (usedK F gs k u).getD j false = true
  | 0, _, _, h => h
  | k + 1, _, _, h => by unfold usedK; exact usedK_keep k (usedS_keep h)

theorem usedS_hi {F : Int} {gs : List Gt} (hg : gatesP F gs) {k j : Nat} (hj : k ≤ j) (u : List Bool) : (usedS F gs k u).getD j false = u.getD j false := by
  unfold usedS
  split
  · rename_i g h
    have hp := gatesP_at hg h
    unfold litP at hp
    split
    · rw [markU_hi (by omega), markU_hi (by omega)]
    · rfl
  · rfl

theorem usedK_hi {F : Int} {gs : List Gt} (hg : gatesP F gs) : ∀ (k : Nat) {j : Nat} (u : List Bool), k ≤ j → (usedK F gs k u).getD j false = u.getD j false
  | 0, _, _, _ => rfl
  | k + 1, j, u, h => by unfold usedK; rw [usedK_hi hg k _ (by omega), usedS_hi hg (by omega)]

/-- The operands of what is used are used. -/
theorem usedK_closed {F : Int} {gs : List Gt} (hg : gatesP F gs) : ∀ (k : Nat) {i : Nat} {g : Gt} {u : List Bool}, u.length = gs.length → i < k → gs[i]? = some g → (usedK F gs k u).getD i false = true →
    (F ≤ g.a / 2 → (usedK F gs k u).getD (g.a / 2 - F).toNat false = true) ∧ (F ≤ g.b / 2 → (usedK F gs k u).getD (g.b / 2 - F).toNat false = true)
  | 0, _, _, _, _, h, _, _ => by omega
  | k + 1, i, g, u, hl, hi, h, hu => by
    unfold usedK at hu ⊢
    by_cases e : i < k
    · exact usedK_closed hg k (by rw [usedS_length]; exact hl) e h hu
    · obtain rfl : i = k := by omega
      rw [usedK_hi hg _ _ (Nat.le_refl _), usedS_hi hg (Nat.le_refl _)] at hu
      have hp := gatesP_at hg h
      have hk := (List.getElem?_eq_some_iff.1 h).1
      unfold litP at hp
      have es : usedS F gs i u = markU F (markU F u g.a) g.b := by
        unfold usedS
        rw [h]
        simp only
        rw [if_pos hu]
      rw [es]
      exact ⟨fun ha => usedK_keep _ (markU_keep' (markU_hit ha (by omega))), fun hb => usedK_keep _ (markU_hit hb (by rw [markU_length]; omega))⟩

theorem foldl_keep {F : Int} {j : Nat} : ∀ (rs : List Int) {u : List Bool}, u.getD j false = true → (rs.foldl (markU F) u).getD j false = true
  | [], _, h => h
  | r :: rs, _, h => foldl_keep rs (markU_keep' h)

theorem foldl_hit {F : Int} : ∀ {rs : List Int} {l : Int} {u : List Bool}, l ∈ rs → F ≤ l / 2 → (l / 2 - F).toNat < u.length → (rs.foldl (markU F) u).getD (l / 2 - F).toNat false = true
  | [], _, _, h, _, _ => by simp at h
  | r :: rs, l, u, h, hF, hl => by
    rcases List.mem_cons.1 h with rfl | h
    · exact foldl_keep rs (markU_hit hF hl)
    · exact foldl_hit (rs := rs) h hF (by rw [markU_length]; exact hl)

/-- A variable that is no gate's, or a used gate's. -/
def okU (c : Cir) (v : Nat) : Prop := c.first ≤ v → (usedL c).getD (v - c.first.toNat) false = true

theorem okU_op {c : Cir} (hv : c.valid) {i : Nat} {g : Gt} (h : c.gates[i]? = some g) (hu : (usedL c).getD i false = true) : okU c (g.a / 2).toNat ∧ okU c (g.b / 2).toNat := by
  have hp := gatesP_at hv.gates h
  have hi := (List.getElem?_eq_some_iff.1 h).1
  have h0 := hv.lim.1
  have eF : c.first = 1 + c.inp + c.next.length := rfl
  have hc := usedK_closed hv.gates c.gates.length (u := used0 c.first c.gates.length (c.outs ++ c.next)) (used0_length _ _ _) hi h hu
  unfold litP at hp
  exact ⟨fun ha => by rw [show (g.a / 2).toNat - c.first.toNat = (g.a / 2 - c.first).toNat by omega]; exact hc.1 (by omega),
    fun hb => by rw [show (g.b / 2).toNat - c.first.toNat = (g.b / 2 - c.first).toNat by omega]; exact hc.2 (by omega)⟩

theorem okU_root {c : Cir} (hv : c.valid) {l : Int} (h : l ∈ c.outs ++ c.next) : okU c (l / 2).toNat := by
  have hl : litP l c.vars := by
    rcases List.mem_append.1 h with h | h
    · exact hv.outs l h
    · exact hv.next l h
  have h0 := hv.lim.1
  have eF : c.first = 1 + c.inp + c.next.length := rfl
  have eV : c.vars = c.first + c.gates.length := rfl
  unfold litP at hl
  intro ha
  rw [show (l / 2).toNat - c.first.toNat = (l / 2 - c.first).toNat by omega]
  exact usedK_keep _ (foldl_hit h (by omega) (by simp; omega))

/-! The rebuilt circuit's values. -/
theorem gatesP_nat {c : Cir} {F : Nat} (hF : c.first = F) (hv : c.valid) : gatesP F c.gates := by rw [← hF]; exact hv.gates

theorem evE_getD {k v : Nat} (h : v < k) : (evE k).getD v 0 = 2 * (v : Int) := by
  unfold evE
  rw [List.getD_eq_getElem?_getD, List.getElem?_map, List.getElem?_range h]; rfl

theorem getD_snoc_lt {α : Type} {l : List α} {x d : α} {v : Nat} (h : v < l.length) : (l ++ [x]).getD v d = l.getD v d := by
  simp only [List.getD_eq_getElem?_getD]; rw [List.getElem?_append_left h]

theorem getD_snoc_at {α : Type} {l : List α} {x d : α} {v : Nat} (h : v = l.length) : (l ++ [x]).getD v d = x := by
  subst h
  simp only [List.getD_eq_getElem?_getD]; rw [List.getElem?_append_right (Nat.le_refl _), Nat.sub_self]; rfl

def BldV (c : Cir) (F : Nat) (b : List Bool) (k : Nat) (st : List Gt × List Int) : Prop :=
  ∀ v, v < F + k → okU c v → litB (vN b st.1) (st.2.getD v 0) = (vN b c.gates).getD v false

theorem bStep_val {c : Cir} {F : Nat} (hF : c.first = F) (hv : c.valid) {b : List Bool} (hb : Bs F b) {k : Nat} {g : Gt} (h : c.gates[k]? = some g) {st : List Gt × List Int} (hok : BldOk c.first k st) (hbv : BldV c F b k st) (sh : Bool) :
    BldV c F b (k + 1) (bStep c.first sh (usedL c) st g k) := by
  have hF1 : 1 ≤ c.first := by have := hv.lim.1; unfold Cir.first; omega
  have hp := gatesP_at hv.gates h
  have hm := hok.mlen
  rw [hF] at hok hp hm hF1 ⊢
  have hml : st.2.length = F + k := by omega
  have hgl := hok.gates
  have ma : litP (mapB st.2 g.a) (F + st.1.length) := mapB_litP hok.lits hp.1.1 (by have := hp.1; unfold litP at this; omega)
  have mb : litP (mapB st.2 g.b) (F + st.1.length) := mapB_litP hok.lits hp.2.1 (by have := hp.2; unfold litP at this; omega)
  have hst : ∀ v, v < F + k → litP (st.2.getD v 0) (F + st.1.length) := fun v hv' => by
    obtain ⟨x, hx⟩ := get_of_lt (l := st.2) (k := v) (by omega)
    rw [List.getD_eq_getElem?_getD, hx]
    exact hok.lits x (List.mem_of_getElem? hx)
  unfold bStep
  by_cases hu : (usedL c).getD k false = true
  · rw [if_pos hu]
    obtain ⟨oa, ob⟩ := okU_op hv h hu
    have hva : litB (vN b st.1) (mapB st.2 g.a) = litB (vN b c.gates) g.a := litB_mapB (hbv _ (by have := hp.1; unfold litP at this; omega) oa)
    have hvb : litB (vN b st.1) (mapB st.2 g.b) = litB (vN b c.gates) g.b := litB_mapB (hbv _ (by have := hp.2; unfold litP at this; omega) ob)
    have hvk := vN_gate hb.len (gatesP_nat hF hv) h
    cases sh with
    | true =>
      rw [if_pos rfl]
      intro v hlt ho
      show litB (vN b (andL F st.1 (mapB st.2 g.a) (mapB st.2 g.b)).1) ((st.2 ++ [(andL F st.1 (mapB st.2 g.a) (mapB st.2 g.b)).2]).getD v 0) = _
      by_cases e : v < F + k
      · rw [getD_snoc_lt (by omega), ← hbv v e ho]
        rcases andL_ext F st.1 (mapB st.2 g.a) (mapB st.2 g.b) with h1 | ⟨x, h1, _⟩
        · rw [h1]
        · rw [h1]; exact litB_app hb.len (hst v e)
      · obtain rfl : v = F + k := by omega
        rw [getD_snoc_at (by omega), andL_val hb hgl ma mb, hva, hvb, hvk]
    | false =>
      rw [if_neg (by simp)]
      intro v hlt ho
      show litB (vN b (st.1 ++ [⟨mapB st.2 g.a, mapB st.2 g.b⟩])) ((st.2 ++ [2 * ((F : Int) + (st.1.length : Int))]).getD v 0) = _
      by_cases e : v < F + k
      · rw [getD_snoc_lt (by omega), ← hbv v e ho]
        exact litB_app hb.len (hst v e)
      · obtain rfl : v = F + k := by omega
        rw [getD_snoc_at (by omega), show (2 * ((F : Int) + (st.1.length : Int))) = 2 * ((F + st.1.length : Nat) : Int) by omega, litB_nat, vN_snoc, getD_snoc_at (by rw [vN_length, hb.len]), hva, hvb, hvk]
  · rw [if_neg hu]
    intro v hlt ho
    by_cases e : v < F + k
    · show litB (vN b st.1) ((st.2 ++ [0]).getD v 0) = _
      rw [getD_snoc_lt (by omega)]
      exact hbv v e ho
    · obtain rfl : v = F + k := by omega
      refine absurd (ho (by omega)) ?_
      rw [show F + k - c.first.toNat = k by omega]
      exact hu

theorem bldP_val {c : Cir} {F : Nat} (hF : c.first = F) (hv : c.valid) {b : List Bool} (hb : Bs F b) (sh : Bool) : ∀ k, k ≤ c.gates.length → BldV c F b k (bldP c sh k)
  | 0, _ => fun v hlt _ => by
    show litB (vN b []) ((evE c.first.toNat).getD v 0) = _
    rw [hF, Int.toNat_natCast, evE_getD (by omega), litB_nat]
    obtain ⟨r, hr⟩ := vN_base b c.gates
    rw [hr]
    show b.getD v false = _
    simp only [List.getD_eq_getElem?_getD]
    rw [List.getElem?_append_left (by have := hb.len; omega)]
  | k + 1, hk => by
    obtain ⟨g, hg⟩ := get_of_lt (l := c.gates) (k := k) (by omega)
    rw [bldP_succ hg]
    exact bStep_val hF hv hb hg (bldP_ok hv sh k (by omega)) (bldP_val hF hv hb sh k (by omega)) sh

/-- The roots keep their values. -/
theorem buildC_lit {c : Cir} {F : Nat} (hF : c.first = F) (hv : c.valid) {b : List Bool} (hb : Bs F b) (sh : Bool) {l : Int} (hl : l ∈ c.outs ++ c.next) :
    litB (vN b (buildC sh c).gates) (mapB (bldP c sh c.gates.length).2 l) = litB (vN b c.gates) l := by
  refine litB_mapB (bldP_val hF hv hb sh c.gates.length (Nat.le_refl _) _ ?_ (okU_root hv hl))
  have h1 : litP l c.vars := by
    rcases List.mem_append.1 hl with h | h
    · exact hv.outs l h
    · exact hv.next l h
  have eV : c.vars = c.first + c.gates.length := rfl
  unfold litP at h1
  omega

theorem asgV_Bs {c : Cir} (hv : c.valid) (x : Int) : Bs c.first.toNat (asgV c x) := by
  have h0 := hv.lim.1
  exact ⟨by rw [asgV_length]; unfold Cir.first; omega, rfl⟩

theorem evalV_vN (c : Cir) (x : Int) (val : Bool) : evalV c x (-1) val = vN (asgV c x) c.gates := by
  rw [evalV_no]
  unfold vN
  cases val
  · rfl
  · have : ∀ (gs : List Gt) (b : List Bool), valsV (-1) true b gs = valsV (-1) false b gs := fun gs => by
      induction gs with
      | nil => intro b; rfl
      | cons g gs ih =>
        intro b
        show valsV (-1) true (stepV (-1) true b g) gs = valsV (-1) false (stepV (-1) false b g) gs
        rw [ih]
        unfold stepV
        rw [if_neg (by omega), if_neg (by omega)]
    exact this _ _

theorem buildC_res {c : Cir} (hv : c.valid) (sh : Bool) (x : Int) : resV (buildC sh c) x (-1) false = resV c x (-1) false := by
  have h0 := hv.lim.1
  have hF : c.first = (c.first.toNat : Nat) := by unfold Cir.first; omega
  have hb := asgV_Bs hv x
  have ea : asgV (buildC sh c) x = asgV c x := by unfold asgV buildC; simp
  unfold resV
  rw [evalV_vN, evalV_vN, ea]
  show (c.next.map (mapB (bldP c sh c.gates.length).2) ++ c.outs.map (mapB (bldP c sh c.gates.length).2)).map _ = _
  rw [← List.map_append, List.map_map]
  apply List.map_congr_left
  intro l hl
  exact buildC_lit hF hv hb sh (by rcases List.mem_append.1 hl with h | h <;> simp [h])

theorem optC_res {c : Cir} (hv : c.valid) (x : Int) : resV (optC c) x (-1) false = resV c x (-1) false := by
  unfold optC
  rw [buildC_res (buildC_valid hv true), buildC_res hv]

/-- A pair of states and the inputs that lead to it. -/
abbrev En := (Int × Int) × List Int

def hitD (a b : Cir) (s : Int × Int) (x : Int) : Bool := !decide (outN a s.1 x = outN b s.2 x)

def stpD (a b : Cir) (s : Int × Int) (x : Int) : Int × Int := (nextN a s.1 x, nextN b s.2 x)

def addD (es : List En) (n : Int × Int) (p : List Int) : List En := if n ∈ es.map (·.1) then es else es ++ [(n, p)]

theorem addD_in {es : List En} {n : Int × Int} {p : List Int} (h : n ∈ es.map (·.1)) : addD es n p = es := by unfold addD; rw [if_pos h]

theorem addD_out {es : List En} {n : Int × Int} {p : List Int} (h : ¬ n ∈ es.map (·.1)) : addD es n p = es ++ [(n, p)] := by unfold addD; rw [if_neg h]

def innD (a b : Cir) (e : En) (es : List En) : Nat → List En
  | 0 => es
  | m + 1 => addD (innD a b e es m) (stpD a b e.1 (m : Int)) (e.2 ++ [(m : Int)])

theorem innD_succ (a b : Cir) (e : En) (es : List En) (m : Nat) : innD a b e es (m + 1) = addD (innD a b e es m) (stpD a b e.1 (m : Int)) (e.2 ++ [(m : Int)]) := rfl

def outD (a b : Cir) (M : Nat) : Nat → Nat → List En → Option (List Int)
  | 0, _, _ => none
  | f + 1, k, es => match es[k]? with
    | none => none
    | some e => match (List.range M).find? (fun (x : Nat) => hitD a b e.1 (x : Int)) with
      | some x => some (e.2 ++ [(x : Int)])
      | none => outD a b M f (k + 1) (innD a b e es M)

theorem outD_end {a b : Cir} {M f k : Nat} {es : List En} (h : ¬ k < es.length) : outD a b M f k es = none := by
  cases f with
  | zero => rfl
  | succ f => unfold outD; rw [List.getElem?_eq_none (by omega)]

theorem outD_hit {a b : Cir} {M f k x : Nat} {es : List En} {e : En} (h : es[k]? = some e) (hx : x < M) (hh : hitD a b e.1 (x : Int) = true) (hn : ∀ y : Nat, y < x → hitD a b e.1 (y : Int) = false) :
    outD a b M (f + 1) k es = some (e.2 ++ [(x : Int)]) := by
  have e1 : (List.range M).find? (fun (x : Nat) => hitD a b e.1 (x : Int)) = some x := by
    rw [List.find?_range_eq_some]
    refine ⟨hh, List.mem_range.2 hx, fun j hj => by simp [hn j hj]⟩
  unfold outD; rw [h]; simp only []; rw [e1]

theorem outD_step {a b : Cir} {M f k : Nat} {es : List En} {e : En} (h : es[k]? = some e) (hn : ∀ y : Nat, y < M → hitD a b e.1 (y : Int) = false) :
    outD a b M (f + 1) k es = outD a b M f (k + 1) (innD a b e es M) := by
  have e1 : (List.range M).find? (fun (x : Nat) => hitD a b e.1 (x : Int)) = none := by
    rw [List.find?_eq_none]
    intro y hy
    simp [hn y (List.mem_range.1 hy)]
  conv => lhs; unfold outD
  rw [h]; simp only []; rw [e1]

/-- Two circuits that may be compared. -/
def cmpB (a b : Cir) : Bool := a.validB && (b.validB && (decide (a.inp = b.inp) && decide (a.outs.length = b.outs.length)))

theorem cmpB_iff {a b : Cir} : cmpB a b = true ↔ a.validB = true ∧ b.validB = true ∧ a.inp = b.inp ∧ a.outs.length = b.outs.length := by
  simp [cmpB]

def disD (a b : Cir) : Option (List Int) := outD a b (2 ^ a.inp.toNat) (2 ^ a.next.length * 2 ^ b.next.length) 0 [((0, 0), [])]

def disR (a b : Cir) : Option (List Int) := if cmpB a b then disD a b else none

theorem disR_no {a b : Cir} (h : cmpB a b = false) : disR a b = none := by unfold disR; rw [h]; rfl

theorem disR_yes {a b : Cir} (h : cmpB a b = true) : disR a b = disD a b := by unfold disR; rw [h]; rfl

def seqB (a b : Cir) : Bool := cmpB a b && (disR a b).isNone

/-- The pairs are different and within the numbers of states. -/
structure goodD (NA NB : Nat) (es : List En) : Prop where
  nd : (es.map (·.1)).Nodup
  bd : ∀ e ∈ es, (0 ≤ e.1.1 ∧ e.1.1 < NA) ∧ 0 ≤ e.1.2 ∧ e.1.2 < NB

theorem nodup_le : ∀ {xs ys : List Nat}, xs.Nodup → (∀ n ∈ xs, n ∈ ys) → xs.length ≤ ys.length
  | [], _, _, _ => Nat.zero_le _
  | x :: xs, ys, hn, hs => by
    obtain ⟨h1, h2⟩ := List.nodup_cons.1 hn
    have hx := hs x List.mem_cons_self
    have h3 : ∀ n ∈ xs, n ∈ ys.erase x := fun n hn' => by
      refine (List.mem_erase_of_ne ?_).2 (hs n (List.mem_cons_of_mem _ hn'))
      intro e; exact h1 (e ▸ hn')
    have h4 := nodup_le h2 h3
    rw [List.length_erase_of_mem hx] at h4
    have h5 := List.length_pos_of_mem hx
    simp only [List.length_cons]
    omega

theorem goodD_nd_len : ∀ {NA NB : Nat} {ps : List (Int × Int)}, ps.Nodup → (∀ s ∈ ps, (0 ≤ s.1 ∧ s.1 < NA) ∧ 0 ≤ s.2 ∧ s.2 < NB) → ps.length ≤ NA * NB := by
  intro NA NB ps hn hb
  have hnd : (ps.map fun (s : Int × Int) => s.1.toNat * NB + s.2.toNat).Nodup := by
    rw [List.Nodup, List.pairwise_map]
    refine List.Pairwise.imp_of_mem ?_ hn
    rintro ⟨p, q⟩ ⟨p', q'⟩ h1 h2 hne he
    obtain ⟨⟨a1, a2⟩, a3, a4⟩ := hb _ h1
    obtain ⟨⟨b1, b2⟩, b3, b4⟩ := hb _ h2
    simp only at a1 a2 a3 a4 b1 b2 b3 b4 he
    apply hne
    have q1 : q.toNat < NB := by omega
    have q2 : q'.toNat < NB := by omega
    have e1 : (p.toNat * NB + q.toNat) % NB = q.toNat := by rw [Nat.mul_comm, Nat.mul_add_mod, Nat.mod_eq_of_lt q1]
    have e2 : (p'.toNat * NB + q'.toNat) % NB = q'.toNat := by rw [Nat.mul_comm, Nat.mul_add_mod, Nat.mod_eq_of_lt q2]
    have e3 : q.toNat = q'.toNat := by rw [← e1, ← e2, he]
    have e4 : p.toNat * NB = p'.toNat * NB := by omega
    have e5 : p.toNat = p'.toNat := Nat.eq_of_mul_eq_mul_right (by omega) e4
    have : p = p' := by omega
    have : q = q' := by omega
    simp_all
  have hsub : ∀ n ∈ ps.map fun (s : Int × Int) => s.1.toNat * NB + s.2.toNat, n ∈ List.range (NA * NB) := by
    intro n hn
    obtain ⟨⟨p, q⟩, h1, rfl⟩ := List.mem_map.1 hn
    obtain ⟨⟨a1, a2⟩, a3, a4⟩ := hb _ h1
    simp only at a1 a2 a3 a4
    rw [List.mem_range]
    have h1 : p.toNat + 1 ≤ NA := by omega
    have h2 := Nat.mul_le_mul_right NB h1
    rw [Nat.add_mul] at h2
    simp only
    omega
  have h9 := nodup_le hnd hsub
  simpa using h9

theorem goodD_len {NA NB : Nat} {es : List En} (h : goodD NA NB es) : es.length ≤ NA * NB := by
  have := goodD_nd_len h.nd (fun s hs => by obtain ⟨e, he, rfl⟩ := List.mem_map.1 hs; exact h.bd e he)
  simpa using this

theorem goodD_add {NA NB : Nat} {es : List En} {n : Int × Int} {p : List Int} (h : goodD NA NB es) (hn : (0 ≤ n.1 ∧ n.1 < NA) ∧ 0 ≤ n.2 ∧ n.2 < NB) : goodD NA NB (addD es n p) := by
  by_cases hm : n ∈ es.map (·.1)
  · rw [addD_in hm]; exact h
  · rw [addD_out hm]
    refine ⟨?_, ?_⟩
    · rw [List.map_append]
      refine List.nodup_append.2 ⟨h.nd, by simp, ?_⟩
      intro u hu v hv e
      simp at hv
      subst hv; subst e
      exact hm hu
    · intro e he
      rcases List.mem_append.1 he with he | he
      · exact h.bd e he
      · simp at he; subst he; exact hn

theorem stpD_bd (a b : Cir) (s : Int × Int) (x : Int) : (0 ≤ (stpD a b s x).1 ∧ (stpD a b s x).1 < ((2 ^ a.next.length : Nat) : Int)) ∧ 0 ≤ (stpD a b s x).2 ∧ (stpD a b s x).2 < ((2 ^ b.next.length : Nat) : Int) :=
  ⟨nextN_lt a s.1 x, nextN_lt b s.2 x⟩

theorem goodD_inn {a b : Cir} {e : En} {es : List En} (h : goodD (2 ^ a.next.length) (2 ^ b.next.length) es) : ∀ m, goodD (2 ^ a.next.length) (2 ^ b.next.length) (innD a b e es m)
  | 0 => h
  | m + 1 => goodD_add (goodD_inn h m) (stpD_bd a b e.1 m)

theorem goodD_start (a b : Cir) : goodD (2 ^ a.next.length) (2 ^ b.next.length) [((0, 0), [])] :=
  ⟨by simp, fun e he => by
    simp at he; subst he
    have h1 : 0 < 2 ^ a.next.length := Nat.pow_pos (by omega)
    have h2 : 0 < 2 ^ b.next.length := Nat.pow_pos (by omega)
    simp only
    omega⟩

theorem addD_get {es : List En} {n : Int × Int} {p : List Int} {k : Nat} {e : En} (h : es[k]? = some e) : (addD es n p)[k]? = some e := by
  unfold addD; split
  · exact h
  · rw [List.getElem?_append_left (List.getElem?_eq_some_iff.1 h).1]; exact h

theorem innD_get {a b : Cir} {e x : En} {es : List En} {k : Nat} (h : es[k]? = some x) : ∀ m, (innD a b e es m)[k]? = some x
  | 0 => h
  | m + 1 => addD_get (innD_get h m)

theorem addD_sub {es : List En} {n : Int × Int} {p : List Int} {s : Int × Int} (h : s ∈ es.map (·.1)) : s ∈ (addD es n p).map (·.1) := by
  unfold addD; split
  · exact h
  · rw [List.map_append]; exact List.mem_append_left _ h

theorem addD_mem (es : List En) (n : Int × Int) (p : List Int) : n ∈ (addD es n p).map (·.1) := by
  unfold addD; split
  · assumption
  · simp

theorem innD_sub {a b : Cir} {e : En} {es : List En} {s : Int × Int} (h : s ∈ es.map (·.1)) : ∀ m, s ∈ (innD a b e es m).map (·.1)
  | 0 => h
  | m + 1 => addD_sub (innD_sub h m)

theorem innD_mem {a b : Cir} {e : En} {es : List En} : ∀ m i : Nat, i < m → stpD a b e.1 (i : Int) ∈ (innD a b e es m).map (·.1)
  | 0, _, h => by omega
  | m + 1, i, h => by
    by_cases hi : i = m
    · subst hi; exact addD_mem _ _ _
    · exact addD_sub (innD_mem m i (by omega))

theorem addD_all {es : List En} {n : Int × Int} {p : List Int} {P : En → Prop} (h : ∀ e ∈ es, P e) (hn : P (n, p)) : ∀ e ∈ addD es n p, P e := by
  unfold addD; split
  · exact h
  · intro e he
    rcases List.mem_append.1 he with he | he
    · exact h e he
    · simp at he; subst he; exact hn

theorem innD_all {a b : Cir} {e : En} {es : List En} {P : En → Prop} (h : ∀ e ∈ es, P e) : ∀ m, (∀ x : Nat, x < m → P (stpD a b e.1 (x : Int), e.2 ++ [(x : Int)])) → ∀ y ∈ innD a b e es m, P y
  | 0, _ => h
  | m + 1, hn => addD_all (innD_all h m fun x hx => hn x (by omega)) (hn m (by omega))

/-- No difference: a set of pairs that is closed under steps and in which the outputs agree. -/
structure BisD (a b : Cir) (M : Nat) (P : Int × Int → Prop) : Prop where
  start : P (0, 0)
  agree : ∀ s, P s → ∀ x : Nat, x < M → hitD a b s (x : Int) = false
  step : ∀ s, P s → ∀ x : Nat, x < M → P (stpD a b s (x : Int))

theorem outD_bis {a b : Cir} {M : Nat} {P : Int × Int → Prop} (h : BisD a b M P) : ∀ (f k : Nat) (es : List En), (∀ e ∈ es, P e.1) → outD a b M f k es = none
  | 0, _, _, _ => rfl
  | f + 1, k, es, he => by
    by_cases hk : k < es.length
    · obtain ⟨e, hke⟩ : ∃ e, es[k]? = some e := ⟨es[k], by simp [hk]⟩
      have hP := he e (List.mem_of_getElem? hke)
      rw [outD_step hke (h.agree _ hP)]
      exact outD_bis h f (k + 1) _ (innD_all (P := fun e => P e.1) he M (fun x hx => h.step _ hP x hx))
    · exact outD_end hk

theorem outD_closed {a b : Cir} {M : Nat} : ∀ (f k : Nat) (es : List En), goodD (2 ^ a.next.length) (2 ^ b.next.length) es → 2 ^ a.next.length * 2 ^ b.next.length ≤ f + k → k ≤ es.length →
    (∀ (j : Nat) (e : En), j < k → es[j]? = some e → ∀ x : Nat, x < M → hitD a b e.1 (x : Int) = false ∧ stpD a b e.1 (x : Int) ∈ es.map (·.1)) → (0, 0) ∈ es.map (·.1) →
    outD a b M f k es = none → ∃ L : List (Int × Int), (0, 0) ∈ L ∧ (∀ s ∈ L, (0 ≤ s.1 ∧ s.1 < ((2 ^ a.next.length : Nat) : Int)) ∧ 0 ≤ s.2 ∧ s.2 < ((2 ^ b.next.length : Nat) : Int)) ∧ ∀ s ∈ L, ∀ x : Nat, x < M → hitD a b s (x : Int) = false ∧ stpD a b s (x : Int) ∈ L
  | f, k, es, hg, hf, hk, hcl, h0, hno => by
    have hlen := goodD_len hg
    by_cases hlt : k < es.length
    · obtain ⟨f, rfl⟩ : ∃ g, f = g + 1 := ⟨f - 1, by omega⟩
      obtain ⟨e, hke⟩ : ∃ e, es[k]? = some e := ⟨es[k], by simp [hlt]⟩
      by_cases hh : ∃ x : Nat, x < M ∧ hitD a b e.1 (x : Int) = true
      · exfalso
        obtain ⟨x, hx, hx2⟩ := hh
        unfold outD at hno
        rw [hke] at hno
        simp only at hno
        split at hno
        · cases hno
        · next hq =>
          rw [List.find?_eq_none] at hq
          exact hq x (List.mem_range.2 hx) hx2
      · have hn : ∀ y : Nat, y < M → hitD a b e.1 (y : Int) = false := fun y hy => by
          cases hq : hitD a b e.1 (y : Int)
          · rfl
          · exact absurd ⟨y, hy, hq⟩ hh
        rw [outD_step hke hn] at hno
        refine outD_closed f (k + 1) (innD a b e es M) (goodD_inn hg M) (by omega) ?_ ?_ (innD_sub h0 M) hno
        · have := (List.getElem?_eq_some_iff.1 (innD_get (a := a) (b := b) (e := e) hke M)).1
          omega
        · intro j e' hj hje x hx
          by_cases hjk : j = k
          · subst hjk
            rw [innD_get hke M] at hje
            cases hje
            exact ⟨hn x hx, innD_mem M x hx⟩
          · obtain ⟨e2, he2⟩ : ∃ x : En, es[j]? = some x := ⟨es[j]'(by omega), by simp⟩
            rw [innD_get he2 M] at hje
            cases hje
            obtain ⟨h1, h2⟩ := hcl j _ (by omega) he2 x hx
            exact ⟨h1, innD_sub h2 M⟩
    · refine ⟨es.map (·.1), h0, fun s hs => ?_, fun s hs x hx => ?_⟩
      · obtain ⟨e, he, rfl⟩ := List.mem_map.1 hs
        exact hg.bd e he
      · obtain ⟨e, he, rfl⟩ := List.mem_map.1 hs
        obtain ⟨j, hj⟩ := List.mem_iff_getElem?.1 he
        have hj2 := (List.getElem?_eq_some_iff.1 hj).1
        exact hcl j e (by omega) hj x hx

theorem disD_closed {a b : Cir} (h : disD a b = none) : ∃ L : List (Int × Int), (0, 0) ∈ L ∧ (∀ s ∈ L, (0 ≤ s.1 ∧ s.1 < ((2 ^ a.next.length : Nat) : Int)) ∧ 0 ≤ s.2 ∧ s.2 < ((2 ^ b.next.length : Nat) : Int)) ∧ ∀ s ∈ L, ∀ x : Nat, x < 2 ^ a.inp.toNat → hitD a b s (x : Int) = false ∧ stpD a b s (x : Int) ∈ L :=
  outD_closed _ 0 _ (goodD_start a b) (Nat.le_refl _) (Nat.zero_le _) (fun j e hj => by omega) (by simp) h

theorem seqB_bis {a b : Cir} (hc : cmpB a b = true) {P : Int × Int → Prop} (h : BisD a b (2 ^ a.inp.toNat) P) : seqB a b = true := by
  unfold seqB
  rw [hc, disR_yes hc]
  unfold disD
  rw [outD_bis h _ _ _ (fun e he => by simp at he; subst he; exact h.start)]
  rfl

theorem seqB_rel {a b : Cir} (h : seqB a b = true) : cmpB a b = true ∧ ∃ P : Int × Int → Prop, BisD a b (2 ^ a.inp.toNat) P ∧ ∀ s, P s → (0 ≤ s.1 ∧ s.1 < ((2 ^ a.next.length : Nat) : Int)) ∧ 0 ≤ s.2 ∧ s.2 < ((2 ^ b.next.length : Nat) : Int) := by
  unfold seqB at h
  simp at h
  obtain ⟨h1, h2⟩ := h
  rw [disR_yes h1] at h2
  obtain ⟨L, l0, l1, l2⟩ := disD_closed h2
  exact ⟨h1, (· ∈ L), ⟨l0, fun s hs x hx => (l2 s hs x hx).1, fun s hs x hx => (l2 s hs x hx).2⟩, l1⟩

theorem cmpB_sym (a b : Cir) : cmpB a b = cmpB b a := by
  rw [Bool.eq_iff_iff, cmpB_iff, cmpB_iff]
  exact ⟨fun ⟨h1, h2, h3, h4⟩ => ⟨h2, h1, h3.symm, h4.symm⟩, fun ⟨h1, h2, h3, h4⟩ => ⟨h2, h1, h3.symm, h4.symm⟩⟩

theorem hitD_sym (a b : Cir) (p q x : Int) : hitD b a (q, p) x = hitD a b (p, q) x := by
  unfold hitD; simp [eq_comm]

theorem seqB_sym1 {a b : Cir} (h : seqB a b = true) : seqB b a = true := by
  obtain ⟨hc, P, hP, -⟩ := seqB_rel h
  have hi := (cmpB_iff.1 hc).2.2.1
  refine seqB_bis (by rw [cmpB_sym]; exact hc) (P := fun s => P (s.2, s.1)) ?_
  rw [← hi]
  exact ⟨hP.start, fun ⟨p, q⟩ hs x hx => by rw [hitD_sym]; exact hP.agree (q, p) hs x hx, fun ⟨p, q⟩ hs x hx => hP.step (q, p) hs x hx⟩

theorem seqB_sym (a b : Cir) : seqB a b = seqB b a := by
  rw [Bool.eq_iff_iff]; exact ⟨seqB_sym1, seqB_sym1⟩

/-! Filters. -/

theorem filter_mono_len {p q : Nat → Bool} : ∀ (xs : List Nat), (∀ x ∈ xs, p x = true → q x = true) → (xs.filter p).length ≤ (xs.filter q).length
  | [], _ => Nat.le_refl _
  | x :: xs, h => by
    have ih := filter_mono_len xs fun y hy => h y (List.mem_cons_of_mem _ hy)
    have hx := h x List.mem_cons_self
    rw [List.filter_cons, List.filter_cons]
    by_cases hp : p x = true
    · rw [if_pos hp, if_pos (hx hp)]; simpa using ih
    · rw [if_neg hp]
      split
      · simp; omega
      · exact ih

theorem filter_mono_eq {p q : Nat → Bool} : ∀ (xs : List Nat), (∀ x ∈ xs, p x = true → q x = true) → (xs.filter q).length ≤ (xs.filter p).length → ∀ x ∈ xs, q x = true → p x = true
  | [], _, _, x, hx, _ => by simp at hx
  | y :: xs, h, hl, x, hx, hq => by
    have h' : ∀ z ∈ xs, p z = true → q z = true := fun z hz => h z (List.mem_cons_of_mem _ hz)
    have ih := filter_mono_len xs h'
    have hy := h y List.mem_cons_self
    rw [List.filter_cons, List.filter_cons] at hl
    by_cases hp : p y = true
    · rw [if_pos hp, if_pos (hy hp)] at hl
      rcases List.mem_cons.1 hx with rfl | hx
      · exact hp
      · exact filter_mono_eq xs h' (by simpa using hl) x hx hq
    · rw [if_neg hp] at hl
      by_cases hqy : q y = true
      · rw [if_pos hqy] at hl; simp at hl; omega
      · rw [if_neg hqy] at hl
        rcases List.mem_cons.1 hx with rfl | hx
        · exact absurd hq hqy
        · exact filter_mono_eq xs h' hl x hx hq

theorem bitsV_cons (x : Int) (n : Nat) : bitsV x (n + 1) = decide (x % 2 = 1) :: bitsV (x / 2) n := by
  unfold bitsV
  rw [List.range_succ_eq_map, List.map_cons, List.map_map]
  congr 1
  · simp
  · apply List.map_congr_left
    intro i _
    show decide (x / 2 ^ (i + 1) % 2 = 1) = decide (x / 2 / 2 ^ i % 2 = 1)
    rw [Int.pow_succ, Int.mul_comm, Int.ediv_ediv, if_neg (by omega), Int.sub_zero]

theorem bitsV_numB : ∀ (bs : List Bool), bitsV (numB bs) bs.length = bs
  | [] => rfl
  | b :: bs => by
    rw [List.length_cons, bitsV_cons]
    have e1 : numB (b :: bs) / 2 = numB bs := by
      show ((if b then 1 else 0) + 2 * numB bs) / 2 = numB bs
      cases b <;> simp <;> omega
    have e2 : decide (numB (b :: bs) % 2 = 1) = b := by
      show decide (((if b then 1 else 0) + 2 * numB bs) % 2 = 1) = b
      cases b <;> simp <;> omega
    rw [e1, e2, bitsV_numB bs]

theorem numB_inj {xs bs : List Bool} (h : xs.length = bs.length) (e : numB xs = numB bs) : xs = bs := by
  rw [← bitsV_numB xs, ← bitsV_numB bs, e, h]

theorem bitsV_zero (n : Nat) : bitsV 0 n = List.replicate n false := by
  unfold bitsV
  apply List.ext_getElem
  · simp
  · intro i h1 h2
    simp

/-- The values ahead of the gates. -/
def bC (c : Cir) (s x : Int) : List Bool := false :: (bitsV x c.inp.toNat ++ bitsV s c.next.length)

theorem bC_length (c : Cir) (s x : Int) : (bC c s x).length = 1 + c.inp.toNat + c.next.length := by
  simp [bC, bitsV_length]; omega

theorem cycV_vN (c : Cir) (s x : Int) : cycV c s x = vN (bC c s x) c.gates := rfl

theorem outN_eq {a b : Cir} (h : a.outs.length = b.outs.length) {s x t y : Int} : outN a s x = outN b t y ↔ a.outs.map (litB (cycV a s x)) = b.outs.map (litB (cycV b t y)) := by
  unfold outN
  exact ⟨fun e => numB_inj (by simpa using h) e, fun e => by rw [e]⟩

theorem hitD_iff {a b : Cir} (h : a.outs.length = b.outs.length) (s : Int × Int) (x : Int) : hitD a b s x = false ↔ a.outs.map (litB (cycV a s.1 x)) = b.outs.map (litB (cycV b s.2 x)) := by
  unfold hitD
  rw [← outN_eq h]; simp

theorem nextN_bits (c : Cir) (s x : Int) : bitsV (nextN c s x) c.next.length = c.next.map (litB (cycV c s x)) := by
  have := bitsV_numB (c.next.map (litB (cycV c s x)))
  rw [List.length_map] at this
  exact this

/-- A circuit with renamed variables computes the same values on a set of variables that is closed under operands. -/
theorem ren_vals {F F' : Nat} {b b' : List Bool} {gs gs' : List Gt} (hF : b.length = F) (hF' : b'.length = F') (hg : gatesP F gs) (hg' : gatesP F' gs') {m : Nat → Int} {f : Int → Int} {U : Nat → Prop}
    (hf : ∀ l : Int, 0 ≤ l → f l = xrb (m (l / 2).toNat) (l % 2)) (hU : ∀ (k : Nat) (g : Gt), gs[k]? = some g → U (F + k) → U (g.a / 2).toNat ∧ U (g.b / 2).toNat)
    (hb : ∀ v, v < F → U v → litP (m v) F' ∧ litB b' (m v) = b.getD v false) (hgs : ∀ (k : Nat) (g : Gt), gs[k]? = some g → gs'[k]? = some ⟨f g.a, f g.b⟩)
    (hm : ∀ k, k < gs.length → U (F + k) → m (F + k) = 2 * ((F' + k : Nat) : Int) ∨ (litP (m (F + k)) F' ∧ litB b' (m (F + k)) = (vN b gs).getD (F + k) false)) :
    ∀ v, v < F + gs.length → U v → litB (vN b' gs') (m v) = (vN b gs).getD v false := by
  have hbase : ∀ l : Int, litP l F' → litB (vN b' gs') l = litB b' l := fun l hl => by
    have := litB_app (b := b') (gs := []) (hs := gs') hF' (l := l) (by simpa using hl)
    rw [List.nil_append] at this
    rw [this]; rfl
  intro v
  induction v using Nat.strongRecOn with
  | ind v ih =>
    intro hv hu
    by_cases h : v < F
    · obtain ⟨h1, h2⟩ := hb v h hu
      rw [hbase _ h1, h2]
      obtain ⟨r, hr⟩ := vN_base b gs
      rw [hr]
      simp only [List.getD_eq_getElem?_getD]
      rw [List.getElem?_append_left (by omega)]
    · obtain ⟨k, rfl⟩ : ∃ k, v = F + k := ⟨v - F, by omega⟩
      have hk : k < gs.length := by omega
      rcases hm k hk hu with e | ⟨h1, h2⟩
      · obtain ⟨g, hgk⟩ : ∃ g, gs[k]? = some g := ⟨gs[k], by simp [hk]⟩
        have hp := gatesP_at hg hgk
        obtain ⟨u1, u2⟩ := hU k g hgk hu
        rw [e, litB_nat, vN_gate hF' hg' (hgs k g hgk), vN_gate hF hg hgk]
        have key : ∀ l : Int, litP l (F + k) → U (l / 2).toNat → litB (vN b' gs') (f l) = litB (vN b gs) l := fun l hl hul => by
          have hlt : (l / 2).toNat < F + k := litP_lt hl
          rw [hf l hl.1, litB_xrb (by omega), ih _ hlt (by omega) hul]
          rfl
        rw [key _ hp.1 u1, key _ hp.2 u2]
      · rw [hbase _ h1, h2]

theorem ren_lit {us vs : List Bool} {m : Nat → Int} {f : Int → Int} (hf : ∀ l : Int, 0 ≤ l → f l = xrb (m (l / 2).toNat) (l % 2)) {l : Int} (h0 : 0 ≤ l) (h : litB us (m (l / 2).toNat) = vs.getD (l / 2).toNat false) : litB us (f l) = litB vs l := by
  rw [hf l h0, litB_xrb (by omega), h]
  rfl

theorem getD_rep (n k : Nat) : (List.replicate n false).getD k false = false := by
  rw [List.getD_eq_getElem?_getD]
  by_cases h : k < n
  · rw [List.getElem?_replicate_of_lt h]; rfl
  · rw [List.getElem?_eq_none (by simpa using h)]; rfl

theorem bits_tail (c : Cir) (s x : Int) {j : Nat} : (bC c s x).getD (1 + c.inp.toNat + j) false = (bitsV s c.next.length).getD j false := by
  unfold bC
  simp only [List.getD_eq_getElem?_getD]
  rw [show 1 + c.inp.toNat + j = (c.inp.toNat + j) + 1 by omega, List.getElem?_cons_succ, List.getElem?_append_right (by rw [bitsV_length]; omega), bitsV_length]
  congr 2; omega

end Go.Proofs.Ytbcolcchchgldaa
