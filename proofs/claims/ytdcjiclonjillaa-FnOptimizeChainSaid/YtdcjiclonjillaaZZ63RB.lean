import Derived.Test.YtdcjiclonjillaaZZ63V6
import Derived.Test.YtdcjiclonjillaaZZ63CC
import Derived.Test.YtdcjiclonjillaaZZ63OA
namespace Go.Proofs.Ytdcjiclonjillaa
set_option linter.unusedVariables false
set_option linter.unusedSimpArgs false
open Go.RowKit

/-! Part of the proof of one law. -/

/-- The values of all variables, none stuck. -/
def vN (b : List Bool) (gs : List Gt) : List Bool := valsV (-1) false b gs

theorem vN_length (b : List Bool) (gs : List Gt) : (vN b gs).length = b.length + gs.length := valsV_length _ _ _ _

theorem vN_snoc (b : List Bool) (gs : List Gt) (g : Gt) : vN b (gs ++ [g]) = vN b gs ++ [litB (vN b gs) g.a && litB (vN b gs) g.b] := by
  unfold vN
  rw [valsV_append]
  show stepV (-1) false (valsV (-1) false b gs) g = _
  unfold stepV
  rw [if_neg (by omega)]

theorem vN_pre (b : List Bool) (gs hs : List Gt) : ∃ r, vN b (gs ++ hs) = vN b gs ++ r := by
  unfold vN
  rw [valsV_append]
  exact valsV_pre _ _ _ _

theorem vN_base (b : List Bool) (gs : List Gt) : ∃ r, vN b gs = b ++ r := valsV_pre _ _ _ _

theorem litP_lt {l : Int} {F n : Nat} (h : litP l (F + n)) : (l / 2).toNat < F + n := by unfold litP at h; omega

theorem litB_app {b : List Bool} {gs hs : List Gt} {F : Nat} (hF : b.length = F) {l : Int} (h : litP l (F + gs.length)) : litB (vN b (gs ++ hs)) l = litB (vN b gs) l := by
  obtain ⟨r, hr⟩ := vN_pre b gs hs
  rw [hr]
  exact litB_pre (by rw [vN_length, hF]; exact litP_lt h)

theorem getD_app {b : List Bool} {gs hs : List Gt} {v : Nat} (h : v < b.length + gs.length) : (vN b (gs ++ hs)).getD v false = (vN b gs).getD v false := by
  obtain ⟨r, hr⟩ := vN_pre b gs hs
  rw [hr]
  simp only [List.getD_eq_getElem?_getD]
  rw [List.getElem?_append_left (by rw [vN_length]; exact h)]

theorem take_split {gs : List Gt} {k : Nat} {g : Gt} (h : gs[k]? = some g) : gs = gs.take k ++ ([g] ++ gs.drop (k + 1)) := by
  obtain ⟨hk, rfl⟩ := List.getElem?_eq_some_iff.1 h
  simp

/-- A gate's value is the conjunction of its operands' values. -/
theorem vN_gate {b : List Bool} {gs : List Gt} {F : Nat} (hF : b.length = F) (hg : gatesP F gs) {k : Nat} {g : Gt} (h : gs[k]? = some g) :
    (vN b gs).getD (F + k) false = (litB (vN b gs) g.a && litB (vN b gs) g.b) := by
  have hk := (List.getElem?_eq_some_iff.1 h).1
  have hp := gatesP_at hg h
  have hl : (gs.take k).length = k := by simp; omega
  have e : vN b gs = vN b (gs.take k ++ ([g] ++ gs.drop (k + 1))) := by rw [← take_split h]
  have ea : litB (vN b gs) g.a = litB (vN b (gs.take k)) g.a := by rw [e]; exact litB_app hF (by rw [hl]; exact hp.1)
  have eb : litB (vN b gs) g.b = litB (vN b (gs.take k)) g.b := by rw [e]; exact litB_app hF (by rw [hl]; exact hp.2)
  rw [ea, eb, e, ← List.append_assoc, getD_app (by simp; omega), vN_snoc, List.getD_eq_getElem?_getD, List.getElem?_append_right (by rw [vN_length, hl]; omega), vN_length, hl, hF, Nat.sub_self]
  rfl

theorem litB_nat (vs : List Bool) (v : Nat) : litB vs (2 * (v : Int)) = vs.getD v false := by
  unfold litB
  rw [show (2 * (v : Int) / 2).toNat = v by omega, show decide (2 * (v : Int) % 2 = 1) = false from decide_eq_false (by omega)]
  simp

theorem litB_xrb {vs : List Bool} {y b : Int} (hb : b = 0 ∨ b = 1) : litB vs (xrb y b) = (litB vs y != decide (b = 1)) := by
  unfold litB xrb
  rw [show (2 * (y / 2) + (y + b) % 2) / 2 = y / 2 by omega]
  rcases hb with rfl | rfl
  · by_cases h : y % 2 = 1
    · rw [decide_eq_true (show (2 * (y / 2) + (y + 0) % 2) % 2 = 1 by omega), decide_eq_true h]
      simp
    · rw [decide_eq_false (show ¬ ((2 * (y / 2) + (y + 0) % 2) % 2 = 1) by omega), decide_eq_false h]
      simp
  · by_cases h : y % 2 = 1
    · rw [decide_eq_false (show ¬ ((2 * (y / 2) + (y + 1) % 2) % 2 = 1) by omega), decide_eq_true h]
      simp
    · rw [decide_eq_true (show (2 * (y / 2) + (y + 1) % 2) % 2 = 1 by omega), decide_eq_false h]
      simp

theorem litB_mapB {vs us : List Bool} {m : List Int} {l : Int} (h : litB us (m.getD (l / 2).toNat 0) = vs.getD (l / 2).toNat false) : litB us (mapB m l) = litB vs l := by
  unfold mapB
  rw [litB_xrb (by omega), h]
  rfl

theorem litB_zero {vs : List Bool} (h : vs.getD 0 false = false) : litB vs 0 = false := by
  rw [show (0 : Int) = 2 * ((0 : Nat) : Int) from rfl, litB_nat, h]

theorem litB_one {vs : List Bool} (h : vs.getD 0 false = false) : litB vs 1 = true := by
  unfold litB
  rw [show ((1 : Int) / 2).toNat = 0 from rfl, h]; rfl

theorem litB_not {vs : List Bool} {a : Int} (h : a % 2 = 0) : litB vs (a + 1) = !litB vs a := by
  unfold litB
  rw [show (a + 1) / 2 = a / 2 by omega, decide_eq_true (show (a + 1) % 2 = 1 by omega), decide_eq_false (show ¬ a % 2 = 1 by omega)]
  simp

/-- What may stand ahead of the gates: as many values as variables, the first one false. -/
structure Bs (F : Nat) (b : List Bool) : Prop where
  len : b.length = F
  zero : b[0]? = some false

theorem Bs.z {F : Nat} {b : List Bool} (h : Bs F b) (gs : List Gt) : (vN b gs).getD 0 false = false := by
  obtain ⟨r, hr⟩ := vN_base b gs
  have hb := (List.getElem?_eq_some_iff.1 h.zero).1
  rw [hr, List.getD_eq_getElem?_getD, List.getElem?_append_left hb, h.zero]; rfl

theorem andK_val {F : Nat} {b : List Bool} (hb : Bs F b) {gs : List Gt} (hg : gatesP F gs) {x y : Int} (hx : litP x (F + gs.length)) (hy : litP y (F + gs.length)) :
    litB (vN b (andK F gs x y).1) (andK F gs x y).2 = (litB (vN b gs) x && litB (vN b gs) y) := by
  have hz := hb.z gs
  by_cases h0 : x = 0 ∨ (x = y - 1 ∧ x % 2 = 0)
  · rw [andK_zero h0]
    show litB (vN b gs) 0 = _
    rw [litB_zero hz]
    rcases h0 with rfl | ⟨h1, h2⟩
    · rw [litB_zero hz]; rfl
    · rw [show y = x + 1 by omega, litB_not h2]; cases litB (vN b gs) x <;> rfl
  · by_cases h1 : x = 1 ∨ x = y
    · rw [andK_same h0 h1]
      show litB (vN b gs) y = _
      rcases h1 with rfl | rfl
      · rw [litB_one hz]; rfl
      · cases litB (vN b gs) x <;> rfl
    · cases hf : fndG gs ⟨x, y⟩ 0 with
      | some i =>
        rw [andK_old h0 h1 hf]
        show litB (vN b gs) (2 * ((F : Int) + (i : Int))) = _
        rw [show (2 * ((F : Int) + (i : Int))) = 2 * ((F + i : Nat) : Int) by omega, litB_nat]
        exact vN_gate hb.len hg (fndG_at hf).2
      | none =>
        rw [andK_new h0 h1 hf]
        show litB (vN b (gs ++ [⟨x, y⟩])) (2 * ((F : Int) + (gs.length : Int))) = _
        rw [show (2 * ((F : Int) + (gs.length : Int))) = 2 * ((F + gs.length : Nat) : Int) by omega, litB_nat, vN_snoc, List.getD_eq_getElem?_getD, List.getElem?_append_right (by rw [vN_length, hb.len]; omega), vN_length, hb.len, Nat.sub_self]
        rfl

theorem andL_val {F : Nat} {b : List Bool} (hb : Bs F b) {gs : List Gt} (hg : gatesP F gs) {x y : Int} (hx : litP x (F + gs.length)) (hy : litP y (F + gs.length)) :
    litB (vN b (andL F gs x y).1) (andL F gs x y).2 = (litB (vN b gs) x && litB (vN b gs) y) := by
  unfold andL
  split
  · rw [andK_val hb hg hy hx, Bool.and_comm]
  · exact andK_val hb hg hx hy

/-- The gates after a conjunction: as before, or one more, whose literal is the result. -/
theorem andK_ext (F : Int) (gs : List Gt) (x y : Int) : (andK F gs x y).1 = gs ∨ ∃ g, (andK F gs x y).1 = gs ++ [g] ∧ (andK F gs x y).2 = 2 * (F + gs.length) := by
  by_cases h0 : x = 0 ∨ (x = y - 1 ∧ x % 2 = 0)
  · rw [andK_zero h0]; exact .inl rfl
  · by_cases h1 : x = 1 ∨ x = y
    · rw [andK_same h0 h1]; exact .inl rfl
    · cases hf : fndG gs ⟨x, y⟩ 0 with
      | some i => rw [andK_old h0 h1 hf]; exact .inl rfl
      | none => rw [andK_new h0 h1 hf]; exact .inr ⟨_, rfl, rfl⟩

theorem andL_ext (F : Int) (gs : List Gt) (x y : Int) : (andL F gs x y).1 = gs ∨ ∃ g, (andL F gs x y).1 = gs ++ [g] ∧ (andL F gs x y).2 = 2 * (F + gs.length) := by
  unfold andL
  split <;> exact andK_ext _ _ _ _

/-! What is used. -/
theorem getD_true {u : List Bool} {j : Nat} : u.getD j false = true ↔ u[j]? = some true := by
  rw [List.getD_eq_getElem?_getD]
  cases u[j]? with
  | none => simp
  | some x => simp

theorem markU_keep' {F : Int} {u : List Bool} {l : Int} {j : Nat} (h : u.getD j false = true) : (markU F u l).getD j false = true := getD_true.2 (markU_keep (getD_true.1 h))

theorem markU_hit {F : Int} {u : List Bool} {l : Int} (h : F ≤ l / 2) (hl : (l / 2 - F).toNat < u.length) : (markU F u l).getD (l / 2 - F).toNat false = true := by
  unfold markU
  rw [if_pos h]
  exact getD_true.2 (by simp [hl])

theorem markU_hi {F : Int} {u : List Bool} {l : Int} {j : Nat} (h : l / 2 < F + j) : (markU F u l).getD j false = u.getD j false := by
  unfold markU
  split
  · simp only [List.getD_eq_getElem?_getD]
    rw [List.getElem?_set_ne (by omega)]
  · rfl

theorem usedS_keep {F : Int} {gs : List Gt} {k : Nat} {u : List Bool} {j : Nat} (h : u.getD j false = true) : (usedS F gs k u).getD j false = true := by
  unfold usedS
  split
  · split
    · exact markU_keep' (markU_keep' h)
    · exact h
  · exact h

theorem usedK_keep {F : Int} {gs : List Gt} : ∀ (k : Nat) {u : List Bool} {j : Nat}, u.getD j false = true → (usedK F gs k u).getD j false = true
  | 0, _, _, h => h
  | k + 1, _, _, h => by unfold usedK; exact usedK_keep k (usedS_keep h)

theorem usedS_hi {F : Int} {gs : List Gt} (hg : gatesP F gs) {k j : Nat} (hj : k ≤ j) (u : List Bool) : (usedS F gs k u).getD j false = u.getD j false := by
  unfold usedS
  split
  · rename_i g h
    have hp := gatesP_at hg h
    unfold litP at hp
    split
    · rw [markU_hi (by omega), markU_hi (by omega)]
    · rfl
  · rfl

theorem usedK_hi {F : Int} {gs : List Gt} (hg : gatesP F gs) : ∀ (k : Nat) {j : Nat} (u : List Bool), k ≤ j → (usedK F gs k u).getD j false = u.getD j false
  | 0, _, _, _ => rfl
  | k + 1, j, u, h => by unfold usedK; rw [usedK_hi hg k _ (by omega), usedS_hi hg (by omega)]

/-- The operands of what is used are used. -/
theorem usedK_closed {F : Int} {gs : List Gt} (hg : gatesP F gs) : ∀ (k : Nat) {i : Nat} {g : Gt} {u : List Bool}, u.length = gs.length → i < k → gs[i]? = some g → (usedK F gs k u).getD i false = true →
    (F ≤ g.a / 2 → (usedK F gs k u).getD (g.a / 2 - F).toNat false = true) ∧ (F ≤ g.b / 2 → (usedK F gs k u).getD (g.b / 2 - F).toNat false = true)
  | 0, _, _, _, _, h, _, _ => by omega
  | k + 1, i, g, u, hl, hi, h, hu => by
    unfold usedK at hu ⊢
    by_cases e : i < k
    · exact usedK_closed hg k (by rw [usedS_length]; exact hl) e h hu
    · obtain rfl : i = k := by omega
      rw [usedK_hi hg _ _ (Nat.le_refl _), usedS_hi hg (Nat.le_refl _)] at hu
      have hp := gatesP_at hg h
      have hk := (List.getElem?_eq_some_iff.1 h).1
      unfold litP at hp
      have es : usedS F gs i u = markU F (markU F u g.a) g.b := by
        unfold usedS
        rw [h]
        simp only
        rw [if_pos hu]
      rw [es]
      exact ⟨fun ha => usedK_keep _ (markU_keep' (markU_hit ha (by omega))), fun hb => usedK_keep _ (markU_hit hb (by rw [markU_length]; omega))⟩

theorem foldl_keep {F : Int} {j : Nat} : ∀ (rs : List Int) {u : List Bool}, u.getD j false = true → (rs.foldl (markU F) u).getD j false = true
  | [], _, h => h
  | r :: rs, _, h => foldl_keep rs (markU_keep' h)

theorem foldl_hit {F : Int} : ∀ {rs : List Int} {l : Int} {u : List Bool}, l ∈ rs → F ≤ l / 2 → (l / 2 - F).toNat < u.length → (rs.foldl (markU F) u).getD (l / 2 - F).toNat false = true
  | [], _, _, h, _, _ => by simp at h
  | r :: rs, l, u, h, hF, hl => by
    rcases List.mem_cons.1 h with rfl | h
    · exact foldl_keep rs (markU_hit hF hl)
    · exact foldl_hit (rs := rs) h hF (by rw [markU_length]; exact hl)

/-- A variable that is no gate's, or a used gate's. -/
def okU (c : Cir) (v : Nat) : Prop := c.first ≤ v → (usedL c).getD (v - c.first.toNat) false = true

theorem okU_op {c : Cir} (hv : c.wide) {i : Nat} {g : Gt} (h : c.gates[i]? = some g) (hu : (usedL c).getD i false = true) : okU c (g.a / 2).toNat ∧ okU c (g.b / 2).toNat := by
  have hp := gatesP_at hv.gates h
  have hi := (List.getElem?_eq_some_iff.1 h).1
  have h0 := hv.lim.1
  have eF : c.first = 1 + c.inp + c.next.length := rfl
  have hc := usedK_closed hv.gates c.gates.length (u := used0 c.first c.gates.length (c.outs ++ c.next)) (used0_length _ _ _) hi h hu
  unfold litP at hp
  exact ⟨fun ha => by rw [show (g.a / 2).toNat - c.first.toNat = (g.a / 2 - c.first).toNat by omega]; exact hc.1 (by omega),
    fun hb => by rw [show (g.b / 2).toNat - c.first.toNat = (g.b / 2 - c.first).toNat by omega]; exact hc.2 (by omega)⟩

theorem okU_root {c : Cir} (hv : c.wide) {l : Int} (h : l ∈ c.outs ++ c.next) : okU c (l / 2).toNat := by
  have hl : litP l c.vars := by
    rcases List.mem_append.1 h with h | h
    · exact hv.outs l h
    · exact hv.next l h
  have h0 := hv.lim.1
  have eF : c.first = 1 + c.inp + c.next.length := rfl
  have eV : c.vars = c.first + c.gates.length := rfl
  unfold litP at hl
  intro ha
  rw [show (l / 2).toNat - c.first.toNat = (l / 2 - c.first).toNat by omega]
  exact usedK_keep _ (foldl_hit h (by omega) (by simp; omega))

/-! The rebuilt circuit's values. -/
theorem gatesP_nat {c : Cir} {F : Nat} (hF : c.first = F) (hv : c.wide) : gatesP F c.gates := by rw [← hF]; exact hv.gates

theorem evE_getD {k v : Nat} (h : v < k) : (evE k).getD v 0 = 2 * (v : Int) := by
  unfold evE
  rw [List.getD_eq_getElem?_getD, List.getElem?_map, List.getElem?_range h]; rfl

theorem getD_snoc_lt {α : Type} {l : List α} {x d : α} {v : Nat} (h : v < l.length) : (l ++ [x]).getD v d = l.getD v d := by
  simp only [List.getD_eq_getElem?_getD]; rw [List.getElem?_append_left h]

theorem getD_snoc_at {α : Type} {l : List α} {x d : α} {v : Nat} (h : v = l.length) : (l ++ [x]).getD v d = x := by
  subst h
  simp only [List.getD_eq_getElem?_getD]; rw [List.getElem?_append_right (Nat.le_refl _), Nat.sub_self]; rfl

def BldV (c : Cir) (F : Nat) (b : List Bool) (k : Nat) (st : List Gt × List Int) : Prop :=
  ∀ v, v < F + k → okU c v → litB (vN b st.1) (st.2.getD v 0) = (vN b c.gates).getD v false

theorem bStep_val {c : Cir} {F : Nat} (hF : c.first = F) (hv : c.wide) {b : List Bool} (hb : Bs F b) {k : Nat} {g : Gt} (h : c.gates[k]? = some g) {st : List Gt × List Int} (hok : BldOk c.first k st) (hbv : BldV c F b k st) (sh : Bool) :
    BldV c F b (k + 1) (bStep c.first sh (usedL c) st g k) := by
  have hF1 : 1 ≤ c.first := by have := hv.lim.1; unfold Cir.first; omega
  have hp := gatesP_at hv.gates h
  have hm := hok.mlen
  rw [hF] at hok hp hm hF1 ⊢
  have hml : st.2.length = F + k := by omega
  have hgl := hok.gates
  have ma : litP (mapB st.2 g.a) (F + st.1.length) := mapB_litP hok.lits hp.1.1 (by have := hp.1; unfold litP at this; omega)
  have mb : litP (mapB st.2 g.b) (F + st.1.length) := mapB_litP hok.lits hp.2.1 (by have := hp.2; unfold litP at this; omega)
  have hst : ∀ v, v < F + k → litP (st.2.getD v 0) (F + st.1.length) := fun v hv' => by
    obtain ⟨x, hx⟩ := get_of_lt (l := st.2) (k := v) (by omega)
    rw [List.getD_eq_getElem?_getD, hx]
    exact hok.lits x (List.mem_of_getElem? hx)
  unfold bStep
  by_cases hu : (usedL c).getD k false = true
  · rw [if_pos hu]
    obtain ⟨oa, ob⟩ := okU_op hv h hu
    have hva : litB (vN b st.1) (mapB st.2 g.a) = litB (vN b c.gates) g.a := litB_mapB (hbv _ (by have := hp.1; unfold litP at this; omega) oa)
    have hvb : litB (vN b st.1) (mapB st.2 g.b) = litB (vN b c.gates) g.b := litB_mapB (hbv _ (by have := hp.2; unfold litP at this; omega) ob)
    have hvk := vN_gate hb.len (gatesP_nat hF hv) h
    cases sh with
    | true =>
      rw [if_pos rfl]
      intro v hlt ho
      show litB (vN b (andL F st.1 (mapB st.2 g.a) (mapB st.2 g.b)).1) ((st.2 ++ [(andL F st.1 (mapB st.2 g.a) (mapB st.2 g.b)).2]).getD v 0) = _
      by_cases e : v < F + k
      · rw [getD_snoc_lt (by omega), ← hbv v e ho]
        rcases andL_ext F st.1 (mapB st.2 g.a) (mapB st.2 g.b) with h1 | ⟨x, h1, _⟩
        · rw [h1]
        · rw [h1]; exact litB_app hb.len (hst v e)
      · obtain rfl : v = F + k := by omega
        rw [getD_snoc_at (by omega), andL_val hb hgl ma mb, hva, hvb, hvk]
    | false =>
      rw [if_neg (by simp)]
      intro v hlt ho
      show litB (vN b (st.1 ++ [⟨mapB st.2 g.a, mapB st.2 g.b⟩])) ((st.2 ++ [2 * ((F : Int) + (st.1.length : Int))]).getD v 0) = _
      by_cases e : v < F + k
      · rw [getD_snoc_lt (by omega), ← hbv v e ho]
        exact litB_app hb.len (hst v e)
      · obtain rfl : v = F + k := by omega
        rw [getD_snoc_at (by omega), show (2 * ((F : Int) + (st.1.length : Int))) = 2 * ((F + st.1.length : Nat) : Int) by omega, litB_nat, vN_snoc, getD_snoc_at (by rw [vN_length, hb.len]), hva, hvb, hvk]
  · rw [if_neg hu]
    intro v hlt ho
    by_cases e : v < F + k
    · show litB (vN b st.1) ((st.2 ++ [0]).getD v 0) = _
      rw [getD_snoc_lt (by omega)]
      exact hbv v e ho
    · obtain rfl : v = F + k := by omega
      refine absurd (ho (by omega)) ?_
      rw [show F + k - c.first.toNat = k by omega]
      exact hu

theorem bldP_val {c : Cir} {F : Nat} (hF : c.first = F) (hv : c.wide) {b : List Bool} (hb : Bs F b) (sh : Bool) : ∀ k, k ≤ c.gates.length → BldV c F b k (bldP c sh k)
  | 0, _ => fun v hlt _ => by
    show litB (vN b []) ((evE c.first.toNat).getD v 0) = _
    rw [hF, Int.toNat_natCast, evE_getD (by omega), litB_nat]
    obtain ⟨r, hr⟩ := vN_base b c.gates
    rw [hr]
    show b.getD v false = _
    simp only [List.getD_eq_getElem?_getD]
    rw [List.getElem?_append_left (by have := hb.len; omega)]
  | k + 1, hk => by
    obtain ⟨g, hg⟩ := get_of_lt (l := c.gates) (k := k) (by omega)
    rw [bldP_succ hg]
    exact bStep_val hF hv hb hg (bldP_ok hv sh k (by omega)) (bldP_val hF hv hb sh k (by omega)) sh

/-- The roots keep their values. -/
theorem buildC_lit {c : Cir} {F : Nat} (hF : c.first = F) (hv : c.wide) {b : List Bool} (hb : Bs F b) (sh : Bool) {l : Int} (hl : l ∈ c.outs ++ c.next) :
    litB (vN b (buildC sh c).gates) (mapB (bldP c sh c.gates.length).2 l) = litB (vN b c.gates) l := by
  refine litB_mapB (bldP_val hF hv hb sh c.gates.length (Nat.le_refl _) _ ?_ (okU_root hv hl))
  have h1 : litP l c.vars := by
    rcases List.mem_append.1 hl with h | h
    · exact hv.outs l h
    · exact hv.next l h
  have eV : c.vars = c.first + c.gates.length := rfl
  unfold litP at h1
  omega

theorem asgV_Bs {c : Cir} (hv : c.wide) (x : Int) : Bs c.first.toNat (asgV c x) := by
  have h0 := hv.lim.1
  exact ⟨by rw [asgV_length]; unfold Cir.first; omega, rfl⟩

theorem evalV_vN (c : Cir) (x : Int) (val : Bool) : evalV c x (-1) val = vN (asgV c x) c.gates := by
  rw [evalV_no]
  unfold vN
  cases val
  · rfl
  · have : ∀ (gs : List Gt) (b : List Bool), valsV (-1) true b gs = valsV (-1) false b gs := fun gs => by
      induction gs with
      | nil => intro b; rfl
      | cons g gs ih =>
        intro b
        show valsV (-1) true (stepV (-1) true b g) gs = valsV (-1) false (stepV (-1) false b g) gs
        rw [ih]
        unfold stepV
        rw [if_neg (by omega), if_neg (by omega)]
    exact this _ _

theorem buildC_res {c : Cir} (hv : c.wide) (sh : Bool) (x : Int) : resV (buildC sh c) x (-1) false = resV c x (-1) false := by
  have h0 := hv.lim.1
  have hF : c.first = (c.first.toNat : Nat) := by unfold Cir.first; omega
  have hb := asgV_Bs hv x
  have ea : asgV (buildC sh c) x = asgV c x := by unfold asgV buildC; simp
  unfold resV
  rw [evalV_vN, evalV_vN, ea]
  show (c.next.map (mapB (bldP c sh c.gates.length).2) ++ c.outs.map (mapB (bldP c sh c.gates.length).2)).map _ = _
  rw [← List.map_append, List.map_map]
  apply List.map_congr_left
  intro l hl
  exact buildC_lit hF hv hb sh (by rcases List.mem_append.1 hl with h | h <;> simp [h])

theorem optC_res {c : Cir} (hv : c.wide) (x : Int) : resV (optC c) x (-1) false = resV c x (-1) false := by
  unfold optC
  rw [buildC_res (buildC_wide hv true), buildC_res hv]

/-! Where the new gates come from. -/
structure BldF (c : Cir) (F k : Nat) (st : List Gt × List Int) (φ : List Nat) : Prop where
  len : φ.length = st.1.length
  inc : φ.Pairwise (· < ·)
  used : ∀ i ∈ φ, i < k ∧ (usedL c).getD i false = true
  val : ∀ b, Bs F b → ∀ (j i : Nat), φ[j]? = some i → (vN b st.1).getD (F + j) false = (vN b c.gates).getD (F + i) false

theorem BldF.more {c : Cir} {F k : Nat} {st : List Gt × List Int} {φ : List Nat} (h : BldF c F k st φ) {m : List Int} : BldF c F (k + 1) (st.1, m) φ :=
  ⟨h.len, h.inc, fun i hi => ⟨by have := (h.used i hi).1; omega, (h.used i hi).2⟩, h.val⟩

theorem BldF.app {c : Cir} {F k : Nat} {st : List Gt × List Int} {φ : List Nat} (h : BldF c F k st φ) {g : Gt} {m : List Int} (hu : (usedL c).getD k false = true)
    (hval : ∀ b, Bs F b → (vN b (st.1 ++ [g])).getD (F + st.1.length) false = (vN b c.gates).getD (F + k) false) : BldF c F (k + 1) (st.1 ++ [g], m) (φ ++ [k]) := by
  refine ⟨by simp [h.len], ?_, fun i hi => ?_, fun b hb j i hj => ?_⟩
  · rw [List.pairwise_append]
    exact ⟨h.inc, by simp, fun a ha x hx => by simp at hx; subst hx; exact (h.used a ha).1⟩
  · rcases List.mem_append.1 hi with hi | hi
    · exact ⟨by have := (h.used i hi).1; omega, (h.used i hi).2⟩
    · simp at hi; subst hi; exact ⟨by omega, hu⟩
  · show (vN b (st.1 ++ [g])).getD (F + j) false = _
    by_cases e : j < φ.length
    · rw [List.getElem?_append_left e] at hj
      rw [getD_app (by rw [hb.len, ← h.len]; omega)]
      exact h.val b hb j i hj
    · have hj' := (List.getElem?_eq_some_iff.1 hj).1
      simp at hj'
      obtain rfl : j = φ.length := by omega
      rw [List.getElem?_append_right (Nat.le_refl _), Nat.sub_self] at hj
      simp at hj
      subst hj
      rw [h.len]
      exact hval b hb

theorem bldP_src {c : Cir} {F : Nat} (hF : c.first = F) (hv : c.wide) (sh : Bool) : ∀ k, k ≤ c.gates.length → ∃ φ, BldF c F k (bldP c sh k) φ
  | 0, _ => ⟨[], rfl, List.Pairwise.nil, by simp, by simp⟩
  | k + 1, hk => by
    obtain ⟨φ, hφ⟩ := bldP_src hF hv sh k (by omega)
    obtain ⟨g, hg⟩ := get_of_lt (l := c.gates) (k := k) (by omega)
    have hok := bldP_ok hv sh k (by omega)
    have hval := fun b (hb : Bs F b) => bStep_val hF hv hb hg hok (bldP_val hF hv hb sh k (by omega)) sh
    have hm := hok.mlen
    rw [hF] at hm
    rw [bldP_succ hg]
    unfold BldV at hval
    unfold bStep at hval ⊢
    by_cases hu : (usedL c).getD k false = true
    · rw [if_pos hu] at hval ⊢
      have hou : okU c (F + k) := fun _ => by rw [show F + k - c.first.toNat = k by omega]; exact hu
      cases sh with
      | true =>
        rw [if_pos rfl] at hval ⊢
        rcases andL_ext c.first (bldP c true k).1 (mapB (bldP c true k).2 g.a) (mapB (bldP c true k).2 g.b) with h1 | ⟨x, h1, h2⟩
        · rw [h1]; exact ⟨φ, hφ.more⟩
        · rw [h1, h2] at hval ⊢
          refine ⟨φ ++ [k], hφ.app hu fun b hb => ?_⟩
          have h3 := hval b hb (F + k) (by omega) hou
          dsimp only at h3
          rw [getD_snoc_at (by omega), hF, show (2 * ((F : Int) + ((bldP c true k).1.length : Int))) = 2 * ((F + (bldP c true k).1.length : Nat) : Int) by omega, litB_nat] at h3
          exact h3
      | false =>
        rw [if_neg (by simp)] at hval ⊢
        refine ⟨φ ++ [k], hφ.app hu fun b hb => ?_⟩
        have h3 := hval b hb (F + k) (by omega) hou
        dsimp only at h3
        rw [getD_snoc_at (by omega), hF, show (2 * ((F : Int) + ((bldP c false k).1.length : Int))) = 2 * ((F + (bldP c false k).1.length : Nat) : Int) by omega, litB_nat] at h3
        exact h3
    · rw [if_neg hu]
      exact ⟨φ, hφ.more⟩

/-- The literal of the first variable with the same or the opposite function. -/
def repV (c : Cir) (v : Nat) : Int :=
  match (List.range v).find? (fun w => decide (sameV c v w ≠ 0)) with
  | some w => if sameV c v w = 1 then 2 * (w : Int) else 2 * (w : Int) + 1
  | none => 2 * (v : Int)

theorem repV_some {c : Cir} {v w : Nat} (hw : w < v) (h : sameV c v w ≠ 0) (hn : ∀ u, u < w → sameV c v u = 0) : repV c v = if sameV c v w = 1 then 2 * (w : Int) else 2 * (w : Int) + 1 := by
  have : (List.range v).find? (fun w => decide (sameV c v w ≠ 0)) = some w := by
    rw [List.find?_range_eq_some]
    exact ⟨by simpa using h, by simpa using hw, fun j hj => by simpa using hn j hj⟩
  unfold repV
  rw [this]

theorem repV_none {c : Cir} {v : Nat} (hn : ∀ u, u < v → sameV c v u = 0) : repV c v = 2 * (v : Int) := by
  have : (List.range v).find? (fun w => decide (sameV c v w ≠ 0)) = none := by
    rw [List.find?_eq_none]
    intro x hx
    simpa using hn x (List.mem_range.1 hx)
  unfold repV
  rw [this]

/-- Either a first one is found, or none. -/
theorem first_or {p : Nat → Prop} [DecidablePred p] (v : Nat) : (∃ w, w < v ∧ p w ∧ ∀ u, u < w → ¬ p u) ∨ ∀ u, u < v → ¬ p u := by
  induction v with
  | zero => exact .inr fun u h => by omega
  | succ v ih =>
    rcases ih with ⟨w, h1, h2, h3⟩ | h
    · exact .inl ⟨w, by omega, h2, h3⟩
    · by_cases hp : p v
      · exact .inl ⟨v, by omega, hp, h⟩
      · refine .inr fun u hu => ?_
        rcases Nat.lt_or_ge u v with h1 | h1
        · exact h u h1
        · obtain rfl : u = v := by omega
          exact hp

theorem sameV_tri (c : Cir) (p q : Nat) : sameV c p q = 1 ∨ sameV c p q = -1 ∨ sameV c p q = 0 := by
  unfold sameV; split
  · exact .inl rfl
  · split
    · exact .inr (.inl rfl)
    · exact .inr (.inr rfl)

theorem eqAll_iff (f g : Nat → Bool) (N : Nat) : eqAll f g N = true ↔ ∀ x, x < N → f x = g x := by simp [eqAll]

theorem neAll_iff (f g : Nat → Bool) (N : Nat) : neAll f g N = true ↔ ∀ x, x < N → f x ≠ g x := by simp [neAll]

theorem sameV_one {c : Cir} {p q : Nat} : sameV c p q = 1 ↔ ∀ x, x < asgN c → colV c p x = colV c q x := by
  rw [← eqAll_iff]
  unfold sameV
  split
  · simp [*]
  · split <;> simp [*]

theorem asgN_pos (c : Cir) : 0 < asgN c := Nat.pow_pos (by omega)

theorem sameV_neg {c : Cir} {p q : Nat} : sameV c p q = -1 ↔ ∀ x, x < asgN c → colV c p x ≠ colV c q x := by
  rw [← neAll_iff]
  unfold sameV
  split
  · rename_i h
    have h1 := (eqAll_iff _ _ _).1 h 0 (asgN_pos c)
    constructor
    · intro h2; omega
    · intro h2; exact absurd h1 ((neAll_iff _ _ _).1 h2 0 (asgN_pos c))
  · split <;> simp [*]

theorem sameV_zero {c : Cir} {p q : Nat} : sameV c p q = 0 ↔ (∃ x, x < asgN c ∧ colV c p x ≠ colV c q x) ∧ ∃ x, x < asgN c ∧ colV c p x = colV c q x := by
  constructor
  · intro h
    constructor
    · refine Classical.byContradiction fun hn => ?_
      have : sameV c p q = 1 := sameV_one.2 fun x hx => Classical.byContradiction fun he => hn ⟨x, hx, he⟩
      omega
    · refine Classical.byContradiction fun hn => ?_
      have : sameV c p q = -1 := sameV_neg.2 fun x hx he => hn ⟨x, hx, he⟩
      omega
  · rintro ⟨⟨x, hx, h1⟩, y, hy, h2⟩
    rcases sameV_tri c p q with h | h | h
    · exact absurd (sameV_one.1 h x hx) h1
    · exact absurd h2 (sameV_neg.1 h y hy)
    · exact h

theorem sameV_trans {c : Cir} {v w u : Nat} (h1 : sameV c v w ≠ 0) (h2 : sameV c v u = 0) : sameV c w u = 0 := by
  obtain ⟨⟨x, hx, hx1⟩, y, hy, hy1⟩ := sameV_zero.1 h2
  rcases sameV_tri c v w with h | h | h
  · have e := sameV_one.1 h
    exact sameV_zero.2 ⟨⟨x, hx, by rw [← e x hx]; exact hx1⟩, y, hy, by rw [← e y hy]; exact hy1⟩
  · have e := sameV_neg.1 h
    refine sameV_zero.2 ⟨⟨y, hy, ?_⟩, x, hx, ?_⟩
    · have := e y hy; revert this; rw [hy1]; exact fun h => Ne.symm h
    · have := e x hx; revert this hx1; cases colV c v x <;> cases colV c w x <;> cases colV c u x <;> simp
  · exact absurd h h1

theorem sameV_sym (c : Cir) (p q : Nat) : sameV c p q = sameV c q p := by
  rcases sameV_tri c q p with h | h | h
  · rw [h]; exact sameV_one.2 fun x hx => (sameV_one.1 h x hx).symm
  · rw [h]; exact sameV_neg.2 fun x hx => Ne.symm (sameV_neg.1 h x hx)
  · rw [h]
    obtain ⟨⟨x, hx, h1⟩, y, hy, h2⟩ := sameV_zero.1 h
    exact sameV_zero.2 ⟨⟨x, hx, Ne.symm h1⟩, y, hy, h2.symm⟩

/-- What a representative is. -/
theorem repV_spec (c : Cir) (v : Nat) : ∃ u : Nat, u ≤ v ∧ (repV c v = 2 * (u : Int) ∨ repV c v = 2 * (u : Int) + 1) ∧ (∀ w, w < u → sameV c u w = 0) ∧ ∀ x, x < asgN c → ∀ vs : List Bool, vs = evalV c (x : Int) (-1) false → litB vs (repV c v) = vs.getD v false := by
  rcases first_or (p := fun w => sameV c v w ≠ 0) v with ⟨w, hw, h, hn⟩ | hn
  · have hn' : ∀ u, u < w → sameV c v u = 0 := fun u hu => Classical.byContradiction fun he => hn u hu he
    have er := repV_some hw h hn'
    refine ⟨w, by omega, ?_, fun u hu => sameV_trans h (hn' u hu), fun x hx vs hvs => ?_⟩
    · rw [er]; split
      · exact .inl rfl
      · exact .inr rfl
    · rw [er]
      rcases sameV_tri c v w with h1 | h1 | h1
      · rw [if_pos h1, litB_nat]
        have := sameV_one.1 h1 x hx
        unfold colV at this
        rw [hvs]; exact this.symm
      · rw [if_neg (by omega), litB_not (by omega), litB_nat]
        have := sameV_neg.1 h1 x hx
        unfold colV at this
        rw [hvs]
        revert this
        cases (evalV c (x : Int) (-1) false).getD v false <;> cases (evalV c (x : Int) (-1) false).getD w false <;> simp
      · exact absurd h1 h
  · have hn' : ∀ u, u < v → sameV c v u = 0 := fun u hu => Classical.byContradiction fun he => hn u hu he
    refine ⟨v, Nat.le_refl _, .inl (repV_none hn'), hn', fun x hx vs hvs => ?_⟩
    rw [repV_none hn', litB_nat]

def swpL (c : Cir) (l : Int) : Int := xrb (repV c (l / 2).toNat) (l % 2)

theorem xrb_half (y b : Int) : xrb y b / 2 = y / 2 := by unfold xrb; omega

theorem swpL_le {c : Cir} {l : Int} (h : 0 ≤ l) : 0 ≤ swpL c l ∧ swpL c l / 2 ≤ l / 2 := by
  obtain ⟨u, hu, hr, -, -⟩ := repV_spec c (l / 2).toNat
  have e : swpL c l / 2 = u := by
    unfold swpL
    rw [xrb_half]
    rcases hr with hr | hr <;> rw [hr] <;> omega
  omega

theorem swpL_lit {c : Cir} {x : Nat} (hx : x < asgN c) {vs : List Bool} (hvs : vs = evalV c (x : Int) (-1) false) (l : Int) : litB vs (swpL c l) = litB vs l := by
  obtain ⟨u, -, -, -, h⟩ := repV_spec c (l / 2).toNat
  unfold swpL
  rw [litB_xrb (by omega), h x hx vs hvs]
  rfl

/-! A circuit under a map of literals that goes down. -/
theorem mapG_length (f : Int → Int) (gs : List Gt) : (mapG f gs).length = gs.length := by simp [mapG]

theorem mapC_valid' {c : Cir} {f : Int → Int} (hf : ∀ l, 0 ≤ l → 0 ≤ f l ∧ f l / 2 ≤ l / 2) (hv : c.valid) : (c.mapC f).valid := by
  obtain ⟨q1, q2, q3, q4, q5⟩ := id hv.lim
  have hl : ∀ l v, litP l v → litP (f l) v := fun l v h => by
    have := hf l h.1
    unfold litP at *
    omega
  have eF : (c.mapC f).first = c.first := by unfold Cir.first Cir.mapC; simp
  have eV : (c.mapC f).vars = c.vars := by unfold Cir.vars Cir.mapC; simp [mapG_length]
  refine ⟨⟨q1, q2, by simpa [Cir.mapC] using q3, by simpa [Cir.mapC, mapG_length] using q4, by simpa [Cir.mapC] using q5⟩, ?_, fun x hx => ?_, fun x hx => ?_⟩
  · rw [eF]
    intro i hi
    have hi' : i < c.gates.length := by simpa [Cir.mapC, mapG_length] using hi
    have h := hv.gates i hi'
    have e : (c.mapC f).gates[i] = ⟨f (c.gates[i]).a, f (c.gates[i]).b⟩ := by simp [Cir.mapC, mapG]
    rw [e]
    exact ⟨hl _ _ h.1, hl _ _ h.2⟩
  · rw [eV]
    obtain ⟨l, h, rfl⟩ := List.mem_map.1 (show x ∈ c.next.map f from hx)
    exact hl _ _ (hv.next l h)
  · rw [eV]
    obtain ⟨l, h, rfl⟩ := List.mem_map.1 (show x ∈ c.outs.map f from hx)
    exact hl _ _ (hv.outs l h)

theorem mapG_vals {b : List Bool} {gs : List Gt} {F : Nat} (hF : b.length = F) (hg : gatesP F gs) {f : Int → Int} (hf : ∀ l, 0 ≤ l → 0 ≤ f l ∧ f l / 2 ≤ l / 2)
    (h : ∀ l, litP l (F + gs.length) → litB (vN b gs) (f l) = litB (vN b gs) l) : ∀ k, k ≤ gs.length → vN b (mapG f (gs.take k)) = vN b (gs.take k)
  | 0, _ => by simp [mapG]
  | k + 1, hk => by
    obtain ⟨g, hgk⟩ := get_of_lt (l := gs) (k := k) (by omega)
    have hp := gatesP_at hg hgk
    have hl : (gs.take k).length = k := by simp; omega
    have hrng : ∀ l, litP l (F + k) → litB (vN b (gs.take k)) l = litB (vN b gs) l := fun l h => by
      have e : vN b gs = vN b (gs.take k ++ ([g] ++ gs.drop (k + 1))) := by rw [← take_split hgk]
      rw [e]; exact (litB_app hF (by rw [hl]; exact h)).symm
    have hfl : ∀ l, litP l ((F : Int) + k) → litB (vN b (gs.take k)) (f l) = litB (vN b (gs.take k)) l := fun l hl => by
      have h1 := hf l hl.1
      rw [hrng l hl, hrng (f l) ⟨h1.1, by have := hl.2; omega⟩]
      exact h l ⟨hl.1, by have := hl.2; omega⟩
    rw [mapG_snoc hgk, vN_snoc, mapG_vals hF hg hf h k (by omega), show gs.take (k + 1) = gs.take k ++ [g] by rw [List.take_add_one, hgk]; rfl, vN_snoc, hfl _ hp.1, hfl _ hp.2]

theorem mapC_evalV {c : Cir} (hv : c.valid) {f : Int → Int} (hf : ∀ l, 0 ≤ l → 0 ≤ f l ∧ f l / 2 ≤ l / 2) {x : Int}
    (h : ∀ l, litP l c.vars → litB (evalV c x (-1) false) (f l) = litB (evalV c x (-1) false) l) : evalV (c.mapC f) x (-1) false = evalV c x (-1) false := by
  have h0 := hv.lim.1
  obtain ⟨F, hF⟩ : ∃ F : Nat, c.first = F := ⟨c.first.toNat, by unfold Cir.first; omega⟩
  have hb := asgV_Bs (Cir.valid.wide hv) x
  rw [hF, Int.toNat_natCast] at hb
  have eV : c.vars = c.first + c.gates.length := rfl
  have ea : asgV (c.mapC f) x = asgV c x := by unfold asgV Cir.mapC; simp
  rw [evalV_vN] at h ⊢
  rw [evalV_vN, ea]
  have := mapG_vals hb.len (gatesP_nat hF hv) hf (fun l hl => h l (by rw [eV, hF]; exact hl)) c.gates.length (Nat.le_refl _)
  rw [List.take_length] at this
  exact this

theorem mapC_res {c : Cir} (hv : c.valid) {f : Int → Int} (hf : ∀ l, 0 ≤ l → 0 ≤ f l ∧ f l / 2 ≤ l / 2) {x : Int}
    (h : ∀ l, litP l c.vars → litB (evalV c x (-1) false) (f l) = litB (evalV c x (-1) false) l) : resV (c.mapC f) x (-1) false = resV c x (-1) false := by
  unfold resV
  rw [mapC_evalV hv hf h]
  show (c.next.map f ++ c.outs.map f).map _ = _
  rw [← List.map_append, List.map_map]
  apply List.map_congr_left
  intro l hl
  exact h l (by rcases List.mem_append.1 hl with h | h; exact hv.next l h; exact hv.outs l h)

/-- The swept circuit. -/
def swpM (o : Cir) : Cir := o.mapC (swpL o)

def sweepC (c : Cir) : Cir := optC (swpM (optC c))

def sweepR (c : Cir) : Cir := if c.validB then sweepC c else ⟨0, [], [], []⟩

theorem sweepR_no {c : Cir} (h : c.validB = false) : sweepR c = ⟨0, [], [], []⟩ := by unfold sweepR; rw [h]; rfl

theorem sweepR_yes {c : Cir} (h : c.validB = true) : sweepR c = sweepC c := by unfold sweepR; rw [h]; rfl

theorem swpM_valid {o : Cir} (hv : o.valid) : (swpM o).valid := mapC_valid' (fun _ h => swpL_le h) hv

theorem swpM_evalV {o : Cir} (hv : o.valid) {x : Nat} (hx : x < asgN o) : evalV (swpM o) (x : Int) (-1) false = evalV o (x : Int) (-1) false :=
  mapC_evalV hv (fun _ h => swpL_le h) (fun l _ => swpL_lit hx rfl l)

theorem asgN_buildC (sh : Bool) (c : Cir) : asgN (buildC sh c) = asgN c := by unfold asgN buildC; simp

theorem asgN_optC (c : Cir) : asgN (optC c) = asgN c := by unfold optC; rw [asgN_buildC, asgN_buildC]

theorem asgN_mapC (f : Int → Int) (c : Cir) : asgN (c.mapC f) = asgN c := by unfold asgN Cir.mapC; simp

theorem sweepC_valid {c : Cir} (hv : c.valid) : (sweepC c).valid := optC_valid (swpM_valid (optC_valid hv))

theorem sweepC_res {c : Cir} (hv : c.valid) {x : Nat} (hx : x < asgN c) : resV (sweepC c) (x : Int) (-1) false = resV c (x : Int) (-1) false := by
  unfold sweepC
  rw [optC_res (swpM_valid (optC_valid hv))]
  unfold swpM
  rw [mapC_res (optC_valid hv) (fun _ h => swpL_le h) (fun l _ => swpL_lit (by rw [asgN_optC]; exact hx) rfl l), optC_res hv]

end Go.Proofs.Ytdcjiclonjillaa
