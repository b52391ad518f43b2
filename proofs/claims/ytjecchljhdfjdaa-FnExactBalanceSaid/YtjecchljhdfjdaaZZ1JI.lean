import Derived.Test.YtjecchljhdfjdaaZZ1OS
import Derived.Test.YtjecchljhdfjdaaZZ1Q5
import Derived.Test.YtjecchljhdfjdaaZZ1Q2
import Derived.Test.YtjecchljhdfjdaaZZ1OL
namespace Go.Proofs.Ytjecchljhdfjdaa
set_option linter.unusedVariables false
set_option linter.unusedSimpArgs false
open Go.RowKit

/-! Part of the proof of one law. -/

/-- A leaf's weight: what its variable's own leaves are, but one. -/
def wtL (c : Cir) (k : Nat) (x : Int) : Nat := if c.first ≤ x / 2 ∧ x / 2 < c.first + k ∧ cntL c.usesI (x / 2) = 1 then (Lv c (x / 2 - c.first).toNat).length - 1 else 0

def occL (c : Cir) (k : Nat) : List Int := glits (c.gates.drop k) ++ (c.next ++ c.outs)

def phiL (c : Cir) (k : Nat) : Nat := ((occL c k).map (wtL c k)).sum

theorem occL_step {c : Cir} {k : Nat} {g : Gt} (h : c.gates[k]? = some g) : occL c k = g.a :: g.b :: occL c (k + 1) := by
  have hk := (List.getElem?_eq_some_iff.1 h).1
  have e : c.gates.drop k = g :: c.gates.drop (k + 1) := by
    rw [List.drop_eq_getElem_cons hk, (List.getElem?_eq_some_iff.1 h).2]
  unfold occL
  rw [e]
  simp [glits]

theorem glits_append (A B : List Gt) : glits (A ++ B) = glits A ++ glits B := by simp [glits]

theorem occL_cnt (c : Cir) (k : Nat) (v : Int) : cntL (occL c k) v ≤ cntL c.usesI v := by
  unfold occL Cir.usesI
  have e : glits c.gates = glits (c.gates.take k) ++ glits (c.gates.drop k) := by rw [← glits_append, List.take_append_drop]
  rw [e]
  simp only [cntL_append]
  omega

theorem sum_bump (f g : Int → Nat) (v : Int) (t : Nat) : ∀ (L : List Int), (∀ x ∈ L, f x ≤ g x + (if x / 2 = v then t else 0)) → (L.map f).sum ≤ (L.map g).sum + cntL L v * t
  | [], _ => by simp
  | x :: L, h => by
    have ih := sum_bump f g v t L fun y hy => h y (by simp [hy])
    have hx := h x (by simp)
    have hc : cntL (x :: L) v = (if x / 2 = v then 1 else 0) + cntL L v := by
      rw [show x :: L = [x] ++ L from rfl, cntL_append, cntL_one]
    rw [hc, Nat.add_mul]
    simp only [List.map_cons, List.sum_cons]
    split at hx
    · next e => rw [if_pos e]; omega
    · next e => rw [if_neg e]; omega

theorem lvP_wt {c : Cir} {l : Int} {k : Nat} (hl : l / 2 < c.first + k) : (lvP c l).length ≤ 1 + wtL c k l := by
  unfold lvP wtL
  by_cases h : oneP c l
  · rw [if_pos h, if_pos ⟨h.2.1, hl, h.2.2⟩]; omega
  · rw [if_neg h]; simp

theorem phiL_le {c : Cir} (hv : c.valid) : ∀ k, k ≤ c.gates.length → phiL c k ≤ k
  | 0, _ => by
    have : ∀ L : List Int, (L.map (wtL c 0)).sum = 0 := by
      intro L
      induction L with
      | nil => rfl
      | cons x L ih =>
        simp only [List.map_cons, List.sum_cons, ih]
        unfold wtL
        rw [if_neg (by omega)]
    unfold phiL; rw [this]; exact Nat.le_refl _
  | k + 1, hk => by
    have ih := phiL_le hv k (by omega)
    obtain ⟨g, hg⟩ := get_of_lt (show k < c.gates.length by omega)
    obtain ⟨⟨a0, a1⟩, b0, b1⟩ := valid_gate hv hg
    unfold phiL at ih
    rw [occL_step hg] at ih
    simp only [List.map_cons, List.sum_cons] at ih
    have hlen : (Lv c k).length ≤ 2 + wtL c k g.a + wtL c k g.b := by
      rw [Lv_eq hv hg, List.length_append]
      have h1 := lvP_wt a1
      have h2 := lvP_wt b1
      omega
    have hc := occL_cnt c (k + 1) (c.first + k)
    by_cases hu : cntL c.usesI (c.first + k) = 1
    · have hb := sum_bump (wtL c (k + 1)) (wtL c k) (c.first + k) ((Lv c k).length - 1) (occL c (k + 1)) (fun x _ => by
        unfold wtL
        by_cases e : x / 2 = c.first + k
        · rw [if_pos e, e, if_pos ⟨by omega, by omega, hu⟩]
          rw [show (c.first + (k : Int) - c.first).toNat = k by omega]
          omega
        · rw [if_neg e]
          by_cases h1 : c.first ≤ x / 2 ∧ x / 2 < c.first + ((k + 1 : Nat) : Int) ∧ cntL c.usesI (x / 2) = 1
          · rw [if_pos h1, if_pos ⟨h1.1, by have := h1.2.1; omega, h1.2.2⟩]; omega
          · rw [if_neg h1]; omega)
      unfold phiL
      have hm : cntL (occL c (k + 1)) (c.first + k) * ((Lv c k).length - 1) ≤ (Lv c k).length - 1 := by
        rw [hu] at hc
        exact Nat.le_trans (Nat.mul_le_mul_right _ hc) (by rw [Nat.one_mul]; exact Nat.le_refl _)
      omega
    · have hb := sum_bump (wtL c (k + 1)) (wtL c k) (c.first + k) 0 (occL c (k + 1)) (fun x _ => by
        unfold wtL
        by_cases e : x / 2 = c.first + k
        · rw [if_neg (fun h => hu (by rw [← e]; exact h.2.2))]; omega
        · by_cases h1 : c.first ≤ x / 2 ∧ x / 2 < c.first + ((k + 1 : Nat) : Int) ∧ cntL c.usesI (x / 2) = 1
          · rw [if_pos h1, if_pos ⟨h1.1, by have := h1.2.1; omega, h1.2.2⟩]; omega
          · rw [if_neg h1]; omega)
      unfold phiL
      rw [Nat.mul_zero] at hb
      omega

theorem Lv_small {c : Cir} (hv : c.valid) {k : Nat} (hk : k < c.gates.length) : (Lv c k).length ≤ k + 2 := by
  obtain ⟨g, hg⟩ := get_of_lt hk
  obtain ⟨⟨a0, a1⟩, b0, b1⟩ := valid_gate hv hg
  have ih := phiL_le hv k (by omega)
  unfold phiL at ih
  rw [occL_step hg] at ih
  simp only [List.map_cons, List.sum_cons] at ih
  have h1 := lvP_wt a1
  have h2 := lvP_wt b1
  rw [Lv_eq hv hg, List.length_append]
  omega

/-! The pick of the literal with the lowest level. -/

def lvA (L : List Int) (l : Int) : Int := L.getD (l / 2).toNat 0

structure IsBest (L xs : List Int) (k i : Nat) : Prop where
  lt : i < k
  lo : ∀ j, j < i → lvA L (xs.getD i 0) < lvA L (xs.getD j 0)
  hi : ∀ j, i < j → j < k → lvA L (xs.getD i 0) ≤ lvA L (xs.getD j 0)

theorem IsBest.uniq {L xs : List Int} {k i j : Nat} (h : IsBest L xs k i) (h' : IsBest L xs k j) : i = j := by
  rcases Nat.lt_trichotomy i j with e | e | e
  · have := h.hi j e h'.lt; have := h'.lo i e; omega
  · exact e
  · have := h'.hi i e h.lt; have := h.lo j e; omega

def bestK (L xs : List Int) : Nat → Nat
  | 0 => 0
  | k + 1 => if lvA L (xs.getD k 0) < lvA L (xs.getD (bestK L xs k) 0) then k else bestK L xs k

theorem bestK_best (L xs : List Int) : ∀ k, IsBest L xs (k + 1) (bestK L xs (k + 1))
  | 0 => by
    have : bestK L xs 1 = 0 := by simp [bestK]
    rw [this]
    exact ⟨by omega, fun j h => absurd h (by omega), fun j h1 h2 => absurd h2 (by omega)⟩
  | k + 1 => by
    have ih := bestK_best L xs k
    show IsBest L xs (k + 2) (if lvA L (xs.getD (k + 1) 0) < lvA L (xs.getD (bestK L xs (k + 1)) 0) then k + 1 else bestK L xs (k + 1))
    generalize bestK L xs (k + 1) = b at ih
    split
    · next h =>
      refine ⟨by omega, fun j hj => ?_, fun j h1 h2 => absurd h2 (by omega)⟩
      rcases Nat.lt_trichotomy j b with e | e | e
      · have := ih.lo j e; omega
      · subst e; exact h
      · have := ih.hi j e (by omega); omega
    · next h =>
      refine ⟨by have := ih.lt; omega, ih.lo, fun j h1 h2 => ?_⟩
      by_cases e : j = k + 1
      · subst e; omega
      · exact ih.hi j h1 (by omega)

/-- The next one: lowest but for a. -/
structure IsNext (L xs : List Int) (k a b : Nat) : Prop where
  lt : b < k
  ne : b ≠ a
  lo : ∀ j, j < b → j ≠ a → lvA L (xs.getD b 0) < lvA L (xs.getD j 0)
  hi : ∀ j, b < j → j < k → j ≠ a → lvA L (xs.getD b 0) ≤ lvA L (xs.getD j 0)

def upI (a j : Nat) : Nat := if j < a then j else j + 1

theorem getD_erase (xs : List Int) (a j : Nat) : (xs.eraseIdx a).getD j 0 = xs.getD (upI a j) 0 := by
  rw [List.getD_eq_getElem?_getD, List.getD_eq_getElem?_getD, List.getElem?_eraseIdx]
  unfold upI
  split <;> rfl

theorem IsNext.erase {L xs : List Int} {k a b : Nat} (ha : a < k + 1) (h : IsNext L xs (k + 1) a b) : ∃ j, b = upI a j ∧ IsBest L (xs.eraseIdx a) k j := by
  refine ⟨if b < a then b else b - 1, ?_, ?_⟩
  · have := h.ne
    unfold upI
    by_cases e : b < a
    · rw [if_pos e, if_pos e]
    · rw [if_neg e, if_neg (by omega)]; omega
  · have hne := h.ne
    have hlt := h.lt
    have e : upI a (if b < a then b else b - 1) = b := by
      unfold upI
      by_cases e : b < a
      · rw [if_pos e, if_pos e]
      · rw [if_neg e, if_neg (by omega)]; omega
    refine ⟨by split <;> omega, fun j hj => ?_, fun j h1 h2 => ?_⟩
    · rw [getD_erase, getD_erase, e]
      refine h.lo _ ?_ ?_ <;> (unfold upI; split at hj <;> split <;> omega)
    · rw [getD_erase, getD_erase, e]
      refine h.hi _ ?_ ?_ ?_ <;> (unfold upI; split at h1 <;> split <;> omega)

/-- A list without some places. -/
def keepI (p : Nat → Bool) : List Int → Nat → List Int
  | [], _ => []
  | x :: xs, k => if p k then keepI p xs (k + 1) else x :: keepI p xs (k + 1)

theorem keepI_shift (p : Nat → Bool) : ∀ (xs : List Int) (k : Nat), keepI p xs (k + 1) = keepI (fun i => p (i + 1)) xs k
  | [], _ => rfl
  | x :: xs, k => by simp only [keepI, keepI_shift p xs (k + 1)]

theorem keepI_congr {p q : Nat → Bool} : ∀ (xs : List Int) (k : Nat), (∀ i, k ≤ i → p i = q i) → keepI p xs k = keepI q xs k
  | [], _, _ => rfl
  | x :: xs, k, h => by simp only [keepI, h k (Nat.le_refl _), keepI_congr xs (k + 1) fun i hi => h i (by omega)]

theorem keepI_none : ∀ (xs : List Int) (k : Nat), keepI (fun _ => false) xs k = xs
  | [], _ => rfl
  | x :: xs, k => by simp [keepI, keepI_none xs (k + 1)]

theorem keepI_one : ∀ (xs : List Int) (a : Nat), xs.eraseIdx a = keepI (fun i => i == a) xs 0
  | [], _ => rfl
  | x :: xs, 0 => by
    simp only [List.eraseIdx_cons_zero, keepI, beq_self_eq_true, if_true]
    rw [keepI_shift, show (fun i => (i + 1 == 0)) = (fun _ : Nat => false) by funext i; simp, keepI_none]
  | x :: xs, a + 1 => by
    simp only [List.eraseIdx_cons_succ, keepI]
    rw [if_neg (by simp), keepI_shift, keepI_one xs a]
    congr 1
    exact keepI_congr _ _ fun i _ => by simp

theorem keepI_two : ∀ (xs : List Int) (a j : Nat), (xs.eraseIdx a).eraseIdx j = keepI (fun i => i == a || i == upI a j) xs 0
  | [], _, _ => rfl
  | x :: xs, 0, j => by
    simp only [List.eraseIdx_cons_zero, keepI, beq_self_eq_true, Bool.true_or, if_true]
    rw [keepI_shift, keepI_one]
    exact keepI_congr _ _ fun i _ => by simp [upI]
  | x :: xs, a + 1, 0 => by
    simp only [List.eraseIdx_cons_succ, List.eraseIdx_cons_zero, keepI]
    rw [if_pos (by simp [upI]), keepI_shift, keepI_one]
    exact keepI_congr _ _ fun i _ => by simp [upI]
  | x :: xs, a + 1, j + 1 => by
    simp only [List.eraseIdx_cons_succ, keepI]
    rw [if_neg (by simp [upI]; split <;> omega), keepI_shift, keepI_two xs a j]
    congr 1
    exact keepI_congr _ _ fun i _ => by
      unfold upI
      by_cases h : j < a
      · rw [if_pos h, if_pos (by omega)]; simp
      · rw [if_neg h, if_neg (by omega)]; simp

theorem keepI_snoc (p : Nat → Bool) (x : Int) : ∀ (xs : List Int) (k : Nat), keepI p (xs ++ [x]) k = keepI p xs k ++ (if p (k + xs.length) then [] else [x])
  | [], k => by simp [keepI]
  | y :: xs, k => by
    simp only [List.cons_append, keepI, keepI_snoc p x xs (k + 1), List.length_cons]
    rw [show k + 1 + xs.length = k + (xs.length + 1) by omega]
    split <;> simp

theorem keepI_take {p : Nat → Bool} {xs : List Int} {k : Nat} {x : Int} (h : xs[k]? = some x) : keepI p (xs.take (k + 1)) 0 = keepI p (xs.take k) 0 ++ (if p k then [] else [x]) := by
  have hk := (List.getElem?_eq_some_iff.1 h).1
  rw [List.take_add_one, h, Option.toList_some, keepI_snoc, Nat.zero_add, List.length_take, Nat.min_eq_left (by omega)]

/-! The join of a list of literals. -/

def pkI (L xs : List Int) : Nat := bestK L xs xs.length

def pkX (L xs : List Int) : Int := xs.getD (pkI L xs) 0

def pkR (L xs : List Int) : List Int := xs.eraseIdx (pkI L xs)

theorem pkI_best {L xs : List Int} (h : 0 < xs.length) : IsBest L xs xs.length (pkI L xs) := by
  obtain ⟨n, hn⟩ : ∃ n, xs.length = n + 1 := ⟨xs.length - 1, by omega⟩
  unfold pkI; rw [hn]; exact bestK_best L xs n

theorem pkI_lt {L xs : List Int} (h : 0 < xs.length) : pkI L xs < xs.length := (pkI_best h).lt

theorem pkX_mem {L xs : List Int} (h : 0 < xs.length) : pkX L xs ∈ xs := by
  unfold pkX
  rw [List.getD_eq_getElem?_getD, List.getElem?_eq_getElem (pkI_lt h)]
  exact List.getElem_mem _

theorem pkR_len {L xs : List Int} (h : 0 < xs.length) : (pkR L xs).length = xs.length - 1 := by
  unfold pkR; rw [List.length_eraseIdx, if_pos (pkI_lt h)]

theorem pkR_mem {L xs : List Int} {x : Int} (h : x ∈ pkR L xs) : x ∈ xs := List.mem_of_mem_eraseIdx h

def joinS (F : Nat) (gs : List Gt) (xs : List Int) : List Gt × Int := andL F gs (pkX (lvlL F gs) xs) (pkX (lvlL F gs) (pkR (lvlL F gs) xs))

def joinX (F : Nat) (gs : List Gt) (xs : List Int) : List Int := pkR (lvlL F gs) (pkR (lvlL F gs) xs) ++ [(joinS F gs xs).2]

def joinL (F : Nat) : Nat → List Gt → List Int → List Gt × Int
  | 0, gs, xs => (gs, xs.getD 0 0)
  | f + 1, gs, xs => if xs.length ≤ 1 then (gs, xs.getD 0 0) else joinL F f (joinS F gs xs).1 (joinX F gs xs)

theorem joinX_len {F : Nat} {gs : List Gt} {xs : List Int} (h : 1 < xs.length) : (joinX F gs xs).length = xs.length - 1 := by
  unfold joinX
  rw [List.length_append, pkR_len (by rw [pkR_len (by omega)]; omega), pkR_len (by omega)]
  simp; omega

theorem joinL_end {F f : Nat} {gs : List Gt} {xs : List Int} (h : xs.length ≤ 1) : joinL F f gs xs = (gs, xs.getD 0 0) := by
  cases f with
  | zero => rfl
  | succ f => unfold joinL; rw [if_pos h]

theorem joinL_step {F f : Nat} {gs : List Gt} {xs : List Int} (h : 1 < xs.length) : joinL F (f + 1) gs xs = joinL F f (joinS F gs xs).1 (joinX F gs xs) := by
  show (if xs.length ≤ 1 then _ else _) = _
  rw [if_neg (by omega)]

theorem litP_mono {l v v' : Int} (h : litP l v) (hv : v ≤ v') : litP l v' := by unfold litP at *; omega

structure JnOk (F : Nat) (gs : List Gt) (n : Nat) (r : List Gt × Int) : Prop where
  gates : gatesP F r.1
  lit : litP r.2 (F + r.1.length)
  len : gs.length ≤ r.1.length ∧ r.1.length ≤ gs.length + (n - 1)
  ext : ∃ hs, r.1 = gs ++ hs

theorem joinS_ok {F : Nat} {gs : List Gt} {xs : List Int} (hF : 1 ≤ F) (hg : gatesP F gs) (hx : ∀ l ∈ xs, litP l (F + gs.length)) (h : 1 < xs.length) : AndOk F gs (joinS F gs xs) :=
  andL_ok (by omega) hg (hx _ (pkX_mem (by omega))) (hx _ (pkR_mem (pkX_mem (by rw [pkR_len (by omega)]; omega))))

theorem joinX_lit {F : Nat} {gs : List Gt} {xs : List Int} (hF : 1 ≤ F) (hg : gatesP F gs) (hx : ∀ l ∈ xs, litP l (F + gs.length)) (h : 1 < xs.length) : ∀ l ∈ joinX F gs xs, litP l (F + (joinS F gs xs).1.length) := fun l hl => by
  have hok := joinS_ok hF hg hx h
  rcases List.mem_append.1 hl with h1 | h1
  · exact litP_mono (hx l (pkR_mem (pkR_mem h1))) (by have := hok.len.1; omega)
  · simp at h1; rw [h1]; exact hok.lit

theorem joinL_ok {F : Nat} (hF : 1 ≤ F) : ∀ (f : Nat) {gs : List Gt} {xs : List Int}, gatesP F gs → (∀ l ∈ xs, litP l (F + gs.length)) → 1 ≤ xs.length → xs.length ≤ f + 1 → JnOk F gs xs.length (joinL F f gs xs)
  | f, gs, xs, hg, hx, h1, h2 => by
    by_cases h : xs.length ≤ 1
    · rw [joinL_end h]
      obtain ⟨x, hx0⟩ := get_of_lt (show 0 < xs.length by omega)
      refine ⟨hg, ?_, by simp, [], by simp⟩
      show litP (xs.getD 0 0) _
      rw [List.getD_eq_getElem?_getD, hx0]
      exact hx x (List.mem_of_getElem? hx0)
    · cases f with
      | zero => omega
      | succ f =>
        rw [joinL_step (by omega)]
        have hok := joinS_ok hF hg hx (by omega)
        have hl := joinX_len (F := F) (gs := gs) (xs := xs) (by omega)
        have ih := joinL_ok hF f hok.gates (joinX_lit hF hg hx (by omega)) (by omega) (by omega)
        obtain ⟨hs, e⟩ := ih.ext
        refine ⟨ih.gates, ih.lit, by have := ih.len; have := hok.len; omega, ?_⟩
        rcases andL_ext F gs (pkX (lvlL F gs) xs) (pkX (lvlL F gs) (pkR (lvlL F gs) xs)) with h3 | ⟨g, h3, _⟩
        · exact ⟨hs, by rw [e]; unfold joinS; rw [h3]⟩
        · exact ⟨[g] ++ hs, by rw [e]; unfold joinS; rw [h3]; simp⟩

/-! The circuit rebuilt. -/

def balS (c : Cir) (st : List Gt × List Int) (k : Nat) : List Gt × Int := joinL c.first.toNat (Lv c k).length st.1 ((Lv c k).map (mapB st.2))

def balP (c : Cir) : Nat → List Gt × List Int
  | 0 => ([], evE c.first.toNat)
  | k + 1 => ((balS c (balP c k) k).1, (balP c k).2 ++ [(balS c (balP c k) k).2])

structure BalOk (c : Cir) (k : Nat) (st : List Gt × List Int) : Prop where
  gates : gatesP c.first.toNat st.1
  lits : ∀ x ∈ st.2, litP x (c.first.toNat + st.1.length)
  mlen : st.2.length = c.first.toNat + k
  glen : 2 * st.1.length ≤ k * (k + 1)

theorem balL_lit {c : Cir} (hv : c.valid) {k : Nat} {st : List Gt × List Int} (h : BalOk c k st) (hk : k < c.gates.length) : ∀ l ∈ (Lv c k).map (mapB st.2), litP l (c.first.toNat + st.1.length) := fun l hl => by
  obtain ⟨x, hx, rfl⟩ := List.mem_map.1 hl
  obtain ⟨h0, h1⟩ := Lv_mem hv k hk x hx
  have hf := (valid_first hv).1
  exact mapB_litP h.lits h0 (by rw [h.mlen]; omega)

theorem balS_ok {c : Cir} (hv : c.valid) {k : Nat} {st : List Gt × List Int} (h : BalOk c k st) (hk : k < c.gates.length) : JnOk c.first.toNat st.1 (Lv c k).length (balS c st k) := by
  have hf := (valid_first hv).1
  have h2 := Lv_two hv k hk
  have := joinL_ok (F := c.first.toNat) (by omega) (Lv c k).length h.gates (balL_lit hv h hk) (by simp; omega) (by simp)
  rw [List.length_map] at this
  exact this

theorem balP_ok {c : Cir} (hv : c.valid) : ∀ k, k ≤ c.gates.length → BalOk c k (balP c k)
  | 0, _ => by
    have hf := (valid_first hv).1
    refine ⟨fun i hi => by simp [balP] at hi, fun x hx => ?_, by simp [balP, evE_length], by simp [balP]⟩
    obtain ⟨i, hi, rfl⟩ := List.mem_map.1 hx
    have := List.mem_range.1 hi
    unfold litP; simp [balP]; omega
  | k + 1, hk => by
    have ih := balP_ok hv k (by omega)
    have hs := balS_ok hv ih (by omega)
    have hl := Lv_small hv (k := k) (by omega)
    have he : (k + 1) * (k + 1 + 1) = k * (k + 1) + 2 * (k + 1) := by rw [Nat.mul_comm (k + 1) (k + 1 + 1), ← Nat.add_mul]
    refine ⟨hs.gates, fun x hx => ?_, by show ((balP c k).2 ++ [_]).length = _; rw [List.length_append, ih.mlen]; simp; omega, ?_⟩
    · rcases List.mem_append.1 hx with h | h
      · exact litP_mono (ih.lits x h) (by have := hs.len.1; show _ ≤ ((c.first.toNat : Nat) : Int) + ((balS c (balP c k) k).1.length : Int); omega)
      · simp at h; rw [h]; exact hs.lit
    · show 2 * (balS c (balP c k) k).1.length ≤ _
      have h1 := hs.len.2
      have h2 := ih.glen
      omega

def balC (c : Cir) : Cir := ⟨c.inp, c.next.map (mapB (balP c c.gates.length).2), (balP c c.gates.length).1, c.outs.map (mapB (balP c c.gates.length).2)⟩

theorem balP_small {c : Cir} (hv : c.valid) {k : Nat} (hk : k ≤ c.gates.length) : (balP c k).1.length ≤ 105 := by
  have h1 := (balP_ok hv k hk).glen
  have h2 := hv.lim.2.2.2.1
  have h3 : k * (k + 1) ≤ 14 * 15 := Nat.mul_le_mul (by omega) (by omega)
  omega

theorem balC_wide {c : Cir} (hv : c.valid) : (balC c).wide := by
  have hf := (valid_first hv).1
  have hok := balP_ok hv c.gates.length (Nat.le_refl _)
  have hs := balP_small hv (Nat.le_refl c.gates.length)
  have hF : (balC c).first = (c.first.toNat : Int) := by show 1 + c.inp + ((c.next.map _).length : Int) = _; rw [List.length_map]; unfold Cir.first at hf ⊢; omega
  have hV : (balC c).vars = (c.first.toNat : Int) + ((balP c c.gates.length).1.length : Int) := by
    show 1 + c.inp + ((c.next.map _).length : Int) + _ = _
    rw [List.length_map]; unfold Cir.first at hf ⊢; show 1 + c.inp + (c.next.length : Int) + ((balP c c.gates.length).1.length : Int) = _; omega
  have key : ∀ l, litP l c.vars → litP (mapB (balP c c.gates.length).2 l) (balC c).vars := fun l hl => by
    rw [hV]
    have eV : c.vars = c.first + c.gates.length := rfl
    unfold litP at hl
    exact mapB_litP hok.lits (by omega) (by rw [hok.mlen]; omega)
  refine ⟨⟨hv.lim.1, hv.lim.2.1, by show (c.next.map _).length ≤ 3; rw [List.length_map]; exact hv.lim.2.2.1, by show (balP c c.gates.length).1.length ≤ 120; omega, by show (c.outs.map _).length ≤ 3; rw [List.length_map]; exact hv.lim.2.2.2.2⟩, by rw [hF]; exact hok.gates, fun l hl => ?_, fun l hl => ?_⟩
  · obtain ⟨x, hx, rfl⟩ := List.mem_map.1 hl; exact key x (hv.next x hx)
  · obtain ⟨x, hx, rfl⟩ := List.mem_map.1 hl; exact key x (hv.outs x hx)

/-! Depth, and the choice. -/

def mxL (L : List Int) : Int := L.foldl max 0

def depC (c : Cir) : Int := mxL ((c.next ++ c.outs).map (lvA (lvlL c.first.toNat c.gates)))

def balR (c : Cir) : Cir :=
  if c.validB then
    if (optC (balC (optC c))).validB = false ∨ depC (optC c) < depC (optC (balC (optC c))) ∨ (depC (optC (balC (optC c))) = depC (optC c) ∧ (optC c).gates.length < (optC (balC (optC c))).gates.length) then optC c else optC (balC (optC c))
  else ⟨0, [], [], []⟩

theorem balR_no {c : Cir} (h : c.validB = false) : balR c = ⟨0, [], [], []⟩ := by unfold balR; rw [h]; rfl

theorem balR_or {c : Cir} (h : c.validB = true) : balR c = optC c ∨ (balR c = optC (balC (optC c)) ∧ (optC (balC (optC c))).validB = true ∧ ¬ depC (optC c) < depC (optC (balC (optC c))) ∧ ¬ (depC (optC (balC (optC c))) = depC (optC c) ∧ (optC c).gates.length < (optC (balC (optC c))).gates.length)) := by
  unfold balR
  rw [if_pos h]
  split
  · exact .inl rfl
  · next hn =>
    refine .inr ⟨rfl, ?_, fun h => hn (.inr (.inl h)), fun h => hn (.inr (.inr h))⟩
    cases hv : (optC (balC (optC c))).validB
    · exact absurd (.inl hv) hn
    · rfl

theorem balR_valid {c : Cir} (hv : c.valid) : (balR c).valid := by
  rcases balR_or (c.validB_iff.2 hv) with h | ⟨h, h2, _⟩
  · rw [h]; exact optC_valid hv
  · rw [h]; exact (Cir.validB_iff _).1 h2

theorem lvlL_take {F : Nat} {gs : List Gt} {k : Nat} {g : Gt} (h : gs[k]? = some g) : lvlL F (gs.take (k + 1)) = lvlL F (gs.take k) ++ [1 + max ((lvlL F (gs.take k)).getD (g.a / 2).toNat 0) ((lvlL F (gs.take k)).getD (g.b / 2).toNat 0)] := by
  rw [List.take_add_one, h, Option.toList_some, lvlL_snoc]; rfl

theorem fill_set (L : List Int) (n k : Nat) (h : L.length ≤ n) (hk : L.length < n) (v : Int) : (L ++ List.replicate (n - L.length) (0 : Int)).set L.length v = (L ++ [v]) ++ List.replicate (n - (L.length + 1)) 0 := by
  obtain ⟨d, hd⟩ : ∃ d, n - L.length = d + 1 := ⟨n - L.length - 1, by omega⟩
  rw [hd, show n - (L.length + 1) = d by omega, List.replicate_succ, List.set_append_right _ _ (Nat.le_refl _), Nat.sub_self]
  simp

theorem mxL_snoc (L : List Int) (x : Int) : mxL (L ++ [x]) = max (mxL L) x := by simp [mxL]

theorem mxL_take {L : List Int} {k : Nat} {x : Int} (h : L[k]? = some x) : mxL (L.take (k + 1)) = max (mxL (L.take k)) x := by
  rw [List.take_add_one, h, Option.toList_some, mxL_snoc]

theorem mxL_bd {L : List Int} {B : Int} (hB : 0 ≤ B) (h : ∀ x ∈ L, 0 ≤ x ∧ x ≤ B) : 0 ≤ mxL L ∧ mxL L ≤ B := by
  have : ∀ (L : List Int) (a : Int), 0 ≤ a → a ≤ B → (∀ x ∈ L, 0 ≤ x ∧ x ≤ B) → 0 ≤ L.foldl max a ∧ L.foldl max a ≤ B := by
    intro L
    induction L with
    | nil => intro a h0 h1 _; exact ⟨h0, h1⟩
    | cons x L ih => intro a h0 h1 h; have := h x (by simp); exact ih _ (by omega) (by omega) fun y hy => h y (by simp [hy])
  exact this L 0 (Int.le_refl _) hB h

set_option maxRecDepth 100000 in
set_option maxHeartbeats 3200000 in
theorem depth_any (b : Nat) (sn sg so : Option Addr) (cn cg co : Nat) (c : Cir) (w : World) (h : CirAt w b c.inp (.slice sn c.next.length cn) (.slice sg c.gates.length cg) (.slice so c.outs.length co)) (hn : Sl w sn (ints c.next)) (hg : Sl w sg (gcells c.gates)) (ho : Sl w so (ints c.outs)) (hv : c.valid) :
    Calls Try.prog 37 #[.pointer (some ⟨b, 0, none⟩)] w fun e w' => e = .returned (.int .i64 (depC c)) ∧ Below w.heap.size w w' := by
  have HBl : Hid (b < w.heap.size) := World.block_lt_of_cell? w _ h.h0
  obtain ⟨q1, q2, q3, q4, q5⟩ := id hv.lim
  obtain ⟨F, hF⟩ : ∃ F : Nat, 1 + c.inp + (c.next.length : Int) = F := ⟨(1 + c.inp + (c.next.length : Int)).toNat, by omega⟩
  obtain ⟨n, hnn⟩ : ∃ n, n = c.gates.length := ⟨_, rfl⟩
  obtain ⟨V, hV⟩ : ∃ V, V = F + n := ⟨_, rfl⟩
  have hF8 : F ≤ 8 := by omega
  have hn14 : n ≤ 14 := by omega
  have hV22 : V ≤ 22 := by omega
  have eF : c.first.toNat = F := by rw [show c.first = (F : Int) from hF, Int.toNat_natCast]
  have HB : Hid (∀ W, Below w.heap.size w W → CirAt W b c.inp (.slice sn c.next.length cn) (.slice sg n cg) (.slice so c.outs.length co) ∧ Sl W sn (ints c.next) ∧ Sl W sg (gcells c.gates) ∧ Sl W so (ints c.outs)) := fun W hb => by
    rw [hnn]
    exact ⟨⟨(hb.cell (p := ⟨b, 0, none⟩) HBl.out).trans h.h0, (hb.cell (p := ⟨b, 1, none⟩) HBl.out).trans h.h1, (hb.cell (p := ⟨b, 2, none⟩) HBl.out).trans h.h2, (hb.cell (p := ⟨b, 3, none⟩) HBl.out).trans h.h3⟩, hn.mono hb, hg.mono hb, ho.mono hb⟩
  have hVn : 1 + c.inp + (c.next.length : Int) + (n : Int) = (V : Int) := by omega
  have HFF := Lib.hid (And.intro hF (And.intro hV (And.intro hnn (And.intro hVn (And.intro eF hv)))))
  have hmk := fun w => mkInts w V (by omega)
  have hFV : F + n ≤ V := by omega
  have hFV2 : V ≤ F + n := by omega
  clear h hn hg ho hv hF eF q4 hnn hVn hV
  obtain ⟨c0, c1, c2, c3⟩ := (HB.out _ (Below.refl _ _)).1
  go_enter Try.func37, Try.ntmps37
  go_upto_region 2 with (go_at_call 38; refine (vars_any b c.inp sn sg c.next.length cn n cg _ _ (HB.out _ (Below.refl _ _)).1 (by omega) (by omega) (by omega)).mono ?_; rintro e w1 ⟨rfl, hd⟩; rw [HFF.out.2.2.2.1]; have H1 := Lib.hid (hd.below w.heap.size); clear hd c0 c1 c2 c3)
  obtain ⟨G, hG⟩ : ∃ G, G = w1.heap.size := ⟨_, rfl⟩
  have x1 := blk_new w1 (.cells (ints (List.replicate V 0)).toArray 3)
  have x2 := H1.out.alloc H1.out.size (.cells (ints (List.replicate V 0)).toArray 3)
  have x3 : w.heap.size ≤ G := by rw [hG]; exact H1.out.size
  rw [← hG] at x1
  rw [← hG]
  clear hmk hG
  revert x1 x2
  generalize w1.alloc (.cells (ints (List.replicate V 0)).toArray 3) = W2
  intro x1 x2
  have H2 := Lib.hid (And.intro x1 x2)
  obtain ⟨c0, c1, c2, c3⟩ := (HB.out _ x2).1
  clear x1 x2
  go_wp2_with fail
  clear c0 c1 c2 c3
  go_loopw [17] (fun i wr => ∃ k : Nat, k ≤ n ∧ i = .int .i64 k ∧ wr.heap[G]? = some (.cells (ints (lvlL F (c.gates.take k) ++ List.replicate (V - (lvlL F (c.gates.take k)).length) 0)).toArray 3 (0, 0)) ∧ Below w.heap.size w wr) (fun i _ => n - (intOf i).toNat)
  case atStart => exact ⟨0, Nat.zero_le _, rfl, by
    have h := H2.out.1
    have e : lvlL F (c.gates.take 0) ++ List.replicate (V - (lvlL F (c.gates.take 0)).length) 0 = List.replicate V 0 := by
      rw [lvlL_length, List.take_zero]
      show List.replicate F 0 ++ _ = _
      rw [List.replicate_append_replicate]
      congr 1; simp; omega
    rw [e]; exact h, H2.out.2⟩
  case round =>
    obtain ⟨k, hk, rfl, hb, hbl⟩ := hrel
    by_cases hlt : k < n
    · obtain ⟨g, hg⟩ := get_of_lt (l := c.gates) (k := k) (by rw [← HFF.out.2.2.1]; exact hlt)
      obtain ⟨bg, og, rfl, hbw, z1, z2⟩ := (HB.out _ hbl).2.2.1.gate (Below.refl _ _) hg
      obtain ⟨⟨a0, a1⟩, b0, b1⟩ := valid_gate HFF.out.2.2.2.2.2 hg
      rw [show c.first = (F : Int) from HFF.out.1] at a1 b1
      have hll : (lvlL F (c.gates.take k)).length = F + k := by rw [lvlL_length, List.length_take, ← HFF.out.2.2.1, Nat.min_eq_left (by omega)]
      obtain ⟨L, hL⟩ : ∃ L, L = lvlL F (c.gates.take k) := ⟨_, rfl⟩
      have hLb : ∀ x ∈ L, 0 ≤ x ∧ x ≤ 14 := fun x hx => by
        have := lvlL_bd F (c.gates.take k) x (by rw [← hL]; exact hx)
        rw [List.length_take] at this
        have h3 := HFF.out.2.2.1
        omega
      rw [← hL] at hll hb
      obtain ⟨p, hp⟩ : ∃ p : Nat, g.a / 2 = p := ⟨(g.a / 2).toNat, by omega⟩
      obtain ⟨q, hq⟩ : ∃ q : Nat, g.b / 2 = q := ⟨(g.b / 2).toNat, by omega⟩
      have hpF : p < F + k := by omega
      have hqF : q < F + k := by omega
      have hpV : p < V := by omega
      have hqV : q < V := by omega
      obtain ⟨u, hu⟩ := get_of_lt (l := L) (k := p) (by omega)
      obtain ⟨v, hv⟩ := get_of_lt (l := L) (k := q) (by omega)
      obtain ⟨u0, u1⟩ := hLb u (List.mem_of_getElem? hu)
      obtain ⟨v0, v1⟩ := hLb v (List.mem_of_getElem? hv)
      have ta : g.a.tdiv 2 = p := by rw [Int.tdiv_eq_ediv_of_nonneg a0]; exact hp
      have tb : g.b.tdiv 2 = q := by rw [Int.tdiv_eq_ediv_of_nonneg b0]; exact hq
      have wp : IntKind.i64.wrap (p : Int) = p := IntWalk.i64_in _ ⟨by omega, by omega⟩
      have wq : IntKind.i64.wrap (q : Int) = q := IntWalk.i64_in _ ⟨by omega, by omega⟩
      obtain ⟨fk, hfk⟩ : ∃ fk : Nat, fk = F + k := ⟨_, rfl⟩
      have wfk : IntKind.i64.wrap ((F : Int) + (k : Int)) = (fk : Int) := by rw [IntWalk.i64_in _ ⟨by omega, by omega⟩]; omega
      have hfkV : fk < V := by omega
      have hAu : (L ++ List.replicate (V - L.length) 0)[p]? = some u := by rw [List.getElem?_append_left (by omega)]; exact hu
      have hAv : (L ++ List.replicate (V - L.length) 0)[q]? = some v := by rw [List.getElem?_append_left (by omega)]; exact hv
      obtain ⟨mx, hmx⟩ : ∃ mx, mx = max u v := ⟨_, rfl⟩
      have hif : (if u < v then v else u) = mx := by split <;> omega
      obtain ⟨m1, hm1⟩ : ∃ m1, m1 = 1 + mx := ⟨_, rfl⟩
      have wm : IntKind.i64.wrap (1 + mx) = m1 := by rw [IntWalk.i64_in _ ⟨by omega, by omega⟩]; exact hm1.symm
      have em : 1 + mx = m1 := hm1.symm
      obtain ⟨GB, hGB⟩ : ∃ GB, GB = wr.heap.size := ⟨_, rfl⟩
      have hGG : G < GB := by rw [hGB]; exact blk_lt hb
      have k1 := blk_new wr (.cells #[.int .i64 g.a, .int .i64 g.b] 24)
      have k2 := blk_old (o := .cells #[.int .i64 g.a, .int .i64 g.b] 24) hb
      have k3 := hbl.alloc hbl.size (.cells #[.int .i64 g.a, .int .i64 g.b] 24)
      rw [← hGB] at k1
      have HL := Lib.hid (And.intro hg (And.intro hL (And.intro hu (And.intro hv (And.intro hll (And.intro hfk (And.intro hmx hm1)))))))
      clear hb hbl hg hL hLb hu hv hbw a1 b1 hll hp hq hfk hmx hm1
      go_upto_region 5 with fail
      rw [← hGB]
      clear hGB z1 z2
      revert k1 k2 k3
      generalize wr.alloc (.cells #[.int .i64 g.a, .int .i64 g.b] 24) = W3
      intro k1 k2 k3
      have HS : Hid (∀ W, Below W3.heap.size W3 W → (W.cell? ⟨GB, 0, none⟩ = some (.int .i64 g.a) ∧ W.cell? ⟨GB, 1, none⟩ = some (.int .i64 g.b) ∧ W.cell? ⟨G, p, none⟩ = some (.int .i64 u) ∧ W.cell? ⟨G, q, none⟩ = some (.int .i64 v)) ∧ W.heap[G]? = some (.cells (ints (L ++ List.replicate (V - L.length) 0)).toArray 3 (0, 0)) ∧ Below w.heap.size w W) := fun W hW => by
        have h1 := blk_below hW (blk_lt k2) k2
        have h2 := (blk_all (blk_below hW (blk_lt k1) k1)).1
        exact ⟨⟨by simpa using h2 0, by simpa using h2 1, ints_cell h1 hAu, ints_cell h1 hAv⟩, h1, k3.trans (hW.mono k3.size)⟩
      clear k1 k2 k3 hAu hAv
      refine wp_region_E (fun W => W.cell? ⟨GB, 0, none⟩ = some (.int .i64 g.a) ∧ W.cell? ⟨GB, 1, none⟩ = some (.int .i64 g.b) ∧ W.cell? ⟨G, p, none⟩ = some (.int .i64 u) ∧ W.cell? ⟨G, q, none⟩ = some (.int .i64 v)) 20 (.q 0 (.q 1 (.q 3 (.q 5 (.q 6 (.q 7 (.q 8 (.q 9 (.q 10 (.q 11 (.q 12 (.q 13 (.q 14 (.q 15 (.q 16 (.q 17 (.q 18 (.e 2 (.q 4 (.q 19 (.z 20))))))))))))))))))))) (by kernel_rfl) (by kernel_rfl) (by kernel_rfl) (by kernel_rfl) (by kernel_rfl) (by kernel_rfl) (HS.out _ (Below.refl _ _).drew).1 ?_
      have hdr : Below W3.heap.size W3 W3.drew := (Below.refl _ _).drew
      revert hdr
      generalize W3.drew = WD
      intro hdr
      repeat (first | (refine orde_s (o := ?_) ?_ ?_ ?_; rotate_left 1; (focus ((simp only [zD, zE, zF]) <;> rfl)); (focus rfl); simp only [Act.put, zA, zB, zC]) | (refine orde_q (o := ?_) (v := ?_) ?_ ?_ ?_ ?_; rotate_left 2; (focus ((simp only [zD, zE, zF]) <;> rfl)); (focus rfl); (focus (intro w' hS; (try dsimp only at hS); go_split_ands; go_simp; (try (with_reducible rfl)))); simp only [Act.put, zA, zB, zC]))
      refine orde_e ?_
      (refine ope_e (o := ?_) ?_ ?_ (fun K hK => ?_); rotate_left 1; (focus ((simp only [zD, zE, zF]) <;> rfl)); (focus rfl); go_simp)
      refine (firstGate_any b c.inp sn c.next.length cn _ _ WD (HB.out _ (HS.out _ hdr).2.2).1 (by omega) (by omega)).mono ?_
      rintro e w4 ⟨rfl, hd⟩
      rw [HFF.out.1]
      have hb4 := hdr.trans ((hd.below _).mono hdr.size)
      refine hK.out _ _ (HS.out _ hb4).1 ?_
      clear hK K hd
      have H4 := Lib.hid hb4
      clear hb4 hdr
      have z0 : ∃ x, w4.cell? ⟨G, fk, none⟩ = some (.int .i64 x) := by
        obtain ⟨x, hx⟩ := get_of_lt (l := L ++ List.replicate (V - L.length) 0) (k := fk) (by rw [List.length_append, List.length_replicate]; have := HL.out.2.2.2.2.1; omega)
        exact ⟨x, ints_cell (HS.out _ H4.out).2.1 hx⟩
      obtain ⟨x0, z0⟩ := z0
      have z1 : w4.frozen? ⟨G, fk, none⟩ = false := blk_free (HS.out _ H4.out).2.1
      (try simp only [Act.put, zA, zB, zC])
      repeat (first | (refine orde_s (o := ?_) ?_ ?_ ?_; rotate_left 1; (focus ((simp only [zD, zE, zF]) <;> rfl)); (focus rfl); simp only [Act.put, zA, zB, zC]) | (refine orde_q (o := ?_) (v := ?_) ?_ ?_ ?_ ?_; rotate_left 2; (focus ((simp only [zD, zE, zF]) <;> rfl)); (focus rfl); (focus (intro w' hS; (try dsimp only at hS); go_split_ands; go_simp; (try (with_reducible rfl)))); simp only [Act.put, zA, zB, zC]))
      (refine orde_z (o := ?_) ?_ ?_ (fun K hK => ?_); rotate_left 1; (focus ((simp only [zD, zE, zF]) <;> rfl)); (focus rfl); go_simp)
      refine hK.out _ _ ?_
      clear hK K z0 z1
      have r1 : (w4.setCell ⟨G, fk, none⟩ (.int .i64 m1)).heap[G]? = some (.cells (ints (lvlL F (c.gates.take (k + 1)) ++ List.replicate (V - (lvlL F (c.gates.take (k + 1))).length) 0)).toArray 3 (0, 0)) := by
        have h := ints_blk_set (HS.out _ H4.out).2.1 fk m1
        obtain ⟨hg, hL, hu, hv, hll, hfk, hmx, hm1⟩ := HL.out
        have e1 : lvlL F (c.gates.take (k + 1)) = L ++ [m1] := by
          rw [lvlL_take hg, ← hL]
          congr 2
          rw [hm1, hmx, List.getD_eq_getElem?_getD, List.getD_eq_getElem?_getD]
          have e2 : (g.a / 2).toNat = p := by rw [← Int.tdiv_eq_ediv_of_nonneg a0, ta]; exact Int.toNat_natCast p
          have e3 : (g.b / 2).toNat = q := by rw [← Int.tdiv_eq_ediv_of_nonneg b0, tb]; exact Int.toNat_natCast q
          rw [e2, e3, hu, hv]; rfl
        rw [e1, List.length_append, List.length_singleton]
        have e5 : fk = L.length := by omega
        rw [e5, fill_set L V L.length (by omega) (by omega)] at h
        rw [e5]
        exact h
      have r2 : Below w.heap.size w (w4.setCell ⟨G, fk, none⟩ (.int .i64 m1)) := (HS.out _ H4.out).2.2.setCell (p := ⟨G, fk, none⟩) x3 _
      have H9 := Lib.hid (And.intro r1 r2)
      clear r1 r2
      go_wp2_with fail
      go_roundw
      case rel => exact ⟨k + 1, by omega, by go_num, H9.out.1, H9.out.2⟩
      case measure => simp [intOf]; omega
    · obtain rfl : k = n := by omega
      have hlv : (lvlL F (c.gates.take k)).length = V := by rw [lvlL_length, List.length_take, ← HFF.out.2.2.1, Nat.min_self]; exact HFF.out.2.1.symm
      rw [hlv, Nat.sub_self, List.replicate_zero, List.append_nil] at hb
      have hLe : lvlL F (c.gates.take k) = lvlL F c.gates := by rw [HFF.out.2.2.1, List.take_length]
      rw [hLe] at hb hlv
      obtain ⟨L, hL⟩ : ∃ L, L = lvlL F c.gates := ⟨_, rfl⟩
      rw [← hL] at hb hlv
      obtain ⟨rs, hrs⟩ : ∃ rs, rs = c.next ++ c.outs := ⟨_, rfl⟩
      have hrl : rs.length = c.next.length + c.outs.length := by rw [hrs]; simp
      have hlit : ∀ x ∈ rs, 0 ≤ x ∧ x / 2 < V := fun x hx => by
        have h1 : litP x c.vars := by
          rw [hrs] at hx
          rcases List.mem_append.1 hx with h | h
          · exact HFF.out.2.2.2.2.2.next x h
          · exact HFF.out.2.2.2.2.2.outs x h
        have eV : c.vars = 1 + c.inp + (c.next.length : Int) + (c.gates.length : Int) := rfl
        have := HFF.out.2.2.2.1
        rw [← HFF.out.2.2.1] at eV
        unfold litP at h1
        omega
      have hLb : ∀ x ∈ L, 0 ≤ x ∧ x ≤ 14 := fun x hx => by
        have := lvlL_bd F c.gates x (by rw [← hL]; exact hx)
        have h3 := HFF.out.2.2.1
        omega
      obtain ⟨ds, hds⟩ : ∃ ds, ds = rs.map (lvA L) := ⟨_, rfl⟩
      have hdl : ds.length = rs.length := by rw [hds]; simp
      have hdb : ∀ x ∈ ds, 0 ≤ x ∧ x ≤ 14 := fun x hx => by
        rw [hds] at hx
        obtain ⟨y, hy, rfl⟩ := List.mem_map.1 hx
        unfold lvA
        rw [List.getD_eq_getElem?_getD]
        cases e : L[(y / 2).toNat]? with
        | none => simp
        | some z => simpa using hLb z (List.mem_of_getElem? e)
      have hdep : depC c = mxL ds := by unfold depC; rw [hds, hrs, hL, HFF.out.2.2.2.2.1]
      have HL := Lib.hid (And.intro hrs (And.intro hlit (And.intro hds (And.intro hdl (And.intro hdb (And.intro hdep hlv))))))
      have HR := Lib.hid (And.intro hb hbl)
      clear hL hlv hLe hlit hLb hds hdl hdb hdep hb hbl
      have hC := (HB.out _ HR.out.2)
      go_upto_region 9 with (go_at_call 71; refine (roots_any b c.inp sn so cn co c.next c.outs _ _ (HB.out _ HR.out.2).1 (HB.out _ HR.out.2).2.1 (HB.out _ HR.out.2).2.2.2 (by omega) (by omega)).mono ?_; rintro e w5 ⟨s5, c5, rfl, ho5, hq⟩; rw [ints_append, ← HL.out.1] at ho5; have H5 := Lib.hid (And.intro (own_sl ho5) (And.intro (blk_below hq (blk_lt HR.out.1) HR.out.1) (HR.out.2.trans (hq.mono HR.out.2.size)))); clear ho5 hq)
      clear hC hrs
      rw [← hrl]
      obtain ⟨R, hR⟩ : ∃ R, R = rs.length := ⟨_, rfl⟩
      rw [← hR]
      have hri : (c.next.length : Int) + (c.outs.length : Int) = (R : Int) := by omega
      rw [hri]
      have HRl := Lib.hid hR
      have hR6 : R ≤ 6 := by omega
      clear hR hrl hri
      go_loopw [46, 6] (fun i d wr => ∃ k : Nat, k ≤ R ∧ i = .int .i64 k ∧ d = .int .i64 (mxL (ds.take k)) ∧ Below w5.heap.size w5 wr) (fun i _ _ => R - (intOf i).toNat)
      case atStart => exact ⟨0, Nat.zero_le _, rfl, rfl, Below.refl _ _⟩
      case round =>
        obtain ⟨k2, hk2, rfl, rfl, hb2⟩ := hrel
        have HK := Lib.hid hb2
        clear hb2
        by_cases hlt2 : k2 < R
        · obtain ⟨l, hl⟩ := get_of_lt (l := rs) (k := k2) (by rw [← HRl.out]; exact hlt2)
          obtain ⟨b5, o5, rfl, hb5, z5⟩ := H5.out.1.int HK.out hl
          obtain ⟨l0, l1⟩ := HL.out.2.1 l (List.mem_of_getElem? hl)
          obtain ⟨p, hp⟩ : ∃ p : Nat, l / 2 = p := ⟨(l / 2).toNat, by omega⟩
          have hpV : p < V := by omega
          obtain ⟨u, hu⟩ := get_of_lt (l := L) (k := p) (by rw [HL.out.2.2.2.2.2.2]; exact hpV)
          have hd : ds[k2]? = some u := by
            rw [HL.out.2.2.1, List.getElem?_map, hl, Option.map_some]
            congr 1
            unfold lvA
            rw [hp, Int.toNat_natCast, List.getD_eq_getElem?_getD, hu]; rfl
          have hub := HL.out.2.2.2.2.1 u (List.mem_of_getElem? hd)
          obtain ⟨u0, u1⟩ := hub
          have hmt := mxL_take hd
          obtain ⟨d0, d1⟩ := mxL_bd (L := ds.take k2) (B := 14) (by omega) (fun x hx => HL.out.2.2.2.2.1 x (List.mem_of_mem_take hx))
          obtain ⟨d, hdd⟩ : ∃ d, d = mxL (ds.take k2) := ⟨_, rfl⟩
          rw [← hdd] at hmt d0 d1 ⊢
          obtain ⟨mx, hmx⟩ : ∃ mx, mx = max d u := ⟨_, rfl⟩
          have hif : (if d < u then u else d) = mx := by split <;> omega
          have zG := ints_cell (blk_below HK.out (blk_lt H5.out.2.1) H5.out.2.1) hu
          rw [← hmx] at hmt
          have HM := Lib.hid hmt
          clear hl hb5 hu hd hmt hmx hdd
          go_wp2_with fail
          go_roundw
          case rel => exact ⟨k2 + 1, by omega, by go_num, by rw [HM.out], HK.out⟩
          case measure => simp [intOf]; omega
        · obtain rfl : k2 = R := by omega
          go_wp2_with fail
          go_ret
          exact ⟨ret_int (by rw [HL.out.2.2.2.2.2.1, List.take_of_length_le (by rw [HL.out.2.2.2.1, HRl.out]; exact Nat.le_refl _)]), H5.out.2.2.trans (HK.out.mono H5.out.2.2.size)⟩

end Go.Proofs.Ytjecchljhdfjdaa
