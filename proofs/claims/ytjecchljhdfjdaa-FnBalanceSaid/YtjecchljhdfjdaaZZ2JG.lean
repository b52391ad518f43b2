import Derived.Test.YtjecchljhdfjdaaZZ2RA
import Derived.Test.YtjecchljhdfjdaaZZ2Q2
import Derived.Test.YtjecchljhdfjdaaZZ2OL
import Derived.Test.YtjecchljhdfjdaaZZ2S1
namespace Go.Proofs.Ytjecchljhdfjdaa
set_option linter.unusedVariables false
set_option linter.unusedSimpArgs false
open Go.RowKit

/-! Part of the proof of one law. -/

/-- A leaf's weight: what its variable's own leaves are, but one. -/
def wtL (c : Cir) (k : Nat) (x : Int) : Nat := if c.first ≤ x / 2 ∧ x / 2 < c.first + k ∧ cntL c.usesI (x / 2) = 1 then (Lv c (x / 2 - c.first).toNat).length - 1 else 0

def occL (c : Cir) (k : Nat) : List Int := glits (c.gates.drop k) ++ (c.next ++ c.outs)

def phiL (c : Cir) (k : Nat) : Nat := ((occL c k).map (wtL c k)).sum

theorem occL_step {c : Cir} {k : Nat} {g : Gt} (h : c.gates[k]? = some g) : occL c k = g.a :: g.b :: occL c (k + 1) := by
  have hk := (List.getElem?_eq_some_iff.1 h).1
  have e : c.gates.drop k = g :: c.gates.drop (k + 1) := by
    rw [List.drop_eq_getElem_cons hk, (List.getElem?_eq_some_iff.1 h).2]
  unfold occL
  rw [e]
  simp [glits]

theorem glits_append (A B : List Gt) : glits (A ++ B) = glits A ++ glits B := by simp [glits]

theorem occL_cnt (c : Cir) (k : Nat) (v : Int) : cntL (occL c k) v ≤ cntL c.usesI v := by
  unfold occL Cir.usesI
  have e : glits c.gates = glits (c.gates.take k) ++ glits (c.gates.drop k) := by rw [← glits_append, List.take_append_drop]
  rw [e]
  simp only [cntL_append]
  omega

theorem sum_bump (f g : Int → Nat) (v : Int) (t : Nat) : ∀ (L : List Int), (∀ x ∈ L, f x ≤ g x + (if x / 2 = v then t else 0)) → (L.map f).sum ≤ (L.map g).sum + cntL L v * t
  | [], _ => by simp
  | x :: L, h => by
    have ih := sum_bump f g v t L fun y hy => h y (by simp [hy])
    have hx := h x (by simp)
    have hc : cntL (x :: L) v = (if x / 2 = v then 1 else 0) + cntL L v := by
      rw [show x :: L = [x] ++ L from rfl, cntL_append, cntL_one]
    rw [hc, Nat.add_mul]
    simp only [List.map_cons, List.sum_cons]
    split at hx
    · next e => rw [if_pos e]; omega
    · next e => rw [if_neg e]; omega

theorem lvP_wt {c : Cir} {l : Int} {k : Nat} (hl : l / 2 < c.first + k) : (lvP c l).length ≤ 1 + wtL c k l := by
  unfold lvP wtL
  by_cases h : oneP c l
  · rw [if_pos h, if_pos ⟨h.2.1, hl, h.2.2⟩]; omega
  · rw [if_neg h]; simp

theorem phiL_le {c : Cir} (hv : c.valid) : ∀ k, k ≤ c.gates.length → phiL c k ≤ k
  | 0, _ => by
    have : ∀ L : List Int, (L.map (wtL c 0)).sum = 0 := by
      intro L
      induction L with
      | nil => rfl
      | cons x L ih =>
        simp only [List.map_cons, List.sum_cons, ih]
        unfold wtL
        rw [if_neg (by omega)]
    unfold phiL; rw [this]; exact Nat.le_refl _
  | k + 1, hk => by
    have ih := phiL_le hv k (by omega)
    obtain ⟨g, hg⟩ := get_of_lt (show k < c.gates.length by omega)
    obtain ⟨⟨a0, a1⟩, b0, b1⟩ := valid_gate hv hg
    unfold phiL at ih
    rw [occL_step hg] at ih
    simp only [List.map_cons, List.sum_cons] at ih
    have hlen : (Lv c k).length ≤ 2 + wtL c k g.a + wtL c k g.b := by
      rw [Lv_eq hv hg, List.length_append]
      have h1 := lvP_wt a1
      have h2 := lvP_wt b1
      omega
    have hc := occL_cnt c (k + 1) (c.first + k)
    by_cases hu : cntL c.usesI (c.first + k) = 1
    · have hb := sum_bump (wtL c (k + 1)) (wtL c k) (c.first + k) ((Lv c k).length - 1) (occL c (k + 1)) (fun x _ => by
        unfold wtL
        by_cases e : x / 2 = c.first + k
        · rw [if_pos e, e, if_pos ⟨by omega, by omega, hu⟩]
          rw [show (c.first + (k : Int) - c.first).toNat = k by omega]
          omega
        · rw [if_neg e]
          by_cases h1 : c.first ≤ x / 2 ∧ x / 2 < c.first + ((k + 1 : Nat) : Int) ∧ cntL c.usesI (x / 2) = 1
          · rw [if_pos h1, if_pos ⟨h1.1, by have := h1.2.1; omega, h1.2.2⟩]; omega
          · rw [if_neg h1]; omega)
      unfold phiL
      have hm : cntL (occL c (k + 1)) (c.first + k) * ((Lv c k).length - 1) ≤ (Lv c k).length - 1 := by
        rw [hu] at hc
        exact Nat.le_trans (Nat.mul_le_mul_right _ hc) (by rw [Nat.one_mul]; exact Nat.le_refl _)
      omega
    · have hb := sum_bump (wtL c (k + 1)) (wtL c k) (c.first + k) 0 (occL c (k + 1)) (fun x _ => by
        unfold wtL
        by_cases e : x / 2 = c.first + k
        · rw [if_neg (fun h => hu (by rw [← e]; exact h.2.2))]; omega
        · by_cases h1 : c.first ≤ x / 2 ∧ x / 2 < c.first + ((k + 1 : Nat) : Int) ∧ cntL c.usesI (x / 2) = 1
          · rw [if_pos h1, if_pos ⟨h1.1, by have := h1.2.1; omega, h1.2.2⟩]; omega
          · rw [if_neg h1]; omega)
      unfold phiL
      rw [Nat.mul_zero] at hb
      omega

theorem Lv_small {c : Cir} (hv : c.valid) {k : Nat} (hk : k < c.gates.length) : (Lv c k).length ≤ k + 2 := by
  obtain ⟨g, hg⟩ := get_of_lt hk
  obtain ⟨⟨a0, a1⟩, b0, b1⟩ := valid_gate hv hg
  have ih := phiL_le hv k (by omega)
  unfold phiL at ih
  rw [occL_step hg] at ih
  simp only [List.map_cons, List.sum_cons] at ih
  have h1 := lvP_wt a1
  have h2 := lvP_wt b1
  rw [Lv_eq hv hg, List.length_append]
  omega

/-! The pick of the literal with the lowest level. -/

def lvA (L : List Int) (l : Int) : Int := L.getD (l / 2).toNat 0

structure IsBest (L xs : List Int) (k i : Nat) : Prop where
  lt : i < k
  lo : ∀ j, j < i → lvA L (xs.getD i 0) < lvA L (xs.getD j 0)
  hi : ∀ j, i < j → j < k → lvA L (xs.getD i 0) ≤ lvA L (xs.getD j 0)

theorem IsBest.uniq {L xs : List Int} {k i j : Nat} (h : IsBest L xs k i) (h' : IsBest L xs k j) : i = j := by
  rcases Nat.lt_trichotomy i j with e | e | e
  · have := h.hi j e h'.lt; have := h'.lo i e; omega
  · exact e
  · have := h'.hi i e h.lt; have := h.lo j e; omega

def bestK (L xs : List Int) : Nat → Nat
  | 0 => 0
  | k + 1 => if lvA L (xs.getD k 0) < lvA L (xs.getD (bestK L xs k) 0) then k else bestK L xs k

theorem bestK_best (L xs : List Int) : ∀ k, IsBest L xs (k + 1) (bestK L xs (k + 1))
  | 0 => by
    have : bestK L xs 1 = 0 := by simp [bestK]
    rw [this]
    exact ⟨by omega, fun j h => absurd h (by omega), fun j h1 h2 => absurd h2 (by omega)⟩
  | k + 1 => by
    have ih := bestK_best L xs k
    show IsBest L xs (k + 2) (if lvA L (xs.getD (k + 1) 0) < lvA L (xs.getD (bestK L xs (k + 1)) 0) then k + 1 else bestK L xs (k + 1))
    generalize bestK L xs (k + 1) = b at ih
    split
    · next h =>
      refine ⟨by omega, fun j hj => ?_, fun j h1 h2 => absurd h2 (by omega)⟩
      rcases Nat.lt_trichotomy j b with e | e | e
      · have := ih.lo j e; omega
      · subst e; exact h
      · have := ih.hi j e (by omega); omega
    · next h =>
      refine ⟨by have := ih.lt; omega, ih.lo, fun j h1 h2 => ?_⟩
      by_cases e : j = k + 1
      · subst e; omega
      · exact ih.hi j h1 (by omega)

/-- The next one: lowest but for a. -/
structure IsNext (L xs : List Int) (k a b : Nat) : Prop where
  lt : b < k
  ne : b ≠ a
  lo : ∀ j, j < b → j ≠ a → lvA L (xs.getD b 0) < lvA L (xs.getD j 0)
  hi : ∀ j, b < j → j < k → j ≠ a → lvA L (xs.getD b 0) ≤ lvA L (xs.getD j 0)

def upI (a j : Nat) : Nat := if j < a then j else j + 1

theorem getD_erase (xs : List Int) (a j : Nat) : (xs.eraseIdx a).getD j 0 = xs.getD (upI a j) 0 := by
  rw [List.getD_eq_getElem?_getD, List.getD_eq_getElem?_getD, List.getElem?_eraseIdx]
  unfold upI
  split <;> rfl

theorem IsNext.erase {L xs : List Int} {k a b : Nat} (ha : a < k + 1) (h : IsNext L xs (k + 1) a b) : ∃ j, b = upI a j ∧ IsBest L (xs.eraseIdx a) k j := by
  refine ⟨if b < a then b else b - 1, ?_, ?_⟩
  · have := h.ne
    unfold upI
    by_cases e : b < a
    · rw [if_pos e, if_pos e]
    · rw [if_neg e, if_neg (by omega)]; omega
  · have hne := h.ne
    have hlt := h.lt
    have e : upI a (if b < a then b else b - 1) = b := by
      unfold upI
      by_cases e : b < a
      · rw [if_pos e, if_pos e]
      · rw [if_neg e, if_neg (by omega)]; omega
    refine ⟨by split <;> omega, fun j hj => ?_, fun j h1 h2 => ?_⟩
    · rw [getD_erase, getD_erase, e]
      refine h.lo _ ?_ ?_ <;> (unfold upI; split at hj <;> split <;> omega)
    · rw [getD_erase, getD_erase, e]
      refine h.hi _ ?_ ?_ ?_ <;> (unfold upI; split at h1 <;> split <;> omega)

/-- A list without some places. -/
def keepI (p : Nat → Bool) : List Int → Nat → List Int
  | [], _ => []
  | x :: xs, k => if p k then keepI p xs (k + 1) else x :: keepI p xs (k + 1)

theorem keepI_shift (p : Nat → Bool) : ∀ (xs : List Int) (k : Nat), keepI p xs (k + 1) = keepI (fun i => p (i + 1)) xs k
  | [], _ => rfl
  | x :: xs, k => by simp only [keepI, keepI_shift p xs (k + 1)]

theorem keepI_congr {p q : Nat → Bool} : ∀ (xs : List Int) (k : Nat), (∀ i, k ≤ i → p i = q i) → keepI p xs k = keepI q xs k
  | [], _, _ => rfl
  | x :: xs, k, h => by simp only [keepI, h k (Nat.le_refl _), keepI_congr xs (k + 1) fun i hi => h i (by omega)]

theorem keepI_none : ∀ (xs : List Int) (k : Nat), keepI (fun _ => false) xs k = xs
  | [], _ => rfl
  | x :: xs, k => by simp [keepI, keepI_none xs (k + 1)]

theorem keepI_one : ∀ (xs : List Int) (a : Nat), xs.eraseIdx a = keepI (fun i => i == a) xs 0
  | [], _ => rfl
  | x :: xs, 0 => by
    simp only [List.eraseIdx_cons_zero, keepI, beq_self_eq_true, if_true]
    rw [keepI_shift, show (fun i => (i + 1 == 0)) = (fun _ : Nat => false) by funext i; simp, keepI_none]
  | x :: xs, a + 1 => by
    simp only [List.eraseIdx_cons_succ, keepI]
    rw [if_neg (by simp), keepI_shift, keepI_one xs a]
    congr 1
    exact keepI_congr _ _ fun i _ => by simp

theorem keepI_two : ∀ (xs : List Int) (a j : Nat), (xs.eraseIdx a).eraseIdx j = keepI (fun i => i == a || i == upI a j) xs 0
  | [], _, _ => rfl
  | x :: xs, 0, j => by
    simp only [List.eraseIdx_cons_zero, keepI, beq_self_eq_true, Bool.true_or, if_true]
    rw [keepI_shift, keepI_one]
    exact keepI_congr _ _ fun i _ => by simp [upI]
  | x :: xs, a + 1, 0 => by
    simp only [List.eraseIdx_cons_succ, List.eraseIdx_cons_zero, keepI]
    rw [if_pos (by simp [upI]), keepI_shift, keepI_one]
    exact keepI_congr _ _ fun i _ => by simp [upI]
  | x :: xs, a + 1, j + 1 => by
    simp only [List.eraseIdx_cons_succ, keepI]
    rw [if_neg (by simp [upI]; split <;> omega), keepI_shift, keepI_two xs a j]
    congr 1
    exact keepI_congr _ _ fun i _ => by
      unfold upI
      by_cases h : j < a
      · rw [if_pos h, if_pos (by omega)]; simp
      · rw [if_neg h, if_neg (by omega)]; simp

theorem keepI_snoc (p : Nat → Bool) (x : Int) : ∀ (xs : List Int) (k : Nat), keepI p (xs ++ [x]) k = keepI p xs k ++ (if p (k + xs.length) then [] else [x])
  | [], k => by simp [keepI]
  | y :: xs, k => by
    simp only [List.cons_append, keepI, keepI_snoc p x xs (k + 1), List.length_cons]
    rw [show k + 1 + xs.length = k + (xs.length + 1) by omega]
    split <;> simp

theorem keepI_take {p : Nat → Bool} {xs : List Int} {k : Nat} {x : Int} (h : xs[k]? = some x) : keepI p (xs.take (k + 1)) 0 = keepI p (xs.take k) 0 ++ (if p k then [] else [x]) := by
  have hk := (List.getElem?_eq_some_iff.1 h).1
  rw [List.take_add_one, h, Option.toList_some, keepI_snoc, Nat.zero_add, List.length_take, Nat.min_eq_left (by omega)]

/-! The join of a list of literals. -/

def pkI (L xs : List Int) : Nat := bestK L xs xs.length

def pkX (L xs : List Int) : Int := xs.getD (pkI L xs) 0

def pkR (L xs : List Int) : List Int := xs.eraseIdx (pkI L xs)

theorem pkI_best {L xs : List Int} (h : 0 < xs.length) : IsBest L xs xs.length (pkI L xs) := by
  obtain ⟨n, hn⟩ : ∃ n, xs.length = n + 1 := ⟨xs.length - 1, by omega⟩
  unfold pkI; rw [hn]; exact bestK_best L xs n

theorem pkI_lt {L xs : List Int} (h : 0 < xs.length) : pkI L xs < xs.length := (pkI_best h).lt

theorem pkX_mem {L xs : List Int} (h : 0 < xs.length) : pkX L xs ∈ xs := by
  unfold pkX
  rw [List.getD_eq_getElem?_getD, List.getElem?_eq_getElem (pkI_lt h)]
  exact List.getElem_mem _

theorem pkR_len {L xs : List Int} (h : 0 < xs.length) : (pkR L xs).length = xs.length - 1 := by
  unfold pkR; rw [List.length_eraseIdx, if_pos (pkI_lt h)]

theorem pkR_mem {L xs : List Int} {x : Int} (h : x ∈ pkR L xs) : x ∈ xs := List.mem_of_mem_eraseIdx h

theorem all_erase (p : Int → Bool) : ∀ (xs : List Int) (i : Nat), i < xs.length → xs.all p = (p (xs.getD i 0) && (xs.eraseIdx i).all p)
  | [], _, h => by simp at h
  | x :: xs, 0, _ => by simp
  | x :: xs, i + 1, h => by
    have := all_erase p xs i (by simpa using h)
    simp only [List.all_cons, List.eraseIdx_cons_succ, this, List.getD_cons_succ]
    rw [← Bool.and_assoc, Bool.and_comm (p x), Bool.and_assoc]

theorem pk_all {L xs : List Int} (h : 0 < xs.length) (p : Int → Bool) : xs.all p = (p (pkX L xs) && (pkR L xs).all p) := all_erase p xs _ (pkI_lt h)

def joinS (F : Nat) (gs : List Gt) (xs : List Int) : List Gt × Int := andL F gs (pkX (lvlL F gs) xs) (pkX (lvlL F gs) (pkR (lvlL F gs) xs))

def joinX (F : Nat) (gs : List Gt) (xs : List Int) : List Int := pkR (lvlL F gs) (pkR (lvlL F gs) xs) ++ [(joinS F gs xs).2]

def joinL (F : Nat) : Nat → List Gt → List Int → List Gt × Int
  | 0, gs, xs => (gs, xs.getD 0 0)
  | f + 1, gs, xs => if xs.length ≤ 1 then (gs, xs.getD 0 0) else joinL F f (joinS F gs xs).1 (joinX F gs xs)

theorem joinX_len {F : Nat} {gs : List Gt} {xs : List Int} (h : 1 < xs.length) : (joinX F gs xs).length = xs.length - 1 := by
  unfold joinX
  rw [List.length_append, pkR_len (by rw [pkR_len (by omega)]; omega), pkR_len (by omega)]
  simp; omega

theorem joinL_end {F f : Nat} {gs : List Gt} {xs : List Int} (h : xs.length ≤ 1) : joinL F f gs xs = (gs, xs.getD 0 0) := by
  cases f with
  | zero => rfl
  | succ f => unfold joinL; rw [if_pos h]

theorem joinL_step {F f : Nat} {gs : List Gt} {xs : List Int} (h : 1 < xs.length) : joinL F (f + 1) gs xs = joinL F f (joinS F gs xs).1 (joinX F gs xs) := by
  show (if xs.length ≤ 1 then _ else _) = _
  rw [if_neg (by omega)]

theorem litP_mono {l v v' : Int} (h : litP l v) (hv : v ≤ v') : litP l v' := by unfold litP at *; omega

structure JnOk (F : Nat) (gs : List Gt) (n : Nat) (r : List Gt × Int) : Prop where
  gates : gatesP F r.1
  lit : litP r.2 (F + r.1.length)
  len : gs.length ≤ r.1.length ∧ r.1.length ≤ gs.length + (n - 1)
  ext : ∃ hs, r.1 = gs ++ hs

theorem joinS_ok {F : Nat} {gs : List Gt} {xs : List Int} (hF : 1 ≤ F) (hg : gatesP F gs) (hx : ∀ l ∈ xs, litP l (F + gs.length)) (h : 1 < xs.length) : AndOk F gs (joinS F gs xs) :=
  andL_ok (by omega) hg (hx _ (pkX_mem (by omega))) (hx _ (pkR_mem (pkX_mem (by rw [pkR_len (by omega)]; omega))))

theorem joinX_lit {F : Nat} {gs : List Gt} {xs : List Int} (hF : 1 ≤ F) (hg : gatesP F gs) (hx : ∀ l ∈ xs, litP l (F + gs.length)) (h : 1 < xs.length) : ∀ l ∈ joinX F gs xs, litP l (F + (joinS F gs xs).1.length) := fun l hl => by
  have hok := joinS_ok hF hg hx h
  rcases List.mem_append.1 hl with h1 | h1
  · exact litP_mono (hx l (pkR_mem (pkR_mem h1))) (by have := hok.len.1; omega)
  · simp at h1; rw [h1]; exact hok.lit

theorem joinL_ok {F : Nat} (hF : 1 ≤ F) : ∀ (f : Nat) {gs : List Gt} {xs : List Int}, gatesP F gs → (∀ l ∈ xs, litP l (F + gs.length)) → 1 ≤ xs.length → xs.length ≤ f + 1 → JnOk F gs xs.length (joinL F f gs xs)
  | f, gs, xs, hg, hx, h1, h2 => by
    by_cases h : xs.length ≤ 1
    · rw [joinL_end h]
      obtain ⟨x, hx0⟩ := get_of_lt (show 0 < xs.length by omega)
      refine ⟨hg, ?_, by simp, [], by simp⟩
      show litP (xs.getD 0 0) _
      rw [List.getD_eq_getElem?_getD, hx0]
      exact hx x (List.mem_of_getElem? hx0)
    · cases f with
      | zero => omega
      | succ f =>
        rw [joinL_step (by omega)]
        have hok := joinS_ok hF hg hx (by omega)
        have hl := joinX_len (F := F) (gs := gs) (xs := xs) (by omega)
        have ih := joinL_ok hF f hok.gates (joinX_lit hF hg hx (by omega)) (by omega) (by omega)
        obtain ⟨hs, e⟩ := ih.ext
        refine ⟨ih.gates, ih.lit, by have := ih.len; have := hok.len; omega, ?_⟩
        rcases andL_ext F gs (pkX (lvlL F gs) xs) (pkX (lvlL F gs) (pkR (lvlL F gs) xs)) with h3 | ⟨g, h3, _⟩
        · exact ⟨hs, by rw [e]; unfold joinS; rw [h3]⟩
        · exact ⟨[g] ++ hs, by rw [e]; unfold joinS; rw [h3]; simp⟩

theorem joinL_val {F : Nat} (hF : 1 ≤ F) {b : List Bool} (hb : Bs F b) : ∀ (f : Nat) {gs : List Gt} {xs : List Int}, gatesP F gs → (∀ l ∈ xs, litP l (F + gs.length)) → 1 ≤ xs.length → xs.length ≤ f + 1 →
    litB (vN b (joinL F f gs xs).1) (joinL F f gs xs).2 = xs.all (litB (vN b gs))
  | f, gs, xs, hg, hx, h1, h2 => by
    by_cases h : xs.length ≤ 1
    · rw [joinL_end h]
      obtain ⟨x, rfl⟩ : ∃ x, xs = [x] := by
        cases xs with
        | nil => simp at h1
        | cons x t => cases t with
          | nil => exact ⟨x, rfl⟩
          | cons y t => simp at h
      simp
    · cases f with
      | zero => omega
      | succ f =>
        rw [joinL_step (by omega)]
        have hok := joinS_ok hF hg hx (by omega)
        have hl := joinX_len (F := F) (gs := gs) (xs := xs) (by omega)
        rw [joinL_val hF hb f hok.gates (joinX_lit hF hg hx (by omega)) (by omega) (by omega)]
        have hp1 : 0 < (pkR (lvlL F gs) xs).length := by rw [pkR_len (by omega)]; omega
        have hv := andL_val hb hg (hx _ (pkX_mem (L := lvlL F gs) (by omega))) (hx _ (pkR_mem (pkX_mem (L := lvlL F gs) hp1)))
        rw [pk_all (L := lvlL F gs) (show 0 < xs.length by omega), pk_all (L := lvlL F gs) hp1]
        unfold joinX
        rw [List.all_append]
        have hsame : (pkR (lvlL F gs) (pkR (lvlL F gs) xs)).all (litB (vN b (joinS F gs xs).1)) = (pkR (lvlL F gs) (pkR (lvlL F gs) xs)).all (litB (vN b gs)) := by
          apply Bool.eq_iff_iff.2
          rw [List.all_eq_true, List.all_eq_true]
          have key : ∀ l ∈ pkR (lvlL F gs) (pkR (lvlL F gs) xs), litB (vN b (joinS F gs xs).1) l = litB (vN b gs) l := fun l hl => by
            rcases andL_ext F gs (pkX (lvlL F gs) xs) (pkX (lvlL F gs) (pkR (lvlL F gs) xs)) with h3 | ⟨g, h3, _⟩
            · unfold joinS; rw [h3]
            · unfold joinS; rw [h3]; exact litB_app hb.len (hx l (pkR_mem (pkR_mem hl)))
          exact ⟨fun h l hl => by rw [← key l hl]; exact h l hl, fun h l hl => by rw [key l hl]; exact h l hl⟩
        rw [hsame]
        simp only [List.all_cons, List.all_nil, Bool.and_true]
        rw [show litB (vN b (joinS F gs xs).1) (joinS F gs xs).2 = _ from hv]
        rw [Bool.and_comm, Bool.and_assoc]

/-! The circuit rebuilt. -/

def balS (c : Cir) (st : List Gt × List Int) (k : Nat) : List Gt × Int := joinL c.first.toNat (Lv c k).length st.1 ((Lv c k).map (mapB st.2))

def balP (c : Cir) : Nat → List Gt × List Int
  | 0 => ([], evE c.first.toNat)
  | k + 1 => ((balS c (balP c k) k).1, (balP c k).2 ++ [(balS c (balP c k) k).2])

structure BalOk (c : Cir) (k : Nat) (st : List Gt × List Int) : Prop where
  gates : gatesP c.first.toNat st.1
  lits : ∀ x ∈ st.2, litP x (c.first.toNat + st.1.length)
  mlen : st.2.length = c.first.toNat + k
  glen : 2 * st.1.length ≤ k * (k + 1)

theorem balL_lit {c : Cir} (hv : c.valid) {k : Nat} {st : List Gt × List Int} (h : BalOk c k st) (hk : k < c.gates.length) : ∀ l ∈ (Lv c k).map (mapB st.2), litP l (c.first.toNat + st.1.length) := fun l hl => by
  obtain ⟨x, hx, rfl⟩ := List.mem_map.1 hl
  obtain ⟨h0, h1⟩ := Lv_mem hv k hk x hx
  have hf := (valid_first hv).1
  exact mapB_litP h.lits h0 (by rw [h.mlen]; omega)

theorem balS_ok {c : Cir} (hv : c.valid) {k : Nat} {st : List Gt × List Int} (h : BalOk c k st) (hk : k < c.gates.length) : JnOk c.first.toNat st.1 (Lv c k).length (balS c st k) := by
  have hf := (valid_first hv).1
  have h2 := Lv_two hv k hk
  have := joinL_ok (F := c.first.toNat) (by omega) (Lv c k).length h.gates (balL_lit hv h hk) (by simp; omega) (by simp)
  rw [List.length_map] at this
  exact this

theorem balP_ok {c : Cir} (hv : c.valid) : ∀ k, k ≤ c.gates.length → BalOk c k (balP c k)
  | 0, _ => by
    have hf := (valid_first hv).1
    refine ⟨fun i hi => by simp [balP] at hi, fun x hx => ?_, by simp [balP, evE_length], by simp [balP]⟩
    obtain ⟨i, hi, rfl⟩ := List.mem_map.1 hx
    have := List.mem_range.1 hi
    unfold litP; simp [balP]; omega
  | k + 1, hk => by
    have ih := balP_ok hv k (by omega)
    have hs := balS_ok hv ih (by omega)
    have hl := Lv_small hv (k := k) (by omega)
    have he : (k + 1) * (k + 1 + 1) = k * (k + 1) + 2 * (k + 1) := by rw [Nat.mul_comm (k + 1) (k + 1 + 1), ← Nat.add_mul]
    refine ⟨hs.gates, fun x hx => ?_, by show ((balP c k).2 ++ [_]).length = _; rw [List.length_append, ih.mlen]; simp; omega, ?_⟩
    · rcases List.mem_append.1 hx with h | h
      · exact litP_mono (ih.lits x h) (by have := hs.len.1; show _ ≤ ((c.first.toNat : Nat) : Int) + ((balS c (balP c k) k).1.length : Int); omega)
      · simp at h; rw [h]; exact hs.lit
    · show 2 * (balS c (balP c k) k).1.length ≤ _
      have h1 := hs.len.2
      have h2 := ih.glen
      omega

def balC (c : Cir) : Cir := ⟨c.inp, c.next.map (mapB (balP c c.gates.length).2), (balP c c.gates.length).1, c.outs.map (mapB (balP c c.gates.length).2)⟩

theorem balP_small {c : Cir} (hv : c.valid) {k : Nat} (hk : k ≤ c.gates.length) : (balP c k).1.length ≤ 105 := by
  have h1 := (balP_ok hv k hk).glen
  have h2 := hv.lim.2.2.2.1
  have h3 : k * (k + 1) ≤ 14 * 15 := Nat.mul_le_mul (by omega) (by omega)
  omega

theorem balC_wide {c : Cir} (hv : c.valid) : (balC c).wide := by
  have hf := (valid_first hv).1
  have hok := balP_ok hv c.gates.length (Nat.le_refl _)
  have hs := balP_small hv (Nat.le_refl c.gates.length)
  have hF : (balC c).first = (c.first.toNat : Int) := by show 1 + c.inp + ((c.next.map _).length : Int) = _; rw [List.length_map]; unfold Cir.first at hf ⊢; omega
  have hV : (balC c).vars = (c.first.toNat : Int) + ((balP c c.gates.length).1.length : Int) := by
    show 1 + c.inp + ((c.next.map _).length : Int) + _ = _
    rw [List.length_map]; unfold Cir.first at hf ⊢; show 1 + c.inp + (c.next.length : Int) + ((balP c c.gates.length).1.length : Int) = _; omega
  have key : ∀ l, litP l c.vars → litP (mapB (balP c c.gates.length).2 l) (balC c).vars := fun l hl => by
    rw [hV]
    have eV : c.vars = c.first + c.gates.length := rfl
    unfold litP at hl
    exact mapB_litP hok.lits (by omega) (by rw [hok.mlen]; omega)
  refine ⟨⟨hv.lim.1, hv.lim.2.1, by show (c.next.map _).length ≤ 3; rw [List.length_map]; exact hv.lim.2.2.1, by show (balP c c.gates.length).1.length ≤ 120; omega, by show (c.outs.map _).length ≤ 3; rw [List.length_map]; exact hv.lim.2.2.2.2⟩, by rw [hF]; exact hok.gates, fun l hl => ?_, fun l hl => ?_⟩
  · obtain ⟨x, hx, rfl⟩ := List.mem_map.1 hl; exact key x (hv.next x hx)
  · obtain ⟨x, hx, rfl⟩ := List.mem_map.1 hl; exact key x (hv.outs x hx)

theorem balP_val {c : Cir} (hv : c.valid) (x : Int) : ∀ k, k ≤ c.gates.length → ∀ v, v < c.first.toNat + k → litB (vN (asgV c x) (balP c k).1) ((balP c k).2.getD v 0) = (vN (asgV c x) c.gates).getD v false
  | 0, _, v, hlt => by
    have hb := asgV_Bs (Cir.valid.wide hv) x
    show litB (vN (asgV c x) []) ((evE c.first.toNat).getD v 0) = _
    rw [evE_getD (by omega), litB_nat]
    have := getD_app (b := asgV c x) (gs := []) (hs := c.gates) (v := v) (by rw [hb.len]; simp; omega)
    rw [List.nil_append] at this
    exact this.symm
  | k + 1, hk, v, hlt => by
    have hb := asgV_Bs (Cir.valid.wide hv) x
    have hf := (valid_first hv).1
    have ih := balP_val hv x k (by omega)
    have hok := balP_ok hv k (by omega)
    have hs := balS_ok hv hok (by omega)
    obtain ⟨hs2, he⟩ := hs.ext
    by_cases e : v < c.first.toNat + k
    · show litB (vN _ (balS c (balP c k) k).1) (((balP c k).2 ++ [_]).getD v 0) = _
      rw [getD_snoc_lt (by rw [hok.mlen]; exact e), he, litB_app hb.len, ih v e]
      obtain ⟨y, hy⟩ := get_of_lt (l := (balP c k).2) (k := v) (by rw [hok.mlen]; exact e)
      rw [List.getD_eq_getElem?_getD, hy]
      exact hok.lits y (List.mem_of_getElem? hy)
    · have hve : v = c.first.toNat + k := by omega
      show litB (vN _ (balS c (balP c k) k).1) (((balP c k).2 ++ [_]).getD v 0) = _
      rw [getD_snoc_at (by rw [hok.mlen]; exact hve)]
      have h2 := Lv_two hv k (by omega)
      have hj := joinL_val (F := c.first.toNat) (by omega) hb (Lv c k).length hok.gates (balL_lit hv hok (by omega)) (by simp; omega) (by simp)
      rw [show litB (vN (asgV c x) (balS c (balP c k) k).1) (balS c (balP c k) k).2 = _ from hj]
      have ha := Lv_all hv x k (by omega)
      rw [evalV_vN] at ha
      have hc : ((Lv c k).map (mapB (balP c k).2)).all (litB (vN (asgV c x) (balP c k).1)) = (Lv c k).all (litB (vN (asgV c x) c.gates)) := by
        rw [List.all_map]
        apply Bool.eq_iff_iff.2
        rw [List.all_eq_true, List.all_eq_true]
        have key : ∀ l ∈ Lv c k, (litB (vN (asgV c x) (balP c k).1) ∘ mapB (balP c k).2) l = litB (vN (asgV c x) c.gates) l := fun l hl => by
          obtain ⟨h0, h1⟩ := Lv_mem hv k (by omega) l hl
          exact litB_mapB (ih _ (by omega))
        exact ⟨fun h l hl => by rw [← key l hl]; exact h l hl, fun h l hl => by rw [key l hl]; exact h l hl⟩
      rw [hc, ha, hve, show 2 * (c.first + (k : Int)) = 2 * (((c.first.toNat + k : Nat)) : Int) by omega, litB_nat]

theorem balC_res {c : Cir} (hv : c.valid) (x : Int) : resV (balC c) x (-1) false = resV c x (-1) false := by
  have ea : asgV (balC c) x = asgV c x := by unfold asgV balC; simp
  have hf := (valid_first hv).1
  unfold resV
  rw [evalV_vN, evalV_vN, ea]
  show (c.next.map (mapB (balP c c.gates.length).2) ++ c.outs.map (mapB (balP c c.gates.length).2)).map _ = _
  rw [← List.map_append, List.map_map]
  apply List.map_congr_left
  intro l hl
  have h1 : litP l c.vars := by
    rcases List.mem_append.1 hl with h | h
    · exact hv.next l h
    · exact hv.outs l h
  have eV : c.vars = c.first + c.gates.length := rfl
  unfold litP at h1
  exact litB_mapB (balP_val hv x _ (Nat.le_refl _) _ (by omega))

/-! Depth, and the choice. -/

def mxL (L : List Int) : Int := L.foldl max 0

def depC (c : Cir) : Int := mxL ((c.next ++ c.outs).map (lvA (lvlL c.first.toNat c.gates)))

def balR (c : Cir) : Cir :=
  if c.validB then
    if (optC (balC (optC c))).validB = false ∨ depC (optC c) < depC (optC (balC (optC c))) ∨ (depC (optC (balC (optC c))) = depC (optC c) ∧ (optC c).gates.length < (optC (balC (optC c))).gates.length) then optC c else optC (balC (optC c))
  else ⟨0, [], [], []⟩

theorem balR_no {c : Cir} (h : c.validB = false) : balR c = ⟨0, [], [], []⟩ := by unfold balR; rw [h]; rfl

theorem balR_or {c : Cir} (h : c.validB = true) : balR c = optC c ∨ (balR c = optC (balC (optC c)) ∧ (optC (balC (optC c))).validB = true ∧ ¬ depC (optC c) < depC (optC (balC (optC c))) ∧ ¬ (depC (optC (balC (optC c))) = depC (optC c) ∧ (optC c).gates.length < (optC (balC (optC c))).gates.length)) := by
  unfold balR
  rw [if_pos h]
  split
  · exact .inl rfl
  · next hn =>
    refine .inr ⟨rfl, ?_, fun h => hn (.inr (.inl h)), fun h => hn (.inr (.inr h))⟩
    cases hv : (optC (balC (optC c))).validB
    · exact absurd (.inl hv) hn
    · rfl

theorem balR_valid {c : Cir} (hv : c.valid) : (balR c).valid := by
  rcases balR_or (c.validB_iff.2 hv) with h | ⟨h, h2, _⟩
  · rw [h]; exact optC_valid hv
  · rw [h]; exact (Cir.validB_iff _).1 h2

theorem balR_res {c : Cir} (hv : c.valid) (x : Int) : resV (balR c) x (-1) false = resV c x (-1) false := by
  have ho := optC_valid hv
  rcases balR_or (c.validB_iff.2 hv) with h | ⟨h, _⟩
  · rw [h]; exact optC_res hv x
  · rw [h, optC_res (balC_wide ho), balC_res ho, optC_res hv]

end Go.Proofs.Ytjecchljhdfjdaa
