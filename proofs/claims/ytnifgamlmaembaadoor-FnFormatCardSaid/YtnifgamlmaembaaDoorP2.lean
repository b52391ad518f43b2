import Derived.Test.YtnifgamlmaembaaDoorA4
import Derived.Test.YtnifgamlmaembaaDoorQ1
namespace Go.Proofs.YtnifgamlmaembaaDoor
set_option linter.unusedVariables false
set_option linter.unusedSimpArgs false
open Go.RowKit

/-- A slice of slices that the call made: the rows lie in blocks of their own. -/
def OwnSS (w : World) (base : Nat) (v : Value) (rows : List (List Int)) : Prop :=
  ∃ vs : List Value, w.ownsRow base 22 1 v rows.length vs ∧ (∀ (i : Nat) (r : List Int), rows[i]? = some r → ∃ u, vs[i]? = some u ∧ w.ownsRow base 3 1 u r.length (ints r)) ∧
    ∀ (i j : Nat) (u u' : Value) (k : Nat), vs[i]? = some u → vs[j]? = some u' → u.ownBlock = some k → u'.ownBlock = some k → i = j
theorem OwnSS.shape {w : World} {base : Nat} {v : Value} {rows : List (List Int)} (h : OwnSS w base v rows) : ∃ s c, v = .slice s rows.length c := by
  obtain ⟨vs, h1, _⟩ := h; exact own_shape h1
theorem OwnSS.sls {w : World} {base : Nat} {s : Option Addr} {c : Nat} {rows : List (List Int)} (h : OwnSS w base (.slice s rows.length c) rows) : SlS w s rows := by
  obtain ⟨vs, h1, h2, _⟩ := h
  refine ⟨vs, by simpa using h1.1, own_sl h1, fun i r hr => ?_⟩
  obtain ⟨u, hu, ho⟩ := h2 i r hr
  obtain ⟨si, ci, rfl⟩ := own_shape ho
  exact ⟨si, ci, hu, own_sl ho⟩
theorem OwnSS.below {w w' : World} {base : Nat} {v : Value} {rows : List (List Int)} (h : OwnSS w base v rows) (hb : Below w.heap.size w w') : OwnSS w' base v rows := by
  obtain ⟨vs, h1, h2, h3⟩ := h
  exact ⟨vs, own_below h1 hb, fun i r hr => let ⟨u, hu, ho⟩ := h2 i r hr; ⟨u, hu, own_below ho hb⟩, h3⟩

def lit25 (l : Int) : Prop := l ≠ 0 ∧ -25 ≤ l ∧ l ≤ 25
instance (l : Int) : Decidable (lit25 l) := inferInstanceAs (Decidable (_ ∧ _))
def clauseP (r : List Int) : Prop := r.length ≤ 3 ∧ ∀ l ∈ r, lit25 l
instance (r : List Int) : Decidable (clauseP r) := inferInstanceAs (Decidable (_ ∧ _))
def clausesP (rows : List (List Int)) : Prop := rows.length ≤ 80 ∧ ∀ r ∈ rows, clauseP r
instance (rows : List (List Int)) : Decidable (clausesP rows) := inferInstanceAs (Decidable (_ ∧ _))
def clausesB (rows : List (List Int)) : Bool := decide (clausesP rows)
theorem clausesB_true {rows : List (List Int)} (h : clausesP rows) : clausesB rows = true := by simpa [clausesB] using h
theorem clausesB_false {rows : List (List Int)} (h : ¬ clausesP rows) : clausesB rows = false := by simpa [clausesB] using h
theorem all_snoc {α : Type} {P : α → Prop} {l : List α} {k : Nat} {x : α} (h : ∀ y ∈ l.take k, P y) (hx : l[k]? = some x) (h1 : P x) : ∀ y ∈ l.take (k + 1), P y := by
  rw [List.take_add_one, hx]
  intro y hy
  rcases List.mem_append.1 hy with hy | hy
  · exact h y hy
  · simp at hy; subst hy; exact h1

/-! Rows of literals: a [][]int whose rows lie in blocks of their own, in rising order. -/

def rowV (b : Nat) (r : List Int) : Value := .slice (some ⟨b, 0, none⟩) r.length r.length
def rowVs (bs : List Nat) (rows : List (List Int)) : List Value := List.zipWith rowV bs rows
theorem rowVs_get {bs : List Nat} {rows : List (List Int)} {i b : Nat} {r : List Int} (h1 : bs[i]? = some b) (h2 : rows[i]? = some r) : (rowVs bs rows)[i]? = some (rowV b r) := by
  unfold rowVs; rw [List.getElem?_zipWith, h1, h2]
theorem rowVs_length {bs : List Nat} {rows : List (List Int)} (h : bs.length = rows.length) : (rowVs bs rows).length = rows.length := by
  unfold rowVs; rw [List.length_zipWith, h]; simp
structure RowsAt (w : World) (base : Nat) (v : Value) (bs : List Nat) (rows : List (List Int)) : Prop where
  out : w.ownsRow base 22 1 v rows.length (rowVs bs rows)
  len : bs.length = rows.length
  blk : ∀ (i b : Nat) (r : List Int), bs[i]? = some b → rows[i]? = some r → w.heap[b]? = some (.cells (ints r).toArray 3 (0, 0)) ∧ base ≤ b
  inc : bs.Pairwise (· < ·)
theorem RowsAt.get {w : World} {base : Nat} {v : Value} {bs : List Nat} {rows : List (List Int)} (h : RowsAt w base v bs rows) {i : Nat} {r : List Int} (hr : rows[i]? = some r) : ∃ b, bs[i]? = some b := by
  have := (List.getElem?_eq_some_iff.1 hr).1
  exact get_of_lt (by rw [h.len]; exact this)
theorem RowsAt.sls {w : World} {base : Nat} {s : Option Addr} {c : Nat} {bs : List Nat} {rows : List (List Int)} (h : RowsAt w base (.slice s rows.length c) bs rows) : SlS w s rows := by
  refine ⟨rowVs bs rows, rowVs_length h.len, own_sl h.out, fun i r hr => ?_⟩
  obtain ⟨b, hb⟩ := h.get hr
  exact ⟨_, _, rowVs_get hb hr, Sl.toA (h.blk i b r hb hr).1⟩
theorem RowsAt.below {w w' : World} {base : Nat} {v : Value} {bs : List Nat} {rows : List (List Int)} (h : RowsAt w base v bs rows) (hb : Below w.heap.size w w') : RowsAt w' base v bs rows :=
  ⟨own_below h.out hb, h.len, fun i b r h1 h2 => ⟨blk_below hb (blk_lt (h.blk i b r h1 h2).1) (h.blk i b r h1 h2).1, (h.blk i b r h1 h2).2⟩, h.inc⟩
theorem RowsAt.lt {w : World} {base : Nat} {v : Value} {bs : List Nat} {rows : List (List Int)} (h : RowsAt w base v bs rows) {b : Nat} (hb : b ∈ bs) : base ≤ b ∧ b < w.heap.size := by
  obtain ⟨i, hi⟩ := List.mem_iff_getElem?.1 hb
  obtain ⟨r, hr⟩ := get_of_lt (l := rows) (k := i) (by rw [← h.len]; exact (List.getElem?_eq_some_iff.1 hi).1)
  exact ⟨(h.blk i b r hi hr).2, blk_lt (h.blk i b r hi hr).1⟩
theorem own_tyb {w : World} {base : Nat} {e : TypeId} {size n : Nat} {v : Value} {xs : List Value} (h : w.ownsRow base e size v n xs) {b : Nat} {arr : Array Value} {t : TypeId} {fz : Nat × Nat} (hb : w.heap[b]? = some (.cells arr t fz)) (he : e ≠ t) : v.ownBlock ≠ some b := by
  intro hk
  rcases h.2 with ⟨rfl, _⟩ | ⟨g, cap, cur, rfl, _, hg, _⟩
  · cases hk
  · simp only [Value.ownBlock, Option.some.injEq] at hk
    subst hk
    rw [hg] at hb
    simp only [Option.some.injEq, Obj.cells.injEq] at hb
    exact he hb.2.1
theorem RowsAt.push {w w2 : World} {base : Nat} {v v' : Value} {bs nb : List Nat} {rows nr : List (List Int)} (h : RowsAt w base v bs rows) (hl : nb.length = nr.length)
    (hn : ∀ (i b : Nat) (r : List Int), nb[i]? = some b → nr[i]? = some r → w.heap[b]? = some (.cells (ints r).toArray 3 (0, 0)) ∧ base ≤ b) (hi : (bs ++ nb).Pairwise (· < ·))
    (hg : w.grownBy w2 v.ownBlock) (ho : w2.ownsRow base 22 1 v' (rows.length + nr.length) (rowVs bs rows ++ rowVs nb nr)) : RowsAt w2 base v' (bs ++ nb) (rows ++ nr) := by
  have keep : ∀ (b : Nat) (r : List Int), w.heap[b]? = some (.cells (ints r).toArray 3 (0, 0)) → w2.heap[b]? = some (.cells (ints r).toArray 3 (0, 0)) := fun b r hb => by
    rw [hg.block b (blk_lt hb) (fun e => own_tyb h.out hb (by decide) e.symm)]; exact hb
  refine ⟨?_, by simp [h.len, hl], fun i b r h1 h2 => ?_, hi⟩
  · have e : rowVs (bs ++ nb) (rows ++ nr) = rowVs bs rows ++ rowVs nb nr := by unfold rowVs; exact List.zipWith_append h.len
    rw [e, List.length_append]; exact ho
  · by_cases hlt : i < rows.length
    · rw [List.getElem?_append_left (by rw [h.len]; exact hlt)] at h1
      rw [List.getElem?_append_left hlt] at h2
      exact ⟨keep b r (h.blk i b r h1 h2).1, (h.blk i b r h1 h2).2⟩
    · rw [List.getElem?_append_right (by rw [h.len]; omega), h.len] at h1
      rw [List.getElem?_append_right (by omega)] at h2
      exact ⟨keep b r (hn _ b r h1 h2).1, (hn _ b r h1 h2).2⟩
theorem pw_append {bs nb : List Nat} (h1 : bs.Pairwise (· < ·)) (h2 : nb.Pairwise (· < ·)) (m : Nat) (h3 : ∀ b ∈ bs, b < m) (h4 : ∀ b ∈ nb, m ≤ b) : (bs ++ nb).Pairwise (· < ·) :=
  List.pairwise_append.2 ⟨h1, h2, fun a ha b hb => Nat.lt_of_lt_of_le (h3 a ha) (h4 b hb)⟩
theorem RowsAt.nil (w : World) (base : Nat) : RowsAt w base (.slice none 0 0) [] [] := ⟨World.ownsRow_nil _ _ _ _, rfl, by simp, List.Pairwise.nil⟩

def markR : Int → List (List Int) → List (List Int)
  | _, [] => []
  | k, r :: rs => iota k r.length :: markR (k + r.length) rs
theorem markR_length : ∀ (k : Int) (rows : List (List Int)), (markR k rows).length = rows.length
  | _, [] => rfl
  | k, r :: rs => by simp [markR, markR_length (k + r.length) rs]
theorem markR_get : ∀ {k : Int} {rows : List (List Int)} {i : Nat} {r : List Int}, rows[i]? = some r → (markR k rows)[i]? = some (iota (k + lens (rows.take i)) r.length)
  | _, [], _, _, h => by simp at h
  | k, q :: rs, 0, r, h => by simp at h; subst h; simp [markR, lens]
  | k, q :: rs, i + 1, r, h => by
    have := markR_get (k := k + q.length) (rows := rs) (i := i) (r := r) (by simpa using h)
    simp only [markR, List.getElem?_cons_succ, this, List.take_succ_cons]
    congr 2
    unfold lens; simp; omega
theorem own_exact {w : World} {base : Nat} {e : TypeId} {b n : Nat} {xs : List Value} (h : w.ownsRow base e 1 (.slice (some ⟨b, 0, none⟩) n n) n xs) : w.heap[b]? = some (.cells xs.toArray e (0, 0)) := by
  rcases h.2 with ⟨e, _⟩ | ⟨g, cap, cur, e, _, hg, _, _, hs, ht⟩
  · simp at e
  · simp only [Value.slice.injEq, Option.some.injEq, Addr.mk.injEq, and_true, true_and] at e
    obtain ⟨rfl, rfl⟩ := e
    rw [hg, ← ht, List.take_of_length_le (by rw [Array.length_toList, hs]; simp)]
theorem own_row {w : World} {b : Nat} {r : List Int} (h : w.heap[b]? = some (.cells (ints r).toArray 3 (0, 0))) (hl : r.length ≤ 1048576) : w.ownsRow 0 3 1 (rowV b r) r.length (ints r) := by
  have := own_of_blk (base := 0) (size := 1) (n := r.length) h (Nat.zero_le _) (by simp) (by unfold maxLen; omega)
  unfold rowV; simpa using this

end Go.Proofs.YtnifgamlmaembaaDoor
