import Derived.Test.YtaboipnigeaopaaQ1
import Derived.Test.YtaboipnigeaopaaV2
namespace Go.Proofs.Ytaboipnigeaopaa
set_option linter.unusedVariables false
set_option linter.unusedSimpArgs false
open Go.RowKit

/-! []bool and [][]bool: copies, comparisons, marks. -/

def jota (k : Int) (n : Nat) : List Bool := (List.range n).map fun (i : Nat) => ((k + i) % 3 == 0)
theorem jota_length (k : Int) (n : Nat) : (jota k n).length = n := by simp [jota]
theorem jota_get {k : Int} {n j : Nat} (h : j < n) : (jota k n)[j]? = some (((k + j) % 3 == 0)) := by simp [jota, h]

/-- A slice of slices of Booleans reads as these rows. -/
def SlB (w : World) (s : Option Addr) (rows : List (List Bool)) : Prop :=
  ∃ vs : List Value, vs.length = rows.length ∧ Sl w s vs ∧ ∀ (i : Nat) (r : List Bool), rows[i]? = some r → ∃ si ci, vs[i]? = some (Value.slice si r.length ci) ∧ Sl w si (bools r)

theorem SlB.row {w wr : World} {s : Option Addr} {rows : List (List Bool)} (h : SlB w s rows) (hbl : Below w.heap.size w wr) {k : Nat} {r : List Bool} (hr : rows[k]? = some r) :
    ∃ b off si ci, s = some ⟨b, off, none⟩ ∧ b < w.heap.size ∧ wr.cell? ⟨b, off + k, none⟩ = some (.slice si r.length ci) ∧ Sl w si (bools r) := by
  obtain ⟨vs, hv, hs, hrow⟩ := h
  obtain ⟨si, ci, hvk, hsi⟩ := hrow k r hr
  obtain ⟨b, off, rfl, hbw, hcs⟩ := hs.at (k := k) (List.getElem?_eq_some_iff.1 hvk).1
  exact ⟨b, off, si, ci, rfl, hbw, by rw [hbl.cell (by exact hbw)]; exact hcs _ _ hvk, hsi⟩
theorem SlB.mono {w w' : World} {s : Option Addr} {rows : List (List Bool)} (h : SlB w s rows) (hb : Below w.heap.size w w') : SlB w' s rows := by
  obtain ⟨vs, hv, hs, hrow⟩ := h
  exact ⟨vs, hv, hs.mono hb, fun i r hr => let ⟨si, ci, h1, h2⟩ := hrow i r hr; ⟨si, ci, h1, h2.mono hb⟩⟩

def lenB (rows : List (List Bool)) : Int := (rows.map (fun r => (r.length : Int))).sum
theorem lenB_nil : lenB [] = 0 := rfl
theorem lenB_snoc {rows : List (List Bool)} {k : Nat} {r : List Bool} (h : rows[k]? = some r) : lenB (rows.take (k + 1)) = lenB (rows.take k) + r.length := by
  unfold lenB; rw [List.take_add_one, h]; simp
theorem lenB_nonneg (rows : List (List Bool)) : 0 ≤ lenB rows := by
  induction rows with
  | nil => simp [lenB]
  | cons r rows ih => unfold lenB at *; simp; omega
theorem lenB_take_le (rows : List (List Bool)) (k : Nat) : lenB (rows.take k) ≤ lenB rows := by
  have h := List.take_append_drop k rows
  have : lenB rows = lenB (rows.take k) + lenB (rows.drop k) := by
    conv => lhs; rw [← h]
    unfold lenB; rw [List.map_append, List.sum_append]
  have := lenB_nonneg (rows.drop k); omega

/-- Rows of Booleans that the call made: each in a block of its own. -/
structure OwnSB (w : World) (base : Nat) (v : Value) (vs : List Value) (rows : List (List Bool)) : Prop where
  out : w.ownsRow base 34 1 v rows.length vs
  row : ∀ (i : Nat) (u : Value) (r : List Bool), vs[i]? = some u → rows[i]? = some r → w.ownsRow base 4 1 u r.length (bools r)
  inj : ∀ (i j : Nat) (u u' : Value) (k : Nat), vs[i]? = some u → vs[j]? = some u' → u.ownBlock = some k → u'.ownBlock = some k → i = j
theorem OwnSB.len {w : World} {base : Nat} {v : Value} {vs : List Value} {rows : List (List Bool)} (h : OwnSB w base v vs rows) : vs.length = rows.length := by simpa using h.out.1
theorem OwnSB.get {w : World} {base : Nat} {v : Value} {vs : List Value} {rows : List (List Bool)} (h : OwnSB w base v vs rows) {i : Nat} {r : List Bool} (hr : rows[i]? = some r) : ∃ u, vs[i]? = some u :=
  get_of_lt (by rw [h.len]; exact (List.getElem?_eq_some_iff.1 hr).1)
theorem OwnSB.rget {w : World} {base : Nat} {v : Value} {vs : List Value} {rows : List (List Bool)} (h : OwnSB w base v vs rows) {i : Nat} {u : Value} (hu : vs[i]? = some u) : ∃ r, rows[i]? = some r :=
  get_of_lt (by rw [← h.len]; exact (List.getElem?_eq_some_iff.1 hu).1)
theorem OwnSB.slb {w : World} {base : Nat} {s : Option Addr} {c : Nat} {vs : List Value} {rows : List (List Bool)} (h : OwnSB w base (.slice s rows.length c) vs rows) : SlB w s rows := by
  refine ⟨vs, h.len, own_sl h.out, fun i r hr => ?_⟩
  obtain ⟨u, hu⟩ := h.get hr
  have ho := h.row i u r hu hr
  obtain ⟨si, ci, rfl⟩ := own_shape ho
  exact ⟨si, ci, hu, own_sl ho⟩
theorem OwnSB.below {w w' : World} {base : Nat} {v : Value} {vs : List Value} {rows : List (List Bool)} (h : OwnSB w base v vs rows) (hb : Below w.heap.size w w') : OwnSB w' base v vs rows :=
  ⟨own_below h.out hb, fun i u r h1 h2 => own_below (h.row i u r h1 h2) hb, h.inj⟩
theorem OwnSB.nil (w : World) (base : Nat) : OwnSB w base (.slice none 0 0) [] [] := ⟨World.ownsRow_nil _ _ _ _, by simp, by simp⟩
theorem OwnSB.chg {S : Nat → Prop} {w w' : World} {base : Nat} {v : Value} {vs : List Value} {rows : List (List Bool)} (h : OwnSB w base v vs rows) (hc : Chg S w w') (hs : ∀ k, base ≤ k → ¬ S k) : OwnSB w' base v vs rows :=
  ⟨hc.own h.out (fun k hk => hs k (own_blk h.out hk).1), fun i u r h1 h2 => hc.own (h.row i u r h1 h2) (fun k hk => hs k (own_blk (h.row i u r h1 h2) hk).1), h.inj⟩
/-- One row more. -/
theorem OwnSB.push {w w2 : World} {base : Nat} {v v' u : Value} {vs : List Value} {rows : List (List Bool)} {r : List Bool} (h : OwnSB w base v vs rows) (hu : w.ownsRow base 4 1 u r.length (bools r))
    (hne : ∀ (k : Nat) (u' : Value), u.ownBlock = some k → u' ∈ vs → u'.ownBlock ≠ some k) (hg : w.grownBy w2 v.ownBlock) (ho : w2.ownsRow base 34 1 v' (rows.length + 1) (vs ++ [u])) : OwnSB w2 base v' (vs ++ [u]) (rows ++ [r]) := by
  have keep : ∀ (u : Value) (r : List Bool), w.ownsRow base 4 1 u r.length (bools r) → w2.ownsRow base 4 1 u r.length (bools r) := fun u r hb =>
    (Chg.of_grown hg).own hb (fun k hk e => own_ty hb h.out (by decide) hk e)
  refine ⟨by simpa using ho, fun i x q h1 h2 => ?_, fun i j x x' k h1 h2 h3 h4 => ?_⟩
  · by_cases hlt : i < rows.length
    · rw [List.getElem?_append_left (by rw [h.len]; exact hlt)] at h1
      rw [List.getElem?_append_left hlt] at h2
      exact keep x q (h.row i x q h1 h2)
    · rw [List.getElem?_append_right (by rw [h.len]; omega), h.len] at h1
      rw [List.getElem?_append_right (by omega)] at h2
      obtain ⟨e, rfl⟩ : i - rows.length = 0 ∧ x = u := by
        cases hh : i - rows.length with
        | zero => rw [hh] at h1; simp at h1; exact ⟨rfl, h1.symm⟩
        | succ m => rw [hh] at h1; simp at h1
      rw [e] at h2
      simp at h2
      subst h2
      exact keep _ _ hu
  · have mem : ∀ (i : Nat) (x : Value), (vs ++ [u])[i]? = some x → (i < vs.length ∧ vs[i]? = some x) ∨ (i = vs.length ∧ x = u) := fun i x hx => by
      by_cases hlt : i < vs.length
      · rw [List.getElem?_append_left hlt] at hx; exact .inl ⟨hlt, hx⟩
      · rw [List.getElem?_append_right (by omega)] at hx
        cases hh : i - vs.length with
        | zero => rw [hh] at hx; simp at hx; exact .inr ⟨by omega, hx.symm⟩
        | succ m => rw [hh] at hx; simp at hx
    rcases mem i x h1 with ⟨l1, e1⟩ | ⟨l1, e1⟩ <;> rcases mem j x' h2 with ⟨l2, e2⟩ | ⟨l2, e2⟩
    · exact h.inj i j x x' k e1 e2 h3 h4
    · subst e2; exact absurd h3 (hne k x h4 (List.mem_of_getElem? e1))
    · subst e1; exact absurd h4 (hne k x' h3 (List.mem_of_getElem? e2))
    · omega

def markB : Int → List (List Bool) → List (List Bool)
  | _, [] => []
  | k, r :: rs => jota k r.length :: markB (k + r.length) rs
theorem markB_length : ∀ (k : Int) (rows : List (List Bool)), (markB k rows).length = rows.length
  | _, [] => rfl
  | k, r :: rs => by simp [markB, markB_length (k + r.length) rs]
theorem markB_get : ∀ {k : Int} {rows : List (List Bool)} {i : Nat} {r : List Bool}, rows[i]? = some r → (markB k rows)[i]? = some (jota (k + lenB (rows.take i)) r.length)
  | _, [], _, _, h => by simp at h
  | k, q :: rs, 0, r, h => by simp at h; subst h; simp [markB, lenB]
  | k, q :: rs, i + 1, r, h => by
    have := markB_get (k := k + q.length) (rows := rs) (i := i) (r := r) (by simpa using h)
    simp only [markB, List.getElem?_cons_succ, this, List.take_succ_cons]
    congr 2
    unfold lenB; simp; omega
theorem lenB_tk (rows : List (List Bool)) (hr : ∀ r ∈ rows, r.length ≤ 1000) : ∀ j, lenB (rows.take j) ≤ 1000 * j := fun j => by
  induction j with
  | zero => simp [lenB]
  | succ j ih =>
    by_cases hj : j < rows.length
    · obtain ⟨r, hrj⟩ := get_of_lt hj
      rw [lenB_snoc hrj]
      have := hr r (List.mem_of_getElem? hrj)
      omega
    · rw [List.take_of_length_le (by omega)]; rw [List.take_of_length_le (by omega)] at ih; omega

theorem OwnSB.slb' {w : World} {base n : Nat} {s : Option Addr} {c : Nat} {vs : List Value} {rows : List (List Bool)} (h : OwnSB w base (.slice s n c) vs rows) (hl : rows.length = n) : SlB w s rows := by
  subst hl; exact h.slb

end Go.Proofs.Ytaboipnigeaopaa
