import Derived.Test.YtindndcdpnpcmaaB1
namespace Go.Proofs.Ytindndcdpnpcmaa
set_option linter.unusedVariables false
set_option linter.unusedSimpArgs false
open Go.RowKit

/-- A slice of slices that the call made: the rows lie in blocks of their own. -/
def OwnSS (w : World) (base : Nat) (v : Value) (rows : List (List Int)) : Prop :=
  ∃ vs : List Value, w.ownsRow base 22 1 v rows.length vs ∧ (∀ (i : Nat) (r : List Int), rows[i]? = some r → ∃ u, vs[i]? = some u ∧ w.ownsRow base 3 1 u r.length (ints r)) ∧
    ∀ (i j : Nat) (u u' : Value) (k : Nat), vs[i]? = some u → vs[j]? = some u' → u.ownBlock = some k → u'.ownBlock = some k → i = j
theorem OwnSS.shape {w : World} {base : Nat} {v : Value} {rows : List (List Int)} (h : OwnSS w base v rows) : ∃ s c, v = .slice s rows.length c := by
  obtain ⟨vs, h1, _⟩ := h; exact own_shape h1
theorem OwnSS.sls {w : World} {base : Nat} {s : Option Addr} {c : Nat} {rows : List (List Int)} (h : OwnSS w base (.slice s rows.length c) rows) : SlS w s rows := by
  obtain ⟨vs, h1, h2, _⟩ := h
  refine ⟨vs, by simpa using h1.1, own_sl h1, fun i r hr => ?_⟩
  obtain ⟨u, hu, ho⟩ := h2 i r hr
  obtain ⟨si, ci, rfl⟩ := own_shape ho
  exact ⟨si, ci, hu, own_sl ho⟩
theorem OwnSS.below {w w' : World} {base : Nat} {v : Value} {rows : List (List Int)} (h : OwnSS w base v rows) (hb : Below w.heap.size w w') : OwnSS w' base v rows := by
  obtain ⟨vs, h1, h2, h3⟩ := h
  exact ⟨vs, own_below h1 hb, fun i r hr => let ⟨u, hu, ho⟩ := h2 i r hr; ⟨u, hu, own_below ho hb⟩, h3⟩

theorem mk40 (w : World) (n : Nat) (h : n ≤ 1048576) : (Instr.makeSlice 85 (.int .i64 (n : Int)) (.int .i64 (n : Int))).run Try.prog w = .ok (.slice (some ⟨w.heap.size, 0, none⟩) n n) (w.alloc (.cells (madeCells #[.slice none 0 0] n) 22)) := by
  obtain ⟨i, hi, h1, h2, h3⟩ := info_parts (P := Try.prog) (e := 22) (z := .slice none 0 0) (size := 1) (bytes := 24) (by kernel_rfl)
  have := run_make (P := Try.prog) w 85 22 i (.slice none 0 0) (by kernel_rfl) hi h1 .i64 .i64 n n (by omega) (by omega) (by rw [h3]; omega) (by omega)
  rw [this, h2]; simp [Value.cells]

end Go.Proofs.Ytindndcdpnpcmaa
