import Derived.Test.YtnmafbggpjglaaaA3
import Derived.Test.YtnmafbggpjglaaaA1
namespace Go.Proofs.Ytnmafbggpjglaaa
set_option linter.unusedVariables false
set_option linter.unusedSimpArgs false
open Go.RowKit

/-! sizes, copies and comparisons of []int, [][]int; ClausesValid. -/

theorem ret_int {k : IntKind} {a b : Int} (h : a = b) : Ending.returned (.int k a) = .returned (.int k b) := by rw [h]

theorem l1In_any (n lo hi : Int) (w : World) :
    Calls Try.prog 50 #[.int .i64 n, .int .i64 lo, .int .i64 hi] w fun e w' => e = .returned (.bool (decide (lo ≤ n ∧ n ≤ hi))) ∧ w = w' := by
  by_cases h : lo ≤ n
  all_goals
    go_enter Try.func50, Try.ntmps50
    go_wp2
    go_ret
    exact ⟨by simp [h] <;> omega, rfl⟩

/-- What is left of a budget. -/
def leftOf (left total : Int) : Int := if total ≤ left then left - total else -1
theorem leftOf_nonneg {l t : Int} (hl : 0 ≤ l) : 0 ≤ leftOf l t ↔ t ≤ l := by unfold leftOf; split <;> omega

/-- A slice of slices of numbers reads as these rows. -/
def SlS (w : World) (s : Option Addr) (rows : List (List Int)) : Prop :=
  ∃ vs : List Value, vs.length = rows.length ∧ Sl w s vs ∧ ∀ (i : Nat) (r : List Int), rows[i]? = some r → ∃ si ci, vs[i]? = some (Value.slice si r.length ci) ∧ Sl w si (ints r)

theorem SlS.row {w wr : World} {s : Option Addr} {rows : List (List Int)} (h : SlS w s rows) (hbl : Below w.heap.size w wr) {k : Nat} {r : List Int} (hr : rows[k]? = some r) :
    ∃ b off si ci, s = some ⟨b, off, none⟩ ∧ b < w.heap.size ∧ wr.cell? ⟨b, off + k, none⟩ = some (.slice si r.length ci) ∧ Sl w si (ints r) := by
  obtain ⟨vs, hv, hs, hrow⟩ := h
  obtain ⟨si, ci, hvk, hsi⟩ := hrow k r hr
  obtain ⟨b, off, rfl, hbw, hcs⟩ := hs.at (k := k) (List.getElem?_eq_some_iff.1 hvk).1
  exact ⟨b, off, si, ci, rfl, hbw, by rw [hbl.cell (by exact hbw)]; exact hcs _ _ hvk, hsi⟩
theorem SlS.mono {w w' : World} {s : Option Addr} {rows : List (List Int)} (h : SlS w s rows) (hb : Below w.heap.size w w') : SlS w' s rows := by
  obtain ⟨vs, hv, hs, hrow⟩ := h
  exact ⟨vs, hv, hs.mono hb, fun i r hr => let ⟨si, ci, h1, h2⟩ := hrow i r hr; ⟨si, ci, h1, h2.mono hb⟩⟩

def lens (rows : List (List Int)) : Int := (rows.map (fun r => (r.length : Int))).sum
theorem lens_nil : lens [] = 0 := rfl
theorem lens_snoc {rows : List (List Int)} {k : Nat} {r : List Int} (h : rows[k]? = some r) : lens (rows.take (k + 1)) = lens (rows.take k) + r.length := by
  unfold lens; rw [List.take_add_one, h]; simp
theorem lens_nonneg (rows : List (List Int)) : 0 ≤ lens rows := by
  induction rows with
  | nil => simp [lens]
  | cons r rows ih => unfold lens at *; simp; omega
theorem lens_take_le (rows : List (List Int)) (k : Nat) : lens (rows.take k) ≤ lens rows := by
  have h := List.take_append_drop k rows
  have : lens rows = lens (rows.take k) + lens (rows.drop k) := by
    conv => lhs; rw [← h]
    unfold lens; rw [List.map_append, List.sum_append]
  have := lens_nonneg (rows.drop k); omega

end Go.Proofs.Ytnmafbggpjglaaa
