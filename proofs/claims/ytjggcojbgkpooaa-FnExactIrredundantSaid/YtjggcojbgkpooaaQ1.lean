import Derived.Test.YtjggcojbgkpooaaP1
import Derived.Test.YtjggcojbgkpooaaA6
import Derived.Laws.OwnMore
import Derived.Deep.DeepCutAuto
namespace Go.Proofs.Ytjggcojbgkpooaa
set_option linter.unusedVariables false
set_option linter.unusedSimpArgs false
open Go.RowKit

/-! How often variables are used. -/

def cntL (L : List Int) (v : Int) : Nat := (L.filter fun x => decide (x / 2 = v)).length
def glits (gs : List Gt) : List Int := gs.flatMap fun g => [g.a, g.b]
def Cir.usesI (c : Cir) : List Int := glits c.gates ++ (c.next ++ c.outs)
theorem cntL_append (A B : List Int) (v : Int) : cntL (A ++ B) v = cntL A v + cntL B v := by simp [cntL]
theorem cntL_one (x v : Int) : cntL [x] v = if x / 2 = v then 1 else 0 := by
  by_cases h : x / 2 = v <;> simp [cntL, h]
theorem cntL_le (L : List Int) (v : Int) : cntL L v ≤ L.length := List.length_filter_le _ _
theorem glits_snoc {gs : List Gt} {k : Nat} {g : Gt} (h : gs[k]? = some g) : glits (gs.take (k + 1)) = glits (gs.take k) ++ [g.a] ++ [g.b] := by
  rw [List.take_add_one, h]; simp [glits]
theorem glits_length (gs : List Gt) : (glits gs).length = 2 * gs.length := by
  induction gs with
  | nil => rfl
  | cons g gs ih => simp [glits] at ih ⊢; omega
def cnts (L : List Int) (n : Nat) : List Int := (List.range n).map fun (i : Nat) => ((cntL L (i : Int) : Nat) : Int)
theorem cnts_length (L : List Int) (n : Nat) : (cnts L n).length = n := by simp [cnts]
theorem cnts_get {L : List Int} {n p : Nat} (h : p < n) : (cnts L n)[p]? = some ((cntL L (p : Int) : Nat) : Int) := by simp [cnts, h]
theorem cnts_nil (n : Nat) : cnts [] n = List.replicate n 0 := by
  apply List.ext_getElem?
  intro i
  by_cases h : i < n
  · rw [cnts_get h]; simp [h, cntL]
  · rw [List.getElem?_eq_none (by rw [cnts_length]; omega), List.getElem?_eq_none (by simp; omega)]
theorem cnts_snoc {L : List Int} {n p : Nat} {x : Int} (hx : x / 2 = (p : Int)) (hp : p < n) : cnts (L ++ [x]) n = (cnts L n).set p ((cntL L (p : Int) : Int) + 1) := by
  apply List.ext_getElem?
  intro i
  by_cases h : i < n
  · rw [cnts_get h]
    by_cases e : i = p
    · subst e
      rw [List.getElem?_set_self (by rw [cnts_length]; exact h), cntL_append, cntL_one, if_pos hx]; simp
    · rw [List.getElem?_set_ne (Ne.symm e), cnts_get h, cntL_append, cntL_one, if_neg (by omega)]; simp
  · rw [List.getElem?_eq_none (by rw [cnts_length]; omega), List.getElem?_eq_none (by rw [List.length_set, cnts_length]; omega)]

theorem ints_set (xs : List Int) (p : Nat) (v : Int) : (ints xs).toArray.setIfInBounds p (.int .i64 v) = (ints (xs.set p v)).toArray := by
  apply Array.ext'
  simp [ints, List.map_set]
theorem ints_cell {w : World} {g p : Nat} {xs : List Int} {t : TypeId} {x : Int} (h : w.heap[g]? = some (.cells (ints xs).toArray t (0, 0))) (hx : xs[p]? = some x) : w.cell? ⟨g, p, none⟩ = some (.int .i64 x) := by
  rw [blk_cell h]; simpa using ints_get hx
theorem ints_blk_set {w : World} {g : Nat} {xs : List Int} {t : TypeId} (h : w.heap[g]? = some (.cells (ints xs).toArray t (0, 0))) (p : Nat) (v : Int) : (w.setCell ⟨g, p, none⟩ (.int .i64 v)).heap[g]? = some (.cells (ints (xs.set p v)).toArray t (0, 0)) := by
  rw [← ints_set]; exact blk_set h

theorem mkInts (w : World) (n : Nat) (h : n ≤ 1048576) : (Instr.makeSlice 23 (.int .i64 (n : Int)) (.int .i64 (n : Int))).run Try.prog w = .ok (.slice (some ⟨w.heap.size, 0, none⟩) n n) (w.alloc (.cells (ints (List.replicate n 0)).toArray 3)) := by
  obtain ⟨i, hi, h1, h2, h3⟩ := info_parts (P := Try.prog) (e := 3) (z := .int .i64 0) (size := 1) (bytes := 8) (by kernel_rfl)
  have := run_make (P := Try.prog) w 23 3 i (.int .i64 0) (by kernel_rfl) hi h1 .i64 .i64 n n (by omega) (by omega) (by rw [h3]; omega) (by omega)
  rw [this, h2]
  have e : madeCells #[Value.int .i64 0] n = (ints (List.replicate n 0)).toArray := by
    apply Array.ext'
    rw [toList_madeCells_one]; simp [ints]
  simp [Value.cells, e]

theorem valid_gate {c : Cir} (h : c.valid) {k : Nat} {g : Gt} (hg : c.gates[k]? = some g) : (0 ≤ g.a ∧ g.a / 2 < c.first + k) ∧ 0 ≤ g.b ∧ g.b / 2 < c.first + k := by
  have := gatesP_at h.gates hg
  unfold litP at this; omega
theorem valid_first {c : Cir} (h : c.valid) : 1 ≤ c.first ∧ c.first ≤ 8 ∧ c.vars = c.first + c.gates.length ∧ c.gates.length ≤ 14 := by
  have := h.lim
  unfold Cir.limits at this
  unfold Cir.first Cir.vars; omega

end Go.Proofs.Ytjggcojbgkpooaa
