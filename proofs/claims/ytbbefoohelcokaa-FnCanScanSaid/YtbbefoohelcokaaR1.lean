import Derived.Test.YtbbefoohelcokaaP2
import Derived.Test.YtbbefoohelcokaaA4
import Derived.Test.YtbbefoohelcokaaM1
import Derived.Test.YtbbefoohelcokaaL4
import Derived.Test.YtbbefoohelcokaaQ1
namespace Go.Proofs.Ytbbefoohelcokaa
set_option linter.unusedVariables false
set_option linter.unusedSimpArgs false
open Go.RowKit

/-! Tseitin, both. -/

def dimL (l : Int) : Int := if l % 2 = 1 then -(l / 2 + 1) else l / 2 + 1
theorem dimL_bd {l : Int} (h0 : 0 ≤ l) (h1 : l / 2 < 30) : -30 ≤ dimL l ∧ dimL l ≤ 30 := by unfold dimL; split <;> omega
def gRows (n : Int) (g : Gt) : List (List Int) := [[-n, dimL g.a], [-n, dimL g.b], [n, -dimL g.a, -dimL g.b]]
def tsL (c : Cir) : Nat → List (List Int)
  | 0 => [[-1]]
  | k + 1 => tsL c k ++ gRows (c.first + k + 1) (c.gates.getD k ⟨0, 0⟩)
theorem tsL_len (c : Cir) (k : Nat) : (tsL c k).length = 1 + 3 * k := by
  induction k with
  | zero => rfl
  | succ k ih => unfold tsL; rw [List.length_append, ih]; simp [gRows]; omega
theorem tsL_succ {c : Cir} {k : Nat} {g : Gt} (h : c.gates[k]? = some g) {n : Int} (hn : n = c.first + k + 1) : tsL c (k + 1) = tsL c k ++ gRows n g := by
  rw [hn]
  show tsL c k ++ gRows (c.first + k + 1) (c.gates.getD k ⟨0, 0⟩) = _
  rw [List.getD_eq_getElem?_getD, h]; rfl
theorem gRows_small (n : Int) (g : Gt) : ∀ r ∈ gRows n g, r.length ≤ 3 := by
  intro r hr; simp [gRows] at hr; rcases hr with rfl | rfl | rfl <;> simp
theorem tsL_small (c : Cir) (k : Nat) : ∀ r ∈ tsL c k, r.length ≤ 3 := by
  induction k with
  | zero => intro r hr; simp [tsL] at hr; subst hr; simp
  | succ k ih =>
    intro r hr
    unfold tsL at hr
    rcases List.mem_append.1 hr with h | h
    · exact ih r h
    · exact gRows_small _ _ r h
def tsOk (c : Cir) (l : Int) : Prop := c.validB = true ∧ litP l c.vars
instance (c : Cir) (l : Int) : Decidable (tsOk c l) := inferInstanceAs (Decidable (_ ∧ _))
def tsR (c : Cir) (l : Int) : List (List Int) := if tsOk c l then tsL c c.gates.length ++ [[dimL l]] else []
theorem tsR_no {c : Cir} {l : Int} (h : ¬ tsOk c l) : tsR c l = [] := by unfold tsR; rw [if_neg h]
theorem tsR_yes {c : Cir} {l : Int} (h : tsOk c l) : tsR c l = tsL c c.gates.length ++ [[dimL l]] := by unfold tsR; rw [if_pos h]
theorem tsR_small (c : Cir) (l : Int) : (tsR c l).length ≤ 44 ∧ ∀ r ∈ tsR c l, r.length ≤ 3 := by
  by_cases h : tsOk c l
  · have hv := c.validB_iff.1 h.1
    obtain ⟨f1, f2, f3, f4⟩ := valid_first hv
    rw [tsR_yes h]
    refine ⟨by rw [List.length_append, tsL_len]; simp; omega, fun r hr => ?_⟩
    rcases List.mem_append.1 hr with h | h
    · exact tsL_small _ _ r h
    · simp at h; subst h; simp
  · rw [tsR_no h]; simp

theorem Sl.new4 (w : World) (A B C : Obj) (cs : Array Value) (t : TypeId) : Sl ((((w.alloc A).alloc B).alloc C).alloc (.cells cs t)) (some ⟨w.heap.size + 1 + 1 + 1, 0, none⟩) cs.toList := Sl.blk (blk_at (by simp))
theorem Sl.new2 (w : World) (A : Obj) (cs : Array Value) (t : TypeId) : Sl ((w.alloc A).alloc (.cells cs t)) (some ⟨w.heap.size + 1, 0, none⟩) cs.toList := Sl.blk (blk_at (by simp))
theorem rows3 {w : World} {x1 y1 x2 y2 x3 y3 z3 : Int} {D : Obj} : ∀ (i b : Nat) (r : List Int), [w.heap.size, w.heap.size + 1, w.heap.size + 2][i]? = some b → [[x1, y1], [x2, y2], [x3, y3, z3]][i]? = some r →
    ((((w.alloc (.cells #[.int .i64 x1, .int .i64 y1] 3)).alloc (.cells #[.int .i64 x2, .int .i64 y2] 3)).alloc (.cells #[.int .i64 x3, .int .i64 y3, .int .i64 z3] 3)).alloc D).heap[b]? = some (.cells (ints r).toArray 3 (0, 0)) ∧ w.heap.size ≤ b := by
  have h := blk3 w (.cells #[.int .i64 x1, .int .i64 y1] 3) (.cells #[.int .i64 x2, .int .i64 y2] 3) (.cells #[.int .i64 x3, .int .i64 y3, .int .i64 z3] 3)
  intro i b r h1 h2
  match i, h1, h2 with
  | 0, h1, h2 => simp at h1 h2; subst h1 h2; exact ⟨blk_old h.1, Nat.le_refl _⟩
  | 1, h1, h2 => simp at h1 h2; subst h1 h2; exact ⟨blk_old h.2.1, by omega⟩
  | 2, h1, h2 => simp at h1 h2; subst h1 h2; exact ⟨blk_old h.2.2.1, by omega⟩
  | i + 3, h1, h2 => simp at h1
theorem rows1 {w : World} {x : Int} {D : Obj} : ∀ (i b : Nat) (r : List Int), [w.heap.size][i]? = some b → [[x]][i]? = some r →
    ((w.alloc (.cells #[.int .i64 x] 3)).alloc D).heap[b]? = some (.cells (ints r).toArray 3 (0, 0)) ∧ w.heap.size ≤ b := by
  intro i b r h1 h2
  match i, h1, h2 with
  | 0, h1, h2 => simp at h1 h2; subst h1 h2; exact ⟨blk_old (blk_new _ _), Nat.le_refl _⟩
  | i + 1, h1, h2 => simp at h1

end Go.Proofs.Ytbbefoohelcokaa
