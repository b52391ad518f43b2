import Derived.Test.YtindndcdpnpcmaaOA
import Derived.Test.YtindndcdpnpcmaaM1
import Derived.Test.YtindndcdpnpcmaaA4
namespace Go.Proofs.Ytindndcdpnpcmaa
set_option linter.unusedVariables false
set_option linter.unusedSimpArgs false
open Go.RowKit

/-! Nodes of decision diagrams: sizes, copies, comparisons. -/

structure Nd where
  v : Int
  lo : Int
  hi : Int
theorem Nd.ext' {x y : Nd} (h1 : x.v = y.v) (h2 : x.lo = y.lo) (h3 : x.hi = y.hi) : x = y := by cases x; cases y; simp_all
instance : DecidableEq Nd := fun x y => decidable_of_iff (x.v = y.v ∧ x.lo = y.lo ∧ x.hi = y.hi) ⟨fun h => Nd.ext' h.1 h.2.1 h.2.2, fun h => by rw [h]; exact ⟨rfl, rfl, rfl⟩⟩
instance : Inhabited Nd := ⟨⟨0, 0, 0⟩⟩
structure Bd where
  nodes : List Nd
  root : Int

def Nd.cells (g : Nd) : List Value := [.int .i64 g.v, .int .i64 g.lo, .int .i64 g.hi]
def ncells (gs : List Nd) : List Value := gs.flatMap Nd.cells
theorem ncells_length (gs : List Nd) : (ncells gs).length = 3 * gs.length := by
  induction gs with
  | nil => rfl
  | cons g gs ih => simp [ncells, Nd.cells] at ih ⊢; omega
theorem ncells_get {gs : List Nd} {k : Nat} {g : Nd} (h : gs[k]? = some g) : (ncells gs)[3 * k]? = some (.int .i64 g.v) ∧ (ncells gs)[3 * k + 1]? = some (.int .i64 g.lo) ∧ (ncells gs)[3 * k + 2]? = some (.int .i64 g.hi) := by
  induction gs generalizing k with
  | nil => simp at h
  | cons x gs ih =>
    cases k with
    | zero => simp at h; subst h; exact ⟨rfl, rfl, rfl⟩
    | succ k =>
      have := ih (k := k) (by simpa using h)
      have e : ncells (x :: gs) = .int .i64 x.v :: .int .i64 x.lo :: .int .i64 x.hi :: ncells gs := rfl
      rw [e]
      refine ⟨?_, ?_, ?_⟩
      · rw [show 3 * (k + 1) = 3 * k + 1 + 1 + 1 from by omega]; simpa using this.1
      · rw [show 3 * (k + 1) + 1 = 3 * k + 1 + 1 + 1 + 1 from by omega]; simpa using this.2.1
      · rw [show 3 * (k + 1) + 2 = 3 * k + 2 + 1 + 1 + 1 from by omega]; simpa using this.2.2

theorem Sl.node {w wr : World} {s : Option Addr} {gs : List Nd} (h : Sl w s (ncells gs)) (hbl : Below w.heap.size w wr) {k : Nat} {g : Nd} (hg : gs[k]? = some g) :
    ∃ b off, s = some ⟨b, off, none⟩ ∧ b < w.heap.size ∧ wr.cell? ⟨b, off + k * 3, none⟩ = some (.int .i64 g.v) ∧ wr.cell? ⟨b, off + k * 3 + 1, none⟩ = some (.int .i64 g.lo) ∧ wr.cell? ⟨b, off + k * 3 + 2, none⟩ = some (.int .i64 g.hi) := by
  have hlt : k < gs.length := (List.getElem?_eq_some_iff.1 hg).1
  obtain ⟨b, off, rfl, hbw, hcs⟩ := h.at (k := 3 * k) (by rw [ncells_length]; omega)
  have e := ncells_get hg
  refine ⟨b, off, rfl, hbw, ?_, ?_, ?_⟩
  · rw [hbl.cell (by exact hbw), Nat.mul_comm]; exact hcs _ _ e.1
  · rw [hbl.cell (by exact hbw), Nat.mul_comm, Nat.add_assoc]; exact hcs _ _ e.2.1
  · rw [hbl.cell (by exact hbw), Nat.mul_comm, Nat.add_assoc]; exact hcs _ _ e.2.2

/-- A diagram as a value. -/
def BdV (w : World) (v : Value) (d : Bd) : Prop :=
  ∃ sn cn, v = .agg #[.slice sn d.nodes.length cn, .int .i64 d.root] ∧ Sl w sn (ncells d.nodes) ∧ d.nodes.length ≤ 1048576 ∧ d.nodes.length ≤ cn ∧ cn ≤ 9223372036854775807

theorem BdV.mono {w w' : World} {v : Value} {d : Bd} (h : BdV w v d) (hb : Below w.heap.size w w') : BdV w' v d := by
  obtain ⟨sn, cn, hv, h1, h2⟩ := h
  exact ⟨sn, cn, hv, h1.mono hb, h2⟩

theorem Sl.toA' {w : World} {b : Nat} {cs : List Value} {t : TypeId} {fz : Nat × Nat} (h : w.heap[b]? = some (.cells cs.toArray t fz)) : Sl w (some ⟨b, 0, none⟩) cs := by
  have := Sl.blk h; simpa using this

def bdB (x y : Bd) : Bool := decide (x.nodes = y.nodes) && decide (x.root = y.root)
theorem bdB_self (x : Bd) : bdB x x = true := by simp [bdB]

end Go.Proofs.Ytindndcdpnpcmaa
