import Derived.Test.YtindndcdpnpcmaaA0
namespace Go.Proofs.Ytindndcdpnpcmaa
set_option linter.unusedVariables false
set_option linter.unusedSimpArgs false
open Go.RowKit

/-- A struct that is copied field by field: the argument's block, the result's, and the one under construction. -/
structure St (w W : World) (tA tR : TypeId) (A R O : Array Value) : Prop where
  a : W.heap[w.heap.size]? = some (.cells A tA (0, 0))
  r : W.heap[w.heap.size + 1]? = some (.cells R tR (0, 0))
  o : W.heap[w.heap.size + 1 + 1]? = some (.cells O tR (0, 0))
  sz : w.heap.size + 3 ≤ W.heap.size
  bel : Below w.heap.size w W
theorem St.start (w : World) (tA tR : TypeId) (A R O : Array Value) : St w (((w.alloc (.cells A tA)).alloc (.cells R tR)).alloc (.cells O tR)) tA tR A R O :=
  ⟨blk_old (blk_old (blk_new w _)), blk_old (blk_at (by simp)), blk_at (by simp), by simp, by go_grown⟩
theorem St.call {w W W' : World} {tA tR : TypeId} {A R O : Array Value} (h : St w W tA tR A R O) (hb : Below W.heap.size W W') : St w W' tA tR A R O :=
  ⟨blk_below hb (blk_lt h.a) h.a, blk_below hb (blk_lt h.r) h.r, blk_below hb (blk_lt h.o) h.o, Nat.le_trans h.sz hb.size, h.bel.trans (hb.mono h.bel.size)⟩
theorem St.set {w W : World} {tA tR : TypeId} {A R O : Array Value} (h : St w W tA tR A R O) (i : Nat) (v : Value) : St w (W.setCell ⟨w.heap.size + 1 + 1, i, none⟩ v) tA tR A R (O.setIfInBounds i v) :=
  ⟨blk_set_ne (by omega) h.a, blk_set_ne (by omega) h.r, blk_set h.o, by rw [size_set]; exact h.sz, h.bel.setCell (by simp; omega) _⟩
theorem St.setR {w W : World} {tA tR : TypeId} {A R O : Array Value} (h : St w W tA tR A R O) (i : Nat) (v : Value) : St w (W.setCell ⟨w.heap.size + 1, i, none⟩ v) tA tR A (R.setIfInBounds i v) O :=
  ⟨blk_set_ne (by omega) h.a, blk_set h.r, blk_set_ne (by omega) h.o, by rw [size_set]; exact h.sz, h.bel.setCell (by simp) _⟩
theorem St.keepR {w W : World} {tA tR : TypeId} {A R O : Array Value} (_ : St w W tA tR A R O) {b : Nat} {x : Option Obj} (hb : w.heap.size + 3 ≤ b) (hx : W.heap[b]? = x) (i : Nat) (v : Value) : (W.setCell ⟨w.heap.size + 1, i, none⟩ v).heap[b]? = x :=
  blk_set_ne (by omega) hx
theorem St.keep {w W : World} {tA tR : TypeId} {A R O : Array Value} (_ : St w W tA tR A R O) {b : Nat} {x : Option Obj} (hb : w.heap.size + 3 ≤ b) (hx : W.heap[b]? = x) (i : Nat) (v : Value) : (W.setCell ⟨w.heap.size + 1 + 1, i, none⟩ v).heap[b]? = x :=
  blk_set_ne (by omega) hx
theorem St.cells {w W : World} {tA tR : TypeId} {A R O : Array Value} (h : St w W tA tR A R O) : (∀ o, W.cell? ⟨w.heap.size, o, none⟩ = A[o]?) ∧ (∀ o, W.cell? ⟨w.heap.size + 1, o, none⟩ = R[o]?) ∧ (∀ o, W.cell? ⟨w.heap.size + 1 + 1, o, none⟩ = O[o]?) ∧
    (∀ o, W.frozen? ⟨w.heap.size + 1, o, none⟩ = false) ∧ ∀ o, W.frozen? ⟨w.heap.size + 1 + 1, o, none⟩ = false :=
  ⟨fun _ => blk_cell h.a, fun _ => blk_cell h.r, fun _ => blk_cell h.o, fun _ => blk_free h.r, fun _ => blk_free h.o⟩

end Go.Proofs.Ytindndcdpnpcmaa
