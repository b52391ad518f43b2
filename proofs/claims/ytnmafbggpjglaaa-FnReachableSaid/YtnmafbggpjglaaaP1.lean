import Derived.Test.YtnmafbggpjglaaaB5
import Derived.Laws.OwnMore
namespace Go.Proofs.Ytnmafbggpjglaaa
set_option linter.unusedVariables false
set_option linter.unusedSimpArgs false
open Go.RowKit

/-! Marks: what a law writes into results and copies, and reads back. -/

/-- Only blocks in S may have turned. -/
structure Chg (S : Nat → Prop) (w w' : World) : Prop where
  os : w'.os = w.os
  tape : w'.tape = w.tape
  output : w'.output = w.output
  size : w.heap.size ≤ w'.heap.size
  block : ∀ k, k < w.heap.size → ¬ S k → w'.heap[k]? = w.heap[k]?
theorem Chg.refl (S : Nat → Prop) (w : World) : Chg S w w := ⟨rfl, rfl, rfl, Nat.le_refl _, fun _ _ _ => rfl⟩
theorem Chg.trans {S : Nat → Prop} {a b c : World} (h : Chg S a b) (k : Chg S b c) : Chg S a c :=
  ⟨k.os.trans h.os, k.tape.trans h.tape, k.output.trans h.output, Nat.le_trans h.size k.size, fun i hi hn => (k.block i (by have := h.size; omega) hn).trans (h.block i hi hn)⟩
theorem Chg.mono {S T : Nat → Prop} {a b : World} (h : Chg S a b) (hs : ∀ k, S k → T k) : Chg T a b := ⟨h.os, h.tape, h.output, h.size, fun k hk hn => h.block k hk fun e => hn (hs k e)⟩
theorem Chg.of_grown {w w' : World} {row : Option Nat} (h : w.grownBy w' row) : Chg (fun k => row = some k) w w' := ⟨h.os, h.tape, h.output, h.size, fun k hk hn => h.block k hk fun e => hn e.symm⟩
theorem Chg.of_below {S : Nat → Prop} {w w' : World} (h : Below w.heap.size w w') : Chg S w w' := ⟨h.os, h.tape, h.output, h.size, fun k hk _ => h.block k hk⟩
theorem Chg.below {S : Nat → Prop} {w w' : World} (h : Chg S w w') {b : Nat} (hb : b ≤ w.heap.size) (hs : ∀ k, k < b → ¬ S k) : Below b w w' := ⟨h.os, h.tape, h.output, h.size, fun k hk => h.block k (by omega) (hs k hk)⟩
theorem Chg.own {S : Nat → Prop} {w w' : World} (h : Chg S w w') {base : Nat} {e : TypeId} {size : Nat} {v : Value} {n : Nat} {xs : List Value} (ho : w.ownsRow base e size v n xs) (hs : ∀ k, v.ownBlock = some k → ¬ S k) : w'.ownsRow base e size v n xs := by
  refine ⟨ho.1, ?_⟩
  rcases ho.2 with hn | ⟨g, cap, cur, rfl, hb', hg, rest⟩
  · exact .inl hn
  · exact .inr ⟨g, cap, cur, rfl, hb', by rw [h.block g (blk_lt hg) (hs g rfl)]; exact hg, rest⟩
theorem Chg.blk {S : Nat → Prop} {w w' : World} (h : Chg S w w') {b : Nat} {x : Obj} (hb : w.heap[b]? = some x) (hs : ¬ S b) : w'.heap[b]? = some x := by
  rw [h.block b (blk_lt hb) hs]; exact hb

theorem wf_int64c {n : Int} (h : (Lit.int .i64 n).wf = true) : -9223372036854775808 ≤ n ∧ n ≤ 9223372036854775807 := by
  simpa [Lit.wf, IntKind.min, IntKind.max, IntKind.bits, IntKind.signed] using h

def iota (k : Int) (n : Nat) : List Int := (List.range n).map fun (i : Nat) => k + i
theorem iota_length (k : Int) (n : Nat) : (iota k n).length = n := by simp [iota]
theorem iota_get {k : Int} {n j : Nat} (h : j < n) : (iota k n)[j]? = some (k + j) := by simp [iota, h]

theorem own_some {w : World} {base : Nat} {e : TypeId} {size n cap : Nat} {s : Option Addr} {xs : List Value} (h : w.ownsRow base e size (.slice s n cap) n xs) : (s = none ∧ n = 0 ∧ cap = 0) ∨ ∃ g, s = some ⟨g, 0, none⟩ := by
  rcases h.2 with ⟨e, _⟩ | ⟨g, cap', cur, e, _⟩
  · simp only [Value.slice.injEq] at e; exact .inl e
  · simp only [Value.slice.injEq] at e; exact .inr ⟨g, e.1⟩

/-- The copy of a circuit, block by block. -/
structure CirOwn (w : World) (base : Nat) (c : Cir) (vn vg vo : Value) : Prop where
  n : w.ownsRow base 3 1 vn c.next.length (ints c.next)
  g : w.ownsRow base 32 2 vg c.gates.length (gcells c.gates)
  o : w.ownsRow base 3 1 vo c.outs.length (ints c.outs)
  ne : ∀ k, vn.ownBlock = some k → vo.ownBlock ≠ some k
  l1 : c.next.length ≤ 1048576
  l2 : c.gates.length ≤ 1048576
  l3 : c.outs.length ≤ 1048576

theorem own_ty {w : World} {base base' : Nat} {e e' : TypeId} {size size' : Nat} {v v' : Value} {n n' : Nat} {xs xs' : List Value} (h : w.ownsRow base e size v n xs) (h' : w.ownsRow base' e' size' v' n' xs') (he : e ≠ e') {k : Nat} (hk : v.ownBlock = some k) : v'.ownBlock ≠ some k := by
  intro hk'
  rcases h.2 with ⟨rfl, _⟩ | ⟨g, cap, cur, rfl, _, hg, _⟩
  · cases hk
  · rcases h'.2 with ⟨rfl, _⟩ | ⟨g', cap', cur', rfl, _, hg', _⟩
    · cases hk'
    · simp only [Value.ownBlock, Option.some.injEq] at hk hk'
      subst hk; subst hk'
      rw [hg] at hg'
      simp only [Option.some.injEq, Obj.cells.injEq] at hg'
      exact he hg'.2.1

/-- What a mark of a circuit leaves: its rows' cells one by one. -/
structure Marked (w : World) (base : Nat) (c : Cir) (k : Int) (vn vg vo : Value) : Prop where
  n : w.ownsRow base 3 1 vn c.next.length (ints (iota k c.next.length))
  g : w.ownsRow base 32 2 vg c.gates.length (ints (iota (k + c.next.length) (2 * c.gates.length)))
  o : w.ownsRow base 3 1 vo c.outs.length (ints (iota (k + c.next.length + 2 * c.gates.length) c.outs.length))

def inCir (vn vg vo : Value) (k : Nat) : Prop := vn.ownBlock = some k ∨ vg.ownBlock = some k ∨ vo.ownBlock = some k

end Go.Proofs.Ytnmafbggpjglaaa
