import Derived.Test.YtbbefoohelcokaaB5
import Derived.Laws.OwnMore
import Derived.Test.YtbbefoohelcokaaM1
import Derived.Deep.DeepCutAuto
namespace Go.Proofs.Ytbbefoohelcokaa
set_option linter.unusedVariables false
set_option linter.unusedSimpArgs false
open Go.RowKit

/-! Marks: what a law writes into results and copies, and reads back. -/

/-- Only blocks in S may have turned. -/
structure Chg (S : Nat → Prop) (w w' : World) : Prop where
  os : w'.os = w.os
  tape : w'.tape = w.tape
  output : w'.output = w.output
  size : w.heap.size ≤ w'.heap.size
  block : ∀ k, k < w.heap.size → ¬ S k → w'.heap[k]? = w.heap[k]?
theorem Chg.refl (S : Nat → Prop) (w : World) : Chg S w w := ⟨rfl, rfl, rfl, Nat.le_refl _, fun _ _ _ => rfl⟩
theorem Chg.trans {S : Nat → Prop} {a b c : World} (h : Chg S a b) (k : Chg S b c) : Chg S a c :=
  ⟨k.os.trans h.os, k.tape.trans h.tape, k.output.trans h.output, Nat.le_trans h.size k.size, fun i hi hn => (k.block i (by have := h.size; omega) hn).trans (h.block i hi hn)⟩
theorem Chg.mono {S T : Nat → Prop} {a b : World} (h : Chg S a b) (hs : ∀ k, S k → T k) : Chg T a b := ⟨h.os, h.tape, h.output, h.size, fun k hk hn => h.block k hk fun e => hn (hs k e)⟩
theorem Chg.of_grown {w w' : World} {row : Option Nat} (h : w.grownBy w' row) : Chg (fun k => row = some k) w w' := ⟨h.os, h.tape, h.output, h.size, fun k hk hn => h.block k hk fun e => hn e.symm⟩
theorem Chg.of_below {S : Nat → Prop} {w w' : World} (h : Below w.heap.size w w') : Chg S w w' := ⟨h.os, h.tape, h.output, h.size, fun k hk _ => h.block k hk⟩
theorem Chg.below {S : Nat → Prop} {w w' : World} (h : Chg S w w') {b : Nat} (hb : b ≤ w.heap.size) (hs : ∀ k, k < b → ¬ S k) : Below b w w' := ⟨h.os, h.tape, h.output, h.size, fun k hk => h.block k (by omega) (hs k hk)⟩
theorem Chg.own {S : Nat → Prop} {w w' : World} (h : Chg S w w') {base : Nat} {e : TypeId} {size : Nat} {v : Value} {n : Nat} {xs : List Value} (ho : w.ownsRow base e size v n xs) (hs : ∀ k, v.ownBlock = some k → ¬ S k) : w'.ownsRow base e size v n xs := by
  refine ⟨ho.1, ?_⟩
  rcases ho.2 with hn | ⟨g, cap, cur, rfl, hb', hg, rest⟩
  · exact .inl hn
  · exact .inr ⟨g, cap, cur, rfl, hb', by rw [h.block g (blk_lt hg) (hs g rfl)]; exact hg, rest⟩
theorem Chg.blk {S : Nat → Prop} {w w' : World} (h : Chg S w w') {b : Nat} {x : Obj} (hb : w.heap[b]? = some x) (hs : ¬ S b) : w'.heap[b]? = some x := by
  rw [h.block b (blk_lt hb) hs]; exact hb

theorem wf_int64c {n : Int} (h : (Lit.int .i64 n).wf = true) : -9223372036854775808 ≤ n ∧ n ≤ 9223372036854775807 := by
  simpa [Lit.wf, IntKind.min, IntKind.max, IntKind.bits, IntKind.signed] using h

def iota (k : Int) (n : Nat) : List Int := (List.range n).map fun (i : Nat) => k + i
theorem iota_length (k : Int) (n : Nat) : (iota k n).length = n := by simp [iota]
theorem iota_get {k : Int} {n j : Nat} (h : j < n) : (iota k n)[j]? = some (k + j) := by simp [iota, h]

theorem own_some {w : World} {base : Nat} {e : TypeId} {size n cap : Nat} {s : Option Addr} {xs : List Value} (h : w.ownsRow base e size (.slice s n cap) n xs) : (s = none ∧ n = 0 ∧ cap = 0) ∨ ∃ g, s = some ⟨g, 0, none⟩ := by
  rcases h.2 with ⟨e, _⟩ | ⟨g, cap', cur, e, _⟩
  · simp only [Value.slice.injEq] at e; exact .inl e
  · simp only [Value.slice.injEq] at e; exact .inr ⟨g, e.1⟩

/-- The copy of a circuit, block by block. -/
structure CirOwn (w : World) (base : Nat) (c : Cir) (vn vg vo : Value) : Prop where
  n : w.ownsRow base 3 1 vn c.next.length (ints c.next)
  g : w.ownsRow base 36 2 vg c.gates.length (gcells c.gates)
  o : w.ownsRow base 3 1 vo c.outs.length (ints c.outs)
  ne : ∀ k, vn.ownBlock = some k → vo.ownBlock ≠ some k
  l1 : c.next.length ≤ 1048576
  l2 : c.gates.length ≤ 1048576
  l3 : c.outs.length ≤ 1048576

theorem own_ty {w : World} {base base' : Nat} {e e' : TypeId} {size size' : Nat} {v v' : Value} {n n' : Nat} {xs xs' : List Value} (h : w.ownsRow base e size v n xs) (h' : w.ownsRow base' e' size' v' n' xs') (he : e ≠ e') {k : Nat} (hk : v.ownBlock = some k) : v'.ownBlock ≠ some k := by
  intro hk'
  rcases h.2 with ⟨rfl, _⟩ | ⟨g, cap, cur, rfl, _, hg, _⟩
  · cases hk
  · rcases h'.2 with ⟨rfl, _⟩ | ⟨g', cap', cur', rfl, _, hg', _⟩
    · cases hk'
    · simp only [Value.ownBlock, Option.some.injEq] at hk hk'
      subst hk; subst hk'
      rw [hg] at hg'
      simp only [Option.some.injEq, Obj.cells.injEq] at hg'
      exact he hg'.2.1

/-- What a mark of a circuit leaves: its rows' cells one by one. -/
structure Marked (w : World) (base : Nat) (c : Cir) (k : Int) (vn vg vo : Value) : Prop where
  n : w.ownsRow base 3 1 vn c.next.length (ints (iota k c.next.length))
  g : w.ownsRow base 36 2 vg c.gates.length (ints (iota (k + c.next.length) (2 * c.gates.length)))
  o : w.ownsRow base 3 1 vo c.outs.length (ints (iota (k + c.next.length + 2 * c.gates.length) c.outs.length))

def inCir (vn vg vo : Value) (k : Nat) : Prop := vn.ownBlock = some k ∨ vg.ownBlock = some k ∨ vo.ownBlock = some k

/-! How often variables are used. -/

def cntL (L : List Int) (v : Int) : Nat := (L.filter fun x => decide (x / 2 = v)).length
def glits (gs : List Gt) : List Int := gs.flatMap fun g => [g.a, g.b]
def Cir.usesI (c : Cir) : List Int := glits c.gates ++ (c.next ++ c.outs)
theorem cntL_append (A B : List Int) (v : Int) : cntL (A ++ B) v = cntL A v + cntL B v := by simp [cntL]
theorem cntL_one (x v : Int) : cntL [x] v = if x / 2 = v then 1 else 0 := by
  by_cases h : x / 2 = v <;> simp [cntL, h]
theorem cntL_le (L : List Int) (v : Int) : cntL L v ≤ L.length := List.length_filter_le _ _
theorem glits_snoc {gs : List Gt} {k : Nat} {g : Gt} (h : gs[k]? = some g) : glits (gs.take (k + 1)) = glits (gs.take k) ++ [g.a] ++ [g.b] := by
  rw [List.take_add_one, h]; simp [glits]
theorem glits_length (gs : List Gt) : (glits gs).length = 2 * gs.length := by
  induction gs with
  | nil => rfl
  | cons g gs ih => simp [glits] at ih ⊢; omega
def cnts (L : List Int) (n : Nat) : List Int := (List.range n).map fun (i : Nat) => ((cntL L (i : Int) : Nat) : Int)
theorem cnts_length (L : List Int) (n : Nat) : (cnts L n).length = n := by simp [cnts]
theorem cnts_get {L : List Int} {n p : Nat} (h : p < n) : (cnts L n)[p]? = some ((cntL L (p : Int) : Nat) : Int) := by simp [cnts, h]
theorem cnts_nil (n : Nat) : cnts [] n = List.replicate n 0 := by
  apply List.ext_getElem?
  intro i
  by_cases h : i < n
  · rw [cnts_get h]; simp [h, cntL]
  · rw [List.getElem?_eq_none (by rw [cnts_length]; omega), List.getElem?_eq_none (by simp; omega)]
theorem cnts_snoc {L : List Int} {n p : Nat} {x : Int} (hx : x / 2 = (p : Int)) (hp : p < n) : cnts (L ++ [x]) n = (cnts L n).set p ((cntL L (p : Int) : Int) + 1) := by
  apply List.ext_getElem?
  intro i
  by_cases h : i < n
  · rw [cnts_get h]
    by_cases e : i = p
    · subst e
      rw [List.getElem?_set_self (by rw [cnts_length]; exact h), cntL_append, cntL_one, if_pos hx]; simp
    · rw [List.getElem?_set_ne (Ne.symm e), cnts_get h, cntL_append, cntL_one, if_neg (by omega)]; simp
  · rw [List.getElem?_eq_none (by rw [cnts_length]; omega), List.getElem?_eq_none (by rw [List.length_set, cnts_length]; omega)]

theorem ints_set (xs : List Int) (p : Nat) (v : Int) : (ints xs).toArray.setIfInBounds p (.int .i64 v) = (ints (xs.set p v)).toArray := by
  apply Array.ext'
  simp [ints, List.map_set]
theorem ints_cell {w : World} {g p : Nat} {xs : List Int} {t : TypeId} {x : Int} (h : w.heap[g]? = some (.cells (ints xs).toArray t (0, 0))) (hx : xs[p]? = some x) : w.cell? ⟨g, p, none⟩ = some (.int .i64 x) := by
  rw [blk_cell h]; simpa using ints_get hx
theorem ints_blk_set {w : World} {g : Nat} {xs : List Int} {t : TypeId} (h : w.heap[g]? = some (.cells (ints xs).toArray t (0, 0))) (p : Nat) (v : Int) : (w.setCell ⟨g, p, none⟩ (.int .i64 v)).heap[g]? = some (.cells (ints (xs.set p v)).toArray t (0, 0)) := by
  rw [← ints_set]; exact blk_set h

theorem mkInts (w : World) (n : Nat) (h : n ≤ 1048576) : (Instr.makeSlice 23 (.int .i64 (n : Int)) (.int .i64 (n : Int))).run Try.prog w = .ok (.slice (some ⟨w.heap.size, 0, none⟩) n n) (w.alloc (.cells (ints (List.replicate n 0)).toArray 3)) := by
  obtain ⟨i, hi, h1, h2, h3⟩ := info_parts (P := Try.prog) (e := 3) (z := .int .i64 0) (size := 1) (bytes := 8) (by kernel_rfl)
  have := run_make (P := Try.prog) w 23 3 i (.int .i64 0) (by kernel_rfl) hi h1 .i64 .i64 n n (by omega) (by omega) (by rw [h3]; omega) (by omega)
  rw [this, h2]
  have e : madeCells #[Value.int .i64 0] n = (ints (List.replicate n 0)).toArray := by
    apply Array.ext'
    rw [toList_madeCells_one]; simp [ints]
  simp [Value.cells, e]

theorem valid_gate {c : Cir} (h : c.valid) {k : Nat} {g : Gt} (hg : c.gates[k]? = some g) : (0 ≤ g.a ∧ g.a / 2 < c.first + k) ∧ 0 ≤ g.b ∧ g.b / 2 < c.first + k := by
  have := gatesP_at h.gates hg
  unfold litP at this; omega
theorem valid_first {c : Cir} (h : c.valid) : 1 ≤ c.first ∧ c.first ≤ 8 ∧ c.vars = c.first + c.gates.length ∧ c.gates.length ≤ 14 := by
  have := h.lim
  unfold Cir.limits at this
  unfold Cir.first Cir.vars; omega

end Go.Proofs.Ytbbefoohelcokaa
