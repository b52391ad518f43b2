import Derived.WalkKit
import Derived.Handy
import Derived.Lib.Hide
import Derived.Maps.AppendAt
import Derived.Laws.AppendOwnNone
import Derived.Deep.RegionLaw
import Derived.Deep.Draws
import Derived.Laws.BitsLemmas
namespace Go.Proofs.YtnifgamlmaembaaDoor
set_option linter.unusedVariables false
set_option linter.unusedSimpArgs false
open Go.RowKit

/- Plain lemmas on worlds: blocks, slices that read as a list of cells. -/

theorem blk_cell {w : World} {b o : Nat} {arr : Array Value} {t : TypeId} {fz : Nat × Nat} (h : w.heap[b]? = some (.cells arr t fz)) : w.cell? ⟨b, o, none⟩ = arr[o]? := by
  simp [World.cell?, h]
theorem blk_free {w : World} {b o : Nat} {arr : Array Value} {t : TypeId} (h : w.heap[b]? = some (.cells arr t (0, 0))) : w.frozen? ⟨b, o, none⟩ = false := by
  simp [World.frozen?, h]
theorem blk_set {w : World} {b o : Nat} {arr : Array Value} {t : TypeId} {fz : Nat × Nat} {v : Value} (h : w.heap[b]? = some (.cells arr t fz)) : (w.setCell ⟨b, o, none⟩ v).heap[b]? = some (.cells (arr.setIfInBounds o v) t fz) := by
  simp [World.setCell, Array.getElem?_modify, h]
theorem blk_set_ne {w : World} {b c o : Nat} {x : Option Obj} {v : Value} (hne : c ≠ b) (h : w.heap[b]? = x) : (w.setCell ⟨c, o, none⟩ v).heap[b]? = x := by
  rw [Below.heap_setCell _ _ _ _ (by simpa using Ne.symm hne)]; exact h
theorem blk_new (w : World) (o : Obj) : (w.alloc o).heap[w.heap.size]? = some o := heap_alloc_new w o
theorem blk_old {w : World} {b : Nat} {o x : Obj} (h : w.heap[b]? = some x) : (w.alloc o).heap[b]? = some x := by
  rw [Below.heap_alloc _ _ _ (Array.getElem?_eq_some_iff.1 h).1]; exact h
theorem blk_lt {w : World} {b : Nat} {x : Obj} (h : w.heap[b]? = some x) : b < w.heap.size := (Array.getElem?_eq_some_iff.1 h).1
theorem blk_below {w w' : World} {b B : Nat} {x : Obj} (hb : Below B w w') (hB : b < B) (h : w.heap[b]? = some x) : w'.heap[b]? = some x := by
  rw [hb.block b hB]; exact h

theorem blk_at {w : World} {b : Nat} {o : Obj} (h : w.heap.size = b) : (w.alloc o).heap[b]? = some o := by subst h; exact blk_new w o
theorem blk3 (w : World) (A B C : Obj) : (((w.alloc A).alloc B).alloc C).heap[w.heap.size]? = some A ∧ (((w.alloc A).alloc B).alloc C).heap[w.heap.size + 1]? = some B ∧ (((w.alloc A).alloc B).alloc C).heap[w.heap.size + 2]? = some C ∧ (((w.alloc A).alloc B).alloc C).heap.size = w.heap.size + 3 :=
  ⟨blk_old (blk_old (blk_new w A)), blk_old (blk_at (by simp)), blk_at (by simp), by simp⟩
theorem blk_all {w : World} {b : Nat} {arr : Array Value} {t : TypeId} (h : w.heap[b]? = some (.cells arr t (0, 0))) : (∀ o, w.cell? ⟨b, o, none⟩ = arr[o]?) ∧ ∀ o, w.frozen? ⟨b, o, none⟩ = false :=
  ⟨fun _ => blk_cell h, fun _ => blk_free h⟩
theorem size_set (w : World) (a : Addr) (v : Value) : (w.setCell a v).heap.size = w.heap.size := by simp [World.setCell]
theorem below_n {B : Nat} {a w : World} (h : Below B a w) (n : Nat) : Below B a (w.drewN n) := ⟨h.os, h.tape, h.output, h.size, h.block⟩

/-- w' is w after some draws. -/
def Drew (w w' : World) : Prop := ∃ n, w' = w.drewN n
theorem Drew.refl (w : World) : Drew w w := ⟨0, rfl⟩
theorem Drew.n {w w' : World} (h : Drew w w') (n : Nat) : Drew w (w'.drewN n) := by
  obtain ⟨m, rfl⟩ := h; exact ⟨m + n, World.drewN_drewN _ _ _⟩
theorem Drew.trans {a b c : World} (h : Drew a b) (k : Drew b c) : Drew a c := by
  obtain ⟨m, rfl⟩ := k; exact h.n m
theorem Drew.below {w w' : World} (h : Drew w w') (B : Nat) : Below B w w' := by
  obtain ⟨m, rfl⟩ := h; exact below_n (Below.refl _ _) m
theorem Drew.heap {w w' : World} (h : Drew w w') : w'.heap = w.heap := by
  obtain ⟨m, rfl⟩ := h; rfl

/-- The slice at s reads as the cells cs. -/
def Sl (w : World) (s : Option Addr) (cs : List Value) : Prop :=
  cs = [] ∨ ∃ b off, s = some ⟨b, off, none⟩ ∧ ∀ (j : Nat) (v : Value), cs[j]? = some v → w.cell? ⟨b, off + j, none⟩ = some v

theorem Sl.lt {w : World} {b off : Nat} {cs : List Value} (h : ∀ (j : Nat) (v : Value), cs[j]? = some v → w.cell? ⟨b, off + j, none⟩ = some v) (hne : cs ≠ []) : b < w.heap.size := by
  match cs, hne with
  | c :: cs, _ => have := h 0 c rfl; exact World.block_lt_of_cell? w _ this

theorem Sl.mono {w w' : World} {s : Option Addr} {cs : List Value} (h : Sl w s cs) (hb : Below w.heap.size w w') : Sl w' s cs := by
  rcases h with h | ⟨b, off, rfl, h⟩
  · exact .inl h
  · by_cases hne : cs = []
    · exact .inl hne
    · have hlt := Sl.lt h hne
      exact .inr ⟨b, off, rfl, fun j v hv => by rw [hb.cell (by exact hlt)]; exact h j v hv⟩

/-- Block by block: below B nothing has turned. -/
theorem Sl.mono' {w w' : World} {B : Nat} {s : Option Addr} {cs : List Value} (h : Sl w s cs) (hs : ∀ a, s = some a → cs ≠ [] → a.block < B) (hb : Below B w w') : Sl w' s cs := by
  rcases h with h | ⟨b, off, rfl, h⟩
  · exact .inl h
  · by_cases hne : cs = []
    · exact .inl hne
    · have hlt := hs _ rfl hne
      exact .inr ⟨b, off, rfl, fun j v hv => by rw [hb.cell (by exact hlt)]; exact h j v hv⟩

theorem Sl.at {w : World} {s : Option Addr} {cs : List Value} (h : Sl w s cs) {k : Nat} (hk : k < cs.length) : ∃ b off, s = some ⟨b, off, none⟩ ∧ b < w.heap.size ∧ ∀ (j : Nat) (v : Value), cs[j]? = some v → w.cell? ⟨b, off + j, none⟩ = some v := by
  rcases h with rfl | ⟨b, off, rfl, h⟩
  · simp at hk
  · exact ⟨b, off, rfl, Sl.lt h (by intro e; subst e; simp at hk), h⟩

theorem Sl.blk {w : World} {b : Nat} {arr : Array Value} {t : TypeId} {fz : Nat × Nat} (h : w.heap[b]? = some (.cells arr t fz)) : Sl w (some ⟨b, 0, none⟩) arr.toList :=
  .inr ⟨b, 0, rfl, fun j v hv => by rw [blk_cell h, Nat.zero_add]; simpa using hv⟩

theorem Sl.blk' {w : World} {b : Nat} {arr : Array Value} {cs : List Value} {t : TypeId} {fz : Nat × Nat} (h : w.heap[b]? = some (.cells arr t fz)) (hc : ∀ (j : Nat) (v : Value), cs[j]? = some v → arr[j]? = some v) : Sl w (some ⟨b, 0, none⟩) cs :=
  .inr ⟨b, 0, rfl, fun j v hv => by rw [blk_cell h, Nat.zero_add]; exact hc j v hv⟩

def ints (xs : List Int) : List Value := xs.map (Value.int .i64)
@[simp] theorem ints_length (xs : List Int) : (ints xs).length = xs.length := by simp [ints]
theorem ints_get {xs : List Int} {k : Nat} {x : Int} (h : xs[k]? = some x) : (ints xs)[k]? = some (.int .i64 x) := by simp [ints, h]

theorem Sl.drew {w : World} {s : Option Addr} {cs : List Value} (h : Sl w s cs) : Sl w.drew s cs := h
theorem Sl.nil (w : World) (s : Option Addr) : Sl w s [] := .inl rfl
theorem Sl.new (w : World) (cs : Array Value) (t : TypeId) : Sl (w.alloc (.cells cs t)) (some ⟨w.heap.size, 0, none⟩) cs.toList := Sl.blk (blk_new w _)
theorem addr_add (b off j : Nat) : (⟨b, off, none⟩ : Addr).add j = ⟨b, off + j, none⟩ := by unfold Addr.add; split <;> simp_all

/-- The element type of a slice type, out of closed facts. -/
structure ElemOf (P : Program) (t e : TypeId) (z : Value) (size bytes : Nat) : Prop where
  ht : P.underlying t = some (.slice e)
  hi : ∃ i, P.info? e = some i ∧ i.zero = some z ∧ i.size = size ∧ i.bytes = bytes
  hzs : z.cells.size = size
  hsz : 0 < size

theorem own_shape {w : World} {base : Nat} {e : TypeId} {size : Nat} {v : Value} {n : Nat} {xs : List Value} (h : w.ownsRow base e size v n xs) : ∃ s c, v = .slice s n c := by
  rcases h.2 with ⟨rfl, rfl⟩ | ⟨g, cap, cur, rfl, _⟩
  · exact ⟨_, _, rfl⟩
  · exact ⟨_, _, rfl⟩
theorem own_sl {w : World} {base : Nat} {e : TypeId} {size : Nat} {s : Option Addr} {c n : Nat} {xs : List Value} (h : w.ownsRow base e size (.slice s n c) n xs) : Sl w s xs := by
  rcases h.2 with ⟨h', rfl⟩ | ⟨g, cap, cur, h', hb, hg, _, _, _, ht⟩
  · left; simpa using h.1
  · simp only [Value.slice.injEq, true_and] at h'
    obtain ⟨rfl, rfl⟩ := h'
    exact Sl.blk' hg fun j v hv => by
      rw [← ht, List.getElem?_take] at hv
      split at hv
      · simpa using hv
      · cases hv
/-- What is owned lies in a block from base on. -/
theorem own_blk {w : World} {base : Nat} {e : TypeId} {size : Nat} {v : Value} {n : Nat} {xs : List Value} (h : w.ownsRow base e size v n xs) {k : Nat} (hk : v.ownBlock = some k) : base ≤ k ∧ k < w.heap.size := h.lt k hk
theorem own_mono {w w' : World} {base B : Nat} {e : TypeId} {size : Nat} {v : Value} {n : Nat} {xs : List Value} (h : w.ownsRow base e size v n xs) (hB : ∀ k, v.ownBlock = some k → k < B) (hb : Below B w w') : w'.ownsRow base e size v n xs := by
  refine ⟨h.1, ?_⟩
  rcases h.2 with hn | ⟨g, cap, cur, rfl, hb', hg, rest⟩
  · exact .inl hn
  · exact .inr ⟨g, cap, cur, rfl, hb', by rw [hb.block g (hB g rfl)]; exact hg, rest⟩
theorem own_below {w w' : World} {base : Nat} {e : TypeId} {size : Nat} {v : Value} {n : Nat} {xs : List Value} (h : w.ownsRow base e size v n xs) (hb : Below w.heap.size w w') : w'.ownsRow base e size v n xs :=
  own_mono h (fun k hk => (h.lt k hk).2) hb
theorem own_base {w : World} {base base' : Nat} {e : TypeId} {size : Nat} {v : Value} {n : Nat} {xs : List Value} (h : w.ownsRow base e size v n xs) (hB : base' ≤ base) : w.ownsRow base' e size v n xs := by
  refine ⟨h.1, ?_⟩
  rcases h.2 with hn | ⟨g, cap, cur, rfl, hb', hg, rest⟩
  · exact .inl hn
  · exact .inr ⟨g, cap, cur, rfl, Nat.le_trans hB hb', hg, rest⟩

theorem own_set_ne {w : World} {base : Nat} {e : TypeId} {size : Nat} {v : Value} {n : Nat} {xs : List Value} (h : w.ownsRow base e size v n xs) {b o : Nat} (hne : v.ownBlock ≠ some b) (u : Value) : (w.setCell ⟨b, o, none⟩ u).ownsRow base e size v n xs := by
  refine ⟨h.1, ?_⟩
  rcases h.2 with hn | ⟨g, cap, cur, rfl, hb', hg, rest⟩
  · exact .inl hn
  · exact .inr ⟨g, cap, cur, rfl, hb', blk_set_ne (by intro e; subst e; exact hne rfl) hg, rest⟩
/-- A block made by the call, known whole, is owned. -/
theorem own_of_blk {w : World} {g : Nat} {cur : Array Value} {e : TypeId} (hg : w.heap[g]? = some (.cells cur e (0, 0))) {base size n : Nat} (hb : base ≤ g) (hs : cur.size = n * size) (hn : n ≤ maxLen) :
    w.ownsRow base e size (.slice (some ⟨g, 0, none⟩) n n) n cur.toList :=
  ⟨by simpa using hs, .inr ⟨g, n, cur, rfl, hb, hg, Nat.le_refl _, hn, hs, List.take_of_length_le (by rw [Array.length_toList, hs]; exact Nat.le_refl _)⟩⟩

theorem run_app {P : Program} {w : World} {t ty e : TypeId} {z : Value} {size bytes : Nat} (E : ElemOf P t e z size bytes) {base : Nat} {v : Value} {n : Nat} {xs : List Value} (hown : w.ownsRow base e size v n xs)
    {s : Option Addr} {m c : Nat} {news : List Value} (hl : news.length = m * size) (hs : Sl w s news) (h1 : ∀ u ∈ news, u.oneCell' = true)
    (h63 : n + m ≤ maxLen) (hbytes : (n + m) * bytes ≤ 140737488355328) (hbase : base ≤ w.heap.size) :
    ∃ v' w', (Builtin.append_ #[t, t] ty #[v, .slice s m c]).run P w = .ok v' w' ∧ w'.ownsRow base e size v' (n + m) (xs ++ news) ∧ w.grownBy w' v.ownBlock ∧ (v'.ownBlock = v.ownBlock ∨ v'.ownBlock = some w.heap.size) := by
  obtain ⟨ht, ⟨i, hi, hz, h4, h5⟩, hzs, hsz⟩ := E
  by_cases hm : m = 0
  · subst hm
    obtain rfl : news = [] := List.eq_nil_of_length_eq_zero (by simpa using hl)
    refine ⟨v, w, ?_, by simpa using hown, World.grownBy.refl w _, .inl rfl⟩
    have hf : (Builtin.firstCells i.size 0 (.slice s 0 c)).run P w = .ok #[] w := by
      cases s <;> simp [Builtin.firstCells, loadCells, loadCellsFrom]
    rcases hown.2 with ⟨rfl, rfl⟩ | ⟨g, cap, cur, rfl, _, _, hnc, _⟩
    · simp [Builtin.append_, run_underlying ht, sizeOf, typeInfo, hi, Builtin.lenOf, hf]
    · simp [Builtin.append_, run_underlying ht, sizeOf, typeInfo, hi, Builtin.lenOf, hf, hnc, storeCells]
  · rcases hs with rfl | ⟨b, off, rfl, hs⟩
    · have : m * size = 0 := by simpa using hl.symm
      rcases Nat.mul_eq_zero.1 this with h | h <;> omega
    · obtain ⟨v', w', hr, h2, h3, _, h6⟩ := run_append_own_at (P := P) w base t ty e i z size bytes ht hi hz h4 h5 hzs hsz v n xs hown ⟨b, off, none⟩ m c news hl (fun j u hu => by rw [addr_add]; exact hs j u hu) h1 h63 hbytes hbase
      exact ⟨v', w', hr, h2, h3, h6⟩

/-- append as an operation: what stands behind it. -/
theorem wp_app {P : Program} {w : World} {o : Oper} {a : Act} {K : Act → World → Prop} {Q : Exit → Act → World → Prop} (x y : Operand) {t e : TypeId} {z : Value} {size bytes : Nat}
    (ho : o.op = .call { callee := .builtin .append, args := #[x, y], argTypes := #[t, t] }) (E : ElemOf P t e z size bytes) {base : Nat} {v : Value} {n : Nat} {xs : List Value} (hown : w.ownsRow base e size v n xs)
    {s : Option Addr} {m c : Nat} {news : List Value} (hx : a.eval x = v) (hy : a.eval y = .slice s m c) (hl : news.length = m * size) (hs : Sl w s news) (h1 : ∀ u ∈ news, u.oneCell' = true)
    (N : Nat) (hN : n + m = N) (L : List Value) (hL : xs ++ news = L) (h63 : N ≤ maxLen) (hbytes : N * bytes ≤ 140737488355328) (hbase : base ≤ w.heap.size)
    (h : ∀ s' c' w', w'.ownsRow base e size (.slice s' N c') N L → Below base w w' → w.grownBy w' v.ownBlock → ((Value.slice s' N c').ownBlock = v.ownBlock ∨ (Value.slice s' N c').ownBlock = some w.heap.size) → K (a.put o.dst (.slice s' N c')) w') : o.wp P a w K Q := by
  subst hN hL
  obtain ⟨v', w', hr, h2, h3, h4⟩ := run_app (ty := o.type) E hown hl hs h1 h63 hbytes hbase (c := c)
  obtain ⟨s', c', rfl⟩ := own_shape h2
  unfold Oper.wp execOp
  simp only [ho, resolve, invoke, builtin, Sem.run_bind, Sem.run_pure, Result.andThen_ok, List.map_toArray, List.map_cons, List.map_nil, hx, hy, hr]
  exact h s' c' w' h2 ((Below.refl _ _).grown h3 hbase (fun k hk => (own_blk hown hk).1)) h3 h4
theorem wpl_app {P : Program} {w : World} {ops : Array Oper} {rest : List Oper} {o : Oper} {a : Act} {Q : Exit → Act → World → Prop} (hgd : o.guard = none) (x y : Operand) {t e : TypeId} {z : Value} {size bytes : Nat}
    (ho : o.op = .call { callee := .builtin .append, args := #[x, y], argTypes := #[t, t] }) (E : ElemOf P t e z size bytes) {base : Nat} {v : Value} {n : Nat} {xs : List Value} (hown : w.ownsRow base e size v n xs)
    {s : Option Addr} {m c : Nat} {news : List Value} (hx : a.eval x = v) (hy : a.eval y = .slice s m c) (hl : news.length = m * size) (hs : Sl w s news) (h1 : ∀ u ∈ news, u.oneCell' = true)
    (N : Nat) (hN : n + m = N) (L : List Value) (hL : xs ++ news = L) (h63 : N ≤ maxLen) (hbytes : N * bytes ≤ 140737488355328) (hbase : base ≤ w.heap.size)
    (h : ∀ s' c' w', w'.ownsRow base e size (.slice s' N c') N L → Below base w w' → w.grownBy w' v.ownBlock → ((Value.slice s' N c').ownBlock = v.ownBlock ∨ (Value.slice s' N c').ownBlock = some w.heap.size) → wpList P ops Q rest (a.put o.dst (.slice s' N c')) w') : wpList P ops Q (o :: rest) a w :=
  wpList_plain hgd fun _ hK => wp_app x y ho E hown hx hy hl hs h1 N hN L hL h63 hbytes hbase fun s' c' w' h2 h3 h4 h5 => hK _ _ (h s' c' w' h2 h3 h4 h5)
theorem step_app {P : Program} {w : World} {ops : Array Oper} {o : Oper} {a : Act} {K : Act → World → Prop} {Q : Exit → Act → World → Prop} {F : Prop} (hgd : o.guard = none) (x y : Operand) {t e : TypeId} {z : Value} {size bytes : Nat}
    (ho : o.op = .call { callee := .builtin .append, args := #[x, y], argTypes := #[t, t] }) (E : ElemOf P t e z size bytes) {base : Nat} {v : Value} {n : Nat} {xs : List Value} (hown : w.ownsRow base e size v n xs)
    {s : Option Addr} {m c : Nat} {news : List Value} (hx : a.eval x = v) (hy : a.eval y = .slice s m c) (hl : news.length = m * size) (hs : Sl w s news) (h1 : ∀ u ∈ news, u.oneCell' = true)
    (N : Nat) (hN : n + m = N) (L : List Value) (hL : xs ++ news = L) (h63 : N ≤ maxLen) (hbytes : N * bytes ≤ 140737488355328) (hbase : base ≤ w.heap.size)
    (h : ∀ s' c' w', w'.ownsRow base e size (.slice s' N c') N L → Below base w w' → w.grownBy w' v.ownBlock → ((Value.slice s' N c').ownBlock = v.ownBlock ∨ (Value.slice s' N c').ownBlock = some w.heap.size) → K (a.put o.dst (.slice s' N c')) w') :
    if Region.wanted o (yielded ops a.tmps) = true then Oper.wp P o a w K Q else F := by
  have hw : Region.wanted o (yielded ops a.tmps) = true := by simp [Region.wanted, hgd]
  rw [if_pos hw]
  exact wp_app x y ho E hown hx hy hl hs h1 N hN L hL h63 hbytes hbase h
theorem ints_one (xs : List Int) : ∀ u ∈ ints xs, u.oneCell' = true := by
  intro u hu; simp [ints] at hu; obtain ⟨x, _, rfl⟩ := hu; rfl

theorem i64_and1 (n : Int) : bits .and .i64 n 1 = n % 2 := by
  have h1 : (BitVec.ofInt 64 1).toNat = 2 ^ 1 - 1 := by decide
  have key : (BitVec.ofInt 64 n &&& BitVec.ofInt 64 1).toNat = (n % ((2 ^ 64 : Nat) : Int)).toNat % 2 ^ 1 := by
    rw [BitVec.toNat_and, BitVec.toNat_ofInt, h1, Nat.and_two_pow_sub_one_eq_mod]
  show IntKind.i64.wrap ((BitVec.ofInt 64 n &&& BitVec.ofInt 64 1).toNat : Nat) = n % 2
  rw [key, IntKind.wrap_i64]
  omega

/-- A struct that is copied field by field: the argument's block, the result's, and the one under construction. -/
structure St (w W : World) (tA tR : TypeId) (A R O : Array Value) : Prop where
  a : W.heap[w.heap.size]? = some (.cells A tA (0, 0))
  r : W.heap[w.heap.size + 1]? = some (.cells R tR (0, 0))
  o : W.heap[w.heap.size + 1 + 1]? = some (.cells O tR (0, 0))
  sz : w.heap.size + 3 ≤ W.heap.size
  bel : Below w.heap.size w W
theorem St.start (w : World) (tA tR : TypeId) (A R O : Array Value) : St w (((w.alloc (.cells A tA)).alloc (.cells R tR)).alloc (.cells O tR)) tA tR A R O :=
  ⟨blk_old (blk_old (blk_new w _)), blk_old (blk_at (by simp)), blk_at (by simp), by simp, by go_grown⟩
theorem St.call {w W W' : World} {tA tR : TypeId} {A R O : Array Value} (h : St w W tA tR A R O) (hb : Below W.heap.size W W') : St w W' tA tR A R O :=
  ⟨blk_below hb (blk_lt h.a) h.a, blk_below hb (blk_lt h.r) h.r, blk_below hb (blk_lt h.o) h.o, Nat.le_trans h.sz hb.size, h.bel.trans (hb.mono h.bel.size)⟩
theorem St.set {w W : World} {tA tR : TypeId} {A R O : Array Value} (h : St w W tA tR A R O) (i : Nat) (v : Value) : St w (W.setCell ⟨w.heap.size + 1 + 1, i, none⟩ v) tA tR A R (O.setIfInBounds i v) :=
  ⟨blk_set_ne (by omega) h.a, blk_set_ne (by omega) h.r, blk_set h.o, by rw [size_set]; exact h.sz, h.bel.setCell (by simp; omega) _⟩
theorem St.setR {w W : World} {tA tR : TypeId} {A R O : Array Value} (h : St w W tA tR A R O) (i : Nat) (v : Value) : St w (W.setCell ⟨w.heap.size + 1, i, none⟩ v) tA tR A (R.setIfInBounds i v) O :=
  ⟨blk_set_ne (by omega) h.a, blk_set h.r, blk_set_ne (by omega) h.o, by rw [size_set]; exact h.sz, h.bel.setCell (by simp) _⟩
theorem St.keepR {w W : World} {tA tR : TypeId} {A R O : Array Value} (_ : St w W tA tR A R O) {b : Nat} {x : Option Obj} (hb : w.heap.size + 3 ≤ b) (hx : W.heap[b]? = x) (i : Nat) (v : Value) : (W.setCell ⟨w.heap.size + 1, i, none⟩ v).heap[b]? = x :=
  blk_set_ne (by omega) hx
theorem St.keep {w W : World} {tA tR : TypeId} {A R O : Array Value} (_ : St w W tA tR A R O) {b : Nat} {x : Option Obj} (hb : w.heap.size + 3 ≤ b) (hx : W.heap[b]? = x) (i : Nat) (v : Value) : (W.setCell ⟨w.heap.size + 1 + 1, i, none⟩ v).heap[b]? = x :=
  blk_set_ne (by omega) hx
theorem St.cells {w W : World} {tA tR : TypeId} {A R O : Array Value} (h : St w W tA tR A R O) : (∀ o, W.cell? ⟨w.heap.size, o, none⟩ = A[o]?) ∧ (∀ o, W.cell? ⟨w.heap.size + 1, o, none⟩ = R[o]?) ∧ (∀ o, W.cell? ⟨w.heap.size + 1 + 1, o, none⟩ = O[o]?) ∧
    (∀ o, W.frozen? ⟨w.heap.size + 1, o, none⟩ = false) ∧ ∀ o, W.frozen? ⟨w.heap.size + 1 + 1, o, none⟩ = false :=
  ⟨fun _ => blk_cell h.a, fun _ => blk_cell h.r, fun _ => blk_cell h.o, fun _ => blk_free h.r, fun _ => blk_free h.o⟩

/-! Maps whose keys are structs of integers: the entries are known whole. -/

def fk (p : Value → Bool) : List MapEntry → Nat → Option (Nat × Value)
  | [], _ => none
  | e :: es, i => if p e.key then some (i, e.val) else fk p es (i + 1)

theorem run_findAsking {P : Program} {w : World} {K : TypeId} {k : Value} {p : Value → Bool} : ∀ (es : List MapEntry) (i : Nat), (∀ e ∈ es, (Op.equal K k e.key).run P w = .ok (p e.key) w) →
    (Instr.findAsking K k es i).run P w = .ok (fk p es i) w
  | [], i, _ => by simp [Instr.findAsking, fk]
  | e :: es, i, h => by
    have h1 := h e (by simp)
    have h2 := run_findAsking es (i + 1) (fun e he => h e (by simp [he]))
    unfold Instr.findAsking fk
    simp only [Sem.run_bind, h1, Result.andThen_ok]
    cases p e.key
    · simpa using h2
    · simp

theorem run_findKey {P : Program} {w : World} {K : TypeId} {fs : Array Field} (hK : P.underlying K = some (.struct fs)) {k : Value} {p : Value → Bool} (es : List MapEntry) (h : ∀ e ∈ es, (Op.equal K k e.key).run P w = .ok (p e.key) w) :
    (Instr.findKey K k es).run P w = .ok (fk p es 0) w := by
  unfold Instr.findKey
  simp only [Sem.run_bind, run_underlying hK, Result.andThen_ok]
  cases es with
  | nil => simp [Instr.findNow, fk]
  | cons e es =>
    have : Instr.findNow (.struct fs) k (e :: es) 0 = none := by simp [Instr.findNow, Instr.sameNow]
    rw [this]
    exact run_findAsking _ 0 h

theorem run_lookup_map {P : Program} {w : World} {T K E : TypeId} {fs : Array Field} (hT : P.underlying T = some (.map K E)) (hK : P.underlying K = some (.struct fs)) {b : Nat} {es : Array MapEntry} {clock : Nat} (hb : w.heap[b]? = some (.map es clock))
    {k : Value} {p : Value → Bool} {z : Value} (hz : (zeroValue E).run P w = .ok z w) (hc : ∀ e, (Instr.checkKey e 10000 K k).run P w = .ok () w) (h : ∀ e ∈ es.toList, (Op.equal K k e.key).run P w = .ok (p e.key) w) (ok : Bool) :
    (Instr.lookup T (.map (some b)) k ok).run P w = .ok (match fk p es.toList 0 with
      | some (_, v) => if ok then .tuple #[v, .bool true] else v
      | none => if ok then .tuple #[z, .bool false] else z) w := by
  have hf := run_findKey hK es.toList h
  unfold Instr.lookup
  simp only [Sem.run_bind, run_underlying hT, Result.andThen_ok]
  have ho : (getObj b).run P w = .ok (.map es clock) w := by simp [getObj, Sem.run, hb]
  simp only [ho, Result.andThen_ok, Sem.run_bind, Sem.run_pure, hc, hf]
  cases fk p es.toList 0 with
  | none => simp [hz]
  | some x => simp

theorem run_update_new {P : Program} {w : World} {T K E : TypeId} {fs : Array Field} (hT : P.underlying T = some (.map K E)) (hK : P.underlying K = some (.struct fs)) {b : Nat} {es : Array MapEntry} {clock : Nat} (hb : w.heap[b]? = some (.map es clock))
    {k v : Value} {p : Value → Bool} (hc : ∀ e, (Instr.checkKey e 10000 K k).run P w = .ok () w) (h : ∀ e ∈ es.toList, (Op.equal K k e.key).run P w = .ok (p e.key) w) (hn : fk p es.toList 0 = none) :
    (Instr.mapUpdate T (.map (some b)) k v).run P w = .ok () { w with heap := w.heap.setIfInBounds b (.map (es.push { key := k, val := v, born := clock }) (clock + 1)) } := by
  have hf := run_findKey hK es.toList h
  unfold Instr.mapUpdate
  simp only [Sem.run_bind, run_underlying hT, Result.andThen_ok]
  have ho : (getObj b).run P w = .ok (.map es clock) w := by simp [getObj, Sem.run, hb]
  simp only [ho, Result.andThen_ok, Sem.run_bind, Sem.run_pure, hc, hf, hn]
  simp [setObj, Sem.run, hb]

end Go.Proofs.YtnifgamlmaembaaDoor
