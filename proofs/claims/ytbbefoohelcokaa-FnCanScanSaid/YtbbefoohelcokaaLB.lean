import Derived.Test.YtbbefoohelcokaaLA
namespace Go.Proofs.Ytbbefoohelcokaa
set_option linter.unusedVariables false
set_option linter.unusedSimpArgs false
open Go.RowKit

/-! InsertScan of the program: what it returns is valid. -/

theorem below_alS (w : World) (o : Obj) : Below w.heap.size w (w.alloc o) := (Below.refl _ _).alloc (Nat.le_refl _) _
theorem own_ptr {w : World} {base : Nat} {e : TypeId} {size : Nat} {s : Option Addr} {n c : Nat} {xs : List Value} (h : w.ownsRow base e size (.slice s n c) n xs) (hn : 0 < n) (hz : 0 < size) : ∃ g, s = some ⟨g, 0, none⟩ ∧ base ≤ g := by
  rcases h.2 with ⟨h', rfl⟩ | ⟨g, cap, cur, h', hb, _⟩
  · have := h.1
    have := Nat.mul_pos hn hz
    simp at *
  · simp only [Value.slice.injEq] at h'
    exact ⟨g, h'.1, hb⟩
/-- A store into a row of ints that the call owns. -/
theorem own_put {w : World} {base g n c : Nat} {xs : List Int} (h : w.ownsRow base 3 1 (.slice (some ⟨g, 0, none⟩) n c) n (ints xs)) (j : Nat) (y : Int) : (w.setCell ⟨g, j, none⟩ (.int .i64 y)).ownsRow base 3 1 (.slice (some ⟨g, 0, none⟩) n c) n (ints (xs.set j y)) := by
  have hl : (ints xs).length = n * 1 := h.1
  refine ⟨by simpa [ints] using hl, ?_⟩
  rcases h.2 with ⟨h', _⟩ | ⟨g', cap, cur, h', hb, hg, h1, h2, h3, ht⟩
  · cases h'
  · simp only [Value.slice.injEq, Option.some.injEq, Addr.mk.injEq, true_and] at h'
    obtain ⟨⟨rfl, -⟩, rfl⟩ := h'
    refine .inr ⟨g, c, cur.setIfInBounds j (.int .i64 y), rfl, hb, blk_set hg, h1, h2, by simpa using h3, ?_⟩
    rw [Array.toList_setIfInBounds, List.take_set, ht]
    simp [ints]

/-- The circuit in the making. -/
structure SI (N b4 : Nat) (I : Int) (n F G m : Nat) (vo : Value) (xo : List Int) (xn : List Int) (xg : List Gt) (s1 s2 : Option Addr) (c1 c2 : Nat) (w : World) : Prop where
  out : OutC w N b4 I xn xg xo (.slice s1 n c1) (.slice s2 xg.length c2) vo
  ln : xn.length = n
  lg : xg.length = G + m
  gates : gatesP (F : Int) xg
  hN : N ≤ w.heap.size

theorem SI.below {N b4 : Nat} {I : Int} {n F G m : Nat} {vo : Value} {xo xn : List Int} {xg : List Gt} {s1 s2 : Option Addr} {c1 c2 : Nat} {w w' : World} (h : SI N b4 I n F G m vo xo xn xg s1 s2 c1 c2 w) (hb : Below w.heap.size w w') : SI N b4 I n F G m vo xo xn xg s1 s2 c1 c2 w' :=
  ⟨h.out.below hb, h.ln, h.lg, h.gates, Nat.le_trans h.hN hb.size⟩

theorem litP_up {l v v' : Int} (h : litP l v) (hv : v ≤ v') : litP l v' := by unfold litP at *; omega

/-- A gate is appended. -/
theorem SI.push {N b4 : Nat} {I : Int} {n F G m : Nat} {vo : Value} {xo xn : List Int} {xg : List Gt} {s1 s2 : Option Addr} {c1 c2 : Nat} {w w2 : World} (h : SI N b4 I n F G m vo xo xn xg s1 s2 c1 c2 w) {s' : Option Addr} {M c' : Nat} {a b : Int}
    (ho : w2.ownsRow N 36 2 (.slice s' M c') M (gcells xg ++ [.int .i64 a, .int .i64 b])) (hM : M = xg.length + 1) (hg : w.grownBy w2 (Value.slice s2 xg.length c2).ownBlock) (ha : litP a ((F : Int) + xg.length)) (hb : litP b ((F : Int) + xg.length)) :
    w2.heap[b4]? = some (.cells #[.int .i64 I, .slice s1 n c1, .slice s2 xg.length c2, vo] 26 (0, 0)) ∧ ∃ xg' : List Gt, xg'.length = M ∧ SI N b4 I n F G (m + 1) vo xo xn xg' s1 s' c1 c' (w2.setCell ⟨b4, 2, none⟩ (.slice s' M c')) := by
  have e : (xg ++ [(⟨a, b⟩ : Gt)]).length = M := by simp [hM]
  obtain ⟨h1, h2⟩ := h.out.pushG (xg' := xg ++ [⟨a, b⟩]) (vg' := .slice s' M c') hg (by rw [e, ← gcells_append]; exact ho)
  refine ⟨h1, _, e, ⟨by rw [e]; exact h2, h.ln, by rw [e]; have := h.lg; omega, gatesP_app h.gates ha hb, ?_⟩⟩
  have := hg.size; have := h.hN; simp; omega

/-- A next-state literal is replaced. -/
theorem SI.put {N b4 : Nat} {I : Int} {n F G m : Nat} {vo : Value} {xo xn : List Int} {xg : List Gt} {g : Nat} {s2 : Option Addr} {c1 c2 : Nat} {w : World} (h : SI N b4 I n F G m vo xo xn xg (some ⟨g, 0, none⟩) s2 c1 c2 w) (hv : ∀ k, vo.ownBlock = some k → k ≠ g) (j : Nat) (y : Int) :
    SI N b4 I n F G m vo xo (xn.set j y) xg (some ⟨g, 0, none⟩) s2 c1 c2 (w.setCell ⟨g, j, none⟩ (.int .i64 y)) := by
  have hne : b4 ≠ g := fun e => own_tyb h.out.n h.out.blk (by decide) (by rw [e]; rfl)
  refine ⟨⟨blk_set_ne (by omega) h.out.blk, ?_, own_set_ne h.out.g (fun hk => own_ty h.out.n h.out.g (by decide) rfl hk) _, own_set_ne h.out.o (fun hk => hv _ hk rfl) _, h.out.ne⟩, by rw [List.length_set]; exact h.ln, h.lg, h.gates, by simpa using h.hN⟩
  have hn := h.out.n
  rw [h.ln] at hn
  have := own_put hn j y
  rw [List.length_set, h.ln]
  exact this
theorem SI.nblk {N b4 : Nat} {I : Int} {n F G m : Nat} {vo : Value} {xo xn : List Int} {xg : List Gt} {g : Nat} {s2 : Option Addr} {c1 c2 : Nat} {w : World} (h : SI N b4 I n F G m vo xo xn xg (some ⟨g, 0, none⟩) s2 c1 c2 w) {j : Nat} (hj : j < n) : (∃ v, w.cell? ⟨g, j, none⟩ = some v) ∧ w.frozen? ⟨g, j, none⟩ = false := by
  have hn := h.out.n
  rw [h.ln] at hn
  rcases hn.2 with ⟨h', _⟩ | ⟨g', cap, cur, h', hb, hg, h1, h2, h3, ht⟩
  · cases h'
  · simp only [Value.slice.injEq, Option.some.injEq, Addr.mk.injEq, true_and] at h'
    obtain ⟨⟨rfl, -⟩, rfl⟩ := h'
    refine ⟨?_, blk_free hg⟩
    have hlt : j < cur.size := by omega
    exact ⟨cur[j], by rw [(blk_all hg).1 j]; exact Array.getElem?_eq_getElem hlt⟩

/-- A store into the array of two ints beside it. -/
theorem SI.setH {N b4 : Nat} {I : Int} {n F G m : Nat} {vo : Value} {xo xn : List Int} {xg : List Gt} {s1 s2 : Option Addr} {c1 c2 : Nat} {w : World} (h : SI N b4 I n F G m vo xo xn xg s1 s2 c1 c2 w) {H : Nat} {arr : Array Value} (hk : w.heap[H]? = some (.cells arr 43 (0, 0))) (o : Nat) (u : Value) :
    SI N b4 I n F G m vo xo xn xg s1 s2 c1 c2 (w.setCell ⟨H, o, none⟩ u) := by
  have hne : H ≠ b4 := fun e => by
    rw [e, h.out.blk] at hk
    simp at hk
  exact ⟨⟨blk_set_ne hne h.out.blk, own_set_ne h.out.n (own_tyb h.out.n hk (by decide)) _, own_set_ne h.out.g (own_tyb h.out.g hk (by decide)) _, own_set_ne h.out.o (own_tyb h.out.o hk (by decide)) _, h.out.ne⟩, h.ln, h.lg, h.gates, by simpa using h.hN⟩

/-- The blocks beside it stay. -/
theorem SI.keep {N b4 : Nat} {I : Int} {n F G m : Nat} {vo : Value} {xo xn : List Int} {xg : List Gt} {s1 s2 : Option Addr} {c1 c2 : Nat} {w0 w w2 : World} (h : SI N b4 I n F G m vo xo xn xg s1 s2 c1 c2 w0) {o : Obj} (hw : w = w0.alloc o) {s' : Option Addr} {M c' : Nat}
    (hg : w.grownBy w2 (Value.slice s2 xg.length c2).ownBlock) (hob : (Value.slice s' M c').ownBlock = (Value.slice s2 xg.length c2).ownBlock ∨ (Value.slice s' M c').ownBlock = some w.heap.size)
    {H L : Nat} {a b : Array Value} (hH : w0.heap[H]? = some (.cells a 43 (0, 0))) (hL : w0.heap[L]? = some (.cells b 36 (0, 0))) (hne : (Value.slice s2 xg.length c2).ownBlock ≠ some L) (u : Value) :
    (w2.setCell ⟨b4, 2, none⟩ u).heap[H]? = some (.cells a 43 (0, 0)) ∧ (w2.setCell ⟨b4, 2, none⟩ u).heap[L]? = some (.cells b 36 (0, 0)) ∧ (Value.slice s' M c').ownBlock ≠ some L := by
  subst hw
  have hHb : b4 ≠ H := fun e => by rw [← e, h.out.blk] at hH; simp at hH
  have hLb : b4 ≠ L := fun e => by rw [← e, h.out.blk] at hL; simp at hL
  have e1 : w2.heap[H]? = some (.cells a 43 (0, 0)) := by
    rw [hg.block H (blk_lt (blk_old hH)) (fun e => own_tyb h.out.g hH (by decide) e.symm)]; exact blk_old hH
  have e2 : w2.heap[L]? = some (.cells b 36 (0, 0)) := by
    rw [hg.block L (blk_lt (blk_old hL)) (fun e => hne e.symm)]; exact blk_old hL
  refine ⟨blk_set_ne hHb e1, blk_set_ne hLb e2, fun e => ?_⟩
  rcases hob with h1 | h1
  · exact hne (h1 ▸ e)
  · rw [h1] at e
    have := blk_lt hL
    simp at e
    omega

end Go.Proofs.Ytbbefoohelcokaa
