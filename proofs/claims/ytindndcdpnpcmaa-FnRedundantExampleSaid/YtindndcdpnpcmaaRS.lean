import Derived.Test.YtindndcdpnpcmaaRK
import Derived.Test.YtindndcdpnpcmaaRE
import Derived.Test.YtindndcdpnpcmaaOV
import Derived.Test.YtindndcdpnpcmaaRI
namespace Go.Proofs.Ytindndcdpnpcmaa
set_option linter.unusedVariables false
set_option linter.unusedSimpArgs false
open Go.RowKit

/-! The law FnRedundantExample. -/

def redC : Cir := ⟨2, [], [⟨2, 4⟩, ⟨3, 7⟩], [9]⟩
theorem redC_opt : (optR redC).gates.length = 2 := by decide +kernel
theorem redC_rem : (remR redC).gates.length = 0 ∧ (remR redC).outs = [2] := by decide +kernel
theorem redC_swp : (sweepR redC).gates.length = 0 ∧ (sweepR redC).outs = [2] := by decide +kernel
theorem redC_irr : irrB redC = false := by decide +kernel

/-- A circuit's box. -/
structure BoxC (W : World) (X : Nat) (D : Cir) (xn xg xo : Option Addr) (yn yg yo : Nat) : Prop where
  blk : W.heap[X]? = some (.cells #[.int .i64 D.inp, .slice xn D.next.length yn, .slice xg D.gates.length yg, .slice xo D.outs.length yo] 29 (0, 0))
  so : Sl W xo (ints D.outs)
theorem BoxC.below {W W' : World} {X : Nat} {D : Cir} {xn xg xo : Option Addr} {yn yg yo : Nat} (h : BoxC W X D xn xg xo yn yg yo) (hb : Below W.heap.size W W') : BoxC W' X D xn xg xo yn yg yo :=
  ⟨blk_below hb (blk_lt h.blk) h.blk, h.so.mono hb⟩
theorem BoxC.new {w : World} {base : Nat} {D : Cir} {xn xg xo : Option Addr} {yn yg yo : Nat} (h : CirOwn w base D (.slice xn D.next.length yn) (.slice xg D.gates.length yg) (.slice xo D.outs.length yo)) : BoxC (w.alloc (.cells #[.int .i64 D.inp, .slice xn D.next.length yn, .slice xg D.gates.length yg, .slice xo D.outs.length yo] 29)) w.heap.size D xn xg xo yn yg yo :=
  ⟨blk_new _ _, (own_sl h.o).mono (below_al _ _)⟩

set_option maxRecDepth 100000 in
set_option maxHeartbeats 3200000 in
theorem FnRedundantExample_any (s : Option Addr) (cap : Nat) (xs : List Int) (w : World) (hs : Sl w s (u8s xs)) (hl : xs.length ≤ 9223372036854775807) (hcap : xs.length ≤ cap) (hcap2 : cap ≤ 9223372036854775807) (hr : ∀ x ∈ xs, 0 ≤ x ∧ x ≤ 255) :
    Calls Try.prog 7 #[.slice s xs.length cap] w fun e w' => e = .returned (.bool true) ∧ Below w.heap.size w w' := by
  by_cases hc : xs.length ≤ 1048576
  · clear hs hr
    obtain ⟨W1, hW1⟩ : ∃ W1, W1 = (((w.alloc (.cells #[.int .i64 2, .int .i64 4, .int .i64 3, .int .i64 7] 47)).alloc (.cells #[.int .i64 9] 3)).alloc (.cells #[.int .i64 2, .slice none 0 0, .slice (some ⟨w.heap.size, 0, none⟩) 2 2, .slice (some ⟨w.heap.size + 1, 0, none⟩) 1 1] 29)) := ⟨_, rfl⟩
    have hb : Below w.heap.size w W1 := by rw [hW1]; go_grown
    have hg : W1.heap[w.heap.size]? = some (.cells #[.int .i64 2, .int .i64 4, .int .i64 3, .int .i64 7] 47 (0, 0)) := by rw [hW1]; exact blk_old (blk_old (blk_new _ _))
    have ho : W1.heap[w.heap.size + 1]? = some (.cells #[.int .i64 9] 3 (0, 0)) := by rw [hW1]; exact blk_old (blk_at (by simp))
    have hbx : W1.heap[w.heap.size + 2]? = some (.cells #[.int .i64 2, .slice none 0 0, .slice (some ⟨w.heap.size, 0, none⟩) 2 2, .slice (some ⟨w.heap.size + 1, 0, none⟩) 1 1] 29 (0, 0)) := by rw [hW1]; exact blk_at (by simp)
    have hV : CirV W1 (.agg #[.int .i64 2, .slice none 0 0, .slice (some ⟨w.heap.size, 0, none⟩) 2 2, .slice (some ⟨w.heap.size + 1, 0, none⟩) 1 1]) redC :=
      ⟨none, 0, some ⟨w.heap.size, 0, none⟩, 2, some ⟨w.heap.size + 1, 0, none⟩, 1, rfl, .inl rfl, Sl.blk hg, Sl.blk ho, by decide, by decide, by decide⟩
    have HC : Hid (∀ W, Below W1.heap.size W1 W → CirV W (.agg #[.int .i64 2, .slice none 0 0, .slice (some ⟨w.heap.size, 0, none⟩) 2 2, .slice (some ⟨w.heap.size + 1, 0, none⟩) 1 1]) redC ∧ (∀ q, W.cell? ⟨w.heap.size + 2, q, none⟩ = #[Value.int .i64 2, .slice none 0 0, .slice (some ⟨w.heap.size, 0, none⟩) 2 2, .slice (some ⟨w.heap.size + 1, 0, none⟩) 1 1][q]?) ∧ Below w.heap.size w W) := fun W hW =>
      ⟨hV.mono hW, (blk_all (blk_below hW (blk_lt hbx) hbx)).1, hb.trans (hW.mono hb.size)⟩
    have HW := Lib.hid hW1
    clear hW1 hb hg ho hbx hV
    obtain ⟨D1, hD1⟩ : ∃ D, D = optR redC := ⟨_, rfl⟩
    obtain ⟨D2, hD2⟩ : ∃ D, D = remR redC := ⟨_, rfl⟩
    obtain ⟨D3, hD3⟩ : ∃ D, D = sweepR redC := ⟨_, rfl⟩
    have HDD := Lib.hid (And.intro hD1 (And.intro hD2 hD3))
    clear hD1 hD2 hD3
    go_enter Try.func7, Try.ntmps7
    go_upto_region 4 with fail
    rw [← HW.out]
    have cb := (HC.out _ (Below.refl _ _)).2.1
    go_upto_region 5 with (go_at_call 31; ((with_reducible refine (Optimize_i _ redC _ (HC.out _ (Below.refl _ _)).1).mono ?_); rintro e w2 ⟨vn, vg, vo, rfl, h1, hq⟩; rw [← HDD.out.1] at h1 ⊢; obtain ⟨an, bn, rfl⟩ := own_shape h1.n; obtain ⟨ag, bg, rfl⟩ := own_shape h1.g; obtain ⟨ao, bo, rfl⟩ := own_shape h1.o; have H2 := Lib.hid (And.intro h1 hq); clear h1 hq cb))
    have x1 := BoxC.new H2.out.1
    have hb2 := H2.out.2.trans ((below_al w2 (.cells #[.int .i64 D1.inp, .slice an D1.next.length bn, .slice ag D1.gates.length bg, .slice ao D1.outs.length bo] 29)).mono H2.out.2.size)
    obtain ⟨X1, hX1⟩ : ∃ X, X = w2.heap.size := ⟨_, rfl⟩
    rw [← hX1] at x1
    rw [← hX1]
    clear hX1 H2
    revert x1 hb2
    generalize w2.alloc (.cells #[.int .i64 D1.inp, .slice an D1.next.length bn, .slice ag D1.gates.length bg, .slice ao D1.outs.length bo] 29) = W3
    intro hb2 x1
    have H3 := Lib.hid (And.intro x1 hb2)
    clear x1 hb2
    have cb := (HC.out _ H3.out.2).2.1
    go_upto_region 6 with (go_at_call 18; ((with_reducible refine (RemoveRedundancy_i _ redC _ (HC.out _ H3.out.2).1).mono ?_); rintro e w4 ⟨vn, vg, vo, rfl, h1, hq⟩; rw [← HDD.out.2.1] at h1 ⊢; obtain ⟨pn, qn, rfl⟩ := own_shape h1.n; obtain ⟨pg, qg, rfl⟩ := own_shape h1.g; obtain ⟨po, qo, rfl⟩ := own_shape h1.o; have H4 := Lib.hid (And.intro h1 hq); clear h1 hq cb))
    have x2 := BoxC.new H4.out.1
    have hb4 := H4.out.2.trans ((below_al w4 (.cells #[.int .i64 D2.inp, .slice pn D2.next.length qn, .slice pg D2.gates.length qg, .slice po D2.outs.length qo] 29)).mono H4.out.2.size)
    obtain ⟨X2, hX2⟩ : ∃ X, X = w4.heap.size := ⟨_, rfl⟩
    rw [← hX2] at x2
    rw [← hX2]
    clear hX2 H4
    revert x2 hb4
    generalize w4.alloc (.cells #[.int .i64 D2.inp, .slice pn D2.next.length qn, .slice pg D2.gates.length qg, .slice po D2.outs.length qo] 29) = W5
    intro hb4 x2
    have H5 := Lib.hid (And.intro (H3.out.1.below hb4) (And.intro x2 (H3.out.2.trans (hb4.mono H3.out.2.size))))
    clear x2 hb4
    have cb := (HC.out _ H5.out.2.2).2.1
    go_upto_region 7 with (go_at_call 23; ((with_reducible refine (Sweep_i _ redC _ (HC.out _ H5.out.2.2).1).mono ?_); rintro e w6 ⟨vn, vg, vo, rfl, h1, hq⟩; rw [← HDD.out.2.2] at h1 ⊢; obtain ⟨un, tn, rfl⟩ := own_shape h1.n; obtain ⟨ug, tg, rfl⟩ := own_shape h1.g; obtain ⟨uo, to_, rfl⟩ := own_shape h1.o; have H6 := Lib.hid (And.intro h1 hq); clear h1 hq cb))
    have x3 := BoxC.new H6.out.1
    have hb6 := H6.out.2.trans ((below_al w6 (.cells #[.int .i64 D3.inp, .slice un D3.next.length tn, .slice ug D3.gates.length tg, .slice uo D3.outs.length to_] 29)).mono H6.out.2.size)
    obtain ⟨X3, hX3⟩ : ∃ X, X = w6.heap.size := ⟨_, rfl⟩
    rw [← hX3] at x3
    rw [← hX3]
    clear hX3 H6
    revert x3 hb6
    generalize w6.alloc (.cells #[.int .i64 D3.inp, .slice un D3.next.length tn, .slice ug D3.gates.length tg, .slice uo D3.outs.length to_] 29) = W7
    intro hb6 x3
    have H7 := Lib.hid (And.intro (H5.out.1.below hb6) (And.intro (H5.out.2.1.below hb6) (And.intro x3 (H5.out.2.2.trans (hb6.mono H5.out.2.2.size)))))
    clear x3 hb6
    have e1 : D1.gates.length = 2 := by rw [HDD.out.1]; exact redC_opt
    have e2 := redC_rem
    rw [← HDD.out.2.1] at e2
    have e3 := redC_swp
    rw [← HDD.out.2.2] at e3
    have g1 : D1.gates.length ≤ 2 := by omega
    have HF : Hid (∀ W, Below W7.heap.size W7 W → (∀ q, W.cell? ⟨w.heap.size + 2, q, none⟩ = #[Value.int .i64 2, .slice none 0 0, .slice (some ⟨w.heap.size, 0, none⟩) 2 2, .slice (some ⟨w.heap.size + 1, 0, none⟩) 1 1][q]?) ∧ (W.cell? ⟨X1, 2, none⟩ = some (.slice ag 2 bg)) ∧ (W.cell? ⟨X2, 2, none⟩ = some (.slice pg 0 qg)) ∧ (W.cell? ⟨X2, 3, none⟩ = some (.slice po 1 qo)) ∧ (W.cell? ⟨X3, 2, none⟩ = some (.slice ug 0 tg)) ∧ (W.cell? ⟨X3, 3, none⟩ = some (.slice uo 1 to_)) ∧ Sl W po (ints [2]) ∧ Sl W uo (ints [2]) ∧ CirV W (.agg #[.int .i64 2, .slice none 0 0, .slice (some ⟨w.heap.size, 0, none⟩) 2 2, .slice (some ⟨w.heap.size + 1, 0, none⟩) 1 1]) redC ∧ Below w.heap.size w W) := fun W hW => by
      obtain ⟨y1, y2, y3, y4⟩ := H7.out
      obtain ⟨z1, z2, z3⟩ := HC.out W (y4.trans (hW.mono y4.size))
      have b1 := (y1.below hW)
      have b2 := (y2.below hW)
      have b3 := (y3.below hW)
      have c1 := blk_cell (o := 2) b1.blk
      have c2 := blk_cell (o := 2) b2.blk
      have c3 := blk_cell (o := 3) b2.blk
      have c4 := blk_cell (o := 2) b3.blk
      have c5 := blk_cell (o := 3) b3.blk
      have s1 := b2.so
      have s2 := b3.so
      rw [e2.2] at s1 c3
      rw [e3.2] at s2 c5
      rw [e1] at c1
      rw [e2.1] at c2
      rw [e3.1] at c4
      exact ⟨z2, c1, c2, c3, c4, c5, s1, s2, z1, z3⟩
    clear e1 e2 e3 g1
    have HB := Lib.hid (Below.refl W7.heap.size W7)
    obtain ⟨cb, c1, c2, c3, c4, c5, -⟩ := HF.out _ HB.out
    have HS1 : Hid (∀ W (s : Option Addr), Below W7.heap.size W7 W → Sl W s [.int .i64 2] → Calls Try.prog 34 #[.slice po 1 qo, .slice s 1 1] W fun e w' => e = .returned (.bool true) ∧ Drew W w') := fun W s hW hs =>
      (sameIntsG_any po s [2] [2] qo 1 W (HF.out W hW).2.2.2.2.2.2.1 hs (by simp) (by simp)).mono (by rintro e w' ⟨rfl, hd⟩; exact ⟨by simp, hd⟩)
    have HS2 : Hid (∀ W (s : Option Addr), Below W7.heap.size W7 W → Sl W s [.int .i64 2] → Calls Try.prog 34 #[.slice uo 1 to_, .slice s 1 1] W fun e w' => e = .returned (.bool true) ∧ Drew W w') := fun W s hW hs =>
      (sameIntsG_any uo s [2] [2] to_ 1 W (HF.out W hW).2.2.2.2.2.2.2.1 hs (by simp) (by simp)).mono (by rintro e w' ⟨rfl, hd⟩; exact ⟨by simp, hd⟩)
    go_wp2_with (first
      | (go_at_call 34; ((with_reducible refine (HS1.out (W7.alloc (.cells #[.int .i64 2] 3)) (some ⟨W7.heap.size, 0, none⟩) (below_al W7 _) (Sl.new W7 _ _)).mono ?_); rintro e w8 ⟨rfl, hd⟩; have H8 := Lib.hid ((below_al W7 (.cells #[.int .i64 2] 3)).trans (hd.below W7.heap.size)); clear hd cb c1 c2 c3 c4 c5; obtain ⟨cb, c1, c2, c3, c4, c5, -⟩ := HF.out _ H8.out))
      | (go_at_call 34; ((with_reducible refine (HS2.out (w8.alloc (.cells #[.int .i64 2] 3)) (some ⟨w8.heap.size, 0, none⟩) (H8.out.trans ((below_al w8 _).mono H8.out.size)) (Sl.new w8 _ _)).mono ?_); rintro e w9 ⟨rfl, hd⟩; have H9 := Lib.hid ((H8.out.trans ((below_al w8 (.cells #[.int .i64 2] 3)).mono H8.out.size)).trans (hd.below W7.heap.size)); clear hd cb c1 c2 c3 c4 c5; obtain ⟨cb, c1, c2, c3, c4, c5, -⟩ := HF.out _ H9.out))
      | (go_at_call 38; ((with_reducible refine (Irredundant_i _ redC _ (HF.out _ H9.out).2.2.2.2.2.2.2.2.1).mono ?_); rintro e w10 ⟨rfl, hq⟩; rw [redC_irr]; have H10 := Lib.hid (H9.out.trans (hq.mono H9.out.size)); clear hq cb c1 c2 c3 c4 c5)))
    go_ret
    exact ⟨rfl, (HF.out _ H10.out).2.2.2.2.2.2.2.2.2⟩
  · clear hs hr
    go_enter Try.func7, Try.ntmps7
    go_wp2
    go_ret
    exact ⟨rfl, Below.refl _ _⟩

end Go.Proofs.Ytindndcdpnpcmaa
