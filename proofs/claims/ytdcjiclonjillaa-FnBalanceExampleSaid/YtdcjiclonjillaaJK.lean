import Derived.Test.YtdcjiclonjillaaJJ
import Derived.Test.YtdcjiclonjillaaQ4
import Derived.Test.YtdcjiclonjillaaRG
import Derived.Test.YtdcjiclonjillaaRI
namespace Go.Proofs.Ytdcjiclonjillaa
set_option linter.unusedVariables false
set_option linter.unusedSimpArgs false
open Go.RowKit

/-! Depth, and the law FnBalanceExample. -/

def depR (c : Cir) : Int := if c.validB then depC c else -1

set_option maxHeartbeats 1600000 in
theorem Depth_i (v : Value) (c : Cir) (w : World) (h : CirV w v c) :
    Calls Try.prog 8 #[v] w fun e w' => e = .returned (.int .i64 (depR c)) ∧ Below w.heap.size w w' := by
  have HC : Hid (∀ w', Below w.heap.size w w' → CirV w' v c) := fun w' hb => h.mono hb
  obtain ⟨sn, cn, sg, cg, so, co, rfl, h1, h2, h3, hl1, hl2, hl3⟩ := h
  have hL : Below w.heap.size w (w.alloc (.cells #[.int .i64 c.inp, .slice sn c.next.length cn, .slice sg c.gates.length cg, .slice so c.outs.length co] 28)) := by go_grown
  have hN := blk_new w (.cells #[.int .i64 c.inp, .slice sn c.next.length cn, .slice sg c.gates.length cg, .slice so c.outs.length co] 28)
  have HL := Lib.hid (And.intro hL (And.intro hN (And.intro h1 (And.intro h2 h3))))
  clear hL hN h1 h2 h3
  cases hv : c.validB
  · have e : depR c = -1 := by unfold depR; rw [hv]; rfl
    rw [e]
    have HE := Lib.hid hv
    clear hv e
    go_enter Try.func8, Try.ntmps8
    go_wp2_with (go_at_call 27; ((with_reducible refine (CircuitValid_i _ _ _ (HC.out _ HL.out.1)).mono ?_); rintro e w1 ⟨rfl, hq⟩; have HQ := Lib.hid hq; clear hq; rw [HE.out]))
    go_ret
    exact ⟨rfl, HL.out.1.trans (HQ.out.mono (by simp))⟩
  · have hval := c.validB_iff.1 hv
    have e : depR c = depC c := by unfold depR; rw [if_pos hv]
    rw [e]
    have HE := Lib.hid (And.intro hv hval)
    clear hv e hval
    go_enter Try.func8, Try.ntmps8
    go_wp2_with (first
      | (go_at_call 27; ((with_reducible refine (CircuitValid_i _ _ _ (HC.out _ HL.out.1)).mono ?_); rintro e w1 ⟨rfl, hq⟩; have HQ := Lib.hid (And.intro (HL.out.1.trans (hq.mono HL.out.1.size)) (blk_below hq (blk_lt HL.out.2.1) HL.out.2.1)); clear hq; rw [HE.out.1]))
      | (go_at_call 37; ((with_reducible refine (depth_any w.heap.size sn sg so cn cg co c _ (by have hc := (blk_all HQ.out.2).1; exact ⟨by simpa using hc 0, by simpa using hc 1, by simpa using hc 2, by simpa using hc 3⟩) (HL.out.2.2.1.mono HQ.out.1) (HL.out.2.2.2.1.mono HQ.out.1) (HL.out.2.2.2.2.mono HQ.out.1) HE.out.2).mono ?_); rintro e w2 ⟨rfl, hq⟩; have H2 := Lib.hid (HQ.out.1.trans (hq.mono HQ.out.1.size)); clear hq)))
    go_ret
    exact ⟨rfl, H2.out⟩

def balX : Cir := ⟨4, [], [⟨2, 4⟩, ⟨6, 10⟩, ⟨8, 12⟩], [14]⟩
theorem balX_dep : depR balX = 3 := by decide +kernel
theorem balX_bal : (balR balX).gates.length = 3 ∧ depR (balR balX) = 2 := by decide +kernel
theorem balX_lv : leavesR balX 7 = [8, 6, 2, 4] := by decide +kernel
theorem balX_eq : equivB (balR balX) balX = true := by decide +kernel

/-- A circuit's box. -/
structure BoxK (W : World) (X : Nat) (D : Cir) (xn xg xo : Option Addr) (yn yg yo : Nat) : Prop where
  blk : W.heap[X]? = some (.cells #[.int .i64 D.inp, .slice xn D.next.length yn, .slice xg D.gates.length yg, .slice xo D.outs.length yo] 28 (0, 0))
  cv : CirV W (.agg #[.int .i64 D.inp, .slice xn D.next.length yn, .slice xg D.gates.length yg, .slice xo D.outs.length yo]) D
theorem BoxK.below {W W' : World} {X : Nat} {D : Cir} {xn xg xo : Option Addr} {yn yg yo : Nat} (h : BoxK W X D xn xg xo yn yg yo) (hb : Below W.heap.size W W') : BoxK W' X D xn xg xo yn yg yo :=
  ⟨blk_below hb (blk_lt h.blk) h.blk, h.cv.mono hb⟩
theorem BoxK.new {w : World} {base : Nat} {D : Cir} {xn xg xo : Option Addr} {yn yg yo : Nat} (h : CirOwn w base D (.slice xn D.next.length yn) (.slice xg D.gates.length yg) (.slice xo D.outs.length yo)) : BoxK (w.alloc (.cells #[.int .i64 D.inp, .slice xn D.next.length yn, .slice xg D.gates.length yg, .slice xo D.outs.length yo] 28)) w.heap.size D xn xg xo yn yg yo := by
  have hb := (Below.refl w.heap.size w).alloc (Nat.le_refl _) (.cells #[.int .i64 D.inp, .slice xn D.next.length yn, .slice xg D.gates.length yg, .slice xo D.outs.length yo] 28)
  exact ⟨blk_new _ _, ⟨_, _, _, _, _, _, rfl, (own_sl h.n).mono hb, (own_sl h.g).mono hb, (own_sl h.o).mono hb, h.l1, h.l2, h.l3⟩⟩

set_option maxRecDepth 100000 in
set_option maxHeartbeats 3200000 in
theorem FnBalanceExample_any (s : Option Addr) (cap : Nat) (xs : List Int) (w : World) (hs : Sl w s (u8s xs)) (hl : xs.length ≤ 9223372036854775807) (hcap : xs.length ≤ cap) (hcap2 : cap ≤ 9223372036854775807) (hr : ∀ x ∈ xs, 0 ≤ x ∧ x ≤ 255) :
    Calls Try.prog 3 #[.slice s xs.length cap] w fun e w' => e = .returned (.bool true) ∧ Below w.heap.size w w' := by
  by_cases hc : xs.length ≤ 1048576
  · clear hs hr
    obtain ⟨W1, hW1⟩ : ∃ W1, W1 = (((w.alloc (.cells #[.int .i64 2, .int .i64 4, .int .i64 6, .int .i64 10, .int .i64 8, .int .i64 12] 24)).alloc (.cells #[.int .i64 14] 3)).alloc (.cells #[.int .i64 4, .slice none 0 0, .slice (some ⟨w.heap.size, 0, none⟩) 3 3, .slice (some ⟨w.heap.size + 1, 0, none⟩) 1 1] 28)) := ⟨_, rfl⟩
    have hb : Below w.heap.size w W1 := by rw [hW1]; go_grown
    have hg : W1.heap[w.heap.size]? = some (.cells #[.int .i64 2, .int .i64 4, .int .i64 6, .int .i64 10, .int .i64 8, .int .i64 12] 24 (0, 0)) := by rw [hW1]; exact blk_old (blk_old (blk_new _ _))
    have ho : W1.heap[w.heap.size + 1]? = some (.cells #[.int .i64 14] 3 (0, 0)) := by rw [hW1]; exact blk_old (blk_at (by simp))
    have hbx : W1.heap[w.heap.size + 2]? = some (.cells #[.int .i64 4, .slice none 0 0, .slice (some ⟨w.heap.size, 0, none⟩) 3 3, .slice (some ⟨w.heap.size + 1, 0, none⟩) 1 1] 28 (0, 0)) := by rw [hW1]; exact blk_at (by simp)
    have hV : CirV W1 (.agg #[.int .i64 4, .slice none 0 0, .slice (some ⟨w.heap.size, 0, none⟩) 3 3, .slice (some ⟨w.heap.size + 1, 0, none⟩) 1 1]) balX :=
      ⟨none, 0, some ⟨w.heap.size, 0, none⟩, 3, some ⟨w.heap.size + 1, 0, none⟩, 1, rfl, .inl rfl, Sl.blk hg, Sl.blk ho, by decide, by decide, by decide⟩
    have HC : Hid (∀ W, Below W1.heap.size W1 W → CirV W (.agg #[.int .i64 4, .slice none 0 0, .slice (some ⟨w.heap.size, 0, none⟩) 3 3, .slice (some ⟨w.heap.size + 1, 0, none⟩) 1 1]) balX ∧ (∀ q, W.cell? ⟨w.heap.size + 2, q, none⟩ = #[Value.int .i64 4, .slice none 0 0, .slice (some ⟨w.heap.size, 0, none⟩) 3 3, .slice (some ⟨w.heap.size + 1, 0, none⟩) 1 1][q]?) ∧ Below w.heap.size w W) := fun W hW =>
      ⟨hV.mono hW, (blk_all (blk_below hW (blk_lt hbx) hbx)).1, hb.trans (hW.mono hb.size)⟩
    have HW := Lib.hid hW1
    clear hW1 hb hg ho hbx hV
    obtain ⟨D1, hD1⟩ : ∃ D, D = balR balX := ⟨_, rfl⟩
    have HDD := Lib.hid hD1
    clear hD1
    go_enter Try.func3, Try.ntmps3
    go_upto_region 4 with fail
    rw [← HW.out]
    have cb := (HC.out _ (Below.refl _ _)).2.1
    go_upto_region 5 with (go_at_call 7; ((with_reducible refine (Balance_i _ balX _ (HC.out _ (Below.refl _ _)).1).mono ?_); rintro e w2 ⟨vn, vg, vo, rfl, h1, hq⟩; rw [← HDD.out] at h1 ⊢; obtain ⟨an, bn, rfl⟩ := own_shape h1.n; obtain ⟨ag, bg, rfl⟩ := own_shape h1.g; obtain ⟨ao, bo, rfl⟩ := own_shape h1.o; have H2 := Lib.hid (And.intro h1 hq); clear h1 hq cb))
    have x1 := BoxK.new H2.out.1
    have hb2 := H2.out.2.trans ((below_al w2 (.cells #[.int .i64 D1.inp, .slice an D1.next.length bn, .slice ag D1.gates.length bg, .slice ao D1.outs.length bo] 28)).mono H2.out.2.size)
    obtain ⟨X1, hX1⟩ : ∃ X, X = w2.heap.size := ⟨_, rfl⟩
    rw [← hX1] at x1
    rw [← hX1]
    clear hX1 H2
    revert x1 hb2
    generalize w2.alloc (.cells #[.int .i64 D1.inp, .slice an D1.next.length bn, .slice ag D1.gates.length bg, .slice ao D1.outs.length bo] 28) = W3
    intro hb2 x1
    have e1 : D1.gates.length = 3 := by rw [HDD.out]; exact balX_bal.1
    have HF : Hid (∀ W, Below W3.heap.size W3 W → (∀ q, W.cell? ⟨w.heap.size + 2, q, none⟩ = #[Value.int .i64 4, .slice none 0 0, .slice (some ⟨w.heap.size, 0, none⟩) 3 3, .slice (some ⟨w.heap.size + 1, 0, none⟩) 1 1][q]?) ∧ (∀ q, W.cell? ⟨X1, q, none⟩ = #[Value.int .i64 D1.inp, .slice an D1.next.length bn, .slice ag 3 bg, .slice ao D1.outs.length bo][q]?) ∧ CirV W (.agg #[.int .i64 4, .slice none 0 0, .slice (some ⟨w.heap.size, 0, none⟩) 3 3, .slice (some ⟨w.heap.size + 1, 0, none⟩) 1 1]) balX ∧ CirV W (.agg #[.int .i64 D1.inp, .slice an D1.next.length bn, .slice ag 3 bg, .slice ao D1.outs.length bo]) D1 ∧ Below w.heap.size w W) := fun W hW => by
      have x2 := x1.below hW
      have h1 := HC.out W (hb2.trans (hW.mono hb2.size))
      have x3 := x2.blk
      have x4 := x2.cv
      rw [e1] at x3 x4
      exact ⟨h1.2.1, (blk_all x3).1, h1.1, x4, h1.2.2⟩
    rw [e1]
    clear x1 hb2 e1
    have HDe := Lib.hid (show depR D1 = 2 from by rw [HDD.out]; exact balX_bal.2)
    have HEq := Lib.hid (show equivB D1 balX = true from by rw [HDD.out]; exact balX_eq)
    obtain ⟨cb, cd, -⟩ := HF.out _ (Below.refl _ _)
    go_wp2_with (first
      | (go_at_call 8; ((with_reducible refine (Depth_i _ balX _ (HF.out _ (Below.refl _ _)).2.2.1).mono ?_); rintro e w4 ⟨rfl, hq⟩; rw [balX_dep]; have H4 := Lib.hid hq; clear hq cb cd; obtain ⟨cb, cd, -⟩ := HF.out _ H4.out))
      | (go_at_call 8; ((with_reducible refine (Depth_i _ D1 _ (HF.out _ H4.out).2.2.2.1).mono ?_); rintro e w5 ⟨rfl, hq⟩; rw [HDe.out]; have H5 := Lib.hid (H4.out.trans (hq.mono H4.out.size)); clear hq cb cd; obtain ⟨cb, cd, -⟩ := HF.out _ H5.out))
      | (go_at_call 10; ((with_reducible refine (Leaves_i _ balX 7 _ (HF.out _ H5.out).2.2.1 (by omega)).mono ?_); rintro e w6 ⟨s6, c6, rfl, ho, hq⟩; rw [balX_lv] at ho ⊢; have H6 := Lib.hid (And.intro (own_sl ho) (H5.out.trans (hq.mono H5.out.size))); clear ho hq cb cd; obtain ⟨cb, cd, -⟩ := HF.out _ H6.out.2))
      | (go_at_call 9; ((refine (sameIntsG_any s6 (some ⟨w6.heap.size, 0, none⟩) [8, 6, 2, 4] [8, 6, 2, 4] c6 4 (w6.alloc (.cells #[.int .i64 8, .int .i64 6, .int .i64 2, .int .i64 4] 3)) (H6.out.1.mono (below_al w6 _)) (Sl.new w6 _ _) (by simp) (by simp)).mono ?_); rintro e w7 ⟨rfl, hd⟩; have H7 := Lib.hid ((H6.out.2.trans ((below_al w6 (.cells #[.int .i64 8, .int .i64 6, .int .i64 2, .int .i64 4] 3)).mono H6.out.2.size)).trans (hd.below W3.heap.size)); clear hd cb cd; obtain ⟨cb, cd, -⟩ := HF.out _ H7.out))
      | (go_at_call 11; ((with_reducible refine (Equivalent_i _ _ D1 balX _ (HF.out _ H7.out).2.2.2.1 (HF.out _ H7.out).2.2.1).mono ?_); rintro e w8 ⟨rfl, hq⟩; rw [HEq.out]; have H8 := Lib.hid (H7.out.trans (hq.mono H7.out.size)); clear hq cb cd)))
    go_ret
    exact ⟨rfl, (HF.out _ H8.out).2.2.2.2⟩
  · clear hs hr
    go_enter Try.func3, Try.ntmps3
    go_wp2
    go_ret
    exact ⟨rfl, Below.refl _ _⟩

end Go.Proofs.Ytdcjiclonjillaa
