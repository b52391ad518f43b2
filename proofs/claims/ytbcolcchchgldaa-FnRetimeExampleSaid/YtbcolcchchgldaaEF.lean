import Derived.Test.YtbcolcchchgldaaEE
import Derived.Test.YtbcolcchchgldaaDM
import Derived.Test.YtbcolcchchgldaaDY
import Derived.Test.YtbcolcchchgldaaDR
import Derived.Test.YtbcolcchchgldaaG3
import Derived.Test.YtbcolcchchgldaaW8
import Derived.Test.YtbcolcchchgldaaB6
namespace Go.Proofs.Ytbcolcchchgldaa
set_option linter.unusedVariables false
set_option linter.unusedSimpArgs false
open Go.RowKit

/-! The law FnRetimeExample. -/

def retE : Cir := ⟨2, [2, 4], [⟨7, 9⟩], [10]⟩
def rowE : List (List Bool) := [[false, false], [true, false], [false, false]]
theorem retE_can : canRetimeB retE 0 = true := by decide +kernel
theorem retE_next : (retR retE 0).next.length = 3 := by decide +kernel
theorem retE_out : outS (retR retE 0) (List.replicate 3 false) rowE = [[true], [true], [false]] := by decide +kernel
theorem retE_rm : (rmR (retR retE 0)).next.length = 1 := by decide +kernel
theorem retE_valid : (retR retE 0).valid := by
  have hg : retE.gates[0]? = some ⟨7, 9⟩ := rfl
  have h := retG_valid retE_can hg
  rw [← retR_yes retE_can hg] at h
  exact h
theorem retE_seq : seqB retE (retR retE 0) = true := by
  have hg : retE.gates[0]? = some ⟨7, 9⟩ := rfl
  have h := ret_seq retE_can hg
  rw [← retR_yes retE_can hg] at h
  exact h

set_option maxRecDepth 100000 in
set_option maxHeartbeats 3200000 in
theorem FnRetimeExample_any (s : Option Addr) (cap : Nat) (xs : List Int) (w : World) (hs : Sl w s (u8s xs)) (hl : xs.length ≤ 9223372036854775807) (hcap : xs.length ≤ cap) (hcap2 : cap ≤ 9223372036854775807) (hr : ∀ x ∈ xs, 0 ≤ x ∧ x ≤ 255) :
    Calls Try.prog 5 #[.slice s xs.length cap] w fun e w' => e = .returned (.bool true) ∧ Below w.heap.size w w' := by
  by_cases hc : xs.length ≤ 1048576
  · clear hs hr
    obtain ⟨W1, hW1⟩ : ∃ W1, W1 = ((((w.alloc (.cells #[.int .i64 2, .int .i64 4] 3)).alloc (.cells #[.int .i64 7, .int .i64 9] 38)).alloc (.cells #[.int .i64 10] 3)).alloc (.cells #[.int .i64 2, .slice (some ⟨w.heap.size, 0, none⟩) 2 2, .slice (some ⟨w.heap.size + 1, 0, none⟩) 1 1, .slice (some ⟨w.heap.size + 2, 0, none⟩) 1 1] 26)) := ⟨_, rfl⟩
    have hb : Below w.heap.size w W1 := by rw [hW1]; go_grown
    have hn : W1.heap[w.heap.size]? = some (.cells #[.int .i64 2, .int .i64 4] 3 (0, 0)) := by rw [hW1]; exact blk_old (blk_old (blk_old (blk_new _ _)))
    have hg : W1.heap[w.heap.size + 1]? = some (.cells #[.int .i64 7, .int .i64 9] 38 (0, 0)) := by rw [hW1]; exact blk_old (blk_old (blk_at (by simp)))
    have ho : W1.heap[w.heap.size + 2]? = some (.cells #[.int .i64 10] 3 (0, 0)) := by rw [hW1]; exact blk_old (blk_at (by simp))
    have hbx : W1.heap[w.heap.size + 3]? = some (.cells #[.int .i64 2, .slice (some ⟨w.heap.size, 0, none⟩) 2 2, .slice (some ⟨w.heap.size + 1, 0, none⟩) 1 1, .slice (some ⟨w.heap.size + 2, 0, none⟩) 1 1] 26 (0, 0)) := by rw [hW1]; exact blk_at (by simp)
    have hV : CirV W1 (.agg #[.int .i64 2, .slice (some ⟨w.heap.size, 0, none⟩) 2 2, .slice (some ⟨w.heap.size + 1, 0, none⟩) 1 1, .slice (some ⟨w.heap.size + 2, 0, none⟩) 1 1]) retE :=
      ⟨some ⟨w.heap.size, 0, none⟩, 2, some ⟨w.heap.size + 1, 0, none⟩, 1, some ⟨w.heap.size + 2, 0, none⟩, 1, rfl, Sl.blk hn, Sl.blk hg, Sl.blk ho, by decide, by decide, by decide⟩
    have HC : Hid (∀ W, Below W1.heap.size W1 W → CirV W (.agg #[.int .i64 2, .slice (some ⟨w.heap.size, 0, none⟩) 2 2, .slice (some ⟨w.heap.size + 1, 0, none⟩) 1 1, .slice (some ⟨w.heap.size + 2, 0, none⟩) 1 1]) retE ∧ (∀ q, W.cell? ⟨w.heap.size + 3, q, none⟩ = #[Value.int .i64 2, .slice (some ⟨w.heap.size, 0, none⟩) 2 2, .slice (some ⟨w.heap.size + 1, 0, none⟩) 1 1, .slice (some ⟨w.heap.size + 2, 0, none⟩) 1 1][q]?) ∧ Below w.heap.size w W) := fun W hW =>
      ⟨hV.mono hW, (blk_all (blk_below hW (blk_lt hbx) hbx)).1, hb.trans (hW.mono hb.size)⟩
    have HW := Lib.hid hW1
    clear hW1 hb hn hg ho hbx hV
    obtain ⟨D, hD⟩ : ∃ D, D = retR retE 0 := ⟨_, rfl⟩
    have HDD := Lib.hid hD
    have hDn : D.next.length = 3 := by rw [hD]; exact retE_next
    clear hD
    go_enter Try.func5, Try.ntmps5
    go_upto_region 4 with fail
    rw [← HW.out]
    have cb := (HC.out _ (Below.refl _ _)).2.1
    go_upto_region 5 with (go_at_call 22; ((with_reducible refine (Retime_i _ retE 0 _ (HC.out _ (Below.refl _ _)).1).mono ?_); rintro e w2 ⟨vn, vg, vo, rfl, h1, hq⟩; rw [← HDD.out] at h1 ⊢; obtain ⟨xn, yn, rfl⟩ := own_shape h1.n; obtain ⟨xg, yg, rfl⟩ := own_shape h1.g; obtain ⟨xo, yo, rfl⟩ := own_shape h1.o; have H2 := Lib.hid (And.intro h1 hq); clear h1 hq cb))
    go_upto_region 6 with fail
    have h1 := H2.out.1
    obtain ⟨X, hX⟩ : ∃ X, X = w2.heap.size := ⟨_, rfl⟩
    have e4 : Below w2.heap.size w2 (((((w2.alloc (.cells #[.int .i64 D.inp, .slice xn 3 yn, .slice xg D.gates.length yg, .slice xo D.outs.length yo] 26)).alloc (.cells #[.bool false, .bool false] 4)).alloc (.cells #[.bool true, .bool false] 4)).alloc (.cells #[.bool false, .bool false] 4)).alloc (.cells #[.slice (some ⟨w2.heap.size + 1, 0, none⟩) 2 2, .slice (some ⟨w2.heap.size + 1 + 1, 0, none⟩) 2 2, .slice (some ⟨w2.heap.size + 1 + 1 + 1, 0, none⟩) 2 2] 39)) := by go_grown
    have x0 : (((((w2.alloc (.cells #[.int .i64 D.inp, .slice xn 3 yn, .slice xg D.gates.length yg, .slice xo D.outs.length yo] 26)).alloc (.cells #[.bool false, .bool false] 4)).alloc (.cells #[.bool true, .bool false] 4)).alloc (.cells #[.bool false, .bool false] 4)).alloc (.cells #[.slice (some ⟨w2.heap.size + 1, 0, none⟩) 2 2, .slice (some ⟨w2.heap.size + 1 + 1, 0, none⟩) 2 2, .slice (some ⟨w2.heap.size + 1 + 1 + 1, 0, none⟩) 2 2] 39)).heap[X]? = some (.cells #[.int .i64 D.inp, .slice xn 3 yn, .slice xg D.gates.length yg, .slice xo D.outs.length yo] 26 (0, 0)) := by rw [hX]; exact blk_old (blk_old (blk_old (blk_old (blk_new _ _))))
    have x1 : (((((w2.alloc (.cells #[.int .i64 D.inp, .slice xn 3 yn, .slice xg D.gates.length yg, .slice xo D.outs.length yo] 26)).alloc (.cells #[.bool false, .bool false] 4)).alloc (.cells #[.bool true, .bool false] 4)).alloc (.cells #[.bool false, .bool false] 4)).alloc (.cells #[.slice (some ⟨w2.heap.size + 1, 0, none⟩) 2 2, .slice (some ⟨w2.heap.size + 1 + 1, 0, none⟩) 2 2, .slice (some ⟨w2.heap.size + 1 + 1 + 1, 0, none⟩) 2 2] 39)).heap[X + 1]? = some (.cells #[.bool false, .bool false] 4 (0, 0)) := by rw [hX]; exact blk_old (blk_old (blk_old (blk_at (by simp))))
    have x2 : (((((w2.alloc (.cells #[.int .i64 D.inp, .slice xn 3 yn, .slice xg D.gates.length yg, .slice xo D.outs.length yo] 26)).alloc (.cells #[.bool false, .bool false] 4)).alloc (.cells #[.bool true, .bool false] 4)).alloc (.cells #[.bool false, .bool false] 4)).alloc (.cells #[.slice (some ⟨w2.heap.size + 1, 0, none⟩) 2 2, .slice (some ⟨w2.heap.size + 1 + 1, 0, none⟩) 2 2, .slice (some ⟨w2.heap.size + 1 + 1 + 1, 0, none⟩) 2 2] 39)).heap[X + 1 + 1]? = some (.cells #[.bool true, .bool false] 4 (0, 0)) := by rw [hX]; exact blk_old (blk_old (blk_at (by simp)))
    have x3 : (((((w2.alloc (.cells #[.int .i64 D.inp, .slice xn 3 yn, .slice xg D.gates.length yg, .slice xo D.outs.length yo] 26)).alloc (.cells #[.bool false, .bool false] 4)).alloc (.cells #[.bool true, .bool false] 4)).alloc (.cells #[.bool false, .bool false] 4)).alloc (.cells #[.slice (some ⟨w2.heap.size + 1, 0, none⟩) 2 2, .slice (some ⟨w2.heap.size + 1 + 1, 0, none⟩) 2 2, .slice (some ⟨w2.heap.size + 1 + 1 + 1, 0, none⟩) 2 2] 39)).heap[X + 1 + 1 + 1]? = some (.cells #[.bool false, .bool false] 4 (0, 0)) := by rw [hX]; exact blk_old (blk_at (by simp))
    have x4 : (((((w2.alloc (.cells #[.int .i64 D.inp, .slice xn 3 yn, .slice xg D.gates.length yg, .slice xo D.outs.length yo] 26)).alloc (.cells #[.bool false, .bool false] 4)).alloc (.cells #[.bool true, .bool false] 4)).alloc (.cells #[.bool false, .bool false] 4)).alloc (.cells #[.slice (some ⟨w2.heap.size + 1, 0, none⟩) 2 2, .slice (some ⟨w2.heap.size + 1 + 1, 0, none⟩) 2 2, .slice (some ⟨w2.heap.size + 1 + 1 + 1, 0, none⟩) 2 2] 39)).heap[X + 1 + 1 + 1 + 1]? = some (.cells #[.slice (some ⟨X + 1, 0, none⟩) 2 2, .slice (some ⟨X + 1 + 1, 0, none⟩) 2 2, .slice (some ⟨X + 1 + 1 + 1, 0, none⟩) 2 2] 39 (0, 0)) := by rw [hX]; exact blk_at (by simp)
    have hbb := H2.out.2.trans (e4.mono H2.out.2.size)
    have hcv := own_cv (own_cbelow h1 e4)
    rw [hDn] at hcv
    rw [← hX] at x0 x1 x2 x3 x4 hbb hcv ⊢
    clear hX e4 h1 H2
    revert x0 x1 x2 x3 x4 hbb hcv
    generalize (((((w2.alloc (.cells #[.int .i64 D.inp, .slice xn 3 yn, .slice xg D.gates.length yg, .slice xo D.outs.length yo] 26)).alloc (.cells #[.bool false, .bool false] 4)).alloc (.cells #[.bool true, .bool false] 4)).alloc (.cells #[.bool false, .bool false] 4)).alloc (.cells #[.slice (some ⟨X + 1, 0, none⟩) 2 2, .slice (some ⟨X + 1 + 1, 0, none⟩) 2 2, .slice (some ⟨X + 1 + 1 + 1, 0, none⟩) 2 2] 39)) = W4
    intro x0 x1 x2 x3 x4 hbb hcv
    have hslb : SlB W4 (some ⟨X + 1 + 1 + 1 + 1, 0, none⟩) rowE := ⟨[.slice (some ⟨X + 1, 0, none⟩) 2 2, .slice (some ⟨X + 1 + 1, 0, none⟩) 2 2, .slice (some ⟨X + 1 + 1 + 1, 0, none⟩) 2 2], rfl, Sl.blk x4, fun i r hr => by
      match i, hr with
      | 0, hr => cases hr; exact ⟨_, 2, rfl, Sl.blk x1⟩
      | 1, hr => cases hr; exact ⟨_, 2, rfl, Sl.blk x2⟩
      | 2, hr => cases hr; exact ⟨_, 2, rfl, Sl.blk x3⟩
      | n + 3, hr => cases hr⟩
    have hDi : D.inp = (2 : Nat) := by rw [HDD.out]; decide +kernel
    have hDv : D.valid := by rw [HDD.out]; exact retE_valid
    have hout : outS D (List.replicate D.next.length false) rowE = [[true], [true], [false]] := by rw [hDn, HDD.out]; exact retE_out
    have HSM : Hid (Calls Try.prog 27 #[.agg #[.int .i64 D.inp, .slice xn 3 yn, .slice xg D.gates.length yg, .slice xo D.outs.length yo], .slice (some ⟨X + 1 + 1 + 1 + 1, 0, none⟩) 3 3] W4 fun e w' => ∃ so' co' vs, e = .returned (.slice so' 3 co') ∧ OwnSB w' W4.heap.size (.slice so' 3 co') vs [[true], [true], [false]] ∧ Below W4.heap.size W4 w') := by
      have hcv2 := hcv
      rw [← hDn] at hcv2
      obtain ⟨_, _, _, _, _, _, e, g1, g2, g3, -⟩ := id hcv2
      cases e
      have h9 := Simulate_i xn xg xo (some ⟨X + 1 + 1 + 1 + 1, 0, none⟩) yn yg yo 3 2 D rowE W4 hDi (by rw [← hDi]; exact hcv2) g1 g2 g3 hslb hDv (by decide) (by decide)
      rw [← hDi, hDn, ← hDn, hout, hDn] at h9
      exact h9
    have HX : Hid (∀ W, Below W4.heap.size W4 W → CirV W (.agg #[.int .i64 D.inp, .slice xn 3 yn, .slice xg D.gates.length yg, .slice xo D.outs.length yo]) D ∧ (∀ q, W.cell? ⟨X, q, none⟩ = #[Value.int .i64 D.inp, .slice xn 3 yn, .slice xg D.gates.length yg, .slice xo D.outs.length yo][q]?) ∧ Below W1.heap.size W1 W) := fun W hW => ⟨hcv.mono hW, (blk_all (blk_below hW (blk_lt x0) x0)).1, hbb.trans (hW.mono hbb.size)⟩
    have cx := (HX.out _ (Below.refl _ _)).2.1
    clear x0 x1 x2 x3 x4 hbb hcv hslb hDi hDv hout
    go_upto_region 7 with (go_at_call 27; ((with_reducible refine HSM.out.mono ?_); rintro e w6 ⟨so', co', vs, rfl, hO, hq⟩; have H6 := Lib.hid (And.intro hO hq); clear hO hq cx))
    have hO6 : OwnSB w6 W4.heap.size (.slice so' ([[true], [true], [false]] : List (List Bool)).length co') vs [[true], [true], [false]] := H6.out.1
    have hsl := hO6.slb
    clear hO6
    obtain ⟨G, go, s0, k0, rfl, hG, z0, r0⟩ := hsl.row (k := 0) (Below.refl _ _) rfl
    obtain ⟨_, _, s1, k1, e1, -, z1, r1⟩ := hsl.row (k := 1) (Below.refl _ _) rfl
    cases e1
    obtain ⟨_, _, s2, k2, e2, -, z2, r2⟩ := hsl.row (k := 2) (Below.refl _ _) rfl
    cases e2
    obtain ⟨g0, o0, rfl, q0, y0⟩ := r0.bool (Below.refl _ _) (k := 0) rfl
    obtain ⟨g1, o1, rfl, q1, y1⟩ := r1.bool (Below.refl _ _) (k := 0) rfl
    obtain ⟨g2, o2, rfl, q2, y2⟩ := r2.bool (Below.refl _ _) (k := 0) rfl
    have HF : Hid (∀ W, Below w6.heap.size w6 W → ((W.cell? ⟨G, go, none⟩ = some (.slice (some ⟨g0, o0, none⟩) 1 k0) ∧ W.cell? ⟨G, go + 1, none⟩ = some (.slice (some ⟨g1, o1, none⟩) 1 k1) ∧ W.cell? ⟨G, go + 2, none⟩ = some (.slice (some ⟨g2, o2, none⟩) 1 k2)) ∧ (W.cell? ⟨g0, o0, none⟩ = some (.bool true) ∧ W.cell? ⟨g1, o1, none⟩ = some (.bool true) ∧ W.cell? ⟨g2, o2, none⟩ = some (.bool false))) ∧ Below W4.heap.size W4 W) := fun W hW =>
      ⟨⟨⟨(hW.cell (p := ⟨G, go + 0, none⟩) hG).trans z0, (hW.cell (p := ⟨G, go + 1, none⟩) hG).trans z1, (hW.cell (p := ⟨G, go + 2, none⟩) hG).trans z2⟩, (hW.cell (p := ⟨g0, o0 + 0, none⟩) q0).trans y0, (hW.cell (p := ⟨g1, o1 + 0, none⟩) q1).trans y1, (hW.cell (p := ⟨g2, o2 + 0, none⟩) q2).trans y2⟩, H6.out.2.trans (hW.mono H6.out.2.size)⟩
    clear hsl hG z0 z1 z2 r0 r1 r2 y0 y1 y2 q0 q1 q2 H6
    have H7 := Lib.hid (Below.refl w6.heap.size w6)
    have HRM : Hid ((rmR D).next.length = 1) := by rw [HDD.out]; exact retE_rm
    have hfd : ∀ w' (n : Int) (v1 v2 v3 : Value), (Instr.field 26 (.agg #[.int .i64 n, v1, v2, v3]) 1).run Try.prog w' = .ok v1 w' := by intro w' n v1 v2 v3; kernel_rfl
    obtain ⟨⟨⟨c0, c1, c2⟩, b0, b1, b2⟩, hbx⟩ := HF.out _ H7.out
    have cx := (HX.out _ hbx).2.1
    have cb := (HC.out _ (HX.out _ hbx).2.2).2.1
    clear hbx
    go_wp2_with (first
      | (go_at_call 28; ((with_reducible refine (CanRetime_i _ retE 0 _ (HC.out _ (HX.out _ (HF.out _ H7.out).2).2.2).1).mono ?_); rintro e w7 ⟨rfl, hq⟩; rw [retE_can]; have H7 := Lib.hid (H7.out.trans (hq.mono H7.out.size)); clear hq c0 c1 c2 b0 b1 b2 cx cb; obtain ⟨⟨⟨c0, c1, c2⟩, b0, b1, b2⟩, hbx⟩ := HF.out _ H7.out; have cx := (HX.out _ hbx).2.1; have cb := (HC.out _ (HX.out _ hbx).2.2).2.1; clear hbx))
      | (go_at_call 26; ((with_reducible refine (SequentiallyEquivalent_i _ _ retE D _ (HC.out _ (HX.out _ (HF.out _ H7.out).2).2.2).1 (HX.out _ (HF.out _ H7.out).2).1).mono ?_); rintro e w8 ⟨rfl, hq⟩; rw [show seqB retE D = true by rw [HDD.out]; exact retE_seq]; have H7 := Lib.hid (H7.out.trans (hq.mono H7.out.size)); clear hq c0 c1 c2 b0 b1 b2 cx cb; obtain ⟨⟨⟨c0, c1, c2⟩, b0, b1, b2⟩, hbx⟩ := HF.out _ H7.out; have cx := (HX.out _ hbx).2.1; have cb := (HC.out _ (HX.out _ hbx).2.2).2.1; clear hbx))
      | (go_at_call 29; ((with_reducible refine (RemoveLatches_i _ D _ (HX.out _ (HF.out _ H7.out).2).1).mono ?_); rintro e w9 ⟨vn9, vg9, vo9, rfl, h9, hq⟩; obtain ⟨xn9, yn9, rfl⟩ := own_shape h9.n; rw [HRM.out]; have H7 := Lib.hid (H7.out.trans (hq.mono H7.out.size)); clear h9 hq c0 c1 c2 b0 b1 b2 cx cb)))
    go_ret
    exact ⟨rfl, (HC.out _ (HX.out _ (HF.out _ H7.out).2).2.2).2.2⟩
  · clear hs hr
    go_enter Try.func5, Try.ntmps5
    go_wp2
    go_ret
    exact ⟨rfl, Below.refl _ _⟩

end Go.Proofs.Ytbcolcchchgldaa
