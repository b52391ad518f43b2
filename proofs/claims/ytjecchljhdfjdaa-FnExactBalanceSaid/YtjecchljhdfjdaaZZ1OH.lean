import Derived.Test.YtjecchljhdfjdaaZZ1OE
import Derived.Test.YtjecchljhdfjdaaZZ1L4
import Derived.Test.YtjecchljhdfjdaaZZ1Q5
import Derived.Test.YtjecchljhdfjdaaZZ1Q1
import Derived.Test.YtjecchljhdfjdaaZZ1B5
import Derived.Test.YtjecchljhdfjdaaZZ1OA
import Derived.Laws.BytesArg
namespace Go.Proofs.Ytjecchljhdfjdaa
set_option linter.unusedVariables false
set_option linter.unusedSimpArgs false
open Go.RowKit

/-! Part of the proof of one law. -/

theorem CirOwn.toV {w : World} {base : Nat} {c : Cir} {vn vg vo : Value} (h : CirOwn w base c vn vg vo) : CirV w (.agg #[.int .i64 c.inp, vn, vg, vo]) c := by
  obtain ⟨sn, cn, rfl⟩ := own_shape h.n
  obtain ⟨sg, cg, rfl⟩ := own_shape h.g
  obtain ⟨so, co, rfl⟩ := own_shape h.o
  exact ⟨_, _, _, _, _, _, rfl, own_sl h.n, own_sl h.g, own_sl h.o, h.l1, h.l2, h.l3⟩

set_option maxRecDepth 100000 in
set_option maxHeartbeats 1600000 in
theorem Optimize_s (v : Value) (c : Cir) (w : World) (h : CirV w v c) :
    Calls Try.prog 43 #[v] w fun e w' => ∃ vn vg vo, e = .returned (.agg #[.int .i64 (optR c).inp, vn, vg, vo]) ∧ CirOwn w' w.heap.size (optR c) vn vg vo ∧ Below w.heap.size w w' := by
  have HG := Lib.hid h
  obtain ⟨sn, cn, sg, cg, so, co, rfl, -, -, -, -, -, -⟩ := h
  obtain ⟨W0, hW0⟩ : ∃ W0, W0 = (w.alloc (.cells #[.int .i64 c.inp, .slice sn c.next.length cn, .slice sg c.gates.length cg, .slice so c.outs.length co] 28)).alloc (.cells #[.int .i64 0, .slice none 0 0, .slice none 0 0, .slice none 0 0] 28) := ⟨_, rfl⟩
  obtain ⟨A, hA⟩ : ∃ A, A = w.heap.size := ⟨_, rfl⟩
  have z1 : W0.heap.size = A + 2 := by rw [hW0, hA]; simp
  have z2 : W0.heap[A]? = some (.cells #[.int .i64 c.inp, .slice sn c.next.length cn, .slice sg c.gates.length cg, .slice so c.outs.length co] 28 (0, 0)) := by rw [hW0, hA]; exact blk_old (blk_new w _)
  have z3 : W0.heap[A + 1]? = some (.cells #[.int .i64 0, .slice none 0 0, .slice none 0 0, .slice none 0 0] 28 (0, 0)) := by rw [hW0, hA]; exact blk_at (by simp)
  have z4 : Below w.heap.size w W0 := by rw [hW0]; exact ((Below.refl _ _).alloc (Nat.le_refl _) _).alloc (by simp) _
  have HW := Lib.hid (And.intro hW0 (And.intro hA z1))
  have HB : Hid (∀ W, Below W0.heap.size W0 W → (∀ o, W.cell? ⟨A, o, none⟩ = #[Value.int .i64 c.inp, .slice sn c.next.length cn, .slice sg c.gates.length cg, .slice so c.outs.length co][o]?) ∧ W.heap[A + 1]? = some (.cells #[.int .i64 0, .slice none 0 0, .slice none 0 0, .slice none 0 0] 28 (0, 0)) ∧ CirV W (.agg #[.int .i64 c.inp, .slice sn c.next.length cn, .slice sg c.gates.length cg, .slice so c.outs.length co]) c ∧ Below w.heap.size w W) := fun W hW => ⟨(blk_all (blk_below hW (by omega) z2)).1, blk_below hW (by omega) z3, HG.out.mono (z4.trans (hW.mono z4.size)), z4.trans (hW.mono z4.size)⟩
  clear hW0 hA z1 z2 z3 z4
  cases hv : c.validB
  · rw [optR_no hv]
    have HV := Lib.hid hv
    clear hv
    go_enter Try.func43, Try.ntmps43
    go_upto_region 1 with fail
    rw [← HW.out.1, ← HW.out.2.1]
    have cb := (HB.out _ (Below.refl _ _)).1
    go_upto_region 2 with (go_at_call 20; ((with_reducible refine (CircuitValid_s _ c _ (HB.out _ (Below.refl _ _)).2.2.1).mono ?_); rintro e w1 ⟨rfl, hq⟩; rw [HV.out]; have H1 := Lib.hid hq; clear hq cb; obtain ⟨rc, rf⟩ := blk_all (HB.out _ H1.out).2.1))
    go_wp2_with fail
    have hZ : ((((w1.setCell ⟨A + 1, 0, none⟩ (.int .i64 0)).setCell ⟨A + 1, 1, none⟩ (.slice none 0 0)).setCell ⟨A + 1, 2, none⟩ (.slice none 0 0)).setCell ⟨A + 1, 3, none⟩ (.slice none 0 0)).heap[A + 1]? = some (.cells #[.int .i64 0, .slice none 0 0, .slice none 0 0, .slice none 0 0] 28 (0, 0)) := by
      simpa using blk_set (o := 3) (v := .slice none 0 0) (blk_set (o := 2) (v := .slice none 0 0) (blk_set (o := 1) (v := .slice none 0 0) (blk_set (o := 0) (v := .int .i64 0) (HB.out _ H1.out).2.1)))
    have hA2 := HW.out.2.1
    have hbz := ((((HB.out _ H1.out).2.2.2.setCell (p := ⟨A + 1, 0, none⟩) (by simp; omega) (.int .i64 0)).setCell (p := ⟨A + 1, 1, none⟩) (by simp; omega) (.slice none 0 0)).setCell (p := ⟨A + 1, 2, none⟩) (by simp; omega) (.slice none 0 0)).setCell (p := ⟨A + 1, 3, none⟩) (by simp; omega) (.slice none 0 0)
    clear rc rf
    revert hZ hbz
    generalize ((((w1.setCell ⟨A + 1, 0, none⟩ (.int .i64 0)).setCell ⟨A + 1, 1, none⟩ (.slice none 0 0)).setCell ⟨A + 1, 2, none⟩ (.slice none 0 0)).setCell ⟨A + 1, 3, none⟩ (.slice none 0 0)) = WZ
    intro hZ hbz
    have cr := (blk_all hZ).1
    exact bodyPost_ret (v := .agg #[.int .i64 0, .slice none 0 0, .slice none 0 0, .slice none 0 0]) (by simp [results, Try.results43, go_sem, cr]) rfl ⟨_, _, _, rfl, ⟨World.ownsRow_nil _ _ _ _, World.ownsRow_nil _ _ _ _, World.ownsRow_nil _ _ _ _, fun k h => by simp [Value.ownBlock] at h, by simp, by simp, by simp⟩, hbz⟩
  · rw [optR_yes hv]
    have HV := Lib.hid hv
    have hvv := c.validB_iff.1 hv
    have HVV := Lib.hid (And.intro hvv (buildC_valid hvv true))
    clear hv hvv
    go_enter Try.func43, Try.ntmps43
    go_upto_region 1 with fail
    rw [← HW.out.1, ← HW.out.2.1]
    have cb := (HB.out _ (Below.refl _ _)).1
    go_wp2_with (first
      | (go_at_call 20; ((with_reducible refine (CircuitValid_s _ c _ (HB.out _ (Below.refl _ _)).2.2.1).mono ?_); rintro e w1 ⟨rfl, hq⟩; rw [HV.out]; have H1 := Lib.hid hq; clear hq cb; have cb := (HB.out _ H1.out).1))
      | (go_at_call 48; ((with_reducible refine (l3Build_any _ c true _ (HB.out _ H1.out).2.2.1 HVV.out.1).mono ?_); rintro e w2 ⟨vn, vg, vo, rfl, ho, hq⟩; have H2 := Lib.hid (And.intro ho (H1.out.trans (hq.mono H1.out.size))); clear hq ho cb))
      | (go_at_call 48; ((with_reducible refine (l3Build_any _ (buildC true c) false _ (show CirV _ (.agg #[.int .i64 c.inp, vn, vg, vo]) (buildC true c) from H2.out.1.toV) HVV.out.2).mono ?_); rintro e w3 ⟨vn3, vg3, vo3, rfl, ho, hq⟩; rw [show (buildC true c).inp = c.inp from rfl]; obtain ⟨sn3, cn3, rfl⟩ := own_shape ho.n; obtain ⟨sg3, cg3, rfl⟩ := own_shape ho.g; obtain ⟨so3, co3, rfl⟩ := own_shape ho.o; have H3 := Lib.hid (And.intro ho (H2.out.2.trans (hq.mono H2.out.2.size))); obtain ⟨rc, rf⟩ := blk_all (HB.out _ H3.out.2).2.1; have HSZ := Lib.hid (show A + 2 ≤ w2.heap.size by have h1 := H2.out.2.size; have h2 := HW.out.2.2; omega); clear hq ho)))
    have hA2 := HW.out.2.1
    have hR := (HB.out _ H3.out.2).2.1
    have hO := (H3.out.1).sets4 (r := A + 1) (by have := HSZ.out; omega) (base := w.heap.size) (by have := HSZ.out; omega) (a := .int .i64 c.inp) (b' := .slice sn3 (buildC false (buildC true c)).next.length cn3) (c' := .slice sg3 (buildC false (buildC true c)).gates.length cg3) (d := .slice so3 (buildC false (buildC true c)).outs.length co3)
    have hZ : ((((w3.setCell ⟨A + 1, 0, none⟩ (.int .i64 c.inp)).setCell ⟨A + 1, 1, none⟩ (.slice sn3 (buildC false (buildC true c)).next.length cn3)).setCell ⟨A + 1, 2, none⟩ (.slice sg3 (buildC false (buildC true c)).gates.length cg3)).setCell ⟨A + 1, 3, none⟩ (.slice so3 (buildC false (buildC true c)).outs.length co3)).heap[A + 1]? = some (.cells #[.int .i64 c.inp, .slice sn3 (buildC false (buildC true c)).next.length cn3, .slice sg3 (buildC false (buildC true c)).gates.length cg3, .slice so3 (buildC false (buildC true c)).outs.length co3] 28 (0, 0)) := by
      simpa using blk_set (o := 3) (v := .slice so3 (buildC false (buildC true c)).outs.length co3) (blk_set (o := 2) (v := .slice sg3 (buildC false (buildC true c)).gates.length cg3) (blk_set (o := 1) (v := .slice sn3 (buildC false (buildC true c)).next.length cn3) (blk_set (o := 0) (v := .int .i64 c.inp) hR)))
    have hbz := ((((HB.out _ H3.out.2).2.2.2.setCell (p := ⟨A + 1, 0, none⟩) (by simp; omega) (.int .i64 c.inp)).setCell (p := ⟨A + 1, 1, none⟩) (by simp; omega) (.slice sn3 (buildC false (buildC true c)).next.length cn3)).setCell (p := ⟨A + 1, 2, none⟩) (by simp; omega) (.slice sg3 (buildC false (buildC true c)).gates.length cg3)).setCell (p := ⟨A + 1, 3, none⟩) (by simp; omega) (.slice so3 (buildC false (buildC true c)).outs.length co3)
    clear rc rf
    revert hZ hbz hO
    generalize ((((w3.setCell ⟨A + 1, 0, none⟩ (.int .i64 c.inp)).setCell ⟨A + 1, 1, none⟩ (.slice sn3 (buildC false (buildC true c)).next.length cn3)).setCell ⟨A + 1, 2, none⟩ (.slice sg3 (buildC false (buildC true c)).gates.length cg3)).setCell ⟨A + 1, 3, none⟩ (.slice so3 (buildC false (buildC true c)).outs.length co3)) = WZ
    intro hO hZ hbz
    have cr := (blk_all hZ).1
    exact bodyPost_ret (v := .agg #[.int .i64 c.inp, .slice sn3 (buildC false (buildC true c)).next.length cn3, .slice sg3 (buildC false (buildC true c)).gates.length cg3, .slice so3 (buildC false (buildC true c)).outs.length co3]) (by simp [results, Try.results43, go_sem, cr]) rfl ⟨_, _, _, rfl, hO, hbz⟩

end Go.Proofs.Ytjecchljhdfjdaa
