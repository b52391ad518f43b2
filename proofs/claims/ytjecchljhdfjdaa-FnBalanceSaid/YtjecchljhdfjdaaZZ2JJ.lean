import Derived.Test.YtjecchljhdfjdaaZZ2JH
import Derived.Test.YtjecchljhdfjdaaZZ2JN
import Derived.Test.YtjecchljhdfjdaaZZ2S1
import Derived.Test.YtjecchljhdfjdaaZZ2OS
namespace Go.Proofs.Ytjecchljhdfjdaa
set_option linter.unusedVariables false
set_option linter.unusedSimpArgs false
open Go.RowKit

/-! Part of the proof of one law. -/

set_option maxRecDepth 100000 in
set_option maxHeartbeats 1600000 in
theorem Optimize_i (v : Value) (c : Cir) (w : World) (h : CirV w v c) :
    Calls Try.prog 22 #[v] w fun e w' => ∃ vn vg vo, e = .returned (.agg #[.int .i64 (optR c).inp, vn, vg, vo]) ∧ CirOwn w' w.heap.size (optR c) vn vg vo ∧ Below w.heap.size w w' := by
  have HG := Lib.hid h
  obtain ⟨sn, cn, sg, cg, so, co, rfl, -, -, -, -, -, -⟩ := h
  obtain ⟨W0, hW0⟩ : ∃ W0, W0 = (w.alloc (.cells #[.int .i64 c.inp, .slice sn c.next.length cn, .slice sg c.gates.length cg, .slice so c.outs.length co] 28)).alloc (.cells #[.int .i64 0, .slice none 0 0, .slice none 0 0, .slice none 0 0] 28) := ⟨_, rfl⟩
  obtain ⟨A, hA⟩ : ∃ A, A = w.heap.size := ⟨_, rfl⟩
  have z1 : W0.heap.size = A + 2 := by rw [hW0, hA]; simp
  have z2 : W0.heap[A]? = some (.cells #[.int .i64 c.inp, .slice sn c.next.length cn, .slice sg c.gates.length cg, .slice so c.outs.length co] 28 (0, 0)) := by rw [hW0, hA]; exact blk_old (blk_new w _)
  have z3 : W0.heap[A + 1]? = some (.cells #[.int .i64 0, .slice none 0 0, .slice none 0 0, .slice none 0 0] 28 (0, 0)) := by rw [hW0, hA]; exact blk_at (by simp)
  have z4 : Below w.heap.size w W0 := by rw [hW0]; exact ((Below.refl _ _).alloc (Nat.le_refl _) _).alloc (by simp) _
  have HW := Lib.hid (And.intro hW0 (And.intro hA z1))
  have HB : Hid (∀ W, Below W0.heap.size W0 W → (∀ o, W.cell? ⟨A, o, none⟩ = #[Value.int .i64 c.inp, .slice sn c.next.length cn, .slice sg c.gates.length cg, .slice so c.outs.length co][o]?) ∧ W.heap[A + 1]? = some (.cells #[.int .i64 0, .slice none 0 0, .slice none 0 0, .slice none 0 0] 28 (0, 0)) ∧ CirV W (.agg #[.int .i64 c.inp, .slice sn c.next.length cn, .slice sg c.gates.length cg, .slice so c.outs.length co]) c ∧ Below w.heap.size w W) := fun W hW => ⟨(blk_all (blk_below hW (by omega) z2)).1, blk_below hW (by omega) z3, HG.out.mono (z4.trans (hW.mono z4.size)), z4.trans (hW.mono z4.size)⟩
  clear hW0 hA z1 z2 z3 z4
  cases hv : c.validB
  · rw [optR_no hv]
    have HV := Lib.hid hv
    clear hv
    go_enter Try.func22, Try.ntmps22
    go_upto_region 1 with fail
    rw [← HW.out.1, ← HW.out.2.1]
    have cb := (HB.out _ (Below.refl _ _)).1
    go_upto_region 2 with (go_at_call 27; ((with_reducible refine (CircuitValid_i _ c _ (HB.out _ (Below.refl _ _)).2.2.1).mono ?_); rintro e w1 ⟨rfl, hq⟩; rw [HV.out]; have H1 := Lib.hid hq; clear hq cb; obtain ⟨rc, rf⟩ := blk_all (HB.out _ H1.out).2.1))
    go_wp2_with fail
    have hZ : ((((w1.setCell ⟨A + 1, 0, none⟩ (.int .i64 0)).setCell ⟨A + 1, 1, none⟩ (.slice none 0 0)).setCell ⟨A + 1, 2, none⟩ (.slice none 0 0)).setCell ⟨A + 1, 3, none⟩ (.slice none 0 0)).heap[A + 1]? = some (.cells #[.int .i64 0, .slice none 0 0, .slice none 0 0, .slice none 0 0] 28 (0, 0)) := by
      simpa using blk_set (o := 3) (v := .slice none 0 0) (blk_set (o := 2) (v := .slice none 0 0) (blk_set (o := 1) (v := .slice none 0 0) (blk_set (o := 0) (v := .int .i64 0) (HB.out _ H1.out).2.1)))
    have hA2 := HW.out.2.1
    have hbz := ((((HB.out _ H1.out).2.2.2.setCell (p := ⟨A + 1, 0, none⟩) (by simp; omega) (.int .i64 0)).setCell (p := ⟨A + 1, 1, none⟩) (by simp; omega) (.slice none 0 0)).setCell (p := ⟨A + 1, 2, none⟩) (by simp; omega) (.slice none 0 0)).setCell (p := ⟨A + 1, 3, none⟩) (by simp; omega) (.slice none 0 0)
    clear rc rf
    revert hZ hbz
    generalize ((((w1.setCell ⟨A + 1, 0, none⟩ (.int .i64 0)).setCell ⟨A + 1, 1, none⟩ (.slice none 0 0)).setCell ⟨A + 1, 2, none⟩ (.slice none 0 0)).setCell ⟨A + 1, 3, none⟩ (.slice none 0 0)) = WZ
    intro hZ hbz
    have cr := (blk_all hZ).1
    exact bodyPost_ret (v := .agg #[.int .i64 0, .slice none 0 0, .slice none 0 0, .slice none 0 0]) (by simp [results, Try.results22, go_sem, cr]) rfl ⟨_, _, _, rfl, ⟨World.ownsRow_nil _ _ _ _, World.ownsRow_nil _ _ _ _, World.ownsRow_nil _ _ _ _, fun k h => by simp [Value.ownBlock] at h, by simp, by simp, by simp⟩, hbz⟩
  · rw [optR_yes hv]
    have HV := Lib.hid hv
    have hvv := c.validB_iff.1 hv
    have HVV := Lib.hid (And.intro hvv (buildC_valid hvv true))
    clear hv hvv
    go_enter Try.func22, Try.ntmps22
    go_upto_region 1 with fail
    rw [← HW.out.1, ← HW.out.2.1]
    have cb := (HB.out _ (Below.refl _ _)).1
    have HA := Lib.hid (show CirAt W0 A c.inp (.slice sn c.next.length cn) (.slice sg c.gates.length cg) (.slice so c.outs.length co) from ⟨cb 0, cb 1, cb 2, cb 3⟩)
    have HS : Hid (Sl w sn (ints c.next) ∧ Sl w sg (gcells c.gates) ∧ Sl w so (ints c.outs)) := by
      obtain ⟨_, _, _, _, _, _, e, h1, h2, h3, -⟩ := HG.out
      cases e
      exact ⟨h1, h2, h3⟩
    go_upto_region 3 with (go_at_call 27; ((with_reducible refine (CircuitValid_i _ c _ (HB.out _ (Below.refl _ _)).2.2.1).mono ?_); rintro e w1 ⟨rfl, hq⟩; rw [HV.out]; have H1 := Lib.hid hq; clear hq cb; have cb := (HB.out _ H1.out).1))
    have HO := Lib.hid (optimize_any A sn sg so cn cg co c w1 ⟨cb 0, cb 1, cb 2, cb 3⟩ (HS.out.1.mono (HB.out _ H1.out).2.2.2) (HS.out.2.1.mono (HB.out _ H1.out).2.2.2) (HS.out.2.2.mono (HB.out _ H1.out).2.2.2) HVV.out.1)
    clear cb
    go_wp2_with (go_at_call 28; refine HO.out.mono ?_; rintro e w3 ⟨vn3, vg3, vo3, rfl, ho, hq⟩; obtain ⟨sn3, cn3, rfl⟩ := own_shape ho.n; obtain ⟨sg3, cg3, rfl⟩ := own_shape ho.g; obtain ⟨so3, co3, rfl⟩ := own_shape ho.o; have H3 := Lib.hid (And.intro ho (H1.out.trans (hq.mono H1.out.size))); obtain ⟨rc, rf⟩ := blk_all (HB.out _ H3.out.2).2.1; have HSZ := Lib.hid (show A + 2 ≤ w1.heap.size by have h1 := H1.out.size; have h2 := HW.out.2.2; omega); clear hq ho)
    have hA2 := HW.out.2.1
    have hR := (HB.out _ H3.out.2).2.1
    have hO := (H3.out.1).sets4 (r := A + 1) (by have := HSZ.out; omega) (base := w.heap.size) (by have := HSZ.out; omega) (a := .int .i64 c.inp) (b' := .slice sn3 (optC c).next.length cn3) (c' := .slice sg3 (optC c).gates.length cg3) (d := .slice so3 (optC c).outs.length co3)
    have hZ : ((((w3.setCell ⟨A + 1, 0, none⟩ (.int .i64 c.inp)).setCell ⟨A + 1, 1, none⟩ (.slice sn3 (optC c).next.length cn3)).setCell ⟨A + 1, 2, none⟩ (.slice sg3 (optC c).gates.length cg3)).setCell ⟨A + 1, 3, none⟩ (.slice so3 (optC c).outs.length co3)).heap[A + 1]? = some (.cells #[.int .i64 c.inp, .slice sn3 (optC c).next.length cn3, .slice sg3 (optC c).gates.length cg3, .slice so3 (optC c).outs.length co3] 28 (0, 0)) := by
      simpa using blk_set (o := 3) (v := .slice so3 (optC c).outs.length co3) (blk_set (o := 2) (v := .slice sg3 (optC c).gates.length cg3) (blk_set (o := 1) (v := .slice sn3 (optC c).next.length cn3) (blk_set (o := 0) (v := .int .i64 c.inp) hR)))
    have hbz := ((((HB.out _ H3.out.2).2.2.2.setCell (p := ⟨A + 1, 0, none⟩) (by simp; omega) (.int .i64 c.inp)).setCell (p := ⟨A + 1, 1, none⟩) (by simp; omega) (.slice sn3 (optC c).next.length cn3)).setCell (p := ⟨A + 1, 2, none⟩) (by simp; omega) (.slice sg3 (optC c).gates.length cg3)).setCell (p := ⟨A + 1, 3, none⟩) (by simp; omega) (.slice so3 (optC c).outs.length co3)
    clear rc rf
    revert hZ hbz hO
    generalize ((((w3.setCell ⟨A + 1, 0, none⟩ (.int .i64 c.inp)).setCell ⟨A + 1, 1, none⟩ (.slice sn3 (optC c).next.length cn3)).setCell ⟨A + 1, 2, none⟩ (.slice sg3 (optC c).gates.length cg3)).setCell ⟨A + 1, 3, none⟩ (.slice so3 (optC c).outs.length co3)) = WZ
    intro hO hZ hbz
    have cr := (blk_all hZ).1
    exact bodyPost_ret (v := .agg #[.int .i64 c.inp, .slice sn3 (optC c).next.length cn3, .slice sg3 (optC c).gates.length cg3, .slice so3 (optC c).outs.length co3]) (by simp [results, Try.results22, go_sem, cr]) rfl ⟨_, _, _, rfl, hO, hbz⟩

theorem ptrC_any (inp : Int) (sn sg so : Option Addr) (nn cn ng cg no co : Nat) (w : World) :
    Calls Try.prog 35 #[.agg #[.int .i64 inp, .slice sn nn cn, .slice sg ng cg, .slice so no co]] w fun e w' => e = .returned (.pointer (some ⟨w.heap.size, 0, none⟩)) ∧ w' = w.alloc (.cells #[.int .i64 inp, .slice sn nn cn, .slice sg ng cg, .slice so no co] 28) := by
  go_enter Try.func35, Try.ntmps35
  go_wp2_with fail
  go_ret
  exact ⟨rfl, rfl⟩

/-- The builder, the literals of the variables, how often all are used. -/
structure BalW (F V : Nat) (W3 : World) (bb mb : Nat) (gs : List Gt) (vg vl : Value) (m : List Int) (s : Option Addr) (k c gc : Nat) (us : List Int) (W : World) : Prop where
  X : BX F W3 bb mb gs (lvlL F gs) gs vg vl W
  m : W.ownsRow W3.heap.size 3 1 (.slice s k c) k (ints m)
  u : W.ownsRow W3.heap.size 3 1 (.slice (some ⟨gc, 0, none⟩) V V) V (ints us)
  ml : ∀ j, vl.ownBlock = some j → (Value.slice s k c).ownBlock ≠ some j
  ul : ∀ j, vl.ownBlock = some j → j ≠ gc
  mu : (Value.slice s k c).ownBlock ≠ some gc

theorem BalW.below {F V : Nat} {W3 : World} {bb mb : Nat} {gs : List Gt} {vg vl : Value} {m : List Int} {s : Option Addr} {k c gc : Nat} {us : List Int} {W W' : World} (h : BalW F V W3 bb mb gs vg vl m s k c gc us W) (hb : Below W.heap.size W W') : BalW F V W3 bb mb gs vg vl m s k c gc us W' :=
  ⟨h.X.below hb, own_below h.m hb, own_below h.u hb, h.ml, h.ul, h.mu⟩

set_option maxRecDepth 100000 in
set_option maxHeartbeats 6400000 in
theorem Balance_i (v : Value) (c : Cir) (w : World) (h : CirV w v c) :
    Calls Try.prog 7 #[v] w fun e w' => ∃ vn vg vo, e = .returned (.agg #[.int .i64 (balR c).inp, vn, vg, vo]) ∧ CirOwn w' w.heap.size (balR c) vn vg vo ∧ Below w.heap.size w w' := by
  have HG := Lib.hid h
  obtain ⟨sn, cn, sg, cg, so, co, rfl, -, -, -, -, -, -⟩ := h
  obtain ⟨W0, hW0⟩ : ∃ W0, W0 = (w.alloc (.cells #[.int .i64 c.inp, .slice sn c.next.length cn, .slice sg c.gates.length cg, .slice so c.outs.length co] 28)).alloc (.cells #[.int .i64 0, .slice none 0 0, .slice none 0 0, .slice none 0 0] 28) := ⟨_, rfl⟩
  obtain ⟨A, hA⟩ : ∃ A, A = w.heap.size := ⟨_, rfl⟩
  have z1 : W0.heap.size = A + 2 := by rw [hW0, hA]; simp
  have z2 : W0.heap[A]? = some (.cells #[.int .i64 c.inp, .slice sn c.next.length cn, .slice sg c.gates.length cg, .slice so c.outs.length co] 28 (0, 0)) := by rw [hW0, hA]; exact blk_old (blk_new w _)
  have z3 : W0.heap[A + 1]? = some (.cells #[.int .i64 0, .slice none 0 0, .slice none 0 0, .slice none 0 0] 28 (0, 0)) := by rw [hW0, hA]; exact blk_at (by simp)
  have z4 : Below w.heap.size w W0 := by rw [hW0]; exact ((Below.refl _ _).alloc (Nat.le_refl _) _).alloc (by simp) _
  have HW := Lib.hid (And.intro hW0 (And.intro hA z1))
  have HB : Hid (∀ W, Below W0.heap.size W0 W → (∀ o, W.cell? ⟨A, o, none⟩ = #[Value.int .i64 c.inp, .slice sn c.next.length cn, .slice sg c.gates.length cg, .slice so c.outs.length co][o]?) ∧ W.heap[A + 1]? = some (.cells #[.int .i64 0, .slice none 0 0, .slice none 0 0, .slice none 0 0] 28 (0, 0)) ∧ CirV W (.agg #[.int .i64 c.inp, .slice sn c.next.length cn, .slice sg c.gates.length cg, .slice so c.outs.length co]) c ∧ Below w.heap.size w W) := fun W hW => ⟨(blk_all (blk_below hW (by omega) z2)).1, blk_below hW (by omega) z3, HG.out.mono (z4.trans (hW.mono z4.size)), z4.trans (hW.mono z4.size)⟩
  clear hW0 hA z1 z2 z3 z4
  cases hv : c.validB
  · rw [balR_no hv]
    have HV := Lib.hid hv
    clear hv
    go_enter Try.func7, Try.ntmps7
    go_upto_region 1 with fail
    rw [← HW.out.1, ← HW.out.2.1]
    have cb := (HB.out _ (Below.refl _ _)).1
    go_upto_region 2 with (go_at_call 27; ((with_reducible refine (CircuitValid_i _ c _ (HB.out _ (Below.refl _ _)).2.2.1).mono ?_); rintro e w1 ⟨rfl, hq⟩; rw [HV.out]; have H1 := Lib.hid hq; clear hq cb; obtain ⟨rc, rf⟩ := blk_all (HB.out _ H1.out).2.1))
    go_wp2_with fail
    have hZ : ((((w1.setCell ⟨A + 1, 0, none⟩ (.int .i64 0)).setCell ⟨A + 1, 1, none⟩ (.slice none 0 0)).setCell ⟨A + 1, 2, none⟩ (.slice none 0 0)).setCell ⟨A + 1, 3, none⟩ (.slice none 0 0)).heap[A + 1]? = some (.cells #[.int .i64 0, .slice none 0 0, .slice none 0 0, .slice none 0 0] 28 (0, 0)) := by
      simpa using blk_set (o := 3) (v := .slice none 0 0) (blk_set (o := 2) (v := .slice none 0 0) (blk_set (o := 1) (v := .slice none 0 0) (blk_set (o := 0) (v := .int .i64 0) (HB.out _ H1.out).2.1)))
    have hA2 := HW.out.2.1
    have hbz := ((((HB.out _ H1.out).2.2.2.setCell (p := ⟨A + 1, 0, none⟩) (by simp; omega) (.int .i64 0)).setCell (p := ⟨A + 1, 1, none⟩) (by simp; omega) (.slice none 0 0)).setCell (p := ⟨A + 1, 2, none⟩) (by simp; omega) (.slice none 0 0)).setCell (p := ⟨A + 1, 3, none⟩) (by simp; omega) (.slice none 0 0)
    clear rc rf
    revert hZ hbz
    generalize ((((w1.setCell ⟨A + 1, 0, none⟩ (.int .i64 0)).setCell ⟨A + 1, 1, none⟩ (.slice none 0 0)).setCell ⟨A + 1, 2, none⟩ (.slice none 0 0)).setCell ⟨A + 1, 3, none⟩ (.slice none 0 0)) = WZ
    intro hZ hbz
    have cr := (blk_all hZ).1
    exact bodyPost_ret (v := .agg #[.int .i64 0, .slice none 0 0, .slice none 0 0, .slice none 0 0]) (by simp [results, Try.results7, go_sem, cr]) rfl ⟨_, _, _, rfl, ⟨World.ownsRow_nil _ _ _ _, World.ownsRow_nil _ _ _ _, World.ownsRow_nil _ _ _ _, fun k h => by simp [Value.ownBlock] at h, by simp, by simp, by simp⟩, hbz⟩
  · have HV := Lib.hid hv
    have hvv := c.validB_iff.1 hv
    obtain ⟨o, ho⟩ : ∃ o, o = optC c := ⟨_, rfl⟩
    have hov : o.valid := by rw [ho]; exact optC_valid hvv
    obtain ⟨q1, q2, q3, q4, q5⟩ := id hov.lim
    obtain ⟨F, hF⟩ : ∃ F : Nat, 1 + o.inp + (o.next.length : Int) = F := ⟨(1 + o.inp + (o.next.length : Int)).toNat, by omega⟩
    obtain ⟨n, hnn⟩ : ∃ n, n = o.gates.length := ⟨_, rfl⟩
    obtain ⟨V, hV⟩ : ∃ V, V = F + n := ⟨_, rfl⟩
    have hF8 : F ≤ 8 := by omega
    have hF1 : 1 ≤ F := by omega
    have hn14 : n ≤ 14 := by omega
    have hFV : F + n ≤ V := by omega
    have hFV2 : V ≤ F + n := by omega
    have eF : o.first.toNat = F := by rw [show o.first = (F : Int) from hF, Int.toNat_natCast]
    have eFi : o.first = (F : Int) := hF
    have eV : o.vars = (V : Int) := by unfold Cir.vars; omega
    have HFF := Lib.hid (And.intro hF (And.intro hV (And.intro hnn (And.intro eF (And.intro eFi (And.intro eV hov))))))
    have HOC := Lib.hid (And.intro ho hvv)
    clear hv hvv ho hov hF hV hnn eF eFi eV q4
    have HS : Hid (Sl w sn (ints c.next) ∧ Sl w sg (gcells c.gates) ∧ Sl w so (ints c.outs)) := by
      obtain ⟨_, _, _, _, _, _, e, h1, h2, h3, -⟩ := HG.out
      cases e
      exact ⟨h1, h2, h3⟩
    go_enter Try.func7, Try.ntmps7
    go_upto_region 1 with fail
    rw [← HW.out.1, ← HW.out.2.1]
    have cb := (HB.out _ (Below.refl _ _)).1
    go_upto_region 3 with (go_at_call 27; ((with_reducible refine (CircuitValid_i _ c _ (HB.out _ (Below.refl _ _)).2.2.1).mono ?_); rintro e w1 ⟨rfl, hq⟩; rw [HV.out]; have H1 := Lib.hid hq; clear hq cb; have cb := (HB.out _ H1.out).1))
    have HO := Lib.hid (optimize_any A sn sg so cn cg co c w1 ⟨cb 0, cb 1, cb 2, cb 3⟩ (HS.out.1.mono (HB.out _ H1.out).2.2.2) (HS.out.2.1.mono (HB.out _ H1.out).2.2.2) (HS.out.2.2.mono (HB.out _ H1.out).2.2.2) (Cir.valid.wide HOC.out.2))
    clear cb
    have HSZ := Lib.hid (show A + 2 ≤ w1.heap.size by have h1 := H1.out.size; have h2 := HW.out.2.2; omega)
    go_upto_region 4 with (go_at_call 28; refine HO.out.mono ?_; rintro e w3 ⟨vn3, vg3, vo3, rfl, ho, hq⟩; rw [← HOC.out.1] at ho; obtain ⟨sn3, cn3, rfl⟩ := own_shape ho.n; obtain ⟨sg3, cg3, rfl⟩ := own_shape ho.g; obtain ⟨so3, co3, rfl⟩ := own_shape ho.o; have H3 := Lib.hid (And.intro ho (And.intro (H1.out.trans (hq.mono H1.out.size)) hq.size)); clear hq ho)
    have hci : c.inp = o.inp := by rw [HOC.out.1]; rfl
    rw [hci]
    rw [← HFF.out.2.2.1] at H3
    rw [← HFF.out.2.2.1]
    obtain ⟨OB, hOB⟩ : ∃ OB, OB = w3.heap.size := ⟨_, rfl⟩
    have k3 := blk_new w3 (.cells #[.int .i64 o.inp, .slice sn3 o.next.length cn3, .slice sg3 n cg3, .slice so3 o.outs.length co3] 28)
    have b3 := (Below.refl w3.heap.size w3).alloc (Nat.le_refl _) (.cells #[.int .i64 o.inp, .slice sn3 o.next.length cn3, .slice sg3 n cg3, .slice so3 o.outs.length co3] 28)
    rw [← hOB] at k3
    rw [← hOB]
    have hOA : A + 2 ≤ OB := by have h1 := HSZ.out; have h2 := H3.out.2.2; omega
    have hO1 : w1.heap.size ≤ OB := by rw [hOB]; exact H3.out.2.2
    clear hOB hci
    revert k3 b3
    generalize w3.alloc (.cells #[.int .i64 o.inp, .slice sn3 o.next.length cn3, .slice sg3 n cg3, .slice so3 o.outs.length co3] 28) = W3
    intro k3 b3
    have HO2 : Hid (∀ W, Below W3.heap.size W3 W → CirAt W OB o.inp (.slice sn3 o.next.length cn3) (.slice sg3 n cg3) (.slice so3 o.outs.length co3) ∧ Sl W sn3 (ints o.next) ∧ Sl W sg3 (gcells o.gates) ∧ Sl W so3 (ints o.outs) ∧ Below W0.heap.size W0 W ∧ CirOwn W w1.heap.size o (.slice sn3 o.next.length cn3) (.slice sg3 n cg3) (.slice so3 o.outs.length co3) ∧ W.heap[OB]? = some (.cells #[.int .i64 o.inp, .slice sn3 o.next.length cn3, .slice sg3 n cg3, .slice so3 o.outs.length co3] 28 (0, 0))) := fun W hW => by
      have hb := b3.trans (hW.mono b3.size)
      have hc := (blk_all (blk_below hW (blk_lt k3) k3)).1
      have h0 := own_below H3.out.1.n hb
      have h1 := own_below H3.out.1.g hb
      have h2 := own_below H3.out.1.o hb
      have h1s : Sl W sg3 (gcells o.gates) := by have h := h1; rw [HFF.out.2.2.1] at h; exact own_sl h
      exact ⟨⟨by simpa using hc 0, by simpa using hc 1, by simpa using hc 2, by simpa using hc 3⟩, own_sl h0, h1s, own_sl h2, H3.out.2.1.trans (hb.mono H3.out.2.1.size), ⟨h0, h1, h2, H3.out.1.ne, H3.out.1.l1, H3.out.1.l2, H3.out.1.l3⟩, blk_below hW (blk_lt k3) k3⟩
    clear k3 b3 HO H3
    obtain ⟨c0, c1, c2, c3⟩ := (HO2.out _ (Below.refl _ _)).1
    go_upto_region 5 with (go_at_call 29; refine (newBuilder_any F o.inp o.next.length W3 HFF.out.1 (by omega) (by omega)).mono ?_; rintro e w4 ⟨bb, mb, vl0, rfl, hx⟩; have H4 := Lib.hid hx; clear hx c0 c1 c2 c3; obtain ⟨c0, c1, c2, c3⟩ := (HO2.out _ H4.out.bl).1)
    go_upto_region 6 with (go_at_call 30; refine (ownLits_any F OB o.inp sn3 o.next.length cn3 _ _ w4 (HO2.out _ H4.out.bl).1 HFF.out.1 (by omega) (by omega)).mono ?_; rintro e w5 ⟨s5, c5, rfl, ho5, hq⟩; have H5 := Lib.hid (And.intro (H4.out.below hq) (And.intro ho5 hq)); clear ho5 hq c0 c1 c2 c3; obtain ⟨c0, c1, c2, c3⟩ := (HO2.out _ H5.out.1.bl).1)
    go_upto_region 7 with (go_at_call 31; refine (uses_any OB sn3 sg3 so3 cn3 cg3 co3 o w5 (by rw [← HFF.out.2.2.1]; exact (HO2.out _ H5.out.1.bl).1) (HO2.out _ H5.out.1.bl).2.1 (HO2.out _ H5.out.1.bl).2.2.1 (HO2.out _ H5.out.1.bl).2.2.2.1 HFF.out.2.2.2.2.2.2 V HFF.out.2.2.2.2.2.1).mono ?_; rintro e w6 ⟨gc, rfl, hgc, hu, hq⟩; have H6 := Lib.hid (And.intro hgc (And.intro hu hq)); clear hgc hu hq c0 c1 c2 c3; obtain ⟨c0, c1, c2, c3⟩ := (HO2.out _ (H5.out.1.below H6.out.2.2).bl).1)
    obtain ⟨us, hus⟩ : ∃ us, us = cnts o.usesI V := ⟨_, rfl⟩
    have hul : us.length = V := by rw [hus, cnts_length]
    have hB6 : BalW F V W3 bb mb [] (.slice none 0 0) vl0 (evE F) s5 F c5 gc us w6 := by
      have hz4 := H5.out.2.2.size
      have hx6 := H5.out.1.below H6.out.2.2
      have hv4 : ∀ j, vl0.ownBlock = some j → j < w4.heap.size := fun j hj => (own_blk H4.out.l hj).2
      refine ⟨hx6, own_base (own_below H5.out.2.1 H6.out.2.2) H4.out.bl.size, ?_, fun j hj e => ?_, fun j hj e => ?_, fun e => ?_⟩
      · have := own_of_blk (base := W3.heap.size) (size := 1) (n := V) H6.out.2.1 (by have := H6.out.1; have := H4.out.bl.size; omega) (by rw [← hus]; simp [hul]) (by unfold maxLen; omega)
        rw [← hus] at this
        simpa using this
      · have h1 := (own_blk H5.out.2.1 e).1; have h2 := hv4 j hj; omega
      · have h1 := H6.out.1; have h2 := hv4 j hj; omega
      · have h1 := (own_blk H5.out.2.1 e).2; have h2 := H6.out.1; omega
    have HB6 := Lib.hid hB6
    have HUS := Lib.hid hus
    clear hB6 hus hul
    go_upto_region 8 with fail
    clear c0 c1 c2 c3
    go_loopw [28, 5] (fun i x wr => ∃ (k : Nat) (s : Option Addr) (cc : Nat) (vg vl : Value), k ≤ n ∧ i = .int .i64 k ∧ x = .slice s (F + k) cc ∧ BalW F V W3 bb mb (balP o k).1 vg vl (balP o k).2 s (F + k) cc gc us wr) (fun i _ _ => n - (intOf i).toNat)
    case atStart => exact ⟨0, s5, c5, _, vl0, Nat.zero_le _, rfl, rfl, by have e : balP o 0 = ([], evE F) := (by rw [← HFF.out.2.2.2.1]; rfl); rw [e]; exact HB6.out⟩
    case round =>
      obtain ⟨k, s, cc, vg, vl, hk, rfl, rfl, hBW⟩ := hrel
      obtain ⟨gs, hgs⟩ : ∃ gs, gs = (balP o k).1 := ⟨_, rfl⟩
      obtain ⟨m, hm⟩ : ∃ m, m = (balP o k).2 := ⟨_, rfl⟩
      rw [← hgs, ← hm] at hBW
      have hok := balP_ok HFF.out.2.2.2.2.2.2 k (by rw [← HFF.out.2.2.1]; exact hk)
      have hsm := balP_small HFF.out.2.2.2.2.2.2 (k := k) (by rw [← HFF.out.2.2.1]; exact hk)
      rw [← hgs] at hsm
      have hml : m.length = F + k := by rw [hm, ← HFF.out.2.2.2.1]; exact hok.mlen
      have HR := Lib.hid (And.intro hBW (And.intro hgs (And.intro hm (And.intro hok hml))))
      clear hBW hgs hm hok hml
      by_cases hlt : k < n
      · obtain ⟨L, hL⟩ : ∃ L, L = Lv o k := ⟨_, rfl⟩
        have hkg : k < o.gates.length := by rw [← HFF.out.2.2.1]; exact hlt
        have hL2 := Lv_two HFF.out.2.2.2.2.2.2 k hkg
        have hL16 := Lv_small HFF.out.2.2.2.2.2.2 hkg
        have hLm := Lv_mem HFF.out.2.2.2.2.2.2 k hkg
        rw [← hL] at hL2 hL16 hLm
        rw [HFF.out.2.2.2.2.1] at hLm
        obtain ⟨fk, hfk⟩ : ∃ fk : Nat, fk = F + k := ⟨_, rfl⟩
        have hlv : Hid (∀ W, Below W3.heap.size W3 W → Sl W (some ⟨gc, 0, none⟩) (ints us) → Calls Try.prog 32 #[.pointer (some ⟨OB, 0, none⟩), .slice (some ⟨gc, 0, none⟩) V V, .int .i64 ((F : Int) + (k : Int)), .slice none 0 0] W fun e w' => ∃ s c', e = .returned (.slice s L.length c') ∧ Sl w' s (ints L) ∧ Below W.heap.size W w') := fun W hW hs => by
          have h := leaves_any W OB sn3 sg3 (some ⟨gc, 0, none⟩) cn3 cg3 V _ o V (by rw [← HFF.out.2.2.1]; exact (HO2.out _ hW).1) (HO2.out _ hW).2.2.1 (by rw [← HUS.out]; exact hs) HFF.out.2.2.2.2.2.2 HFF.out.2.2.2.2.2.1 k hkg W [] none 0 (Below.refl _ _) (World.ownsRow_nil _ _ _ _) (by simp; exact Nat.le_trans (Nat.pow_le_pow_right (by decide) (show k + 1 ≤ 14 by omega)) (by decide))
          rw [HFF.out.2.2.2.2.1, List.nil_append, ← hL] at h
          refine h.mono ?_
          rintro e w' ⟨s, c', rfl, h1, h2, h3⟩
          exact ⟨s, c', rfl, own_sl h1, h2.below (Nat.le_refl _) (fun k hk e => by simp [Value.ownBlock] at e)⟩
        have HLL := Lib.hid (And.intro hL hLm)
        clear hL hLm hkg hfk
        obtain ⟨c0, c1, c2, c3⟩ := (HO2.out _ HR.out.1.X.bl).1
        go_upto_region 12 with (first
          | (go_at_call 33; refine (firstGate_any OB o.inp sn3 o.next.length cn3 _ _ _ (HO2.out _ HR.out.1.X.bl).1 (by omega) (by omega)).mono ?_; rintro e wf ⟨rfl, hd⟩; rw [HFF.out.1]; have HF2 := Lib.hid (HR.out.1.below (hd.below _)); clear hd c0 c1 c2 c3)
          | (go_at_call 32; refine (hlv.out _ HF2.out.X.bl (own_sl HF2.out.u)).mono ?_; rintro e wl ⟨sl, cl, rfl, hsl, hq⟩; have HL2 := Lib.hid (And.intro (HF2.out.below hq) hsl); clear hq hsl))
        go_loopw [37, 8] (fun i x wr => ∃ (j : Nat) (s8 : Option Addr) (c8 : Nat), j ≤ L.length ∧ i = .int .i64 j ∧ x = .slice s8 j c8 ∧ wr.ownsRow wl.heap.size 3 1 x j (ints ((L.take j).map (mapB m))) ∧ Below wl.heap.size wl wr) (fun i _ _ => L.length - (intOf i).toNat)
        case atStart => exact ⟨0, none, 0, Nat.zero_le _, rfl, rfl, World.ownsRow_nil _ _ _ _, Below.refl _ _⟩
        case round =>
          obtain ⟨j, s8, c8, hj, rfl, rfl, ho8, hb8⟩ := hrel
          have H8 := Lib.hid (And.intro ho8 hb8)
          clear ho8 hb8
          by_cases hltj : j < L.length
          · obtain ⟨l, hl⟩ := get_of_lt hltj
            obtain ⟨l0, l1⟩ := HLL.out.2 l (List.mem_of_getElem? hl)
            obtain ⟨p, hp⟩ : ∃ p : Nat, l / 2 = p := ⟨(l / 2).toNat, by omega⟩
            have hpk : p < F + k := by omega
            obtain ⟨x, hx⟩ := get_of_lt (l := m) (k := p) (by rw [HR.out.2.2.2.2]; exact hpk)
            obtain ⟨x0, x1⟩ := HR.out.2.2.2.1.lits x (by rw [← HR.out.2.2.1]; exact List.mem_of_getElem? hx)
            rw [HFF.out.2.2.2.1, ← HR.out.2.1] at x1
            have hx300 : x ≤ 300 := by omega
            have hl400 : l ≤ 400 := by omega
            obtain ⟨bl, ol, rfl, hbl', zl⟩ := HL2.out.2.int H8.out.2 hl
            obtain ⟨bm, om, hsm2, hbm', zm⟩ := (own_sl HL2.out.1.m).int H8.out.2 hx
            subst hsm2
            have hb1 : bits .and .i64 l 1 = l % 2 := i64_and1 l
            have hb2 : bits .xor .i64 x (l % 2) = xrb x (l % 2) := bits_xrb x (l % 2) x0 hx300 (by omega)
            have hmb : mapB m l = xrb x (l % 2) := mapB_eq hp hx
            have htk : (L.take (j + 1)).map (mapB m) = (L.take j).map (mapB m) ++ [mapB m l] := by rw [List.take_add_one, hl]; simp
            obtain ⟨y, hy⟩ : ∃ y, y = xrb x (l % 2) := ⟨_, rfl⟩
            rw [← hy] at hb2 hmb
            have HM := Lib.hid (And.intro hmb htk)
            clear hl hx hmb htk hbl' hbm' hy
            have hz8 := H8.out.2.size
            go_wp2_with (at_builtin; refine wpl_app rfl _ _ rfl elem_int (own_below H8.out.1 ((Below.refl _ _).alloc (Nat.le_refl _) _)) rfl rfl rfl (Sl.new _ _ _) (by simp [Value.oneCell']) (j + 1) rfl (ints ((L.take j).map (mapB m) ++ [y])) (by rw [← ints_append]; rfl) (by unfold maxLen; omega) (by omega) (by simp; omega) ?_; intro s9 c9 w9 h9 hb9 _ _; have H9 := Lib.hid (And.intro h9 ((H8.out.2.alloc hz8 _).trans hb9)); clear h9 hb9)
            go_roundw
            case rel => exact ⟨j + 1, s9, c9, by omega, by go_num, by simp, by rw [HM.out.2, HM.out.1]; simpa using H9.out.1, H9.out.2⟩
            case measure => simp [intOf]; omega
          · obtain rfl : j = L.length := by omega
            have hLp : 0 < L.length := by omega
            obtain ⟨gl, hgl⟩ : ∃ g, s8 = some ⟨g, 0, none⟩ := by
              rcases own_some H8.out.1 with ⟨_, e, _⟩ | ⟨g, e⟩
              · omega
              · exact ⟨g, e⟩
            subst hgl
            have hgw : wl.heap.size ≤ gl := (own_blk H8.out.1 (k := gl) rfl).1
            have hOO := H8.out.1
            rw [List.take_length] at hOO
            have hkg : k < o.gates.length := by rw [← HFF.out.2.2.1]; exact hlt
            obtain ⟨r, hr⟩ : ∃ r, r = balS o (balP o k) k := ⟨_, rfl⟩
            have hrj : joinL F L.length gs (L.map (mapB m)) = r := by rw [hr]; unfold balS; rw [HFF.out.2.2.2.1, ← HLL.out.1, ← HR.out.2.1, ← HR.out.2.2.1]
            have hlits := balL_lit HFF.out.2.2.2.2.2.2 HR.out.2.2.2.1 hkg
            rw [HFF.out.2.2.2.1, ← HLL.out.1, ← HR.out.2.1, ← HR.out.2.2.1] at hlits
            have hgp := HR.out.2.2.2.1.gates
            rw [HFF.out.2.2.2.1, ← HR.out.2.1] at hgp
            have hcj := conjunction_any F W3 bb mb L.length c8 gl gs vg vl (L.map (mapB m)) wr (HL2.out.1.X.below H8.out.2) hF8 hF1 hgp (by omega) (own_base hOO HL2.out.1.X.bl.size) (fun j hj e => by have := (own_blk HL2.out.1.X.l hj).2; omega) hlits hLp
            rw [hrj] at hcj
            have HCJ := Lib.hid (And.intro hcj hr)
            clear hcj hrj hlits hgp hOO hr hkg
            go_wp2_with (first
              | (go_at_call 34; refine HCJ.out.1.mono ?_; rintro e w7 ⟨vg', vl', vs, rfl, hx7, hkp, hsz⟩; have p1 := hkp _ _ m W3.heap.size (own_below HL2.out.1.m H8.out.2) HL2.out.1.ml (fun e => by have := (own_blk HL2.out.1.m e).2; omega); have p2 := hkp (.slice (some ⟨gc, 0, none⟩) V V) V us W3.heap.size (own_below HL2.out.1.u H8.out.2) (fun j hj e => HL2.out.1.ul j hj (by cases e; rfl)) (fun e => by have := (own_blk HL2.out.1.u e).2; omega); have H7 := Lib.hid (And.intro hx7 (And.intro p1.1 (And.intro p1.2.1 (And.intro p2.1 p2.2.1)))); clear hx7 hkp hsz p1 p2)
              | (at_builtin; refine wpl_app rfl _ _ rfl elem_int (own_below H7.out.2.1 ((Below.refl _ _).alloc (Nat.le_refl _) _)) rfl rfl rfl (Sl.new _ _ _) (by simp [Value.oneCell']) (F + k + 1) rfl (ints (m ++ [r.2])) (by rw [← ints_append]; rfl) (by unfold maxLen; omega) (by omega) (H7.out.1.bl.alloc H7.out.1.bl.size _).size ?_; intro s9 c9 w9 h9 hb9 hg9 ho9; have hbA := (Below.refl w7.heap.size w7).alloc (Nat.le_refl _) (.cells #[.int .i64 r.2] 3); have hXA := H7.out.1.below hbA; have hLA := own_below H7.out.2.1 hbA; have hUA := own_below H7.out.2.2.2.1 hbA; have hcg := Chg.of_grown hg9; have hX2 := hXA.chg hcg (own_tyb hLA hXA.blk (by decide)) (own_nomapg hLA hXA.map) (fun j hj e => own_ty hXA.g hLA (by decide) hj e) (fun j hj e => H7.out.2.2.1 j hj e) (hXA.bl.trans hb9); have hU2 := hcg.own hUA (fun j hj e => HL2.out.1.mu (by rw [e, ← hj]; rfl)); have hM2 : ∀ j, vl'.ownBlock = some j → (Value.slice s9 (F + k + 1) c9).ownBlock ≠ some j := (fun j hj e => by rcases ho9 with h | h <;> rw [h] at e; exact H7.out.2.2.1 j hj e; have h9 := (own_blk hXA.l hj).2; cases e; omega); have hN2 : (Value.slice s9 (F + k + 1) c9).ownBlock ≠ some gc := (fun e => by rcases ho9 with h | h <;> rw [h] at e; exact HL2.out.1.mu e; have h9 := (own_blk hUA (k := gc) rfl).2; cases e; omega); have H9 := Lib.hid (show BalW F V W3 bb mb r.1 vg' vl' (m ++ [r.2]) s9 (F + k + 1) c9 gc us w9 from ⟨hX2, h9, hU2, hM2, fun j hj e => H7.out.2.2.2.2 j hj (by rw [e]; rfl), hN2⟩); clear h9 hb9 hg9 ho9 hbA hXA hLA hUA hcg hX2 hU2 hM2 hN2))
            go_roundw
            case rel =>
              have e : balP o (k + 1) = (r.1, m ++ [r.2]) := by
                show ((balS o (balP o k) k).1, (balP o k).2 ++ [(balS o (balP o k) k).2]) = _
                rw [← HCJ.out.2, ← HR.out.2.2.1]
              exact ⟨k + 1, s9, c9, vg', vl', by omega, by go_num, by simp [Nat.add_assoc], by rw [e]; exact H9.out⟩
            case measure => simp [intOf]; omega
      · obtain rfl : k = n := by omega
        have hVk : V = F + k := HFF.out.2.1
        have hM := own_sl HR.out.1.m
        have hml := HR.out.2.2.2.2
        rw [← hVk] at hml
        rw [← hVk]
        have hmb : ∀ x ∈ m, 0 ≤ x ∧ x ≤ 300 := fun x hx => by
          have h := HR.out.2.2.2.1.lits x (by rw [← HR.out.2.2.1]; exact hx)
          rw [HFF.out.2.2.2.1, ← HR.out.2.1] at h
          unfold litP at h
          omega
        have hB : cirR o gs m = balC o := by unfold cirR balC; rw [HR.out.2.1, HR.out.2.2.1, ← HFF.out.2.2.1]
        have hC := HO2.out _ HR.out.1.X.bl
        have hcr := circuit_any F V W3 bb mb gs vg vl OB sn3 sg3 so3 cn3 cg3 co3 o s cc m wr HR.out.1.X (by rw [← HFF.out.2.2.1]; exact hC.1) hC.2.1 hC.2.2.2.1 (Cir.valid.wide HFF.out.2.2.2.2.2.2) HFF.out.2.2.2.2.2.1 hml hM hmb (by omega)
        have hcr2 : Hid (Calls Try.prog 36 #[.pointer (some ⟨bb, 0, none⟩), .pointer (some ⟨OB, 0, none⟩), .slice s V cc] wr fun e w' => ∃ s1 c1 s2 c2 s3 c3, e = .returned (.agg #[.int .i64 o.inp, .slice s1 (balC o).next.length c1, .slice s2 (balC o).gates.length c2, .slice s3 (balC o).outs.length c3]) ∧ (Sl w' s1 (ints (balC o).next) ∧ Sl w' s2 (gcells (balC o).gates) ∧ Sl w' s3 (ints (balC o).outs)) ∧ Below wr.heap.size wr w') := by
          refine hcr.mono ?_
          rintro e w' ⟨vn, vg', vo, rfl, hv, hq⟩
          rw [hB] at hv
          obtain ⟨s1, c1, s2, c2, s3, c3, e, h1, h2, h3, -⟩ := hv
          refine ⟨s1, c1, s2, c2, s3, c3, ?_, ⟨h1, h2, h3⟩, hq⟩
          rw [show (balC o).inp = o.inp from rfl] at e
          rw [e]
        obtain ⟨B, hBB⟩ : ∃ B, B = balC o := ⟨_, rfl⟩
        rw [← hBB] at hcr2
        have hBw : B.wide := by rw [hBB]; exact balC_wide HFF.out.2.2.2.2.2.2
        have hBi : B.inp = o.inp := by rw [hBB]; rfl
        obtain ⟨r, hr⟩ : ∃ r, r = optC B := ⟨_, rfl⟩
        have hri : r.inp = o.inp := by rw [hr, ← hBi]; rfl
        have HBR := Lib.hid (And.intro hBB (And.intro hBw (And.intro hBi (And.intro hr hri))))
        clear hM hml hmb hB hC hcr hVk hBB hBw hBi hr hri
        have HSZ2 := Lib.hid (show W3.heap.size ≤ wr.heap.size from HR.out.1.X.bl.size)
        go_upto_region 19 with (first
          | (go_at_call 36; refine hcr2.out.mono ?_; rintro e w4 ⟨sn4, cn4, sg4, cg4, so4, co4, rfl, hsl, hq⟩; have H4c := Lib.hid (And.intro hsl (HR.out.1.X.bl.trans (hq.mono HR.out.1.X.bl.size))); clear hsl hq)
          | (go_at_call 35; refine (ptrC_any o.inp sn4 sg4 so4 B.next.length cn4 B.gates.length cg4 B.outs.length co4 w4).mono ?_; rintro e w5 ⟨rfl, h8⟩; have k8 : w5.heap[w4.heap.size]? = some (.cells #[.int .i64 o.inp, .slice sn4 B.next.length cn4, .slice sg4 B.gates.length cg4, .slice so4 B.outs.length co4] 28 (0, 0)) := (by rw [h8]; exact blk_new _ _); have b8 : Below w4.heap.size w4 w5 := (by rw [h8]; exact (Below.refl _ _).alloc (Nat.le_refl _) _); have H5c := Lib.hid (And.intro k8 (And.intro (And.intro (H4c.out.1.1.mono b8) (And.intro (H4c.out.1.2.1.mono b8) (H4c.out.1.2.2.mono b8))) (H4c.out.2.trans (b8.mono H4c.out.2.size)))); clear h8 k8 b8)
          | (go_at_call 28; refine (optimize_any w4.heap.size sn4 sg4 so4 cn4 cg4 co4 B w5 (by have hc := (blk_all H5c.out.1).1; rw [HBR.out.2.2.1]; exact ⟨by simpa using hc 0, by simpa using hc 1, by simpa using hc 2, by simpa using hc 3⟩) H5c.out.2.1.1 H5c.out.2.1.2.1 H5c.out.2.1.2.2 HBR.out.2.1).mono ?_; rintro e w6 ⟨vn6, vg6, vo6, rfl, ho, hq⟩; rw [← HBR.out.2.2.2.1] at ho; obtain ⟨sn6, cn6, rfl⟩ := own_shape ho.n; obtain ⟨sg6, cg6, rfl⟩ := own_shape ho.g; obtain ⟨so6, co6, rfl⟩ := own_shape ho.o; rw [HBR.out.2.2.1]; have H6c := Lib.hid (And.intro ho (And.intro (H5c.out.2.2.trans (hq.mono H5c.out.2.2.size)) (show W3.heap.size ≤ w5.heap.size from H5c.out.2.2.size))); clear ho hq))
        obtain ⟨RB, hRB⟩ : ∃ RB, RB = w6.heap.size := ⟨_, rfl⟩
        have k7 := blk_new w6 (.cells #[.int .i64 o.inp, .slice sn6 r.next.length cn6, .slice sg6 r.gates.length cg6, .slice so6 r.outs.length co6] 28)
        have b7 := (Below.refl w6.heap.size w6).alloc (Nat.le_refl _) (.cells #[.int .i64 o.inp, .slice sn6 r.next.length cn6, .slice sg6 r.gates.length cg6, .slice so6 r.outs.length co6] 28)
        rw [← hRB] at k7
        rw [← hRB]
        clear hRB
        revert k7 b7
        generalize w6.alloc (.cells #[.int .i64 o.inp, .slice sn6 r.next.length cn6, .slice sg6 r.gates.length cg6, .slice so6 r.outs.length co6] 28) = W7
        intro k7 b7
        have HQ : Hid (∀ W, Below W7.heap.size W7 W → Below W3.heap.size W3 W ∧ CirAt W RB o.inp (.slice sn6 r.next.length cn6) (.slice sg6 r.gates.length cg6) (.slice so6 r.outs.length co6) ∧ Sl W sn6 (ints r.next) ∧ Sl W sg6 (gcells r.gates) ∧ Sl W so6 (ints r.outs) ∧ CirOwn W w5.heap.size r (.slice sn6 r.next.length cn6) (.slice sg6 r.gates.length cg6) (.slice so6 r.outs.length co6) ∧ CirV W (.agg #[.int .i64 o.inp, .slice sn6 r.next.length cn6, .slice sg6 r.gates.length cg6, .slice so6 r.outs.length co6]) r) := fun W hW => by
          have hb := b7.trans (hW.mono b7.size)
          have hc := (blk_all (blk_below hW (blk_lt k7) k7)).1
          have h0 := own_below H6c.out.1.n hb
          have h1 := own_below H6c.out.1.g hb
          have h2 := own_below H6c.out.1.o hb
          have hri := HBR.out.2.2.2.2
          refine ⟨H6c.out.2.1.trans (hb.mono H6c.out.2.1.size), ⟨by simpa using hc 0, by simpa using hc 1, by simpa using hc 2, by simpa using hc 3⟩, own_sl h0, own_sl h1, own_sl h2, ⟨h0, h1, h2, H6c.out.1.ne, H6c.out.1.l1, H6c.out.1.l2, H6c.out.1.l3⟩, ⟨_, _, _, _, _, _, by rw [hri], own_sl h0, own_sl h1, own_sl h2, H6c.out.1.l1, H6c.out.1.l2, H6c.out.1.l3⟩⟩
        have hR5 : A + 2 ≤ w5.heap.size := by have h1 := H6c.out.2.2; have h2 := (HO2.out _ (Below.refl _ _)).2.2.2.2.2.2; have := blk_lt h2; omega
        clear k7 b7
        have cR := (HQ.out _ (Below.refl _ _)).2.1
        obtain ⟨d0, d1, d2, d3⟩ := cR
        obtain ⟨c0, c1, c2, c3⟩ := (HO2.out _ (HQ.out _ (Below.refl _ _)).1).1
        obtain ⟨DR, hDR⟩ : ∃ D, D = depC r := ⟨_, rfl⟩
        obtain ⟨DO, hDO⟩ : ∃ D, D = depC o := ⟨_, rfl⟩
        have HDO : Hid (∀ W, Below W7.heap.size W7 W → Calls Try.prog 37 #[.pointer (some ⟨OB, 0, none⟩)] W fun e w' => e = .returned (.int .i64 DO) ∧ Below W.heap.size W w') := fun W hW => by
          have h := HO2.out _ (HQ.out _ hW).1
          rw [hDO]
          exact depth_any OB sn3 sg3 so3 cn3 cg3 co3 o W (by rw [← HFF.out.2.2.1]; exact h.1) h.2.1 h.2.2.1 h.2.2.2.1 HFF.out.2.2.2.2.2.2
        have hbo2 : r.validB = false ∨ DO < DR ∨ (DR = DO ∧ k < r.gates.length) → balR c = o := fun h => by
          unfold balR
          rw [if_pos HV.out, ← HOC.out.1, ← HBR.out.1, ← HBR.out.2.2.2.1, ← hDR, ← hDO, if_pos (by rw [← HFF.out.2.2.1]; exact h)]
        have hbr2 : ¬ (r.validB = false ∨ DO < DR ∨ (DR = DO ∧ k < r.gates.length)) → balR c = r := fun h => by
          unfold balR
          rw [if_pos HV.out, ← HOC.out.1, ← HBR.out.1, ← HBR.out.2.2.2.1, ← hDR, ← hDO, if_neg (by rw [← HFF.out.2.2.1]; exact h)]
        have HBOR := Lib.hid (And.intro hbo2 hbr2)
        clear hbo2 hbr2
        cases hrv : r.validB
        · have HRV := Lib.hid hrv
          have HDR := HDO
          clear hrv hDR hDO
          go_wp2_with (first
            | (go_at_call 27; (with_reducible refine (CircuitValid_i _ r _ (HQ.out _ (Below.refl _ _)).2.2.2.2.2.2).mono ?_); rintro e w8 ⟨rfl, hq⟩; rw [HRV.out]; have H8 := Lib.hid hq; clear hq d0 d1 d2 d3 c0 c1 c2 c3; obtain ⟨d0, d1, d2, d3⟩ := (HQ.out _ H8.out).2.1; obtain ⟨c0, c1, c2, c3⟩ := (HO2.out _ (HQ.out _ H8.out).1).1; obtain ⟨rc, rf⟩ := blk_all (HB.out _ (HO2.out _ (HQ.out _ H8.out).1).2.2.2.2.1).2.1)
            | (go_at_call 37; (with_reducible refine (HDR.out _ H8.out).mono ?_); rintro e w9 ⟨rfl, hq⟩; have H9 := Lib.hid (H8.out.trans (hq.mono H8.out.size)); clear hq H8 d0 d1 d2 d3 c0 c1 c2 c3 rc rf; revert H9; generalize w9 = w8; intro H8; obtain ⟨d0, d1, d2, d3⟩ := (HQ.out _ H8.out).2.1; obtain ⟨c0, c1, c2, c3⟩ := (HO2.out _ (HQ.out _ H8.out).1).1; obtain ⟨rc, rf⟩ := blk_all (HB.out _ (HO2.out _ (HQ.out _ H8.out).1).2.2.2.2.1).2.1)
            | (go_at_call 37; (with_reducible refine (HDO.out _ H8.out).mono ?_); rintro e w9 ⟨rfl, hq⟩; have H9 := Lib.hid (H8.out.trans (hq.mono H8.out.size)); clear hq H8 d0 d1 d2 d3 c0 c1 c2 c3 rc rf; revert H9; generalize w9 = w8; intro H8; obtain ⟨d0, d1, d2, d3⟩ := (HQ.out _ H8.out).2.1; obtain ⟨c0, c1, c2, c3⟩ := (HO2.out _ (HQ.out _ H8.out).1).1; obtain ⟨rc, rf⟩ := blk_all (HB.out _ (HO2.out _ (HQ.out _ H8.out).1).2.2.2.2.1).2.1))
          have hbo := HBOR.out.1 (.inl HRV.out)
          have hA2 := HW.out.2.1
          have hsz1 := HSZ.out
          have hcur := (HO2.out _ (HQ.out _ H8.out).1).2.2.2.2.1
          have hR := (HB.out _ hcur).2.1
          have hO := ((HO2.out _ (HQ.out _ H8.out).1).2.2.2.2.2.1).sets4 (r := A + 1) (by omega) (base := w.heap.size) (by omega) (a := .int .i64 o.inp) (b' := .slice sn3 o.next.length cn3) (c' := .slice sg3 k cg3) (d := .slice so3 o.outs.length co3)
          have hZ : ((((w8.setCell ⟨A + 1, 0, none⟩ (.int .i64 o.inp)).setCell ⟨A + 1, 1, none⟩ (.slice sn3 o.next.length cn3)).setCell ⟨A + 1, 2, none⟩ (.slice sg3 k cg3)).setCell ⟨A + 1, 3, none⟩ (.slice so3 o.outs.length co3)).heap[A + 1]? = some (.cells #[.int .i64 o.inp, .slice sn3 o.next.length cn3, .slice sg3 k cg3, .slice so3 o.outs.length co3] 28 (0, 0)) := by
            simpa using blk_set (o := 3) (v := .slice so3 o.outs.length co3) (blk_set (o := 2) (v := .slice sg3 k cg3) (blk_set (o := 1) (v := .slice sn3 o.next.length cn3) (blk_set (o := 0) (v := .int .i64 o.inp) hR)))
          have hbz := ((((HB.out _ hcur).2.2.2.setCell (p := ⟨A + 1, 0, none⟩) (by simp; omega) (.int .i64 o.inp)).setCell (p := ⟨A + 1, 1, none⟩) (by simp; omega) (.slice sn3 o.next.length cn3)).setCell (p := ⟨A + 1, 2, none⟩) (by simp; omega) (.slice sg3 k cg3)).setCell (p := ⟨A + 1, 3, none⟩) (by simp; omega) (.slice so3 o.outs.length co3)
          clear rc rf hR
          revert hZ hbz hO
          generalize ((((w8.setCell ⟨A + 1, 0, none⟩ (.int .i64 o.inp)).setCell ⟨A + 1, 1, none⟩ (.slice sn3 o.next.length cn3)).setCell ⟨A + 1, 2, none⟩ (.slice sg3 k cg3)).setCell ⟨A + 1, 3, none⟩ (.slice so3 o.outs.length co3)) = WZ
          intro hO hZ hbz
          have cr := (blk_all hZ).1
          exact bodyPost_ret (v := .agg #[.int .i64 o.inp, .slice sn3 o.next.length cn3, .slice sg3 k cg3, .slice so3 o.outs.length co3]) (by simp [results, Try.results7, go_sem, cr]) rfl ⟨_, _, _, by rw [hbo], by rw [hbo]; exact hO, hbz⟩
        · have HRV := Lib.hid hrv
          have hrvv := r.validB_iff.1 hrv
          have HDR : Hid (∀ W, Below W7.heap.size W7 W → Calls Try.prog 37 #[.pointer (some ⟨RB, 0, none⟩)] W fun e w' => e = .returned (.int .i64 DR) ∧ Below W.heap.size W w') := fun W hW => by
            have h := HQ.out _ hW
            rw [hDR]
            exact depth_any RB sn6 sg6 so6 cn6 cg6 co6 r W (by rw [HBR.out.2.2.2.2]; exact h.2.1) h.2.2.1 h.2.2.2.1 h.2.2.2.2.1 hrvv
          clear hrv hDR hDO hrvv
          by_cases h1 : DO < DR
          · have e1 : decide (DO < DR) = true := decide_eq_true h1
            have hbo := HBOR.out.1 (.inr (.inl h1))
            have HBO := Lib.hid hbo
            clear hbo h1
            go_wp2_with (first
              | (go_at_call 27; (with_reducible refine (CircuitValid_i _ r _ (HQ.out _ (Below.refl _ _)).2.2.2.2.2.2).mono ?_); rintro e w8 ⟨rfl, hq⟩; rw [HRV.out]; have H8 := Lib.hid hq; clear hq d0 d1 d2 d3 c0 c1 c2 c3; obtain ⟨d0, d1, d2, d3⟩ := (HQ.out _ H8.out).2.1; obtain ⟨c0, c1, c2, c3⟩ := (HO2.out _ (HQ.out _ H8.out).1).1; obtain ⟨rc, rf⟩ := blk_all (HB.out _ (HO2.out _ (HQ.out _ H8.out).1).2.2.2.2.1).2.1)
              | (go_at_call 37; (with_reducible refine (HDR.out _ H8.out).mono ?_); rintro e w9 ⟨rfl, hq⟩; have H9 := Lib.hid (H8.out.trans (hq.mono H8.out.size)); clear hq H8 d0 d1 d2 d3 c0 c1 c2 c3 rc rf; revert H9; generalize w9 = w8; intro H8; obtain ⟨d0, d1, d2, d3⟩ := (HQ.out _ H8.out).2.1; obtain ⟨c0, c1, c2, c3⟩ := (HO2.out _ (HQ.out _ H8.out).1).1; obtain ⟨rc, rf⟩ := blk_all (HB.out _ (HO2.out _ (HQ.out _ H8.out).1).2.2.2.2.1).2.1)
              | (go_at_call 37; (with_reducible refine (HDO.out _ H8.out).mono ?_); rintro e w9 ⟨rfl, hq⟩; have H9 := Lib.hid (H8.out.trans (hq.mono H8.out.size)); clear hq H8 d0 d1 d2 d3 c0 c1 c2 c3 rc rf; revert H9; generalize w9 = w8; intro H8; obtain ⟨d0, d1, d2, d3⟩ := (HQ.out _ H8.out).2.1; obtain ⟨c0, c1, c2, c3⟩ := (HO2.out _ (HQ.out _ H8.out).1).1; obtain ⟨rc, rf⟩ := blk_all (HB.out _ (HO2.out _ (HQ.out _ H8.out).1).2.2.2.2.1).2.1))
            have hbo := HBO.out
            have hA2 := HW.out.2.1
            have hsz1 := HSZ.out
            have hcur := (HO2.out _ (HQ.out _ H8.out).1).2.2.2.2.1
            have hR := (HB.out _ hcur).2.1
            have hO := ((HO2.out _ (HQ.out _ H8.out).1).2.2.2.2.2.1).sets4 (r := A + 1) (by omega) (base := w.heap.size) (by omega) (a := .int .i64 o.inp) (b' := .slice sn3 o.next.length cn3) (c' := .slice sg3 k cg3) (d := .slice so3 o.outs.length co3)
            have hZ : ((((w8.setCell ⟨A + 1, 0, none⟩ (.int .i64 o.inp)).setCell ⟨A + 1, 1, none⟩ (.slice sn3 o.next.length cn3)).setCell ⟨A + 1, 2, none⟩ (.slice sg3 k cg3)).setCell ⟨A + 1, 3, none⟩ (.slice so3 o.outs.length co3)).heap[A + 1]? = some (.cells #[.int .i64 o.inp, .slice sn3 o.next.length cn3, .slice sg3 k cg3, .slice so3 o.outs.length co3] 28 (0, 0)) := by
              simpa using blk_set (o := 3) (v := .slice so3 o.outs.length co3) (blk_set (o := 2) (v := .slice sg3 k cg3) (blk_set (o := 1) (v := .slice sn3 o.next.length cn3) (blk_set (o := 0) (v := .int .i64 o.inp) hR)))
            have hbz := ((((HB.out _ hcur).2.2.2.setCell (p := ⟨A + 1, 0, none⟩) (by simp; omega) (.int .i64 o.inp)).setCell (p := ⟨A + 1, 1, none⟩) (by simp; omega) (.slice sn3 o.next.length cn3)).setCell (p := ⟨A + 1, 2, none⟩) (by simp; omega) (.slice sg3 k cg3)).setCell (p := ⟨A + 1, 3, none⟩) (by simp; omega) (.slice so3 o.outs.length co3)
            clear rc rf hR
            revert hZ hbz hO
            generalize ((((w8.setCell ⟨A + 1, 0, none⟩ (.int .i64 o.inp)).setCell ⟨A + 1, 1, none⟩ (.slice sn3 o.next.length cn3)).setCell ⟨A + 1, 2, none⟩ (.slice sg3 k cg3)).setCell ⟨A + 1, 3, none⟩ (.slice so3 o.outs.length co3)) = WZ
            intro hO hZ hbz
            have cr := (blk_all hZ).1
            exact bodyPost_ret (v := .agg #[.int .i64 o.inp, .slice sn3 o.next.length cn3, .slice sg3 k cg3, .slice so3 o.outs.length co3]) (by simp [results, Try.results7, go_sem, cr]) rfl ⟨_, _, _, by rw [hbo], by rw [hbo]; exact hO, hbz⟩
          · have e1 : decide (DO < DR) = false := decide_eq_false h1
            have HH1 := Lib.hid h1
            clear h1
            by_cases h2 : DR = DO
            · have HH2 := Lib.hid h2
              subst h2
              by_cases h3 : k < r.gates.length
              · have e3 : decide (k < r.gates.length) = true := decide_eq_true h3
                have HBO := Lib.hid (HBOR.out.1 (.inr (.inr ⟨rfl, h3⟩)))
                clear h3
                go_wp2_with (first
                  | (go_at_call 27; (with_reducible refine (CircuitValid_i _ r _ (HQ.out _ (Below.refl _ _)).2.2.2.2.2.2).mono ?_); rintro e w8 ⟨rfl, hq⟩; rw [HRV.out]; have H8 := Lib.hid hq; clear hq d0 d1 d2 d3 c0 c1 c2 c3; obtain ⟨d0, d1, d2, d3⟩ := (HQ.out _ H8.out).2.1; obtain ⟨c0, c1, c2, c3⟩ := (HO2.out _ (HQ.out _ H8.out).1).1; obtain ⟨rc, rf⟩ := blk_all (HB.out _ (HO2.out _ (HQ.out _ H8.out).1).2.2.2.2.1).2.1)
                  | (go_at_call 37; (with_reducible refine (HDR.out _ H8.out).mono ?_); rintro e w9 ⟨rfl, hq⟩; have H9 := Lib.hid (H8.out.trans (hq.mono H8.out.size)); clear hq H8 d0 d1 d2 d3 c0 c1 c2 c3 rc rf; revert H9; generalize w9 = w8; intro H8; obtain ⟨d0, d1, d2, d3⟩ := (HQ.out _ H8.out).2.1; obtain ⟨c0, c1, c2, c3⟩ := (HO2.out _ (HQ.out _ H8.out).1).1; obtain ⟨rc, rf⟩ := blk_all (HB.out _ (HO2.out _ (HQ.out _ H8.out).1).2.2.2.2.1).2.1)
                  | (go_at_call 37; (with_reducible refine (HDO.out _ H8.out).mono ?_); rintro e w9 ⟨rfl, hq⟩; have H9 := Lib.hid (H8.out.trans (hq.mono H8.out.size)); clear hq H8 d0 d1 d2 d3 c0 c1 c2 c3 rc rf; revert H9; generalize w9 = w8; intro H8; obtain ⟨d0, d1, d2, d3⟩ := (HQ.out _ H8.out).2.1; obtain ⟨c0, c1, c2, c3⟩ := (HO2.out _ (HQ.out _ H8.out).1).1; obtain ⟨rc, rf⟩ := blk_all (HB.out _ (HO2.out _ (HQ.out _ H8.out).1).2.2.2.2.1).2.1))
                have hbo := HBO.out
                have hA2 := HW.out.2.1
                have hsz1 := HSZ.out
                have hcur := (HO2.out _ (HQ.out _ H8.out).1).2.2.2.2.1
                have hR := (HB.out _ hcur).2.1
                have hO := ((HO2.out _ (HQ.out _ H8.out).1).2.2.2.2.2.1).sets4 (r := A + 1) (by omega) (base := w.heap.size) (by omega) (a := .int .i64 o.inp) (b' := .slice sn3 o.next.length cn3) (c' := .slice sg3 k cg3) (d := .slice so3 o.outs.length co3)
                have hZ : ((((w8.setCell ⟨A + 1, 0, none⟩ (.int .i64 o.inp)).setCell ⟨A + 1, 1, none⟩ (.slice sn3 o.next.length cn3)).setCell ⟨A + 1, 2, none⟩ (.slice sg3 k cg3)).setCell ⟨A + 1, 3, none⟩ (.slice so3 o.outs.length co3)).heap[A + 1]? = some (.cells #[.int .i64 o.inp, .slice sn3 o.next.length cn3, .slice sg3 k cg3, .slice so3 o.outs.length co3] 28 (0, 0)) := by
                  simpa using blk_set (o := 3) (v := .slice so3 o.outs.length co3) (blk_set (o := 2) (v := .slice sg3 k cg3) (blk_set (o := 1) (v := .slice sn3 o.next.length cn3) (blk_set (o := 0) (v := .int .i64 o.inp) hR)))
                have hbz := ((((HB.out _ hcur).2.2.2.setCell (p := ⟨A + 1, 0, none⟩) (by simp; omega) (.int .i64 o.inp)).setCell (p := ⟨A + 1, 1, none⟩) (by simp; omega) (.slice sn3 o.next.length cn3)).setCell (p := ⟨A + 1, 2, none⟩) (by simp; omega) (.slice sg3 k cg3)).setCell (p := ⟨A + 1, 3, none⟩) (by simp; omega) (.slice so3 o.outs.length co3)
                clear rc rf hR
                revert hZ hbz hO
                generalize ((((w8.setCell ⟨A + 1, 0, none⟩ (.int .i64 o.inp)).setCell ⟨A + 1, 1, none⟩ (.slice sn3 o.next.length cn3)).setCell ⟨A + 1, 2, none⟩ (.slice sg3 k cg3)).setCell ⟨A + 1, 3, none⟩ (.slice so3 o.outs.length co3)) = WZ
                intro hO hZ hbz
                have cr := (blk_all hZ).1
                exact bodyPost_ret (v := .agg #[.int .i64 o.inp, .slice sn3 o.next.length cn3, .slice sg3 k cg3, .slice so3 o.outs.length co3]) (by simp [results, Try.results7, go_sem, cr]) rfl ⟨_, _, _, by rw [hbo], by rw [hbo]; exact hO, hbz⟩
              · have e3 : decide (k < r.gates.length) = false := decide_eq_false h3
                have HBO := Lib.hid (HBOR.out.2 (fun h => by rcases h with h | h | ⟨_, h⟩; exact absurd HRV.out (by rw [h]; simp); exact HH1.out h; exact h3 h))
                clear h3
                go_wp2_with (first
                  | (go_at_call 27; (with_reducible refine (CircuitValid_i _ r _ (HQ.out _ (Below.refl _ _)).2.2.2.2.2.2).mono ?_); rintro e w8 ⟨rfl, hq⟩; rw [HRV.out]; have H8 := Lib.hid hq; clear hq d0 d1 d2 d3 c0 c1 c2 c3; obtain ⟨d0, d1, d2, d3⟩ := (HQ.out _ H8.out).2.1; obtain ⟨c0, c1, c2, c3⟩ := (HO2.out _ (HQ.out _ H8.out).1).1; obtain ⟨rc, rf⟩ := blk_all (HB.out _ (HO2.out _ (HQ.out _ H8.out).1).2.2.2.2.1).2.1)
                  | (go_at_call 37; (with_reducible refine (HDR.out _ H8.out).mono ?_); rintro e w9 ⟨rfl, hq⟩; have H9 := Lib.hid (H8.out.trans (hq.mono H8.out.size)); clear hq H8 d0 d1 d2 d3 c0 c1 c2 c3 rc rf; revert H9; generalize w9 = w8; intro H8; obtain ⟨d0, d1, d2, d3⟩ := (HQ.out _ H8.out).2.1; obtain ⟨c0, c1, c2, c3⟩ := (HO2.out _ (HQ.out _ H8.out).1).1; obtain ⟨rc, rf⟩ := blk_all (HB.out _ (HO2.out _ (HQ.out _ H8.out).1).2.2.2.2.1).2.1)
                  | (go_at_call 37; (with_reducible refine (HDO.out _ H8.out).mono ?_); rintro e w9 ⟨rfl, hq⟩; have H9 := Lib.hid (H8.out.trans (hq.mono H8.out.size)); clear hq H8 d0 d1 d2 d3 c0 c1 c2 c3 rc rf; revert H9; generalize w9 = w8; intro H8; obtain ⟨d0, d1, d2, d3⟩ := (HQ.out _ H8.out).2.1; obtain ⟨c0, c1, c2, c3⟩ := (HO2.out _ (HQ.out _ H8.out).1).1; obtain ⟨rc, rf⟩ := blk_all (HB.out _ (HO2.out _ (HQ.out _ H8.out).1).2.2.2.2.1).2.1))
                have hbr := HBO.out
                have hA2 := HW.out.2.1
                have hsz1 := HSZ.out
                have hcur := (HO2.out _ (HQ.out _ H8.out).1).2.2.2.2.1
                have hR := (HB.out _ hcur).2.1
                have hO := ((HQ.out _ H8.out).2.2.2.2.2.1).sets4 (r := A + 1) (by omega) (base := w.heap.size) (by omega) (a := .int .i64 o.inp) (b' := .slice sn6 r.next.length cn6) (c' := .slice sg6 r.gates.length cg6) (d := .slice so6 r.outs.length co6)
                have hZ : ((((w8.setCell ⟨A + 1, 0, none⟩ (.int .i64 o.inp)).setCell ⟨A + 1, 1, none⟩ (.slice sn6 r.next.length cn6)).setCell ⟨A + 1, 2, none⟩ (.slice sg6 r.gates.length cg6)).setCell ⟨A + 1, 3, none⟩ (.slice so6 r.outs.length co6)).heap[A + 1]? = some (.cells #[.int .i64 o.inp, .slice sn6 r.next.length cn6, .slice sg6 r.gates.length cg6, .slice so6 r.outs.length co6] 28 (0, 0)) := by
                  simpa using blk_set (o := 3) (v := .slice so6 r.outs.length co6) (blk_set (o := 2) (v := .slice sg6 r.gates.length cg6) (blk_set (o := 1) (v := .slice sn6 r.next.length cn6) (blk_set (o := 0) (v := .int .i64 o.inp) hR)))
                have hbz := ((((HB.out _ hcur).2.2.2.setCell (p := ⟨A + 1, 0, none⟩) (by simp; omega) (.int .i64 o.inp)).setCell (p := ⟨A + 1, 1, none⟩) (by simp; omega) (.slice sn6 r.next.length cn6)).setCell (p := ⟨A + 1, 2, none⟩) (by simp; omega) (.slice sg6 r.gates.length cg6)).setCell (p := ⟨A + 1, 3, none⟩) (by simp; omega) (.slice so6 r.outs.length co6)
                clear rc rf hR
                revert hZ hbz hO
                generalize ((((w8.setCell ⟨A + 1, 0, none⟩ (.int .i64 o.inp)).setCell ⟨A + 1, 1, none⟩ (.slice sn6 r.next.length cn6)).setCell ⟨A + 1, 2, none⟩ (.slice sg6 r.gates.length cg6)).setCell ⟨A + 1, 3, none⟩ (.slice so6 r.outs.length co6)) = WZ
                intro hO hZ hbz
                have cr := (blk_all hZ).1
                exact bodyPost_ret (v := .agg #[.int .i64 o.inp, .slice sn6 r.next.length cn6, .slice sg6 r.gates.length cg6, .slice so6 r.outs.length co6]) (by simp [results, Try.results7, go_sem, cr]) rfl ⟨_, _, _, by rw [hbr]; rw [HBR.out.2.2.2.2], by rw [hbr]; exact hO, hbz⟩
            · have e2 : (DR == DO) = false := beq_eq_false_iff_ne.2 h2
              have HBO := Lib.hid (HBOR.out.2 (fun h => by rcases h with h | h | ⟨h, _⟩; exact absurd HRV.out (by rw [h]; simp); exact HH1.out h; exact h2 h))
              clear h2
              go_wp2_with (first
                | (go_at_call 27; (with_reducible refine (CircuitValid_i _ r _ (HQ.out _ (Below.refl _ _)).2.2.2.2.2.2).mono ?_); rintro e w8 ⟨rfl, hq⟩; rw [HRV.out]; have H8 := Lib.hid hq; clear hq d0 d1 d2 d3 c0 c1 c2 c3; obtain ⟨d0, d1, d2, d3⟩ := (HQ.out _ H8.out).2.1; obtain ⟨c0, c1, c2, c3⟩ := (HO2.out _ (HQ.out _ H8.out).1).1; obtain ⟨rc, rf⟩ := blk_all (HB.out _ (HO2.out _ (HQ.out _ H8.out).1).2.2.2.2.1).2.1)
                | (go_at_call 37; (with_reducible refine (HDR.out _ H8.out).mono ?_); rintro e w9 ⟨rfl, hq⟩; have H9 := Lib.hid (H8.out.trans (hq.mono H8.out.size)); clear hq H8 d0 d1 d2 d3 c0 c1 c2 c3 rc rf; revert H9; generalize w9 = w8; intro H8; obtain ⟨d0, d1, d2, d3⟩ := (HQ.out _ H8.out).2.1; obtain ⟨c0, c1, c2, c3⟩ := (HO2.out _ (HQ.out _ H8.out).1).1; obtain ⟨rc, rf⟩ := blk_all (HB.out _ (HO2.out _ (HQ.out _ H8.out).1).2.2.2.2.1).2.1)
                | (go_at_call 37; (with_reducible refine (HDO.out _ H8.out).mono ?_); rintro e w9 ⟨rfl, hq⟩; have H9 := Lib.hid (H8.out.trans (hq.mono H8.out.size)); clear hq H8 d0 d1 d2 d3 c0 c1 c2 c3 rc rf; revert H9; generalize w9 = w8; intro H8; obtain ⟨d0, d1, d2, d3⟩ := (HQ.out _ H8.out).2.1; obtain ⟨c0, c1, c2, c3⟩ := (HO2.out _ (HQ.out _ H8.out).1).1; obtain ⟨rc, rf⟩ := blk_all (HB.out _ (HO2.out _ (HQ.out _ H8.out).1).2.2.2.2.1).2.1))
              have hbr := HBO.out
              have hA2 := HW.out.2.1
              have hsz1 := HSZ.out
              have hcur := (HO2.out _ (HQ.out _ H8.out).1).2.2.2.2.1
              have hR := (HB.out _ hcur).2.1
              have hO := ((HQ.out _ H8.out).2.2.2.2.2.1).sets4 (r := A + 1) (by omega) (base := w.heap.size) (by omega) (a := .int .i64 o.inp) (b' := .slice sn6 r.next.length cn6) (c' := .slice sg6 r.gates.length cg6) (d := .slice so6 r.outs.length co6)
              have hZ : ((((w8.setCell ⟨A + 1, 0, none⟩ (.int .i64 o.inp)).setCell ⟨A + 1, 1, none⟩ (.slice sn6 r.next.length cn6)).setCell ⟨A + 1, 2, none⟩ (.slice sg6 r.gates.length cg6)).setCell ⟨A + 1, 3, none⟩ (.slice so6 r.outs.length co6)).heap[A + 1]? = some (.cells #[.int .i64 o.inp, .slice sn6 r.next.length cn6, .slice sg6 r.gates.length cg6, .slice so6 r.outs.length co6] 28 (0, 0)) := by
                simpa using blk_set (o := 3) (v := .slice so6 r.outs.length co6) (blk_set (o := 2) (v := .slice sg6 r.gates.length cg6) (blk_set (o := 1) (v := .slice sn6 r.next.length cn6) (blk_set (o := 0) (v := .int .i64 o.inp) hR)))
              have hbz := ((((HB.out _ hcur).2.2.2.setCell (p := ⟨A + 1, 0, none⟩) (by simp; omega) (.int .i64 o.inp)).setCell (p := ⟨A + 1, 1, none⟩) (by simp; omega) (.slice sn6 r.next.length cn6)).setCell (p := ⟨A + 1, 2, none⟩) (by simp; omega) (.slice sg6 r.gates.length cg6)).setCell (p := ⟨A + 1, 3, none⟩) (by simp; omega) (.slice so6 r.outs.length co6)
              clear rc rf hR
              revert hZ hbz hO
              generalize ((((w8.setCell ⟨A + 1, 0, none⟩ (.int .i64 o.inp)).setCell ⟨A + 1, 1, none⟩ (.slice sn6 r.next.length cn6)).setCell ⟨A + 1, 2, none⟩ (.slice sg6 r.gates.length cg6)).setCell ⟨A + 1, 3, none⟩ (.slice so6 r.outs.length co6)) = WZ
              intro hO hZ hbz
              have cr := (blk_all hZ).1
              exact bodyPost_ret (v := .agg #[.int .i64 o.inp, .slice sn6 r.next.length cn6, .slice sg6 r.gates.length cg6, .slice so6 r.outs.length co6]) (by simp [results, Try.results7, go_sem, cr]) rfl ⟨_, _, _, by rw [hbr]; rw [HBR.out.2.2.2.2], by rw [hbr]; exact hO, hbz⟩

end Go.Proofs.Ytjecchljhdfjdaa
