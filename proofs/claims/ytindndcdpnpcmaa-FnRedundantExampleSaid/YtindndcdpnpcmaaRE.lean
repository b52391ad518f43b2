import Derived.Test.YtindndcdpnpcmaaRD
import Derived.Test.YtindndcdpnpcmaaOI
namespace Go.Proofs.Ytindndcdpnpcmaa
set_option linter.unusedVariables false
set_option linter.unusedSimpArgs false
open Go.RowKit

/-! Sweep of the program. -/

set_option maxRecDepth 100000 in
set_option maxHeartbeats 1600000 in
theorem Sweep_i (v : Value) (c : Cir) (w : World) (h : CirV w v c) :
    Calls Try.prog 23 #[v] w fun e w' => ∃ vn vg vo, e = .returned (.agg #[.int .i64 (sweepR c).inp, vn, vg, vo]) ∧ CirOwn w' w.heap.size (sweepR c) vn vg vo ∧ Below w.heap.size w w' := by
  have HG := Lib.hid h
  obtain ⟨sn, cn, sg, cg, so, co, rfl, -, -, -, -, -, -⟩ := h
  obtain ⟨W0, hW0⟩ : ∃ W0, W0 = (w.alloc (.cells #[.int .i64 c.inp, .slice sn c.next.length cn, .slice sg c.gates.length cg, .slice so c.outs.length co] 29)).alloc (.cells #[.int .i64 0, .slice none 0 0, .slice none 0 0, .slice none 0 0] 29) := ⟨_, rfl⟩
  obtain ⟨A, hA⟩ : ∃ A, A = w.heap.size := ⟨_, rfl⟩
  have z1 : W0.heap.size = A + 2 := by rw [hW0, hA]; simp
  have z2 : W0.heap[A]? = some (.cells #[.int .i64 c.inp, .slice sn c.next.length cn, .slice sg c.gates.length cg, .slice so c.outs.length co] 29 (0, 0)) := by rw [hW0, hA]; exact blk_old (blk_new w _)
  have z3 : W0.heap[A + 1]? = some (.cells #[.int .i64 0, .slice none 0 0, .slice none 0 0, .slice none 0 0] 29 (0, 0)) := by rw [hW0, hA]; exact blk_at (by simp)
  have z4 : Below w.heap.size w W0 := by rw [hW0]; exact ((Below.refl _ _).alloc (Nat.le_refl _) _).alloc (by simp) _
  have HW := Lib.hid (And.intro hW0 (And.intro hA z1))
  have HB : Hid (∀ W, Below W0.heap.size W0 W → (∀ o, W.cell? ⟨A, o, none⟩ = #[Value.int .i64 c.inp, .slice sn c.next.length cn, .slice sg c.gates.length cg, .slice so c.outs.length co][o]?) ∧ W.heap[A + 1]? = some (.cells #[.int .i64 0, .slice none 0 0, .slice none 0 0, .slice none 0 0] 29 (0, 0)) ∧ CirV W (.agg #[.int .i64 c.inp, .slice sn c.next.length cn, .slice sg c.gates.length cg, .slice so c.outs.length co]) c ∧ Below w.heap.size w W) := fun W hW => ⟨(blk_all (blk_below hW (by omega) z2)).1, blk_below hW (by omega) z3, HG.out.mono (z4.trans (hW.mono z4.size)), z4.trans (hW.mono z4.size)⟩
  clear hW0 hA z1 z2 z3 z4
  cases hv : c.validB
  · rw [sweepR_no hv]
    have HV := Lib.hid hv
    clear hv
    go_enter Try.func23, Try.ntmps23
    go_upto_region 1 with fail
    rw [← HW.out.1, ← HW.out.2.1]
    have cb := (HB.out _ (Below.refl _ _)).1
    go_upto_region 2 with (go_at_call 56; ((with_reducible refine (CircuitValid_i _ c _ (HB.out _ (Below.refl _ _)).2.2.1).mono ?_); rintro e w1 ⟨rfl, hq⟩; rw [HV.out]; have H1 := Lib.hid hq; clear hq cb; obtain ⟨rc, rf⟩ := blk_all (HB.out _ H1.out).2.1))
    go_wp2_with fail
    have hZ : ((((w1.setCell ⟨A + 1, 0, none⟩ (.int .i64 0)).setCell ⟨A + 1, 1, none⟩ (.slice none 0 0)).setCell ⟨A + 1, 2, none⟩ (.slice none 0 0)).setCell ⟨A + 1, 3, none⟩ (.slice none 0 0)).heap[A + 1]? = some (.cells #[.int .i64 0, .slice none 0 0, .slice none 0 0, .slice none 0 0] 29 (0, 0)) := by
      simpa using blk_set (o := 3) (v := .slice none 0 0) (blk_set (o := 2) (v := .slice none 0 0) (blk_set (o := 1) (v := .slice none 0 0) (blk_set (o := 0) (v := .int .i64 0) (HB.out _ H1.out).2.1)))
    have hA2 := HW.out.2.1
    have hbz := ((((HB.out _ H1.out).2.2.2.setCell (p := ⟨A + 1, 0, none⟩) (by simp; omega) (.int .i64 0)).setCell (p := ⟨A + 1, 1, none⟩) (by simp; omega) (.slice none 0 0)).setCell (p := ⟨A + 1, 2, none⟩) (by simp; omega) (.slice none 0 0)).setCell (p := ⟨A + 1, 3, none⟩) (by simp; omega) (.slice none 0 0)
    clear rc rf
    revert hZ hbz
    generalize ((((w1.setCell ⟨A + 1, 0, none⟩ (.int .i64 0)).setCell ⟨A + 1, 1, none⟩ (.slice none 0 0)).setCell ⟨A + 1, 2, none⟩ (.slice none 0 0)).setCell ⟨A + 1, 3, none⟩ (.slice none 0 0)) = WZ
    intro hZ hbz
    have cr := (blk_all hZ).1
    exact bodyPost_ret (v := .agg #[.int .i64 0, .slice none 0 0, .slice none 0 0, .slice none 0 0]) (by simp [results, Try.results23, go_sem, cr]) rfl ⟨_, _, _, rfl, ⟨World.ownsRow_nil _ _ _ _, World.ownsRow_nil _ _ _ _, World.ownsRow_nil _ _ _ _, fun k h => by simp [Value.ownBlock] at h, by simp, by simp, by simp⟩, hbz⟩
  · rw [sweepR_yes hv]
    obtain ⟨o, ho⟩ : ∃ o, o = optC c := ⟨_, rfl⟩
    obtain ⟨cm, hcm⟩ : ∃ cm, cm = swpM o := ⟨_, rfl⟩
    have hres : sweepC c = optC cm := by unfold sweepC; rw [hcm, ho]
    rw [hres]
    have HRS := Lib.hid (And.intro ho hcm)
    clear hres ho hcm
    have HV := Lib.hid hv
    have hvv := c.validB_iff.1 hv
    have HVV := Lib.hid (And.intro hvv (buildC_valid hvv true))
    clear hv hvv
    go_enter Try.func23, Try.ntmps23
    go_upto_region 1 with fail
    rw [← HW.out.1, ← HW.out.2.1]
    have cb := (HB.out _ (Below.refl _ _)).1
    have HA := Lib.hid (show CirAt W0 A c.inp (.slice sn c.next.length cn) (.slice sg c.gates.length cg) (.slice so c.outs.length co) from ⟨cb 0, cb 1, cb 2, cb 3⟩)
    have HS : Hid (Sl w sn (ints c.next) ∧ Sl w sg (gcells c.gates) ∧ Sl w so (ints c.outs)) := by
      obtain ⟨_, _, _, _, _, _, e, h1, h2, h3, -⟩ := HG.out
      cases e
      exact ⟨h1, h2, h3⟩
    go_upto_region 3 with (go_at_call 56; ((with_reducible refine (CircuitValid_i _ c _ (HB.out _ (Below.refl _ _)).2.2.1).mono ?_); rintro e w1 ⟨rfl, hq⟩; rw [HV.out]; have H1 := Lib.hid hq; clear hq cb; have cb := (HB.out _ H1.out).1))
    have HO := Lib.hid (optimize_any A sn sg so cn cg co c w1 ⟨cb 0, cb 1, cb 2, cb 3⟩ (HS.out.1.mono (HB.out _ H1.out).2.2.2) (HS.out.2.1.mono (HB.out _ H1.out).2.2.2) (HS.out.2.2.mono (HB.out _ H1.out).2.2.2) HVV.out.1)
    clear cb
    go_upto_region 4 with (go_at_call 57; refine HO.out.mono ?_; rintro e w3 ⟨vn3, vg3, vo3, rfl, ho, hq⟩; rw [show c.inp = (optC c).inp from rfl]; obtain ⟨sn3, cn3, rfl⟩ := own_shape ho.n; obtain ⟨sg3, cg3, rfl⟩ := own_shape ho.g; obtain ⟨so3, co3, rfl⟩ := own_shape ho.o; have H3 : Hid (CirOwn w3 W0.heap.size (optC c) (.slice sn3 (optC c).next.length cn3) (.slice sg3 (optC c).gates.length cg3) (.slice so3 (optC c).outs.length co3) ∧ Below W0.heap.size W0 w3) := ⟨⟨own_base ho.n H1.out.size, own_base ho.g H1.out.size, own_base ho.o H1.out.size, ho.ne, ho.l1, ho.l2, ho.l3⟩, H1.out.trans (hq.mono H1.out.size)⟩; clear hq ho)
    obtain ⟨X, hX⟩ : ∃ X, X = w3.heap.size := ⟨_, rfl⟩
    have kX := blk_new w3 (.cells #[.int .i64 (optC c).inp, .slice sn3 (optC c).next.length cn3, .slice sg3 (optC c).gates.length cg3, .slice so3 (optC c).outs.length co3] 29)
    have bX := (Below.refl w3.heap.size w3).alloc (Nat.le_refl _) (.cells #[.int .i64 (optC c).inp, .slice sn3 (optC c).next.length cn3, .slice sg3 (optC c).gates.length cg3, .slice so3 (optC c).outs.length co3] 29)
    rw [← hX] at kX
    rw [← hX]
    revert kX bX
    generalize w3.alloc (.cells #[.int .i64 (optC c).inp, .slice sn3 (optC c).next.length cn3, .slice sg3 (optC c).gates.length cg3, .slice so3 (optC c).outs.length co3] 29) = W4
    intro kX bX
    have H4 : Hid (W4.heap[X]? = some (.cells #[.int .i64 (optC c).inp, .slice sn3 (optC c).next.length cn3, .slice sg3 (optC c).gates.length cg3, .slice so3 (optC c).outs.length co3] 29 (0, 0)) ∧ CirOwn W4 W0.heap.size (optC c) (.slice sn3 (optC c).next.length cn3) (.slice sg3 (optC c).gates.length cg3) (.slice so3 (optC c).outs.length co3) ∧ Below W0.heap.size W0 W4) :=
      ⟨kX, (⟨own_below H3.out.1.n bX, own_below H3.out.1.g bX, own_below H3.out.1.o bX, H3.out.1.ne, H3.out.1.l1, H3.out.1.l2, H3.out.1.l3⟩ : CirOwn _ _ _ _ _ _), H3.out.2.trans (bX.mono H3.out.2.size)⟩
    have hXs : W0.heap.size ≤ X := by rw [hX]; exact H3.out.2.size
    clear kX bX hX
    have HSZ := Lib.hid HW.out.2.2
    have HOV := Lib.hid (optC_valid HVV.out.1)
    obtain ⟨ho, hcm⟩ := HRS.out
    rw [← ho] at HOV H3 H4
    try rw [← ho]
    have HCM := Lib.hid (And.intro hcm (show cm.valid by rw [hcm]; exact swpM_valid HOV.out))
    obtain ⟨i0, i1, l1, l2, l3⟩ := HOV.out.lim
    obtain ⟨V, hV⟩ : ∃ V : Nat, o.vars = V := ⟨o.vars.toNat, by unfold Cir.vars; omega⟩
    have v22 : V ≤ 22 := by unfold Cir.vars at hV; omega
    have HVN := Lib.hid (And.intro hV (asgN_le HOV.out))
    have HFN := Lib.hid (functions_any X sn3 sg3 cn3 cg3 (.slice so3 o.outs.length co3) o W4 (CirAt.of_blk H4.out.1) (own_sl H4.out.2.1.g) HOV.out V hV)
    clear hcm ho hV i0 i1 l1 l2 l3
    go_upto_region 5 with (go_at_call 70; refine HFN.out.mono ?_; rintro e w5 ⟨sF, cF, rfl, hF, hq⟩; have H5 := Lib.hid (And.intro hF hq); clear hF hq)
    obtain ⟨Y, hY⟩ : ∃ Y, Y = w5.heap.size := ⟨_, rfl⟩
    have kY := blk_new w5 (.cells #[.slice sF V cF] 68)
    have bY := (Below.refl w5.heap.size w5).alloc (Nat.le_refl _) (.cells #[.slice sF V cF] 68)
    rw [← hY] at kY
    rw [← hY]
    revert kY bY
    generalize w5.alloc (.cells #[.slice sF V cF] 68) = W6
    intro kY bY
    have hb6 : Below W4.heap.size W4 W6 := H5.out.2.trans (bY.mono H5.out.2.size)
    have hx6 := blk_below hb6 (blk_lt H4.out.1) H4.out.1
    have HRP := Lib.hid (replacedS_any X Y o (swpL o) sn3 sg3 so3 cn3 cg3 co3 W6 (CirAt.of_blk hx6) ((own_sl H4.out.2.1.n).mono hb6) ((own_sl H4.out.2.1.g).mono hb6) ((own_sl H4.out.2.1.o).mono hb6) HOV.out (fun W l hW h0 h1 => by
      have hkY := blk_below hW (blk_lt kY) kY
      exact sweep1_any o V Y cF sF l W (blk_cell hkY) (H5.out.1.mono (bY.trans (hW.mono bY.size))) (by have := HVN.out.2.2; omega) (by omega) h0 (by rw [HVN.out.1] at h1; exact h1)))
    have H6 := Lib.hid (And.intro hx6 (H4.out.2.2.trans (hb6.mono H4.out.2.2.size)))
    clear bY kY hb6 hx6 hY
    go_wp2_with (first
      | (go_at_call 71; refine HRP.out.mono ?_; rintro e w7 ⟨vn, vg, vo, rfl, ho, hq⟩; rw [show o.mapC (swpL o) = cm from HCM.out.1.symm] at ho; rw [show o.inp = cm.inp by rw [HCM.out.1]; rfl]; obtain ⟨sn7, cn7, rfl⟩ := own_shape ho.n; obtain ⟨sg7, cg7, rfl⟩ := own_shape ho.g; obtain ⟨so7, co7, rfl⟩ := own_shape ho.o; have H7 := Lib.hid (And.intro ho hq); clear ho hq)
      | (go_at_call 59; (refine (ptrC_any cm.inp sn7 sg7 so7 cm.next.length cn7 cm.gates.length cg7 cm.outs.length co7 w7).mono ?_; rintro e w8 ⟨rfl, h8⟩; have k8 : w8.heap[w7.heap.size]? = some (.cells #[.int .i64 cm.inp, .slice sn7 cm.next.length cn7, .slice sg7 cm.gates.length cg7, .slice so7 cm.outs.length co7] 29 (0, 0)) := (by subst h8; exact blk_new _ _); have b8 : Below w7.heap.size w7 w8 := (by subst h8; exact (Below.refl _ _).alloc (Nat.le_refl _) _); have HOP := Lib.hid (optimize_any w7.heap.size sn7 sg7 so7 cn7 cg7 co7 cm w8 (CirAt.of_blk k8) ((own_sl H7.out.1.n).mono b8) ((own_sl H7.out.1.g).mono b8) ((own_sl H7.out.1.o).mono b8) HCM.out.2); have H8 := Lib.hid (H6.out.2.trans ((H7.out.2.trans (b8.mono H7.out.2.size)).mono H6.out.2.size)); clear k8 b8 h8))
      | (go_at_call 57; refine HOP.out.mono ?_; rintro e w9 ⟨vn, vg, vo, rfl, ho, hq⟩; rw [show cm.inp = (optC cm).inp from rfl]; obtain ⟨sn9, cn9, rfl⟩ := own_shape ho.n; obtain ⟨sg9, cg9, rfl⟩ := own_shape ho.g; obtain ⟨so9, co9, rfl⟩ := own_shape ho.o; have H9 := Lib.hid (And.intro ho (H8.out.trans (hq.mono H8.out.size))); obtain ⟨rc, rf⟩ := blk_all (HB.out _ H9.out.2).2.1; clear ho hq))
    have hA2 := HW.out.2.1
    have hR := (HB.out _ H9.out.2).2.1
    have hO := (H9.out.1).sets4 (r := A + 1) (by have h1 := HW.out.2.2; have h2 := HSZ.out; have h3 := H8.out.size; omega) (base := w.heap.size) (by have h1 := HW.out.2.2; have h2 := HSZ.out; have h3 := H8.out.size; omega) (a := .int .i64 (optC cm).inp) (b' := .slice sn9 (optC cm).next.length cn9) (c' := .slice sg9 (optC cm).gates.length cg9) (d := .slice so9 (optC cm).outs.length co9)
    have hZ : ((((w9.setCell ⟨A + 1, 0, none⟩ (.int .i64 (optC cm).inp)).setCell ⟨A + 1, 1, none⟩ (.slice sn9 (optC cm).next.length cn9)).setCell ⟨A + 1, 2, none⟩ (.slice sg9 (optC cm).gates.length cg9)).setCell ⟨A + 1, 3, none⟩ (.slice so9 (optC cm).outs.length co9)).heap[A + 1]? = some (.cells #[.int .i64 (optC cm).inp, .slice sn9 (optC cm).next.length cn9, .slice sg9 (optC cm).gates.length cg9, .slice so9 (optC cm).outs.length co9] 29 (0, 0)) := by
      simpa using blk_set (o := 3) (v := .slice so9 (optC cm).outs.length co9) (blk_set (o := 2) (v := .slice sg9 (optC cm).gates.length cg9) (blk_set (o := 1) (v := .slice sn9 (optC cm).next.length cn9) (blk_set (o := 0) (v := .int .i64 (optC cm).inp) hR)))
    have hbz := ((((HB.out _ H9.out.2).2.2.2.setCell (p := ⟨A + 1, 0, none⟩) (by simp; omega) (.int .i64 (optC cm).inp)).setCell (p := ⟨A + 1, 1, none⟩) (by simp; omega) (.slice sn9 (optC cm).next.length cn9)).setCell (p := ⟨A + 1, 2, none⟩) (by simp; omega) (.slice sg9 (optC cm).gates.length cg9)).setCell (p := ⟨A + 1, 3, none⟩) (by simp; omega) (.slice so9 (optC cm).outs.length co9)
    clear rc rf hR
    revert hZ hbz hO
    generalize ((((w9.setCell ⟨A + 1, 0, none⟩ (.int .i64 (optC cm).inp)).setCell ⟨A + 1, 1, none⟩ (.slice sn9 (optC cm).next.length cn9)).setCell ⟨A + 1, 2, none⟩ (.slice sg9 (optC cm).gates.length cg9)).setCell ⟨A + 1, 3, none⟩ (.slice so9 (optC cm).outs.length co9)) = WZ
    intro hO hZ hbz
    have cr := (blk_all hZ).1
    exact bodyPost_ret (v := .agg #[.int .i64 (optC cm).inp, .slice sn9 (optC cm).next.length cn9, .slice sg9 (optC cm).gates.length cg9, .slice so9 (optC cm).outs.length co9]) (by simp [results, Try.results23, go_sem, cr]) rfl ⟨_, _, _, rfl, hO, hbz⟩

end Go.Proofs.Ytindndcdpnpcmaa
