import Derived.Test.YtindndcdpnpcmaaON
namespace Go.Proofs.Ytindndcdpnpcmaa
set_option linter.unusedVariables false
set_option linter.unusedSimpArgs false
open Go.RowKit

/-! builder.circuit. -/

/-- The built circuit. -/
def cirR (c : Cir) (gs : List Gt) (m : List Int) : Cir := ⟨c.inp, c.next.map (mapB m), gs, c.outs.map (mapB m)⟩

set_option maxRecDepth 100000 in
set_option maxHeartbeats 3200000 in
theorem circuit_any (F V : Nat) (W0 : World) (bb mb : Nat) (gs : List Gt) (vg vl : Value) (b : Nat) (sn sg so : Option Addr) (cn cg co : Nat) (c : Cir) (sm : Option Addr) (cm : Nat) (m : List Int) (w : World) (hx : BX F W0 bb mb gs (lvlL F gs) gs vg vl w)
    (h : CirAt w b c.inp (.slice sn c.next.length cn) (.slice sg c.gates.length cg) (.slice so c.outs.length co)) (hn : Sl w sn (ints c.next)) (ho : Sl w so (ints c.outs)) (hv : c.valid) (hV : c.vars = V) (hm : m.length = V) (hsm : Sl w sm (ints m)) (hmb : ∀ x ∈ m, 0 ≤ x ∧ x ≤ 80) (hgl : gs.length ≤ 1000) :
    Calls Try.prog 102 #[.pointer (some ⟨bb, 0, none⟩), .pointer (some ⟨b, 0, none⟩), .slice sm V cm] w fun e w' => ∃ vn vg vo, e = .returned (.agg #[.int .i64 c.inp, vn, vg, vo]) ∧ CirV w' (.agg #[.int .i64 c.inp, vn, vg, vo]) (cirR c gs m) ∧ Below w.heap.size w w' := by
  have HBl : Hid (b < w.heap.size) := World.block_lt_of_cell? w _ h.h0
  obtain ⟨q1, q2, q3, q4, q5⟩ := id hv.lim
  have hV22 : V ≤ 22 := by unfold Cir.vars at hV; omega
  obtain ⟨s3, c3, rfl⟩ := own_shape hx.g
  -- the two blocks at the start
  obtain ⟨B1, hB1⟩ : ∃ B1, B1 = w.heap.size := ⟨_, rfl⟩
  obtain ⟨W1, hW1⟩ : ∃ W1, W1 = (w.alloc (.cells #[.slice sm V cm] 22)).alloc (.cells #[.int .i64 0, .slice none 0 0, .slice none 0 0, .slice none 0 0] 29) := ⟨_, rfl⟩
  have z1 : W1.heap.size = B1 + 2 := by rw [hW1, hB1]; simp
  have z2 : W1.heap[B1]? = some (.cells #[.slice sm V cm] 22 (0, 0)) := by rw [hW1, hB1]; exact blk_old (blk_new w _)
  have z3 : W1.heap[B1 + 1]? = some (.cells #[.int .i64 0, .slice none 0 0, .slice none 0 0, .slice none 0 0] 29 (0, 0)) := by rw [hW1, hB1]; exact blk_at (by simp)
  have z4 : Below w.heap.size w W1 := by rw [hW1]; exact ((Below.refl _ _).alloc (Nat.le_refl _) _).alloc (by simp) _
  have HW := Lib.hid (And.intro hW1 (And.intro hB1 z1))
  have HB : Hid (∀ W, Below W1.heap.size W1 W → CirAt W b c.inp (.slice sn c.next.length cn) (.slice sg c.gates.length cg) (.slice so c.outs.length co) ∧ Sl W sn (ints c.next) ∧ Sl W so (ints c.outs) ∧ W.cell? ⟨B1, 0, none⟩ = some (.slice sm V cm) ∧ W.heap[B1 + 1]? = some (.cells #[.int .i64 0, .slice none 0 0, .slice none 0 0, .slice none 0 0] 29 (0, 0)) ∧ Sl W sm (ints m) ∧ BX F W0 bb mb gs (lvlL F gs) gs (.slice s3 gs.length c3) vl W ∧ Below w.heap.size w W) := fun W hW => by
    have hb := z4.trans (hW.mono z4.size)
    exact ⟨⟨(hb.cell (p := ⟨b, 0, none⟩) HBl.out).trans h.h0, (hb.cell (p := ⟨b, 1, none⟩) HBl.out).trans h.h1, (hb.cell (p := ⟨b, 2, none⟩) HBl.out).trans h.h2, (hb.cell (p := ⟨b, 3, none⟩) HBl.out).trans h.h3⟩, hn.mono hb, ho.mono hb, blk_cell (blk_below hW (by omega) z2), blk_below hW (by omega) z3, hsm.mono hb, hx.below hb, hb⟩
  have HM := Lib.hid (And.intro hm hmb)
  have HVV := Lib.hid (And.intro hv hV)
  clear h hn ho hv hV hm hmb hsm hx hW1 hB1 z1 z2 z3 z4
  go_enter Try.func102, Try.ntmps102
  go_upto_region 1 with fail
  rw [← HW.out.1, ← HW.out.2.1]
  have HCV : Hid (CV ⟨c.inp, c.next, [], c.outs⟩ V) := by
    have h1 := CV.of_valid HVV.out.1 HVV.out.2
    exact ⟨⟨q1, q2, q3, by simp, q5⟩, fun g hg => by simp at hg, h1.next, h1.outs⟩
  have HCS : Hid (∀ W, Below W1.heap.size W1 W → W.cell? ⟨b, 0, none⟩ = some (.int .i64 c.inp) ∧ W.cell? ⟨b, 1, none⟩ = some (.slice sn c.next.length cn) ∧ W.cell? ⟨b, 3, none⟩ = some (.slice so c.outs.length co)) := fun W hW => ⟨(HB.out W hW).1.h0, (HB.out W hW).1.h1, (HB.out W hW).1.h3⟩
  go_cut [7] from 8 to 23 (fun s7 wx => ∃ (Y : Nat) (sn2 : Option Addr) (cn2 : Nat) (sg2 : Option Addr) (cg2 : Nat) (so2 : Option Addr) (co2 : Nat), s7 = .pointer (some ⟨Y, 0, none⟩) ∧ wx.heap[Y]? = some (.cells #[.int .i64 c.inp, .slice sn2 c.next.length cn2, .slice sg2 0 cg2, .slice so2 c.outs.length co2] 29 (0, 0)) ∧ wx.ownsRow W1.heap.size 3 1 (.slice sn2 c.next.length cn2) c.next.length (ints (c.next.map (mapB m))) ∧ wx.ownsRow W1.heap.size 3 1 (.slice so2 c.outs.length co2) c.outs.length (ints (c.outs.map (mapB m))) ∧ Below W1.heap.size W1 wx ∧ W1.heap.size ≤ Y)
  case first =>
    refine wp_region_T (fun w' => w'.cell? ⟨b, 0, none⟩ = some (.int .i64 c.inp) ∧ w'.cell? ⟨b, 1, none⟩ = some (.slice sn c.next.length cn) ∧ w'.cell? ⟨b, 3, none⟩ = some (.slice so c.outs.length co)) (.q 0 (.q 1 (.q 2 (.q 3 (.q 4 (.q 5 (.q 6 (.q 7 (.q 8 (.q 9 (.q 10 (.q 11 (.q 12 (.q 14 (.two 13 (.two 15 (.e 16 (.e 17 .nil)) 16 (.e 15 (.e 17 .nil))) 16 (.e 13 (.e 15 (.e 17 .nil)))))))))))))))))) (by kernel_rfl) (by kernel_rfl) (by kernel_rfl) (HCS.out _ (Below.refl _ _).drew) ?_
    have hd := (Below.refl W1.heap.size W1).drew
    revert hd
    generalize W1.drew = Wd
    intro hd
    have HD := Lib.hid hd
    clear hd
    repeat (first | (refine ordt_s (o := ?_) ?_ ?_ ?_; rotate_left 1; (focus ((simp only [List.getElem?_toArray, List.getElem?_cons_succ, List.getElem?_cons_zero]) <;> rfl)); (focus rfl); simp only [Act.put, List.setIfInBounds_toArray, List.set_cons_zero, List.set_cons_succ]) | (refine ordt_q (o := ?_) (v := ?_) ?_ ?_ ?_ ?_; rotate_left 2; (focus ((simp only [List.getElem?_toArray, List.getElem?_cons_succ, List.getElem?_cons_zero]) <;> rfl)); (focus rfl); (focus (intro w' hS; (try dsimp only at hS); go_split_ands; go_simp; (try (with_reducible rfl)))); simp only [Act.put, List.setIfInBounds_toArray, List.set_cons_zero, List.set_cons_succ]))
    refine ordt_two ?_ ?_
    · (refine op_e (o := ?_) ?_ ?_ (fun K hK => ?_); rotate_left 1; (focus ((simp only [List.getElem?_toArray, List.getElem?_cons_succ, List.getElem?_cons_zero]) <;> rfl)); (focus rfl); go_simp)
      have hb := (HD.out).alloc (HD.out).size (.cells #[.int .i64 c.inp, .slice sn c.next.length cn, .slice none 0 0, .slice so c.outs.length co] 29)
      have hk := blk_new Wd (.cells #[.int .i64 c.inp, .slice sn c.next.length cn, .slice none 0 0, .slice so c.outs.length co] 29)
      obtain ⟨X, hX⟩ : ∃ X, X = Wd.heap.size := ⟨_, rfl⟩
      rw [← hX] at hk
      rw [← hX]
      clear hX
      revert hb hk
      generalize Wd.alloc (.cells #[.int .i64 c.inp, .slice sn c.next.length cn, .slice none 0 0, .slice so c.outs.length co] 29) = WX
      intro hb hk
      refine hK.out _ _ (HCS.out _ hb) ?_
      clear hK K
      have HD := Lib.hid hb
      have HX := Lib.hid hk
      clear hb hk
      (try simp only [Act.put, List.setIfInBounds_toArray, List.set_cons_zero, List.set_cons_succ])
      repeat (first | (refine ordt_s (o := ?_) ?_ ?_ ?_; rotate_left 1; (focus ((simp only [List.getElem?_toArray, List.getElem?_cons_succ, List.getElem?_cons_zero]) <;> rfl)); (focus rfl); simp only [Act.put, List.setIfInBounds_toArray, List.set_cons_zero, List.set_cons_succ]) | (refine ordt_q (o := ?_) (v := ?_) ?_ ?_ ?_ ?_; rotate_left 2; (focus ((simp only [List.getElem?_toArray, List.getElem?_cons_succ, List.getElem?_cons_zero]) <;> rfl)); (focus rfl); (focus (intro w' hS; (try dsimp only at hS); go_split_ands; go_simp; (try (with_reducible rfl)))); simp only [Act.put, List.setIfInBounds_toArray, List.set_cons_zero, List.set_cons_succ]))
      refine ordt_two ?_ ?_
      · (refine op_e (o := ?_) ?_ ?_ (fun K hK => ?_); rotate_left 1; (focus ((simp only [List.getElem?_toArray, List.getElem?_cons_succ, List.getElem?_cons_zero]) <;> rfl)); (focus rfl); go_simp)
        refine (replacedC_any X B1 V ⟨c.inp, c.next, [], c.outs⟩ (mapB m) sn none so cn 0 co _ (CirAt.of_blk HX.out) (HB.out _ HD.out).2.1 (.inl rfl) (HB.out _ HD.out).2.2.1 HCV.out (fun W l hW h0 h1 => circ1_any B1 V cm sm m l W (HB.out _ (HD.out.trans (hW.mono HD.out.size))).2.2.2.1 HM.out.1 (HB.out _ (HD.out.trans (hW.mono HD.out.size))).2.2.2.2.2.1 h0 h1 (by omega) HM.out.2)).mono ?_
        rintro e wr ⟨vn2, vg2, vo2, rfl, hown, hq⟩
        have hb := HD.out.trans (hq.mono HD.out.size)
        refine hK.out _ _ (HCS.out _ hb) ?_
        clear hK K
        have ho2 : CirOwn wr W1.heap.size ⟨c.inp, c.next.map (mapB m), [], c.outs.map (mapB m)⟩ vn2 vg2 vo2 := ⟨own_base hown.n HD.out.size, own_base hown.g HD.out.size, own_base hown.o HD.out.size, hown.ne, hown.l1, hown.l2, hown.l3⟩
        obtain ⟨sn2, cn2, rfl⟩ := own_shape ho2.n
        obtain ⟨sg2, cg2, rfl⟩ := own_shape ho2.g
        obtain ⟨so2, co2, rfl⟩ := own_shape ho2.o
        simp only [List.length_map, List.length_nil] at ho2 ⊢
        have HD := Lib.hid hb
        have HO := Lib.hid ho2
        clear hb ho2 hown hq
        (try simp only [Act.put, List.setIfInBounds_toArray, List.set_cons_zero, List.set_cons_succ])
        repeat (first | (refine ordt_s (o := ?_) ?_ ?_ ?_; rotate_left 1; (focus ((simp only [List.getElem?_toArray, List.getElem?_cons_succ, List.getElem?_cons_zero]) <;> rfl)); (focus rfl); simp only [Act.put, List.setIfInBounds_toArray, List.set_cons_zero, List.set_cons_succ]) | (refine ordt_q (o := ?_) (v := ?_) ?_ ?_ ?_ ?_; rotate_left 2; (focus ((simp only [List.getElem?_toArray, List.getElem?_cons_succ, List.getElem?_cons_zero]) <;> rfl)); (focus rfl); (focus (intro w' hS; (try dsimp only at hS); go_split_ands; go_simp; (try (with_reducible rfl)))); simp only [Act.put, List.setIfInBounds_toArray, List.set_cons_zero, List.set_cons_succ]))
        refine ordt_e ?_
        (refine op_e (o := ?_) ?_ ?_ (fun K hK => ?_); rotate_left 1; (focus ((simp only [List.getElem?_toArray, List.getElem?_cons_succ, List.getElem?_cons_zero]) <;> rfl)); (focus rfl); go_simp)
        have hb := (HD.out).alloc (HD.out).size (.cells #[.int .i64 0, .slice none 0 0, .slice none 0 0, .slice none 0 0] 29)
        have hk := blk_new wr (.cells #[.int .i64 0, .slice none 0 0, .slice none 0 0, .slice none 0 0] 29)
        have hs := (HD.out).size
        have hal := (Below.refl wr.heap.size wr).alloc (Nat.le_refl _) (.cells #[.int .i64 0, .slice none 0 0, .slice none 0 0, .slice none 0 0] 29)
        obtain ⟨Y, hY⟩ : ∃ Y, Y = wr.heap.size := ⟨_, rfl⟩
        rw [← hY] at hk hs
        rw [← hY]
        clear hY
        revert hb hk hal
        generalize wr.alloc (.cells #[.int .i64 0, .slice none 0 0, .slice none 0 0, .slice none 0 0] 29) = WY
        intro hb hal hk
        refine hK.out _ _ (HCS.out _ hb) ?_
        clear hK K
        have HD := Lib.hid hb
        have HY := Lib.hid (And.intro hk hs)
        have ho9 : CirOwn WY W1.heap.size ⟨c.inp, c.next.map (mapB m), [], c.outs.map (mapB m)⟩ _ _ _ := ⟨own_below HO.out.n hal, own_below HO.out.g hal, own_below HO.out.o hal, HO.out.ne, HO.out.l1, HO.out.l2, HO.out.l3⟩
        have HO := Lib.hid ho9
        clear ho9
        clear hb hk hs hal
        (try simp only [Act.put, List.setIfInBounds_toArray, List.set_cons_zero, List.set_cons_succ])
        repeat (first | (refine ordt_s (o := ?_) ?_ ?_ ?_; rotate_left 1; (focus ((simp only [List.getElem?_toArray, List.getElem?_cons_succ, List.getElem?_cons_zero]) <;> rfl)); (focus rfl); simp only [Act.put, List.setIfInBounds_toArray, List.set_cons_zero, List.set_cons_succ]) | (refine ordt_q (o := ?_) (v := ?_) ?_ ?_ ?_ ?_; rotate_left 2; (focus ((simp only [List.getElem?_toArray, List.getElem?_cons_succ, List.getElem?_cons_zero]) <;> rfl)); (focus rfl); (focus (intro w' hS; (try dsimp only at hS); go_split_ands; go_simp; (try (with_reducible rfl)))); simp only [Act.put, List.setIfInBounds_toArray, List.set_cons_zero, List.set_cons_succ]))
        refine ordt_e ?_
        obtain ⟨rc, rf⟩ := blk_all HY.out.1
        (refine op_e (o := ?_) ?_ ?_ (fun K hK => ?_); rotate_left 1; (focus ((simp only [List.getElem?_toArray, List.getElem?_cons_succ, List.getElem?_cons_zero]) <;> rfl)); (focus rfl); go_simp)
        have hn1 : WY.ownsRow W1.heap.size 3 1 (.slice sn2 c.next.length cn2) c.next.length (ints (c.next.map (mapB m))) := by have := HO.out.n; simpa only [List.length_map] using this
        have ho1 : WY.ownsRow W1.heap.size 3 1 (.slice so2 c.outs.length co2) c.outs.length (ints (c.outs.map (mapB m))) := by have := HO.out.o; simpa only [List.length_map] using this
        have e1 := own_tyb HO.out.n HY.out.1 (by decide)
        have e2 := own_tyb HO.out.g HY.out.1 (by decide)
        have e3 := own_tyb HO.out.o HY.out.1 (by decide)
        have hZ : ((((WY.setCell ⟨Y, 0, none⟩ (.int .i64 c.inp)).setCell ⟨Y, 1, none⟩ (.slice sn2 c.next.length cn2)).setCell ⟨Y, 2, none⟩ (.slice sg2 0 cg2)).setCell ⟨Y, 3, none⟩ (.slice so2 c.outs.length co2)).heap[Y]? = some (.cells #[.int .i64 c.inp, .slice sn2 c.next.length cn2, .slice sg2 0 cg2, .slice so2 c.outs.length co2] 29 (0, 0)) := by
          simpa using blk_set (o := 3) (v := .slice so2 c.outs.length co2) (blk_set (o := 2) (v := .slice sg2 0 cg2) (blk_set (o := 1) (v := .slice sn2 c.next.length cn2) (blk_set (o := 0) (v := .int .i64 c.inp) HY.out.1)))
        have hOn := own_set_ne (own_set_ne (own_set_ne (own_set_ne (o := 0) hn1 e1 (.int .i64 c.inp)) (o := 1) e1 (.slice sn2 c.next.length cn2)) (o := 2) e1 (.slice sg2 0 cg2)) (o := 3) e1 (.slice so2 c.outs.length co2)
        have hOo := own_set_ne (own_set_ne (own_set_ne (own_set_ne (o := 0) ho1 e3 (.int .i64 c.inp)) (o := 1) e3 (.slice sn2 c.next.length cn2)) (o := 2) e3 (.slice sg2 0 cg2)) (o := 3) e3 (.slice so2 c.outs.length co2)
        have hbz := ((((HD.out).setCell (p := ⟨Y, 0, none⟩) HY.out.2 (.int .i64 c.inp)).setCell (p := ⟨Y, 1, none⟩) HY.out.2 (.slice sn2 c.next.length cn2)).setCell (p := ⟨Y, 2, none⟩) HY.out.2 (.slice sg2 0 cg2)).setCell (p := ⟨Y, 3, none⟩) HY.out.2 (.slice so2 c.outs.length co2)
        clear rc rf e1 e2 e3 hn1 ho1
        revert hZ hOn hOo hbz
        generalize ((((WY.setCell ⟨Y, 0, none⟩ (.int .i64 c.inp)).setCell ⟨Y, 1, none⟩ (.slice sn2 c.next.length cn2)).setCell ⟨Y, 2, none⟩ (.slice sg2 0 cg2)).setCell ⟨Y, 3, none⟩ (.slice so2 c.outs.length co2)) = WZ
        intro hZ hOn hOo hbz
        refine hK.out _ _ (HCS.out _ hbz) ?_
        clear hK K
        (try simp only [Act.put, List.setIfInBounds_toArray, List.set_cons_zero, List.set_cons_succ])
        repeat (first | (refine ordt_s (o := ?_) ?_ ?_ ?_; rotate_left 1; (focus ((simp only [List.getElem?_toArray, List.getElem?_cons_succ, List.getElem?_cons_zero]) <;> rfl)); (focus rfl); simp only [Act.put, List.setIfInBounds_toArray, List.set_cons_zero, List.set_cons_succ]) | (refine ordt_q (o := ?_) (v := ?_) ?_ ?_ ?_ ?_; rotate_left 2; (focus ((simp only [List.getElem?_toArray, List.getElem?_cons_succ, List.getElem?_cons_zero]) <;> rfl)); (focus rfl); (focus (intro w' hS; (try dsimp only at hS); go_split_ands; go_simp; (try (with_reducible rfl)))); simp only [Act.put, List.setIfInBounds_toArray, List.set_cons_zero, List.set_cons_succ]))
        refine ordt_nil ?_
        go_wp2_with fail
        go_meet
        exact ⟨Y, sn2, cn2, sg2, cg2, so2, co2, rfl, hZ, hOn, hOo, hbz, HY.out.2⟩
      · (refine op_e (o := ?_) ?_ ?_ (fun K hK => ?_); rotate_left 1; (focus ((simp only [List.getElem?_toArray, List.getElem?_cons_succ, List.getElem?_cons_zero]) <;> rfl)); (focus rfl); go_simp)
        have hb := (HD.out).alloc (HD.out).size (.cells #[.int .i64 0, .slice none 0 0, .slice none 0 0, .slice none 0 0] 29)
        have hk := blk_new WX (.cells #[.int .i64 0, .slice none 0 0, .slice none 0 0, .slice none 0 0] 29)
        have hs := (HD.out).size
        have hal := (Below.refl WX.heap.size WX).alloc (Nat.le_refl _) (.cells #[.int .i64 0, .slice none 0 0, .slice none 0 0, .slice none 0 0] 29)
        obtain ⟨Y, hY⟩ : ∃ Y, Y = WX.heap.size := ⟨_, rfl⟩
        rw [← hY] at hk hs
        rw [← hY]
        clear hY
        revert hb hk hal
        generalize WX.alloc (.cells #[.int .i64 0, .slice none 0 0, .slice none 0 0, .slice none 0 0] 29) = WY
        intro hb hal hk
        refine hK.out _ _ (HCS.out _ hb) ?_
        clear hK K
        have HD := Lib.hid hb
        have HY := Lib.hid (And.intro hk hs)
        have HX := Lib.hid (blk_below hal (blk_lt HX.out) HX.out)
        clear hb hk hs hal
        (try simp only [Act.put, List.setIfInBounds_toArray, List.set_cons_zero, List.set_cons_succ])
        repeat (first | (refine ordt_s (o := ?_) ?_ ?_ ?_; rotate_left 1; (focus ((simp only [List.getElem?_toArray, List.getElem?_cons_succ, List.getElem?_cons_zero]) <;> rfl)); (focus rfl); simp only [Act.put, List.setIfInBounds_toArray, List.set_cons_zero, List.set_cons_succ]) | (refine ordt_q (o := ?_) (v := ?_) ?_ ?_ ?_ ?_; rotate_left 2; (focus ((simp only [List.getElem?_toArray, List.getElem?_cons_succ, List.getElem?_cons_zero]) <;> rfl)); (focus rfl); (focus (intro w' hS; (try dsimp only at hS); go_split_ands; go_simp; (try (with_reducible rfl)))); simp only [Act.put, List.setIfInBounds_toArray, List.set_cons_zero, List.set_cons_succ]))
        refine ordt_e ?_
        (refine op_e (o := ?_) ?_ ?_ (fun K hK => ?_); rotate_left 1; (focus ((simp only [List.getElem?_toArray, List.getElem?_cons_succ, List.getElem?_cons_zero]) <;> rfl)); (focus rfl); go_simp)
        refine (replacedC_any X B1 V ⟨c.inp, c.next, [], c.outs⟩ (mapB m) sn none so cn 0 co _ (CirAt.of_blk HX.out) (HB.out _ HD.out).2.1 (.inl rfl) (HB.out _ HD.out).2.2.1 HCV.out (fun W l hW h0 h1 => circ1_any B1 V cm sm m l W (HB.out _ (HD.out.trans (hW.mono HD.out.size))).2.2.2.1 HM.out.1 (HB.out _ (HD.out.trans (hW.mono HD.out.size))).2.2.2.2.2.1 h0 h1 (by omega) HM.out.2)).mono ?_
        rintro e wr ⟨vn2, vg2, vo2, rfl, hown, hq⟩
        have hb := HD.out.trans (hq.mono HD.out.size)
        refine hK.out _ _ (HCS.out _ hb) ?_
        clear hK K
        have ho2 : CirOwn wr W1.heap.size ⟨c.inp, c.next.map (mapB m), [], c.outs.map (mapB m)⟩ vn2 vg2 vo2 := ⟨own_base hown.n HD.out.size, own_base hown.g HD.out.size, own_base hown.o HD.out.size, hown.ne, hown.l1, hown.l2, hown.l3⟩
        obtain ⟨sn2, cn2, rfl⟩ := own_shape ho2.n
        obtain ⟨sg2, cg2, rfl⟩ := own_shape ho2.g
        obtain ⟨so2, co2, rfl⟩ := own_shape ho2.o
        simp only [List.length_map, List.length_nil] at ho2 ⊢
        have HY := Lib.hid (And.intro (blk_below hq (blk_lt HY.out.1) HY.out.1) HY.out.2)
        have HD := Lib.hid hb
        have HO := Lib.hid ho2
        clear hb ho2 hown hq
        (try simp only [Act.put, List.setIfInBounds_toArray, List.set_cons_zero, List.set_cons_succ])
        repeat (first | (refine ordt_s (o := ?_) ?_ ?_ ?_; rotate_left 1; (focus ((simp only [List.getElem?_toArray, List.getElem?_cons_succ, List.getElem?_cons_zero]) <;> rfl)); (focus rfl); simp only [Act.put, List.setIfInBounds_toArray, List.set_cons_zero, List.set_cons_succ]) | (refine ordt_q (o := ?_) (v := ?_) ?_ ?_ ?_ ?_; rotate_left 2; (focus ((simp only [List.getElem?_toArray, List.getElem?_cons_succ, List.getElem?_cons_zero]) <;> rfl)); (focus rfl); (focus (intro w' hS; (try dsimp only at hS); go_split_ands; go_simp; (try (with_reducible rfl)))); simp only [Act.put, List.setIfInBounds_toArray, List.set_cons_zero, List.set_cons_succ]))
        refine ordt_e ?_
        obtain ⟨rc, rf⟩ := blk_all HY.out.1
        (refine op_e (o := ?_) ?_ ?_ (fun K hK => ?_); rotate_left 1; (focus ((simp only [List.getElem?_toArray, List.getElem?_cons_succ, List.getElem?_cons_zero]) <;> rfl)); (focus rfl); go_simp)
        have hn1 : wr.ownsRow W1.heap.size 3 1 (.slice sn2 c.next.length cn2) c.next.length (ints (c.next.map (mapB m))) := by have := HO.out.n; simpa only [List.length_map] using this
        have ho1 : wr.ownsRow W1.heap.size 3 1 (.slice so2 c.outs.length co2) c.outs.length (ints (c.outs.map (mapB m))) := by have := HO.out.o; simpa only [List.length_map] using this
        have e1 := own_tyb HO.out.n HY.out.1 (by decide)
        have e2 := own_tyb HO.out.g HY.out.1 (by decide)
        have e3 := own_tyb HO.out.o HY.out.1 (by decide)
        have hZ : ((((wr.setCell ⟨Y, 0, none⟩ (.int .i64 c.inp)).setCell ⟨Y, 1, none⟩ (.slice sn2 c.next.length cn2)).setCell ⟨Y, 2, none⟩ (.slice sg2 0 cg2)).setCell ⟨Y, 3, none⟩ (.slice so2 c.outs.length co2)).heap[Y]? = some (.cells #[.int .i64 c.inp, .slice sn2 c.next.length cn2, .slice sg2 0 cg2, .slice so2 c.outs.length co2] 29 (0, 0)) := by
          simpa using blk_set (o := 3) (v := .slice so2 c.outs.length co2) (blk_set (o := 2) (v := .slice sg2 0 cg2) (blk_set (o := 1) (v := .slice sn2 c.next.length cn2) (blk_set (o := 0) (v := .int .i64 c.inp) HY.out.1)))
        have hOn := own_set_ne (own_set_ne (own_set_ne (own_set_ne (o := 0) hn1 e1 (.int .i64 c.inp)) (o := 1) e1 (.slice sn2 c.next.length cn2)) (o := 2) e1 (.slice sg2 0 cg2)) (o := 3) e1 (.slice so2 c.outs.length co2)
        have hOo := own_set_ne (own_set_ne (own_set_ne (own_set_ne (o := 0) ho1 e3 (.int .i64 c.inp)) (o := 1) e3 (.slice sn2 c.next.length cn2)) (o := 2) e3 (.slice sg2 0 cg2)) (o := 3) e3 (.slice so2 c.outs.length co2)
        have hbz := ((((HD.out).setCell (p := ⟨Y, 0, none⟩) HY.out.2 (.int .i64 c.inp)).setCell (p := ⟨Y, 1, none⟩) HY.out.2 (.slice sn2 c.next.length cn2)).setCell (p := ⟨Y, 2, none⟩) HY.out.2 (.slice sg2 0 cg2)).setCell (p := ⟨Y, 3, none⟩) HY.out.2 (.slice so2 c.outs.length co2)
        clear rc rf e1 e2 e3 hn1 ho1
        revert hZ hOn hOo hbz
        generalize ((((wr.setCell ⟨Y, 0, none⟩ (.int .i64 c.inp)).setCell ⟨Y, 1, none⟩ (.slice sn2 c.next.length cn2)).setCell ⟨Y, 2, none⟩ (.slice sg2 0 cg2)).setCell ⟨Y, 3, none⟩ (.slice so2 c.outs.length co2)) = WZ
        intro hZ hOn hOo hbz
        refine hK.out _ _ (HCS.out _ hbz) ?_
        clear hK K
        (try simp only [Act.put, List.setIfInBounds_toArray, List.set_cons_zero, List.set_cons_succ])
        repeat (first | (refine ordt_s (o := ?_) ?_ ?_ ?_; rotate_left 1; (focus ((simp only [List.getElem?_toArray, List.getElem?_cons_succ, List.getElem?_cons_zero]) <;> rfl)); (focus rfl); simp only [Act.put, List.setIfInBounds_toArray, List.set_cons_zero, List.set_cons_succ]) | (refine ordt_q (o := ?_) (v := ?_) ?_ ?_ ?_ ?_; rotate_left 2; (focus ((simp only [List.getElem?_toArray, List.getElem?_cons_succ, List.getElem?_cons_zero]) <;> rfl)); (focus rfl); (focus (intro w' hS; (try dsimp only at hS); go_split_ands; go_simp; (try (with_reducible rfl)))); simp only [Act.put, List.setIfInBounds_toArray, List.set_cons_zero, List.set_cons_succ]))
        refine ordt_nil ?_
        go_wp2_with fail
        go_meet
        exact ⟨Y, sn2, cn2, sg2, cg2, so2, co2, rfl, hZ, hOn, hOo, hbz, HY.out.2⟩
    · (refine op_e (o := ?_) ?_ ?_ (fun K hK => ?_); rotate_left 1; (focus ((simp only [List.getElem?_toArray, List.getElem?_cons_succ, List.getElem?_cons_zero]) <;> rfl)); (focus rfl); go_simp)
      have hb := (HD.out).alloc (HD.out).size (.cells #[.int .i64 0, .slice none 0 0, .slice none 0 0, .slice none 0 0] 29)
      have hk := blk_new Wd (.cells #[.int .i64 0, .slice none 0 0, .slice none 0 0, .slice none 0 0] 29)
      have hs := (HD.out).size
      have hal := (Below.refl Wd.heap.size Wd).alloc (Nat.le_refl _) (.cells #[.int .i64 0, .slice none 0 0, .slice none 0 0, .slice none 0 0] 29)
      obtain ⟨Y, hY⟩ : ∃ Y, Y = Wd.heap.size := ⟨_, rfl⟩
      rw [← hY] at hk hs
      rw [← hY]
      clear hY
      revert hb hk hal
      generalize Wd.alloc (.cells #[.int .i64 0, .slice none 0 0, .slice none 0 0, .slice none 0 0] 29) = WY
      intro hb hal hk
      refine hK.out _ _ (HCS.out _ hb) ?_
      clear hK K
      have HD := Lib.hid hb
      have HY := Lib.hid (And.intro hk hs)
      clear hb hk hs hal
      (try simp only [Act.put, List.setIfInBounds_toArray, List.set_cons_zero, List.set_cons_succ])
      repeat (first | (refine ordt_s (o := ?_) ?_ ?_ ?_; rotate_left 1; (focus ((simp only [List.getElem?_toArray, List.getElem?_cons_succ, List.getElem?_cons_zero]) <;> rfl)); (focus rfl); simp only [Act.put, List.setIfInBounds_toArray, List.set_cons_zero, List.set_cons_succ]) | (refine ordt_q (o := ?_) (v := ?_) ?_ ?_ ?_ ?_; rotate_left 2; (focus ((simp only [List.getElem?_toArray, List.getElem?_cons_succ, List.getElem?_cons_zero]) <;> rfl)); (focus rfl); (focus (intro w' hS; (try dsimp only at hS); go_split_ands; go_simp; (try (with_reducible rfl)))); simp only [Act.put, List.setIfInBounds_toArray, List.set_cons_zero, List.set_cons_succ]))
      refine ordt_e ?_
      (refine op_e (o := ?_) ?_ ?_ (fun K hK => ?_); rotate_left 1; (focus ((simp only [List.getElem?_toArray, List.getElem?_cons_succ, List.getElem?_cons_zero]) <;> rfl)); (focus rfl); go_simp)
      have hb := (HD.out).alloc (HD.out).size (.cells #[.int .i64 c.inp, .slice sn c.next.length cn, .slice none 0 0, .slice so c.outs.length co] 29)
      have hk := blk_new WY (.cells #[.int .i64 c.inp, .slice sn c.next.length cn, .slice none 0 0, .slice so c.outs.length co] 29)
      have hy := blk_old (o := .cells #[.int .i64 c.inp, .slice sn c.next.length cn, .slice none 0 0, .slice so c.outs.length co] 29) HY.out.1
      obtain ⟨X, hX⟩ : ∃ X, X = WY.heap.size := ⟨_, rfl⟩
      rw [← hX] at hk
      rw [← hX]
      clear hX
      revert hb hk hy
      generalize WY.alloc (.cells #[.int .i64 c.inp, .slice sn c.next.length cn, .slice none 0 0, .slice so c.outs.length co] 29) = WX
      intro hb hy hk
      refine hK.out _ _ (HCS.out _ hb) ?_
      clear hK K
      have HD := Lib.hid hb
      have HX := Lib.hid hk
      have HY := Lib.hid (And.intro hy HY.out.2)
      clear hy
      clear hb hk
      (try simp only [Act.put, List.setIfInBounds_toArray, List.set_cons_zero, List.set_cons_succ])
      repeat (first | (refine ordt_s (o := ?_) ?_ ?_ ?_; rotate_left 1; (focus ((simp only [List.getElem?_toArray, List.getElem?_cons_succ, List.getElem?_cons_zero]) <;> rfl)); (focus rfl); simp only [Act.put, List.setIfInBounds_toArray, List.set_cons_zero, List.set_cons_succ]) | (refine ordt_q (o := ?_) (v := ?_) ?_ ?_ ?_ ?_; rotate_left 2; (focus ((simp only [List.getElem?_toArray, List.getElem?_cons_succ, List.getElem?_cons_zero]) <;> rfl)); (focus rfl); (focus (intro w' hS; (try dsimp only at hS); go_split_ands; go_simp; (try (with_reducible rfl)))); simp only [Act.put, List.setIfInBounds_toArray, List.set_cons_zero, List.set_cons_succ]))
      refine ordt_e ?_
      (refine op_e (o := ?_) ?_ ?_ (fun K hK => ?_); rotate_left 1; (focus ((simp only [List.getElem?_toArray, List.getElem?_cons_succ, List.getElem?_cons_zero]) <;> rfl)); (focus rfl); go_simp)
      refine (replacedC_any X B1 V ⟨c.inp, c.next, [], c.outs⟩ (mapB m) sn none so cn 0 co _ (CirAt.of_blk HX.out) (HB.out _ HD.out).2.1 (.inl rfl) (HB.out _ HD.out).2.2.1 HCV.out (fun W l hW h0 h1 => circ1_any B1 V cm sm m l W (HB.out _ (HD.out.trans (hW.mono HD.out.size))).2.2.2.1 HM.out.1 (HB.out _ (HD.out.trans (hW.mono HD.out.size))).2.2.2.2.2.1 h0 h1 (by omega) HM.out.2)).mono ?_
      rintro e wr ⟨vn2, vg2, vo2, rfl, hown, hq⟩
      have hb := HD.out.trans (hq.mono HD.out.size)
      refine hK.out _ _ (HCS.out _ hb) ?_
      clear hK K
      have ho2 : CirOwn wr W1.heap.size ⟨c.inp, c.next.map (mapB m), [], c.outs.map (mapB m)⟩ vn2 vg2 vo2 := ⟨own_base hown.n HD.out.size, own_base hown.g HD.out.size, own_base hown.o HD.out.size, hown.ne, hown.l1, hown.l2, hown.l3⟩
      obtain ⟨sn2, cn2, rfl⟩ := own_shape ho2.n
      obtain ⟨sg2, cg2, rfl⟩ := own_shape ho2.g
      obtain ⟨so2, co2, rfl⟩ := own_shape ho2.o
      simp only [List.length_map, List.length_nil] at ho2 ⊢
      have HY := Lib.hid (And.intro (blk_below hq (blk_lt HY.out.1) HY.out.1) HY.out.2)
      have HD := Lib.hid hb
      have HO := Lib.hid ho2
      clear hb ho2 hown hq
      (try simp only [Act.put, List.setIfInBounds_toArray, List.set_cons_zero, List.set_cons_succ])
      repeat (first | (refine ordt_s (o := ?_) ?_ ?_ ?_; rotate_left 1; (focus ((simp only [List.getElem?_toArray, List.getElem?_cons_succ, List.getElem?_cons_zero]) <;> rfl)); (focus rfl); simp only [Act.put, List.setIfInBounds_toArray, List.set_cons_zero, List.set_cons_succ]) | (refine ordt_q (o := ?_) (v := ?_) ?_ ?_ ?_ ?_; rotate_left 2; (focus ((simp only [List.getElem?_toArray, List.getElem?_cons_succ, List.getElem?_cons_zero]) <;> rfl)); (focus rfl); (focus (intro w' hS; (try dsimp only at hS); go_split_ands; go_simp; (try (with_reducible rfl)))); simp only [Act.put, List.setIfInBounds_toArray, List.set_cons_zero, List.set_cons_succ]))
      refine ordt_e ?_
      obtain ⟨rc, rf⟩ := blk_all HY.out.1
      (refine op_e (o := ?_) ?_ ?_ (fun K hK => ?_); rotate_left 1; (focus ((simp only [List.getElem?_toArray, List.getElem?_cons_succ, List.getElem?_cons_zero]) <;> rfl)); (focus rfl); go_simp)
      have hn1 : wr.ownsRow W1.heap.size 3 1 (.slice sn2 c.next.length cn2) c.next.length (ints (c.next.map (mapB m))) := by have := HO.out.n; simpa only [List.length_map] using this
      have ho1 : wr.ownsRow W1.heap.size 3 1 (.slice so2 c.outs.length co2) c.outs.length (ints (c.outs.map (mapB m))) := by have := HO.out.o; simpa only [List.length_map] using this
      have e1 := own_tyb HO.out.n HY.out.1 (by decide)
      have e2 := own_tyb HO.out.g HY.out.1 (by decide)
      have e3 := own_tyb HO.out.o HY.out.1 (by decide)
      have hZ : ((((wr.setCell ⟨Y, 0, none⟩ (.int .i64 c.inp)).setCell ⟨Y, 1, none⟩ (.slice sn2 c.next.length cn2)).setCell ⟨Y, 2, none⟩ (.slice sg2 0 cg2)).setCell ⟨Y, 3, none⟩ (.slice so2 c.outs.length co2)).heap[Y]? = some (.cells #[.int .i64 c.inp, .slice sn2 c.next.length cn2, .slice sg2 0 cg2, .slice so2 c.outs.length co2] 29 (0, 0)) := by
        simpa using blk_set (o := 3) (v := .slice so2 c.outs.length co2) (blk_set (o := 2) (v := .slice sg2 0 cg2) (blk_set (o := 1) (v := .slice sn2 c.next.length cn2) (blk_set (o := 0) (v := .int .i64 c.inp) HY.out.1)))
      have hOn := own_set_ne (own_set_ne (own_set_ne (own_set_ne (o := 0) hn1 e1 (.int .i64 c.inp)) (o := 1) e1 (.slice sn2 c.next.length cn2)) (o := 2) e1 (.slice sg2 0 cg2)) (o := 3) e1 (.slice so2 c.outs.length co2)
      have hOo := own_set_ne (own_set_ne (own_set_ne (own_set_ne (o := 0) ho1 e3 (.int .i64 c.inp)) (o := 1) e3 (.slice sn2 c.next.length cn2)) (o := 2) e3 (.slice sg2 0 cg2)) (o := 3) e3 (.slice so2 c.outs.length co2)
      have hbz := ((((HD.out).setCell (p := ⟨Y, 0, none⟩) HY.out.2 (.int .i64 c.inp)).setCell (p := ⟨Y, 1, none⟩) HY.out.2 (.slice sn2 c.next.length cn2)).setCell (p := ⟨Y, 2, none⟩) HY.out.2 (.slice sg2 0 cg2)).setCell (p := ⟨Y, 3, none⟩) HY.out.2 (.slice so2 c.outs.length co2)
      clear rc rf e1 e2 e3 hn1 ho1
      revert hZ hOn hOo hbz
      generalize ((((wr.setCell ⟨Y, 0, none⟩ (.int .i64 c.inp)).setCell ⟨Y, 1, none⟩ (.slice sn2 c.next.length cn2)).setCell ⟨Y, 2, none⟩ (.slice sg2 0 cg2)).setCell ⟨Y, 3, none⟩ (.slice so2 c.outs.length co2)) = WZ
      intro hZ hOn hOo hbz
      refine hK.out _ _ (HCS.out _ hbz) ?_
      clear hK K
      (try simp only [Act.put, List.setIfInBounds_toArray, List.set_cons_zero, List.set_cons_succ])
      repeat (first | (refine ordt_s (o := ?_) ?_ ?_ ?_; rotate_left 1; (focus ((simp only [List.getElem?_toArray, List.getElem?_cons_succ, List.getElem?_cons_zero]) <;> rfl)); (focus rfl); simp only [Act.put, List.setIfInBounds_toArray, List.set_cons_zero, List.set_cons_succ]) | (refine ordt_q (o := ?_) (v := ?_) ?_ ?_ ?_ ?_; rotate_left 2; (focus ((simp only [List.getElem?_toArray, List.getElem?_cons_succ, List.getElem?_cons_zero]) <;> rfl)); (focus rfl); (focus (intro w' hS; (try dsimp only at hS); go_split_ands; go_simp; (try (with_reducible rfl)))); simp only [Act.put, List.setIfInBounds_toArray, List.set_cons_zero, List.set_cons_succ]))
      refine ordt_nil ?_
      go_wp2_with fail
      go_meet
      exact ⟨Y, sn2, cn2, sg2, cg2, so2, co2, rfl, hZ, hOn, hOo, hbz, HY.out.2⟩
  case rest =>
    obtain ⟨Y, sn2, cn2, sg2, cg2, so2, co2, rfl, hY, hOn, hOo, hb, hYs⟩ := hcut
    have HC := Lib.hid (And.intro hY (And.intro hOn (And.intro hOo hb)))
    have cbb := (HB.out _ hb).2.2.2.2.2.2.1.cells.1
    obtain ⟨rc, rf⟩ := blk_all hY
    clear hY hOn hOo hb
    go_upto_region 3 with fail
    have hY3 : (wc.setCell ⟨Y, 2, none⟩ (.slice s3 gs.length c3)).heap[Y]? = some (.cells #[.int .i64 c.inp, .slice sn2 c.next.length cn2, .slice s3 gs.length c3, .slice so2 c.outs.length co2] 29 (0, 0)) := by
      simpa using blk_set (o := 2) (v := .slice s3 gs.length c3) HC.out.1
    have hOn3 := own_set_ne (b := Y) (o := 2) HC.out.2.1 (own_tyb HC.out.2.1 HC.out.1 (by decide)) (.slice s3 gs.length c3)
    have hOo3 := own_set_ne (b := Y) (o := 2) HC.out.2.2.1 (own_tyb HC.out.2.2.1 HC.out.1 (by decide)) (.slice s3 gs.length c3)
    have hb3 := HC.out.2.2.2.setCell (p := ⟨Y, 2, none⟩) hYs (.slice s3 gs.length c3)
    clear rc rf cbb
    revert hY3 hOn3 hOo3 hb3
    generalize wc.setCell ⟨Y, 2, none⟩ (.slice s3 gs.length c3) = W5
    intro hY3 hOn3 hOo3 hb3
    have H5 := Lib.hid (And.intro hY3 (And.intro hOn3 (And.intro hOo3 hb3)))
    have cY := (blk_all hY3).1
    obtain ⟨rc, rf⟩ := blk_all (HB.out _ hb3).2.2.2.2.1
    clear hY3 hOn3 hOo3 hb3 HC
    go_wp2_with fail
    have hR := (HB.out _ H5.out.2.2.2).2.2.2.2.1
    have hbw := (HB.out _ H5.out.2.2.2).2.2.2.2.2.2.2
    have hgg := own_sl (HB.out _ H5.out.2.2.2).2.2.2.2.2.2.1.g
    have hz2 := HW.out.2.2
    have hA2 : w.heap.size = B1 := HW.out.2.1.symm
    have e1 := own_tyb H5.out.2.1 hR (by decide)
    have e3 := own_tyb H5.out.2.2.1 hR (by decide)
    have e2 := own_tyb (HB.out _ H5.out.2.2.2).2.2.2.2.2.2.1.g hR (by decide)
    have hOg := (HB.out _ H5.out.2.2.2).2.2.2.2.2.2.1.g
    have hZ : ((((W5.setCell ⟨B1 + 1, 0, none⟩ (.int .i64 c.inp)).setCell ⟨B1 + 1, 1, none⟩ (.slice sn2 c.next.length cn2)).setCell ⟨B1 + 1, 2, none⟩ (.slice s3 gs.length c3)).setCell ⟨B1 + 1, 3, none⟩ (.slice so2 c.outs.length co2)).heap[B1 + 1]? = some (.cells #[.int .i64 c.inp, .slice sn2 c.next.length cn2, .slice s3 gs.length c3, .slice so2 c.outs.length co2] 29 (0, 0)) := by
      simpa using blk_set (o := 3) (v := .slice so2 c.outs.length co2) (blk_set (o := 2) (v := .slice s3 gs.length c3) (blk_set (o := 1) (v := .slice sn2 c.next.length cn2) (blk_set (o := 0) (v := .int .i64 c.inp) hR)))
    have hn9 := own_set_ne (own_set_ne (own_set_ne (own_set_ne (o := 0) H5.out.2.1 e1 (.int .i64 c.inp)) (o := 1) e1 (.slice sn2 c.next.length cn2)) (o := 2) e1 (.slice s3 gs.length c3)) (o := 3) e1 (.slice so2 c.outs.length co2)
    have ho9 := own_set_ne (own_set_ne (own_set_ne (own_set_ne (o := 0) H5.out.2.2.1 e3 (.int .i64 c.inp)) (o := 1) e3 (.slice sn2 c.next.length cn2)) (o := 2) e3 (.slice s3 gs.length c3)) (o := 3) e3 (.slice so2 c.outs.length co2)
    have hg9 := own_set_ne (own_set_ne (own_set_ne (own_set_ne (o := 0) hOg e2 (.int .i64 c.inp)) (o := 1) e2 (.slice sn2 c.next.length cn2)) (o := 2) e2 (.slice s3 gs.length c3)) (o := 3) e2 (.slice so2 c.outs.length co2)
    have hbz := (((hbw.setCell (p := ⟨B1 + 1, 0, none⟩) (by simp; omega) (.int .i64 c.inp)).setCell (p := ⟨B1 + 1, 1, none⟩) (by simp; omega) (.slice sn2 c.next.length cn2)).setCell (p := ⟨B1 + 1, 2, none⟩) (by simp; omega) (.slice s3 gs.length c3)).setCell (p := ⟨B1 + 1, 3, none⟩) (by simp; omega) (.slice so2 c.outs.length co2)
    clear rc rf e1 e2 e3
    revert hZ hn9 ho9 hg9 hbz
    generalize ((((W5.setCell ⟨B1 + 1, 0, none⟩ (.int .i64 c.inp)).setCell ⟨B1 + 1, 1, none⟩ (.slice sn2 c.next.length cn2)).setCell ⟨B1 + 1, 2, none⟩ (.slice s3 gs.length c3)).setCell ⟨B1 + 1, 3, none⟩ (.slice so2 c.outs.length co2)) = WZ
    intro hZ hn9 ho9 hg9 hbz
    have cr := (blk_all hZ).1
    have hcv : CirV WZ (.agg #[.int .i64 c.inp, .slice sn2 (c.next.map (mapB m)).length cn2, .slice s3 gs.length c3, .slice so2 (c.outs.map (mapB m)).length co2]) (cirR c gs m) := ⟨_, _, _, _, _, _, rfl, by show Sl WZ sn2 (ints (c.next.map (mapB m))); simpa using own_sl hn9, own_sl hg9, by show Sl WZ so2 (ints (c.outs.map (mapB m))); simpa using own_sl ho9, by show (c.next.map (mapB m)).length ≤ _; simp; omega, by show gs.length ≤ _; omega, by show (c.outs.map (mapB m)).length ≤ _; simp; omega⟩
    simp only [List.length_map] at hcv
    exact bodyPost_ret (v := .agg #[.int .i64 c.inp, .slice sn2 c.next.length cn2, .slice s3 gs.length c3, .slice so2 c.outs.length co2]) (by simp [results, Try.results102, go_sem, cr]) rfl ⟨_, _, _, rfl, hcv, hbz⟩

end Go.Proofs.Ytindndcdpnpcmaa
