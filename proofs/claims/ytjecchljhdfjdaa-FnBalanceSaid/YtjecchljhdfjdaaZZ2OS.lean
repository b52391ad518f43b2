import Derived.Test.YtjecchljhdfjdaaZZ2ON
import Derived.Test.YtjecchljhdfjdaaZZ2OR
namespace Go.Proofs.Ytjecchljhdfjdaa
set_option linter.unusedVariables false
set_option linter.unusedSimpArgs false
open Go.RowKit

/-! Part of the proof of one law. -/

/-- The built circuit. -/
def cirR (c : Cir) (gs : List Gt) (m : List Int) : Cir := ⟨c.inp, c.next.map (mapB m), gs, c.outs.map (mapB m)⟩

set_option maxRecDepth 100000 in
set_option maxHeartbeats 3200000 in
theorem circuit_any (F V : Nat) (W0 : World) (bb mb : Nat) (gs : List Gt) (vg vl : Value) (b : Nat) (sn sg so : Option Addr) (cn cg co : Nat) (c : Cir) (sm : Option Addr) (cm : Nat) (m : List Int) (w : World) (hx : BX F W0 bb mb gs (lvlL F gs) gs vg vl w)
    (h : CirAt w b c.inp (.slice sn c.next.length cn) (.slice sg c.gates.length cg) (.slice so c.outs.length co)) (hn : Sl w sn (ints c.next)) (ho : Sl w so (ints c.outs)) (hv : c.wide) (hV : c.vars = V) (hm : m.length = V) (hsm : Sl w sm (ints m)) (hmb : ∀ x ∈ m, 0 ≤ x ∧ x ≤ 300) (hgl : gs.length ≤ 1000) :
    Calls Try.prog 36 #[.pointer (some ⟨bb, 0, none⟩), .pointer (some ⟨b, 0, none⟩), .slice sm V cm] w fun e w' => ∃ vn vg vo, e = .returned (.agg #[.int .i64 c.inp, vn, vg, vo]) ∧ CirV w' (.agg #[.int .i64 c.inp, vn, vg, vo]) (cirR c gs m) ∧ Below w.heap.size w w' := by
  have HBl : Hid (b < w.heap.size) := World.block_lt_of_cell? w _ h.h0
  obtain ⟨q1, q2, q3, q4, q5⟩ := id hv.lim
  have hV22 : V ≤ 130 := by unfold Cir.vars at hV; omega
  obtain ⟨s3, c3, rfl⟩ := own_shape hx.g
  -- the two blocks at the start
  obtain ⟨B1, hB1⟩ : ∃ B1, B1 = w.heap.size := ⟨_, rfl⟩
  obtain ⟨W1, hW1⟩ : ∃ W1, W1 = (w.alloc (.cells #[.slice sm V cm] 26)).alloc (.cells #[.int .i64 0, .slice none 0 0, .slice none 0 0, .slice none 0 0] 28) := ⟨_, rfl⟩
  have z1 : W1.heap.size = B1 + 2 := by rw [hW1, hB1]; simp
  have z2 : W1.heap[B1]? = some (.cells #[.slice sm V cm] 26 (0, 0)) := by rw [hW1, hB1]; exact blk_old (blk_new w _)
  have z3 : W1.heap[B1 + 1]? = some (.cells #[.int .i64 0, .slice none 0 0, .slice none 0 0, .slice none 0 0] 28 (0, 0)) := by rw [hW1, hB1]; exact blk_at (by simp)
  have z4 : Below w.heap.size w W1 := by rw [hW1]; exact ((Below.refl _ _).alloc (Nat.le_refl _) _).alloc (by simp) _
  have HW := Lib.hid (And.intro hW1 (And.intro hB1 z1))
  have HB : Hid (∀ W, Below W1.heap.size W1 W → CirAt W b c.inp (.slice sn c.next.length cn) (.slice sg c.gates.length cg) (.slice so c.outs.length co) ∧ Sl W sn (ints c.next) ∧ Sl W so (ints c.outs) ∧ W.cell? ⟨B1, 0, none⟩ = some (.slice sm V cm) ∧ W.heap[B1 + 1]? = some (.cells #[.int .i64 0, .slice none 0 0, .slice none 0 0, .slice none 0 0] 28 (0, 0)) ∧ Sl W sm (ints m) ∧ BX F W0 bb mb gs (lvlL F gs) gs (.slice s3 gs.length c3) vl W ∧ Below w.heap.size w W) := fun W hW => by
    have hb := z4.trans (hW.mono z4.size)
    exact ⟨⟨(hb.cell (p := ⟨b, 0, none⟩) HBl.out).trans h.h0, (hb.cell (p := ⟨b, 1, none⟩) HBl.out).trans h.h1, (hb.cell (p := ⟨b, 2, none⟩) HBl.out).trans h.h2, (hb.cell (p := ⟨b, 3, none⟩) HBl.out).trans h.h3⟩, hn.mono hb, ho.mono hb, blk_cell (blk_below hW (by omega) z2), blk_below hW (by omega) z3, hsm.mono hb, hx.below hb, hb⟩
  have HM := Lib.hid (And.intro hm hmb)
  have HVV := Lib.hid (And.intro hv hV)
  clear h hn ho hv hV hm hmb hsm hx hW1 hB1 z1 z2 z3 z4
  go_enter Try.func36, Try.ntmps36
  go_upto_region 1 with fail
  rw [← HW.out.1, ← HW.out.2.1]
  have HCV : Hid (CV ⟨c.inp, c.next, [], c.outs⟩ V) := by
    have h1 := CV.of_valid HVV.out.1 HVV.out.2
    exact ⟨⟨q1, q2, q3, by simp, q5⟩, fun g hg => by simp at hg, h1.next, h1.outs⟩
  have HCS : Hid (∀ W, Below W1.heap.size W1 W → W.cell? ⟨b, 0, none⟩ = some (.int .i64 c.inp) ∧ W.cell? ⟨b, 1, none⟩ = some (.slice sn c.next.length cn) ∧ W.cell? ⟨b, 3, none⟩ = some (.slice so c.outs.length co)) := fun W hW => ⟨(HB.out W hW).1.h0, (HB.out W hW).1.h1, (HB.out W hW).1.h3⟩
  go_cut [7] from 8 to 23 (fun s7 wx => ∃ (Y : Nat) (sn2 : Option Addr) (cn2 : Nat) (sg2 : Option Addr) (cg2 : Nat) (so2 : Option Addr) (co2 : Nat), s7 = .pointer (some ⟨Y, 0, none⟩) ∧ wx.heap[Y]? = some (.cells #[.int .i64 c.inp, .slice sn2 c.next.length cn2, .slice sg2 0 cg2, .slice so2 c.outs.length co2] 28 (0, 0)) ∧ wx.ownsRow W1.heap.size 3 1 (.slice sn2 c.next.length cn2) c.next.length (ints (c.next.map (mapB m))) ∧ wx.ownsRow W1.heap.size 3 1 (.slice so2 c.outs.length co2) c.outs.length (ints (c.outs.map (mapB m))) ∧ Below W1.heap.size W1 wx ∧ W1.heap.size ≤ Y)
  case first =>
    refine wp_region_T (fun w' => w'.cell? ⟨b, 0, none⟩ = some (.int .i64 c.inp) ∧ w'.cell? ⟨b, 1, none⟩ = some (.slice sn c.next.length cn) ∧ w'.cell? ⟨b, 3, none⟩ = some (.slice so c.outs.length co)) (.q 0 (.q 1 (.q 2 (.q 3 (.q 4 (.q 5 (.q 6 (.q 7 (.q 8 (.q 9 (.q 10 (.q 11 (.q 12 (.q 14 (.two 13 (.two 15 (.e 16 (.e 17 .nil)) 16 (.e 15 (.e 17 .nil))) 16 (.e 13 (.e 15 (.e 17 .nil)))))))))))))))))) (by kernel_rfl) (by kernel_rfl) (by kernel_rfl) (HCS.out _ (Below.refl _ _).drew) ?_
    have hd := (Below.refl W1.heap.size W1).drew
    revert hd
    generalize W1.drew = Wd
    intro hd
    have HD := Lib.hid hd
    clear hd
    repeat (first | (refine ordt_s (o := ?_) ?_ ?_ ?_; rotate_left 1; (focus ((simp only [zD, zE, zF]) <;> rfl)); (focus rfl); simp only [Act.put, zA, zB, zC]) | (refine ordt_q (o := ?_) (v := ?_) ?_ ?_ ?_ ?_; rotate_left 2; (focus ((simp only [zD, zE, zF]) <;> rfl)); (focus rfl); (focus (intro w' hS; (try dsimp only at hS); go_split_ands; go_simp; (try (with_reducible rfl)))); simp only [Act.put, zA, zB, zC]))
    refine ordt_two ?_ ?_
    · (refine op_e (o := ?_) ?_ ?_ (fun K hK => ?_); rotate_left 1; (focus ((simp only [zD, zE, zF]) <;> rfl)); (focus rfl); go_simp)
      have hb := (HD.out).alloc (HD.out).size (.cells #[.int .i64 c.inp, .slice sn c.next.length cn, .slice none 0 0, .slice so c.outs.length co] 28)
      have hk := blk_new Wd (.cells #[.int .i64 c.inp, .slice sn c.next.length cn, .slice none 0 0, .slice so c.outs.length co] 28)
      obtain ⟨X, hX⟩ : ∃ X, X = Wd.heap.size := ⟨_, rfl⟩
      rw [← hX] at hk
      rw [← hX]
      clear hX
      revert hb hk
      generalize Wd.alloc (.cells #[.int .i64 c.inp, .slice sn c.next.length cn, .slice none 0 0, .slice so c.outs.length co] 28) = WX
      intro hb hk
      refine hK.out _ _ (HCS.out _ hb) ?_
      clear hK K
      have HD := Lib.hid hb
      have HX := Lib.hid hk
      clear hb hk
      (try simp only [Act.put, zA, zB, zC])
      repeat (first | (refine ordt_s (o := ?_) ?_ ?_ ?_; rotate_left 1; (focus ((simp only [zD, zE, zF]) <;> rfl)); (focus rfl); simp only [Act.put, zA, zB, zC]) | (refine ordt_q (o := ?_) (v := ?_) ?_ ?_ ?_ ?_; rotate_left 2; (focus ((simp only [zD, zE, zF]) <;> rfl)); (focus rfl); (focus (intro w' hS; (try dsimp only at hS); go_split_ands; go_simp; (try (with_reducible rfl)))); simp only [Act.put, zA, zB, zC]))
      refine ordt_two ?_ ?_
      · (refine op_e (o := ?_) ?_ ?_ (fun K hK => ?_); rotate_left 1; (focus ((simp only [zD, zE, zF]) <;> rfl)); (focus rfl); go_simp)
        refine (replacedC_any X B1 V ⟨c.inp, c.next, [], c.outs⟩ (mapB m) sn none so cn 0 co _ (CirAt.of_blk HX.out) (HB.out _ HD.out).2.1 (.inl rfl) (HB.out _ HD.out).2.2.1 HCV.out (fun W l hW h0 h1 => circ1_any B1 V cm sm m l W (HB.out _ (HD.out.trans (hW.mono HD.out.size))).2.2.2.1 HM.out.1 (HB.out _ (HD.out.trans (hW.mono HD.out.size))).2.2.2.2.2.1 h0 h1 (by omega) HM.out.2)).mono ?_
        rintro e wr ⟨vn2, vg2, vo2, rfl, hown, hq⟩
        have hb := HD.out.trans (hq.mono HD.out.size)
        refine hK.out _ _ (HCS.out _ hb) ?_
        clear hK K
        have ho2 : CirOwn wr W1.heap.size ⟨c.inp, c.next.map (mapB m), [], c.outs.map (mapB m)⟩ vn2 vg2 vo2 := ⟨own_base hown.n HD.out.size, own_base hown.g HD.out.size, own_base hown.o HD.out.size, hown.ne, hown.l1, hown.l2, hown.l3⟩
        obtain ⟨sn2, cn2, rfl⟩ := own_shape ho2.n
        obtain ⟨sg2, cg2, rfl⟩ := own_shape ho2.g
        obtain ⟨so2, co2, rfl⟩ := own_shape ho2.o
        simp only [List.length_map, List.length_nil] at ho2 ⊢
        have HD := Lib.hid hb
        have HO := Lib.hid ho2
        clear hb ho2 hown hq
        (try simp only [Act.put, zA, zB, zC])
        repeat (first | (refine ordt_s (o := ?_) ?_ ?_ ?_; rotate_left 1; (focus ((simp only [zD, zE, zF]) <;> rfl)); (focus rfl); simp only [Act.put, zA, zB, zC]) | (refine ordt_q (o := ?_) (v := ?_) ?_ ?_ ?_ ?_; rotate_left 2; (focus ((simp only [zD, zE, zF]) <;> rfl)); (focus rfl); (focus (intro w' hS; (try dsimp only at hS); go_split_ands; go_simp; (try (with_reducible rfl)))); simp only [Act.put, zA, zB, zC]))
        refine ordt_e ?_
        (refine op_e (o := ?_) ?_ ?_ (fun K hK => ?_); rotate_left 1; (focus ((simp only [zD, zE, zF]) <;> rfl)); (focus rfl); go_simp)
        have hb := (HD.out).alloc (HD.out).size (.cells #[.int .i64 0, .slice none 0 0, .slice none 0 0, .slice none 0 0] 28)
        have hk := blk_new wr (.cells #[.int .i64 0, .slice none 0 0, .slice none 0 0, .slice none 0 0] 28)
        have hs := (HD.out).size
        have hal := (Below.refl wr.heap.size wr).alloc (Nat.le_refl _) (.cells #[.int .i64 0, .slice none 0 0, .slice none 0 0, .slice none 0 0] 28)
        obtain ⟨Y, hY⟩ : ∃ Y, Y = wr.heap.size := ⟨_, rfl⟩
        rw [← hY] at hk hs
        rw [← hY]
        clear hY
        revert hb hk hal
        generalize wr.alloc (.cells #[.int .i64 0, .slice none 0 0, .slice none 0 0, .slice none 0 0] 28) = WY
        intro hb hal hk
        refine hK.out _ _ (HCS.out _ hb) ?_
        clear hK K
        have HD := Lib.hid hb
        have HY := Lib.hid (And.intro hk hs)
        have ho9 : CirOwn WY W1.heap.size ⟨c.inp, c.next.map (mapB m), [], c.outs.map (mapB m)⟩ _ _ _ := ⟨own_below HO.out.n hal, own_below HO.out.g hal, own_below HO.out.o hal, HO.out.ne, HO.out.l1, HO.out.l2, HO.out.l3⟩
        have HO := Lib.hid ho9
        clear ho9
        clear hb hk hs hal
        (try simp only [Act.put, zA, zB, zC])
        repeat (first | (refine ordt_s (o := ?_) ?_ ?_ ?_; rotate_left 1; (focus ((simp only [zD, zE, zF]) <;> rfl)); (focus rfl); simp only [Act.put, zA, zB, zC]) | (refine ordt_q (o := ?_) (v := ?_) ?_ ?_ ?_ ?_; rotate_left 2; (focus ((simp only [zD, zE, zF]) <;> rfl)); (focus rfl); (focus (intro w' hS; (try dsimp only at hS); go_split_ands; go_simp; (try (with_reducible rfl)))); simp only [Act.put, zA, zB, zC]))
        refine ordt_e ?_
        obtain ⟨rc, rf⟩ := blk_all HY.out.1
        (refine op_e (o := ?_) ?_ ?_ (fun K hK => ?_); rotate_left 1; (focus ((simp only [zD, zE, zF]) <;> rfl)); (focus rfl); go_simp)
        have hn1 : WY.ownsRow W1.heap.size 3 1 (.slice sn2 c.next.length cn2) c.next.length (ints (c.next.map (mapB m))) := by have := HO.out.n; simpa only [List.length_map] using this
        have ho1 : WY.ownsRow W1.heap.size 3 1 (.slice so2 c.outs.length co2) c.outs.length (ints (c.outs.map (mapB m))) := by have := HO.out.o; simpa only [List.length_map] using this
        have e1 := own_tyb HO.out.n HY.out.1 (by decide)
        have e2 := own_tyb HO.out.g HY.out.1 (by decide)
        have e3 := own_tyb HO.out.o HY.out.1 (by decide)
        have hZ : ((((WY.setCell ⟨Y, 0, none⟩ (.int .i64 c.inp)).setCell ⟨Y, 1, none⟩ (.slice sn2 c.next.length cn2)).setCell ⟨Y, 2, none⟩ (.slice sg2 0 cg2)).setCell ⟨Y, 3, none⟩ (.slice so2 c.outs.length co2)).heap[Y]? = some (.cells #[.int .i64 c.inp, .slice sn2 c.next.length cn2, .slice sg2 0 cg2, .slice so2 c.outs.length co2] 28 (0, 0)) := by
          simpa using blk_set (o := 3) (v := .slice so2 c.outs.length co2) (blk_set (o := 2) (v := .slice sg2 0 cg2) (blk_set (o := 1) (v := .slice sn2 c.next.length cn2) (blk_set (o := 0) (v := .int .i64 c.inp) HY.out.1)))
        have hOn := own_set_ne (own_set_ne (own_set_ne (own_set_ne (o := 0) hn1 e1 (.int .i64 c.inp)) (o := 1) e1 (.slice sn2 c.next.length cn2)) (o := 2) e1 (.slice sg2 0 cg2)) (o := 3) e1 (.slice so2 c.outs.length co2)
        have hOo := own_set_ne (own_set_ne (own_set_ne (own_set_ne (o := 0) ho1 e3 (.int .i64 c.inp)) (o := 1) e3 (.slice sn2 c.next.length cn2)) (o := 2) e3 (.slice sg2 0 cg2)) (o := 3) e3 (.slice so2 c.outs.length co2)
        have hbz := ((((HD.out).setCell (p := ⟨Y, 0, none⟩) HY.out.2 (.int .i64 c.inp)).setCell (p := ⟨Y, 1, none⟩) HY.out.2 (.slice sn2 c.next.length cn2)).setCell (p := ⟨Y, 2, none⟩) HY.out.2 (.slice sg2 0 cg2)).setCell (p := ⟨Y, 3, none⟩) HY.out.2 (.slice so2 c.outs.length co2)
        clear rc rf e1 e2 e3 hn1 ho1
        revert hZ hOn hOo hbz
        generalize ((((WY.setCell ⟨Y, 0, none⟩ (.int .i64 c.inp)).setCell ⟨Y, 1, none⟩ (.slice sn2 c.next.length cn2)).setCell ⟨Y, 2, none⟩ (.slice sg2 0 cg2)).setCell ⟨Y, 3, none⟩ (.slice so2 c.outs.length co2)) = WZ
        intro hZ hOn hOo hbz
        refine hK.out _ _ (HCS.out _ hbz) ?_
        clear hK K
        (try simp only [Act.put, zA, zB, zC])
        repeat (first | (refine ordt_s (o := ?_) ?_ ?_ ?_; rotate_left 1; (focus ((simp only [zD, zE, zF]) <;> rfl)); (focus rfl); simp only [Act.put, zA, zB, zC]) | (refine ordt_q (o := ?_) (v := ?_) ?_ ?_ ?_ ?_; rotate_left 2; (focus ((simp only [zD, zE, zF]) <;> rfl)); (focus rfl); (focus (intro w' hS; (try dsimp only at hS); go_split_ands; go_simp; (try (with_reducible rfl)))); simp only [Act.put, zA, zB, zC]))
        refine ordt_nil ?_
        go_wp2_with fail
        go_meet
        exact ⟨Y, sn2, cn2, sg2, cg2, so2, co2, rfl, hZ, hOn, hOo, hbz, HY.out.2⟩
      · (refine op_e (o := ?_) ?_ ?_ (fun K hK => ?_); rotate_left 1; (focus ((simp only [zD, zE, zF]) <;> rfl)); (focus rfl); go_simp)
        have hb := (HD.out).alloc (HD.out).size (.cells #[.int .i64 0, .slice none 0 0, .slice none 0 0, .slice none 0 0] 28)
        have hk := blk_new WX (.cells #[.int .i64 0, .slice none 0 0, .slice none 0 0, .slice none 0 0] 28)
        have hs := (HD.out).size
        have hal := (Below.refl WX.heap.size WX).alloc (Nat.le_refl _) (.cells #[.int .i64 0, .slice none 0 0, .slice none 0 0, .slice none 0 0] 28)
        obtain ⟨Y, hY⟩ : ∃ Y, Y = WX.heap.size := ⟨_, rfl⟩
        rw [← hY] at hk hs
        rw [← hY]
        clear hY
        revert hb hk hal
        generalize WX.alloc (.cells #[.int .i64 0, .slice none 0 0, .slice none 0 0, .slice none 0 0] 28) = WY
        intro hb hal hk
        refine hK.out _ _ (HCS.out _ hb) ?_
        clear hK K
        have HD := Lib.hid hb
        have HY := Lib.hid (And.intro hk hs)
        have HX := Lib.hid (blk_below hal (blk_lt HX.out) HX.out)
        clear hb hk hs hal
        (try simp only [Act.put, zA, zB, zC])
        repeat (first | (refine ordt_s (o := ?_) ?_ ?_ ?_; rotate_left 1; (focus ((simp only [zD, zE, zF]) <;> rfl)); (focus rfl); simp only [Act.put, zA, zB, zC]) | (refine ordt_q (o := ?_) (v := ?_) ?_ ?_ ?_ ?_; rotate_left 2; (focus ((simp only [zD, zE, zF]) <;> rfl)); (focus rfl); (focus (intro w' hS; (try dsimp only at hS); go_split_ands; go_simp; (try (with_reducible rfl)))); simp only [Act.put, zA, zB, zC]))
        refine ordt_e ?_
        (refine op_e (o := ?_) ?_ ?_ (fun K hK => ?_); rotate_left 1; (focus ((simp only [zD, zE, zF]) <;> rfl)); (focus rfl); go_simp)
        refine (replacedC_any X B1 V ⟨c.inp, c.next, [], c.outs⟩ (mapB m) sn none so cn 0 co _ (CirAt.of_blk HX.out) (HB.out _ HD.out).2.1 (.inl rfl) (HB.out _ HD.out).2.2.1 HCV.out (fun W l hW h0 h1 => circ1_any B1 V cm sm m l W (HB.out _ (HD.out.trans (hW.mono HD.out.size))).2.2.2.1 HM.out.1 (HB.out _ (HD.out.trans (hW.mono HD.out.size))).2.2.2.2.2.1 h0 h1 (by omega) HM.out.2)).mono ?_
        rintro e wr ⟨vn2, vg2, vo2, rfl, hown, hq⟩
        have hb := HD.out.trans (hq.mono HD.out.size)
        refine hK.out _ _ (HCS.out _ hb) ?_
        clear hK K
        have ho2 : CirOwn wr W1.heap.size ⟨c.inp, c.next.map (mapB m), [], c.outs.map (mapB m)⟩ vn2 vg2 vo2 := ⟨own_base hown.n HD.out.size, own_base hown.g HD.out.size, own_base hown.o HD.out.size, hown.ne, hown.l1, hown.l2, hown.l3⟩
        obtain ⟨sn2, cn2, rfl⟩ := own_shape ho2.n
        obtain ⟨sg2, cg2, rfl⟩ := own_shape ho2.g
        obtain ⟨so2, co2, rfl⟩ := own_shape ho2.o
        simp only [List.length_map, List.length_nil] at ho2 ⊢
        have HY := Lib.hid (And.intro (blk_below hq (blk_lt HY.out.1) HY.out.1) HY.out.2)
        have HD := Lib.hid hb
        have HO := Lib.hid ho2
        clear hb ho2 hown hq
        (try simp only [Act.put, zA, zB, zC])
        repeat (first | (refine ordt_s (o := ?_) ?_ ?_ ?_; rotate_left 1; (focus ((simp only [zD, zE, zF]) <;> rfl)); (focus rfl); simp only [Act.put, zA, zB, zC]) | (refine ordt_q (o := ?_) (v := ?_) ?_ ?_ ?_ ?_; rotate_left 2; (focus ((simp only [zD, zE, zF]) <;> rfl)); (focus rfl); (focus (intro w' hS; (try dsimp only at hS); go_split_ands; go_simp; (try (with_reducible rfl)))); simp only [Act.put, zA, zB, zC]))
        refine ordt_e ?_
        obtain ⟨rc, rf⟩ := blk_all HY.out.1
        (refine op_e (o := ?_) ?_ ?_ (fun K hK => ?_); rotate_left 1; (focus ((simp only [zD, zE, zF]) <;> rfl)); (focus rfl); go_simp)
        have hn1 : wr.ownsRow W1.heap.size 3 1 (.slice sn2 c.next.length cn2) c.next.length (ints (c.next.map (mapB m))) := by have := HO.out.n; simpa only [List.length_map] using this
        have ho1 : wr.ownsRow W1.heap.size 3 1 (.slice so2 c.outs.length co2) c.outs.length (ints (c.outs.map (mapB m))) := by have := HO.out.o; simpa only [List.length_map] using this
        have e1 := own_tyb HO.out.n HY.out.1 (by decide)
        have e2 := own_tyb HO.out.g HY.out.1 (by decide)
        have e3 := own_tyb HO.out.o HY.out.1 (by decide)
        have hZ : ((((wr.setCell ⟨Y, 0, none⟩ (.int .i64 c.inp)).setCell ⟨Y, 1, none⟩ (.slice sn2 c.next.length cn2)).setCell ⟨Y, 2, none⟩ (.slice sg2 0 cg2)).setCell ⟨Y, 3, none⟩ (.slice so2 c.outs.length co2)).heap[Y]? = some (.cells #[.int .i64 c.inp, .slice sn2 c.next.length cn2, .slice sg2 0 cg2, .slice so2 c.outs.length co2] 28 (0, 0)) := by
          simpa using blk_set (o := 3) (v := .slice so2 c.outs.length co2) (blk_set (o := 2) (v := .slice sg2 0 cg2) (blk_set (o := 1) (v := .slice sn2 c.next.length cn2) (blk_set (o := 0) (v := .int .i64 c.inp) HY.out.1)))
        have hOn := own_set_ne (own_set_ne (own_set_ne (own_set_ne (o := 0) hn1 e1 (.int .i64 c.inp)) (o := 1) e1 (.slice sn2 c.next.length cn2)) (o := 2) e1 (.slice sg2 0 cg2)) (o := 3) e1 (.slice so2 c.outs.length co2)
        have hOo := own_set_ne (own_set_ne (own_set_ne (own_set_ne (o := 0) ho1 e3 (.int .i64 c.inp)) (o := 1) e3 (.slice sn2 c.next.length cn2)) (o := 2) e3 (.slice sg2 0 cg2)) (o := 3) e3 (.slice so2 c.outs.length co2)
        have hbz := ((((HD.out).setCell (p := ⟨Y, 0, none⟩) HY.out.2 (.int .i64 c.inp)).setCell (p := ⟨Y, 1, none⟩) HY.out.2 (.slice sn2 c.next.length cn2)).setCell (p := ⟨Y, 2, none⟩) HY.out.2 (.slice sg2 0 cg2)).setCell (p := ⟨Y, 3, none⟩) HY.out.2 (.slice so2 c.outs.length co2)
        clear rc rf e1 e2 e3 hn1 ho1
        revert hZ hOn hOo hbz
        generalize ((((wr.setCell ⟨Y, 0, none⟩ (.int .i64 c.inp)).setCell ⟨Y, 1, none⟩ (.slice sn2 c.next.length cn2)).setCell ⟨Y, 2, none⟩ (.slice sg2 0 cg2)).setCell ⟨Y, 3, none⟩ (.slice so2 c.outs.length co2)) = WZ
        intro hZ hOn hOo hbz
        refine hK.out _ _ (HCS.out _ hbz) ?_
        clear hK K
        (try simp only [Act.put, zA, zB, zC])
        repeat (first | (refine ordt_s (o := ?_) ?_ ?_ ?_; rotate_left 1; (focus ((simp only [zD, zE, zF]) <;> rfl)); (focus rfl); simp only [Act.put, zA, zB, zC]) | (refine ordt_q (o := ?_) (v := ?_) ?_ ?_ ?_ ?_; rotate_left 2; (focus ((simp only [zD, zE, zF]) <;> rfl)); (focus rfl); (focus (intro w' hS; (try dsimp only at hS); go_split_ands; go_simp; (try (with_reducible rfl)))); simp only [Act.put, zA, zB, zC]))
        refine ordt_nil ?_
        go_wp2_with fail
        go_meet
        exact ⟨Y, sn2, cn2, sg2, cg2, so2, co2, rfl, hZ, hOn, hOo, hbz, HY.out.2⟩
    · (refine op_e (o := ?_) ?_ ?_ (fun K hK => ?_); rotate_left 1; (focus ((simp only [zD, zE, zF]) <;> rfl)); (focus rfl); go_simp)
      have hb := (HD.out).alloc (HD.out).size (.cells #[.int .i64 0, .slice none 0 0, .slice none 0 0, .slice none 0 0] 28)
      have hk := blk_new Wd (.cells #[.int .i64 0, .slice none 0 0, .slice none 0 0, .slice none 0 0] 28)
      have hs := (HD.out).size
      have hal := (Below.refl Wd.heap.size Wd).alloc (Nat.le_refl _) (.cells #[.int .i64 0, .slice none 0 0, .slice none 0 0, .slice none 0 0] 28)
      obtain ⟨Y, hY⟩ : ∃ Y, Y = Wd.heap.size := ⟨_, rfl⟩
      rw [← hY] at hk hs
      rw [← hY]
      clear hY
      revert hb hk hal
      generalize Wd.alloc (.cells #[.int .i64 0, .slice none 0 0, .slice none 0 0, .slice none 0 0] 28) = WY
      intro hb hal hk
      refine hK.out _ _ (HCS.out _ hb) ?_
      clear hK K
      have HD := Lib.hid hb
      have HY := Lib.hid (And.intro hk hs)
      clear hb hk hs hal
      (try simp only [Act.put, zA, zB, zC])
      repeat (first | (refine ordt_s (o := ?_) ?_ ?_ ?_; rotate_left 1; (focus ((simp only [zD, zE, zF]) <;> rfl)); (focus rfl); simp only [Act.put, zA, zB, zC]) | (refine ordt_q (o := ?_) (v := ?_) ?_ ?_ ?_ ?_; rotate_left 2; (focus ((simp only [zD, zE, zF]) <;> rfl)); (focus rfl); (focus (intro w' hS; (try dsimp only at hS); go_split_ands; go_simp; (try (with_reducible rfl)))); simp only [Act.put, zA, zB, zC]))
      refine ordt_e ?_
      (refine op_e (o := ?_) ?_ ?_ (fun K hK => ?_); rotate_left 1; (focus ((simp only [zD, zE, zF]) <;> rfl)); (focus rfl); go_simp)
      have hb := (HD.out).alloc (HD.out).size (.cells #[.int .i64 c.inp, .slice sn c.next.length cn, .slice none 0 0, .slice so c.outs.length co] 28)
      have hk := blk_new WY (.cells #[.int .i64 c.inp, .slice sn c.next.length cn, .slice none 0 0, .slice so c.outs.length co] 28)
      have hy := blk_old (o := .cells #[.int .i64 c.inp, .slice sn c.next.length cn, .slice none 0 0, .slice so c.outs.length co] 28) HY.out.1
      obtain ⟨X, hX⟩ : ∃ X, X = WY.heap.size := ⟨_, rfl⟩
      rw [← hX] at hk
      rw [← hX]
      clear hX
      revert hb hk hy
      generalize WY.alloc (.cells #[.int .i64 c.inp, .slice sn c.next.length cn, .slice none 0 0, .slice so c.outs.length co] 28) = WX
      intro hb hy hk
      refine hK.out _ _ (HCS.out _ hb) ?_
      clear hK K
      have HD := Lib.hid hb
      have HX := Lib.hid hk
      have HY := Lib.hid (And.intro hy HY.out.2)
      clear hy
      clear hb hk
      (try simp only [Act.put, zA, zB, zC])
      repeat (first | (refine ordt_s (o := ?_) ?_ ?_ ?_; rotate_left 1; (focus ((simp only [zD, zE, zF]) <;> rfl)); (focus rfl); simp only [Act.put, zA, zB, zC]) | (refine ordt_q (o := ?_) (v := ?_) ?_ ?_ ?_ ?_; rotate_left 2; (focus ((simp only [zD, zE, zF]) <;> rfl)); (focus rfl); (focus (intro w' hS; (try dsimp only at hS); go_split_ands; go_simp; (try (with_reducible rfl)))); simp only [Act.put, zA, zB, zC]))
      refine ordt_e ?_
      (refine op_e (o := ?_) ?_ ?_ (fun K hK => ?_); rotate_left 1; (focus ((simp only [zD, zE, zF]) <;> rfl)); (focus rfl); go_simp)
      refine (replacedC_any X B1 V ⟨c.inp, c.next, [], c.outs⟩ (mapB m) sn none so cn 0 co _ (CirAt.of_blk HX.out) (HB.out _ HD.out).2.1 (.inl rfl) (HB.out _ HD.out).2.2.1 HCV.out (fun W l hW h0 h1 => circ1_any B1 V cm sm m l W (HB.out _ (HD.out.trans (hW.mono HD.out.size))).2.2.2.1 HM.out.1 (HB.out _ (HD.out.trans (hW.mono HD.out.size))).2.2.2.2.2.1 h0 h1 (by omega) HM.out.2)).mono ?_
      rintro e wr ⟨vn2, vg2, vo2, rfl, hown, hq⟩
      have hb := HD.out.trans (hq.mono HD.out.size)
      refine hK.out _ _ (HCS.out _ hb) ?_
      clear hK K
      have ho2 : CirOwn wr W1.heap.size ⟨c.inp, c.next.map (mapB m), [], c.outs.map (mapB m)⟩ vn2 vg2 vo2 := ⟨own_base hown.n HD.out.size, own_base hown.g HD.out.size, own_base hown.o HD.out.size, hown.ne, hown.l1, hown.l2, hown.l3⟩
      obtain ⟨sn2, cn2, rfl⟩ := own_shape ho2.n
      obtain ⟨sg2, cg2, rfl⟩ := own_shape ho2.g
      obtain ⟨so2, co2, rfl⟩ := own_shape ho2.o
      simp only [List.length_map, List.length_nil] at ho2 ⊢
      have HY := Lib.hid (And.intro (blk_below hq (blk_lt HY.out.1) HY.out.1) HY.out.2)
      have HD := Lib.hid hb
      have HO := Lib.hid ho2
      clear hb ho2 hown hq
      (try simp only [Act.put, zA, zB, zC])
      repeat (first | (refine ordt_s (o := ?_) ?_ ?_ ?_; rotate_left 1; (focus ((simp only [zD, zE, zF]) <;> rfl)); (focus rfl); simp only [Act.put, zA, zB, zC]) | (refine ordt_q (o := ?_) (v := ?_) ?_ ?_ ?_ ?_; rotate_left 2; (focus ((simp only [zD, zE, zF]) <;> rfl)); (focus rfl); (focus (intro w' hS; (try dsimp only at hS); go_split_ands; go_simp; (try (with_reducible rfl)))); simp only [Act.put, zA, zB, zC]))
      refine ordt_e ?_
      obtain ⟨rc, rf⟩ := blk_all HY.out.1
      (refine op_e (o := ?_) ?_ ?_ (fun K hK => ?_); rotate_left 1; (focus ((simp only [zD, zE, zF]) <;> rfl)); (focus rfl); go_simp)
      have hn1 : wr.ownsRow W1.heap.size 3 1 (.slice sn2 c.next.length cn2) c.next.length (ints (c.next.map (mapB m))) := by have := HO.out.n; simpa only [List.length_map] using this
      have ho1 : wr.ownsRow W1.heap.size 3 1 (.slice so2 c.outs.length co2) c.outs.length (ints (c.outs.map (mapB m))) := by have := HO.out.o; simpa only [List.length_map] using this
      have e1 := own_tyb HO.out.n HY.out.1 (by decide)
      have e2 := own_tyb HO.out.g HY.out.1 (by decide)
      have e3 := own_tyb HO.out.o HY.out.1 (by decide)
      have hZ : ((((wr.setCell ⟨Y, 0, none⟩ (.int .i64 c.inp)).setCell ⟨Y, 1, none⟩ (.slice sn2 c.next.length cn2)).setCell ⟨Y, 2, none⟩ (.slice sg2 0 cg2)).setCell ⟨Y, 3, none⟩ (.slice so2 c.outs.length co2)).heap[Y]? = some (.cells #[.int .i64 c.inp, .slice sn2 c.next.length cn2, .slice sg2 0 cg2, .slice so2 c.outs.length co2] 28 (0, 0)) := by
        simpa using blk_set (o := 3) (v := .slice so2 c.outs.length co2) (blk_set (o := 2) (v := .slice sg2 0 cg2) (blk_set (o := 1) (v := .slice sn2 c.next.length cn2) (blk_set (o := 0) (v := .int .i64 c.inp) HY.out.1)))
      have hOn := own_set_ne (own_set_ne (own_set_ne (own_set_ne (o := 0) hn1 e1 (.int .i64 c.inp)) (o := 1) e1 (.slice sn2 c.next.length cn2)) (o := 2) e1 (.slice sg2 0 cg2)) (o := 3) e1 (.slice so2 c.outs.length co2)
      have hOo := own_set_ne (own_set_ne (own_set_ne (own_set_ne (o := 0) ho1 e3 (.int .i64 c.inp)) (o := 1) e3 (.slice sn2 c.next.length cn2)) (o := 2) e3 (.slice sg2 0 cg2)) (o := 3) e3 (.slice so2 c.outs.length co2)
      have hbz := ((((HD.out).setCell (p := ⟨Y, 0, none⟩) HY.out.2 (.int .i64 c.inp)).setCell (p := ⟨Y, 1, none⟩) HY.out.2 (.slice sn2 c.next.length cn2)).setCell (p := ⟨Y, 2, none⟩) HY.out.2 (.slice sg2 0 cg2)).setCell (p := ⟨Y, 3, none⟩) HY.out.2 (.slice so2 c.outs.length co2)
      clear rc rf e1 e2 e3 hn1 ho1
      revert hZ hOn hOo hbz
      generalize ((((wr.setCell ⟨Y, 0, none⟩ (.int .i64 c.inp)).setCell ⟨Y, 1, none⟩ (.slice sn2 c.next.length cn2)).setCell ⟨Y, 2, none⟩ (.slice sg2 0 cg2)).setCell ⟨Y, 3, none⟩ (.slice so2 c.outs.length co2)) = WZ
      intro hZ hOn hOo hbz
      refine hK.out _ _ (HCS.out _ hbz) ?_
      clear hK K
      (try simp only [Act.put, zA, zB, zC])
      repeat (first | (refine ordt_s (o := ?_) ?_ ?_ ?_; rotate_left 1; (focus ((simp only [zD, zE, zF]) <;> rfl)); (focus rfl); simp only [Act.put, zA, zB, zC]) | (refine ordt_q (o := ?_) (v := ?_) ?_ ?_ ?_ ?_; rotate_left 2; (focus ((simp only [zD, zE, zF]) <;> rfl)); (focus rfl); (focus (intro w' hS; (try dsimp only at hS); go_split_ands; go_simp; (try (with_reducible rfl)))); simp only [Act.put, zA, zB, zC]))
      refine ordt_nil ?_
      go_wp2_with fail
      go_meet
      exact ⟨Y, sn2, cn2, sg2, cg2, so2, co2, rfl, hZ, hOn, hOo, hbz, HY.out.2⟩
  case rest =>
    obtain ⟨Y, sn2, cn2, sg2, cg2, so2, co2, rfl, hY, hOn, hOo, hb, hYs⟩ := hcut
    have HC := Lib.hid (And.intro hY (And.intro hOn (And.intro hOo hb)))
    have cbb := (HB.out _ hb).2.2.2.2.2.2.1.cells.1
    obtain ⟨rc, rf⟩ := blk_all hY
    clear hY hOn hOo hb
    go_upto_region 3 with fail
    have hY3 : (wc.setCell ⟨Y, 2, none⟩ (.slice s3 gs.length c3)).heap[Y]? = some (.cells #[.int .i64 c.inp, .slice sn2 c.next.length cn2, .slice s3 gs.length c3, .slice so2 c.outs.length co2] 28 (0, 0)) := by
      simpa using blk_set (o := 2) (v := .slice s3 gs.length c3) HC.out.1
    have hOn3 := own_set_ne (b := Y) (o := 2) HC.out.2.1 (own_tyb HC.out.2.1 HC.out.1 (by decide)) (.slice s3 gs.length c3)
    have hOo3 := own_set_ne (b := Y) (o := 2) HC.out.2.2.1 (own_tyb HC.out.2.2.1 HC.out.1 (by decide)) (.slice s3 gs.length c3)
    have hb3 := HC.out.2.2.2.setCell (p := ⟨Y, 2, none⟩) hYs (.slice s3 gs.length c3)
    clear rc rf cbb
    revert hY3 hOn3 hOo3 hb3
    generalize wc.setCell ⟨Y, 2, none⟩ (.slice s3 gs.length c3) = W5
    intro hY3 hOn3 hOo3 hb3
    have H5 := Lib.hid (And.intro hY3 (And.intro hOn3 (And.intro hOo3 hb3)))
    have cY := (blk_all hY3).1
    obtain ⟨rc, rf⟩ := blk_all (HB.out _ hb3).2.2.2.2.1
    clear hY3 hOn3 hOo3 hb3 HC
    go_wp2_with fail
    have hR := (HB.out _ H5.out.2.2.2).2.2.2.2.1
    have hbw := (HB.out _ H5.out.2.2.2).2.2.2.2.2.2.2
    have hgg := own_sl (HB.out _ H5.out.2.2.2).2.2.2.2.2.2.1.g
    have hz2 := HW.out.2.2
    have hA2 : w.heap.size = B1 := HW.out.2.1.symm
    have e1 := own_tyb H5.out.2.1 hR (by decide)
    have e3 := own_tyb H5.out.2.2.1 hR (by decide)
    have e2 := own_tyb (HB.out _ H5.out.2.2.2).2.2.2.2.2.2.1.g hR (by decide)
    have hOg := (HB.out _ H5.out.2.2.2).2.2.2.2.2.2.1.g
    have hZ : ((((W5.setCell ⟨B1 + 1, 0, none⟩ (.int .i64 c.inp)).setCell ⟨B1 + 1, 1, none⟩ (.slice sn2 c.next.length cn2)).setCell ⟨B1 + 1, 2, none⟩ (.slice s3 gs.length c3)).setCell ⟨B1 + 1, 3, none⟩ (.slice so2 c.outs.length co2)).heap[B1 + 1]? = some (.cells #[.int .i64 c.inp, .slice sn2 c.next.length cn2, .slice s3 gs.length c3, .slice so2 c.outs.length co2] 28 (0, 0)) := by
      simpa using blk_set (o := 3) (v := .slice so2 c.outs.length co2) (blk_set (o := 2) (v := .slice s3 gs.length c3) (blk_set (o := 1) (v := .slice sn2 c.next.length cn2) (blk_set (o := 0) (v := .int .i64 c.inp) hR)))
    have hn9 := own_set_ne (own_set_ne (own_set_ne (own_set_ne (o := 0) H5.out.2.1 e1 (.int .i64 c.inp)) (o := 1) e1 (.slice sn2 c.next.length cn2)) (o := 2) e1 (.slice s3 gs.length c3)) (o := 3) e1 (.slice so2 c.outs.length co2)
    have ho9 := own_set_ne (own_set_ne (own_set_ne (own_set_ne (o := 0) H5.out.2.2.1 e3 (.int .i64 c.inp)) (o := 1) e3 (.slice sn2 c.next.length cn2)) (o := 2) e3 (.slice s3 gs.length c3)) (o := 3) e3 (.slice so2 c.outs.length co2)
    have hg9 := own_set_ne (own_set_ne (own_set_ne (own_set_ne (o := 0) hOg e2 (.int .i64 c.inp)) (o := 1) e2 (.slice sn2 c.next.length cn2)) (o := 2) e2 (.slice s3 gs.length c3)) (o := 3) e2 (.slice so2 c.outs.length co2)
    have hbz := (((hbw.setCell (p := ⟨B1 + 1, 0, none⟩) (by simp; omega) (.int .i64 c.inp)).setCell (p := ⟨B1 + 1, 1, none⟩) (by simp; omega) (.slice sn2 c.next.length cn2)).setCell (p := ⟨B1 + 1, 2, none⟩) (by simp; omega) (.slice s3 gs.length c3)).setCell (p := ⟨B1 + 1, 3, none⟩) (by simp; omega) (.slice so2 c.outs.length co2)
    clear rc rf e1 e2 e3
    revert hZ hn9 ho9 hg9 hbz
    generalize ((((W5.setCell ⟨B1 + 1, 0, none⟩ (.int .i64 c.inp)).setCell ⟨B1 + 1, 1, none⟩ (.slice sn2 c.next.length cn2)).setCell ⟨B1 + 1, 2, none⟩ (.slice s3 gs.length c3)).setCell ⟨B1 + 1, 3, none⟩ (.slice so2 c.outs.length co2)) = WZ
    intro hZ hn9 ho9 hg9 hbz
    have cr := (blk_all hZ).1
    have hcv : CirV WZ (.agg #[.int .i64 c.inp, .slice sn2 (c.next.map (mapB m)).length cn2, .slice s3 gs.length c3, .slice so2 (c.outs.map (mapB m)).length co2]) (cirR c gs m) := ⟨_, _, _, _, _, _, rfl, by show Sl WZ sn2 (ints (c.next.map (mapB m))); simpa using own_sl hn9, own_sl hg9, by show Sl WZ so2 (ints (c.outs.map (mapB m))); simpa using own_sl ho9, by show (c.next.map (mapB m)).length ≤ _; simp; omega, by show gs.length ≤ _; omega, by show (c.outs.map (mapB m)).length ≤ _; simp; omega⟩
    simp only [List.length_map] at hcv
    exact bodyPost_ret (v := .agg #[.int .i64 c.inp, .slice sn2 c.next.length cn2, .slice s3 gs.length c3, .slice so2 c.outs.length co2]) (by simp [results, Try.results36, go_sem, cr]) rfl ⟨_, _, _, rfl, hcv, hbz⟩

/-! optimize. -/

theorem bldP_tstep {c : Cir} {k : Nat} {g : Gt} {x : Bool} (h : c.gates[k]? = some g) (hx : (usedL c)[k]? = some x) : bldP c true (k + 1) = if x then ((andL c.first (bldP c true k).1 (mapB (bldP c true k).2 g.a) (mapB (bldP c true k).2 g.b)).1, (bldP c true k).2 ++ [(andL c.first (bldP c true k).1 (mapB (bldP c true k).2 g.a) (mapB (bldP c true k).2 g.b)).2]) else ((bldP c true k).1, (bldP c true k).2 ++ [0]) := by
  have e : (usedL c).getD k false = x := by rw [List.getD_eq_getElem?_getD, hx]; rfl
  rw [bldP_succ h]
  unfold bStep
  rw [e]
  cases x
  · rfl
  · rfl

theorem BX.chg {F : Nat} {W0 W W' : World} {bb mb : Nat} {gs : List Gt} {ls : List Int} {ms : List Gt} {vg vl : Value} (h : BX F W0 bb mb gs ls ms vg vl W) {S : Nat → Prop} (hc : Chg S W W') (h1 : ¬ S bb) (h2 : ¬ S mb) (h3 : ∀ k, vg.ownBlock = some k → ¬ S k) (h4 : ∀ k, vl.ownBlock = some k → ¬ S k) (hb : Below W0.heap.size W0 W') : BX F W0 bb mb gs ls ms vg vl W' := by
  obtain ⟨es, clock, hm, m⟩ := h.map
  exact ⟨hc.blk h.blk h1, hc.own h.g h3, hc.own h.l h4, ⟨es, clock, hc.blk hm h2, m⟩, hb, h.hb, h.hm⟩

set_option maxRecDepth 100000 in
set_option maxHeartbeats 3200000 in
theorem optimize_any (b : Nat) (sn sg so : Option Addr) (cn cg co : Nat) (c : Cir) (w : World) (h : CirAt w b c.inp (.slice sn c.next.length cn) (.slice sg c.gates.length cg) (.slice so c.outs.length co)) (hn : Sl w sn (ints c.next)) (hg : Sl w sg (gcells c.gates)) (ho : Sl w so (ints c.outs)) (hv : c.wide) :
    Calls Try.prog 28 #[.pointer (some ⟨b, 0, none⟩)] w fun e w' => ∃ vn vg vo, e = .returned (.agg #[.int .i64 c.inp, vn, vg, vo]) ∧ CirOwn w' w.heap.size (optC c) vn vg vo ∧ Below w.heap.size w w' := by
  have HBl : Hid (b < w.heap.size) := World.block_lt_of_cell? w _ h.h0
  obtain ⟨q1, q2, q3, q4, q5⟩ := id hv.lim
  obtain ⟨F, hF⟩ : ∃ F : Nat, 1 + c.inp + (c.next.length : Int) = F := ⟨(1 + c.inp + (c.next.length : Int)).toNat, by omega⟩
  obtain ⟨n, hnn⟩ : ∃ n, n = c.gates.length := ⟨_, rfl⟩
  obtain ⟨V, hV⟩ : ∃ V, V = F + n := ⟨_, rfl⟩
  have hF8 : F ≤ 8 := by omega
  have hn14 : n ≤ 120 := by omega
  have hV22 : V ≤ 130 := by omega
  have eV : c.vars = (V : Int) := by unfold Cir.vars; omega
  have eVn : c.vars.toNat = V := by rw [eV, Int.toNat_natCast]
  have eF : c.first.toNat = F := by rw [show c.first = (F : Int) from hF, Int.toNat_natCast]
  have k1 := blk_new w (.cells #[.int .i64 0, .slice none 0 0, .slice none 0 0, .slice none 0 0] 28)
  have b1 := (Below.refl w.heap.size w).alloc (Nat.le_refl _) (.cells #[.int .i64 0, .slice none 0 0, .slice none 0 0, .slice none 0 0] 28)
  have s1 : (w.alloc (.cells #[.int .i64 0, .slice none 0 0, .slice none 0 0, .slice none 0 0] 28)).heap.size = w.heap.size + 1 := by simp
  have HB : Hid (∀ W, Below w.heap.size w W → CirAt W b c.inp (.slice sn c.next.length cn) (.slice sg n cg) (.slice so c.outs.length co) ∧ Sl W sn (ints c.next) ∧ Sl W sg (gcells c.gates) ∧ Sl W so (ints c.outs)) := fun W hb => by
    rw [hnn]
    exact ⟨⟨(hb.cell (p := ⟨b, 0, none⟩) HBl.out).trans h.h0, (hb.cell (p := ⟨b, 1, none⟩) HBl.out).trans h.h1, (hb.cell (p := ⟨b, 2, none⟩) HBl.out).trans h.h2, (hb.cell (p := ⟨b, 3, none⟩) HBl.out).trans h.h3⟩, hn.mono hb, hg.mono hb, ho.mono hb⟩
  have HVV := Lib.hid (And.intro hv (And.intro eV (And.intro eVn eF)))
  have HFF := Lib.hid (And.intro hF (And.intro hV hnn))
  have H0 := Lib.hid (And.intro k1 (And.intro b1 s1))
  clear h hn hg ho hv hF eV eVn eF k1 b1 s1 q4 hV hnn
  go_enter Try.func28, Try.ntmps28
  go_upto_region 1 with fail
  revert H0
  generalize w.alloc (.cells #[.int .i64 0, .slice none 0 0, .slice none 0 0, .slice none 0 0] 28) = W1
  intro H0
  go_upto_region 2 with (go_at_call 72; refine (reached_any b sn sg so cn cg co c _ ⟨(HB.out _ H0.out.2.1).1.h0, (HB.out _ H0.out.2.1).1.h1, by rw [← HFF.out.2.2]; exact (HB.out _ H0.out.2.1).1.h2, (HB.out _ H0.out.2.1).1.h3⟩ (HB.out _ H0.out.2.1).2.1 (HB.out _ H0.out.2.1).2.2.1 (HB.out _ H0.out.2.1).2.2.2 HVV.out.1).mono ?_; rintro e w2 ⟨U, rfl, hu, hU, hq⟩; rw [HVV.out.2.2.1]; have H1 := Lib.hid (And.intro hu (And.intro (show w.heap.size + 1 ≤ U by rw [← H0.out.2.2]; exact hU) (And.intro (blk_below hq (blk_lt H0.out.1) H0.out.1) (H0.out.2.1.trans (hq.mono H0.out.2.1.size))))); clear hu hU hq)
  obtain ⟨W3, hW3⟩ : ∃ W3, W3 = w2.drew := ⟨_, rfl⟩
  have HW : Hid (∀ W, Below W3.heap.size W3 W → W.heap[U]? = some (.cells (bools (rchL c)).toArray 4 (0, 0)) ∧ W.heap[w.heap.size]? = some (.cells #[.int .i64 0, .slice none 0 0, .slice none 0 0, .slice none 0 0] 28 (0, 0)) ∧ Below w.heap.size w W) := fun W hW => by
    have hb : Below w2.heap.size w2 W := by
      have h1 : Below w2.heap.size w2 W3 := by rw [hW3]; exact (Below.refl _ _).drew
      exact h1.trans (hW.mono h1.size)
    exact ⟨blk_below hb (blk_lt H1.out.1) H1.out.1, blk_below hb (blk_lt H1.out.2.2.1) H1.out.2.2.1, H1.out.2.2.2.trans (hb.mono H1.out.2.2.2.size)⟩
  have HC3 : Hid (CirAt W3 b c.inp (.slice sn c.next.length cn) (.slice sg n cg) (.slice so c.outs.length co)) := (HB.out _ (HW.out _ (Below.refl _ _)).2.2).1
  have hRU : w.heap.size < W3.heap.size := blk_lt (HW.out _ (Below.refl _ _)).2.1
  go_cut [4] from 4 to 9 (fun s4 wx => ∃ bb mb vl, s4 = .pointer (some ⟨bb, 0, none⟩) ∧ BX F W3 bb mb [] (lvlL F []) [] (.slice none 0 0) vl wx)
  case first =>
    refine wp_region_T (fun w' => w'.cell? ⟨b, 0, none⟩ = some (.int .i64 c.inp) ∧ w'.cell? ⟨b, 1, none⟩ = some (.slice sn c.next.length cn)) (.q 0 (.q 1 (.q 2 (.q 3 (.q 4 (.q 5 (.q 6 (.q 7 (.q 8 (.e 9 (.q 10 .nil))))))))))) (by kernel_rfl) (by kernel_rfl) (by kernel_rfl) (by rw [← hW3]; exact ⟨HC3.out.h0, HC3.out.h1⟩) ?_
    repeat (first | (refine ordt_s (o := ?_) ?_ ?_ ?_; rotate_left 1; (focus ((simp only [zD, zE, zF]) <;> rfl)); (focus rfl); simp only [Act.put, zA, zB, zC]) | (refine ordt_q (o := ?_) (v := ?_) ?_ ?_ ?_ ?_; rotate_left 2; (focus ((simp only [zD, zE, zF]) <;> rfl)); (focus rfl); (focus (intro w' hS; (try dsimp only at hS); go_split_ands; go_simp; (try (with_reducible rfl)))); simp only [Act.put, zA, zB, zC]))
    refine ordt_e ?_
    (refine op_e (o := ?_) ?_ ?_ (fun K hK => ?_); rotate_left 1; (focus ((simp only [zD, zE, zF]) <;> rfl)); (focus rfl); go_simp)
    rw [← hW3]
    refine (newBuilder_any F c.inp c.next.length W3 HFF.out.1 (by omega) (by omega)).mono ?_
    rintro e w4 ⟨bb, mb, vl, rfl, hx⟩
    have HC4 := (HB.out _ (HW.out _ hx.bl).2.2).1
    refine hK.out _ _ ⟨HC4.h0, HC4.h1⟩ ?_
    clear hK K HC4
    have HX := Lib.hid hx
    clear hx
    (try simp only [Act.put, zA, zB, zC])
    repeat (first | (refine ordt_s (o := ?_) ?_ ?_ ?_; rotate_left 1; (focus ((simp only [zD, zE, zF]) <;> rfl)); (focus rfl); simp only [Act.put, zA, zB, zC]) | (refine ordt_q (o := ?_) (v := ?_) ?_ ?_ ?_ ?_; rotate_left 2; (focus ((simp only [zD, zE, zF]) <;> rfl)); (focus rfl); (focus (intro w' hS; (try dsimp only at hS); go_split_ands; go_simp; (try (with_reducible rfl)))); simp only [Act.put, zA, zB, zC]))
    refine ordt_nil ?_
    go_wp2_with fail
    go_meet
    exact ⟨bb, mb, vl, rfl, HX.out⟩
  case rest =>
    obtain ⟨bb, mb, vl0, rfl, hx⟩ := hcut
    have HX := Lib.hid hx
    clear hx hW3
    go_upto_region 4 with (go_at_call 30; refine (ownLits_any F b c.inp sn c.next.length cn _ _ wc (HB.out _ (HW.out _ HX.out.bl).2.2).1 HFF.out.1 (by omega) (by omega)).mono ?_; rintro e w5 ⟨s5, c5, rfl, ho5, hq⟩; have HL := Lib.hid (And.intro ho5 (And.intro hq (HX.out.below hq))); clear ho5 hq)
    have HC5 := (HB.out _ (HW.out _ HL.out.2.2.bl).2.2).1
    obtain ⟨c0, c1, c2, c3⟩ := HC5
    go_upto_region 5 with fail
    clear c0 c1 c2 c3
    go_loopw [29, 5] (fun s29 s5 wr => ∃ (k : Nat) (s : Option Addr) (cc : Nat) (vg vl : Value), k ≤ n ∧ s29 = .int .i64 k ∧ s5 = .slice s (F + k) cc ∧ BX F W3 bb mb (bldP c true k).1 (lvlL F (bldP c true k).1) (bldP c true k).1 vg vl wr ∧ wr.ownsRow W3.heap.size 3 1 (.slice s (F + k) cc) (F + k) (ints (bldP c true k).2) ∧ (∀ j, vl.ownBlock = some j → (Value.slice s (F + k) cc).ownBlock ≠ some j)) (fun s29 _ _ => n - (intOf s29).toNat)
    case atStart =>
      have e0 : (bldP c true 0) = ([], evE F) := by rw [← HVV.out.2.2.2]; rfl
      refine ⟨0, s5, c5, .slice none 0 0, vl0, Nat.zero_le _, rfl, rfl, ?_, ?_, ?_⟩
      · rw [e0]; exact HL.out.2.2
      · rw [e0]; exact own_base HL.out.1 HX.out.bl.size
      · intro j hj e
        have h1 := (own_blk HL.out.1 e).1
        have h2 := (own_blk HX.out.l hj).2
        omega
    case round =>
      obtain ⟨k, s, cc, vg, vl, hk, rfl, rfl, hX, hL, hne⟩ := hrel
      obtain ⟨gs, hgs⟩ : ∃ gs, gs = (bldP c true k).1 := ⟨_, rfl⟩
      obtain ⟨ls, hls⟩ : ∃ ls, ls = (bldP c true k).2 := ⟨_, rfl⟩
      rw [← hgs] at hX
      rw [← hls] at hL
      have hok := bldP_ok HVV.out.1 true k (by rw [← HFF.out.2.2]; exact hk)
      have hgl : gs.length ≤ k := by rw [hgs]; exact hok.glen
      have hll : ls.length = F + k := by have h1 := hok.mlen; rw [← hls] at h1; have h2 : c.first = (F : Int) := HFF.out.1; omega
      have hli : ∀ x ∈ ls, litP x ((F : Int) + gs.length) := by have h1 := hok.lits; rw [← hls, ← hgs] at h1; have h2 : c.first = (F : Int) := HFF.out.1; rw [h2] at h1; exact h1
      have HBI := Lib.hid (And.intro hgs (And.intro hls (And.intro hll hli)))
      clear hgs hls hok hli hll
      by_cases hlt : k < n
      · obtain ⟨g, hg⟩ := get_of_lt (l := c.gates) (k := k) (by rw [← HFF.out.2.2]; exact hlt)
        obtain ⟨bg, og, rfl, hbw, z1, z2⟩ := (HB.out _ (HW.out _ hX.bl).2.2).2.2.1.gate (Below.refl _ _) hg
        obtain ⟨x, hx⟩ := get_of_lt (l := usedL c) (k := k) (by rw [usedL_length, ← HFF.out.2.2]; exact hlt)
        obtain ⟨p, hp⟩ : ∃ p : Nat, p = F + k := ⟨_, rfl⟩
        have hFi : (F : Int) + (k : Int) = (p : Int) := by omega
        have hpV : p < V := by have := HFF.out.2.1; omega
        have hxr : (rchL c)[p]? = some x := by rw [hp, ← HVV.out.2.2.2, rchL_get HVV.out.1]; exact hx
        rw [← hp] at hL hne
        rw [← hp]
        have hst := bldP_tstep hg hx
        rw [← HBI.out.1, ← HBI.out.2.1, show c.first = (F : Int) from HFF.out.1] at hst
        have hgp := gatesP_at HVV.out.1.gates hg
        have HR := Lib.hid (And.intro hX (And.intro hL (And.intro hne (And.intro hst (And.intro hxr (And.intro hgp hp))))))
        clear hX hL hne hst hx hxr hg hgp hp
        go_upto_region 7 with fail
        clear z1 z2
        obtain ⟨G, hG⟩ : ∃ G, G = wr.heap.size := ⟨_, rfl⟩
        have kG := blk_new wr (.cells #[.int .i64 g.a, .int .i64 g.b] 24)
        have bG := (Below.refl wr.heap.size wr).alloc (Nat.le_refl _) (.cells #[.int .i64 g.a, .int .i64 g.b] 24)
        rw [← hG] at kG
        rw [← hG]
        revert kG bG
        generalize wr.alloc (.cells #[.int .i64 g.a, .int .i64 g.b] 24) = WG
        intro kG bG
        have HG : Hid (BX F W3 bb mb gs (lvlL F gs) gs vg vl WG ∧ WG.ownsRow W3.heap.size 3 1 (.slice s p cc) p (ints ls) ∧ WG.heap[G]? = some (.cells #[.int .i64 g.a, .int .i64 g.b] 24 (0, 0))) :=
          ⟨HR.out.1.below bG, own_below HR.out.2.1 bG, kG⟩
        have HGN : Hid (bb < G ∧ mb < G ∧ (∀ j, vg.ownBlock = some j → j < G) ∧ ∀ j, vl.ownBlock = some j → j < G) := by
          rw [hG]
          exact ⟨blk_lt HR.out.1.blk, HR.out.1.map.lt, fun j hj => (own_blk HR.out.1.g hj).2, fun j hj => (own_blk HR.out.1.l hj).2⟩
        clear kG bG hG
        cases x
        · have hT : bldP c true (k + 1) = (gs, ls ++ [0]) := by rw [HR.out.2.2.2.1]; rfl
          have HT0 := Lib.hid hT
          clear hT
          go_upto_region 10 with (go_at_call 33; ((with_reducible refine (firstGate_any _ _ _ _ _ _ _ _ (HB.out _ (HW.out _ HG.out.1.bl).2.2).1 (by omega) (by omega)).mono ?_); rintro e wf ⟨rfl, hq⟩; rw [HFF.out.1]; have hqf := hq.below WG.heap.size; have H5 : Hid (BX F W3 bb mb gs (lvlL F gs) gs vg vl wf ∧ wf.ownsRow W3.heap.size 3 1 (.slice s p cc) p (ints ls) ∧ wf.heap[G]? = some (.cells #[.int .i64 g.a, .int .i64 g.b] 24 (0, 0))) := ⟨HG.out.1.below hqf, own_below HG.out.2.1 hqf, blk_below hqf (blk_lt HG.out.2.2) HG.out.2.2⟩; clear hq hqf; have hc5 := bools_cell (HW.out _ H5.out.1.bl).1 HR.out.2.2.2.2.1))
          have HT : Hid (BX F W3 bb mb gs (lvlL F gs) gs vg vl wf ∧ wf.ownsRow W3.heap.size 3 1 (.slice s p cc) p (ints ls) ∧ (∀ j, vl.ownBlock = some j → (Value.slice s p cc).ownBlock ≠ some j) ∧ bldP c true (k + 1) = (gs, ls ++ [0])) := ⟨H5.out.1, H5.out.2.1, HR.out.2.2.1, HT0.out⟩
          clear hc5
          have hp1 : F + (k + 1) = p + 1 := by have := HR.out.2.2.2.2.2.2; omega
          have HP1 := Lib.hid hp1
          clear hp1
          go_wp2_with (at_builtin; refine wpl_app rfl _ _ rfl elem_int (own_below HT.out.2.1 ((Below.refl _ _).alloc (Nat.le_refl _) _)) rfl rfl rfl (Sl.new _ _ _) (by simp [Value.oneCell']) (p + 1) rfl (ints (ls ++ [0])) (by rw [← ints_append]; rfl) (by unfold maxLen; omega) (by omega) (HT.out.1.bl.alloc HT.out.1.bl.size _).size ?_; intro s6 c6 w6 h6 hb6 hg6 hob6; have hbA := (Below.refl wf.heap.size wf).alloc (Nat.le_refl _) (.cells #[.int .i64 0] 3); have hXA := HT.out.1.below hbA; have hLA := own_below HT.out.2.1 hbA; have hX2 := hXA.chg (Chg.of_grown hg6) (own_tyb hLA hXA.blk (by decide)) (own_nomapg hLA hXA.map) (fun j hj e => own_ty hXA.g hLA (by decide) hj e) (fun j hj e => HT.out.2.2.1 j hj e) (hXA.bl.trans hb6); have hne6 : ∀ j, vl.ownBlock = some j → (Value.slice s6 (p + 1) c6).ownBlock ≠ some j := (fun j hj e => by rcases hob6 with h | h <;> rw [h] at e; exact HT.out.2.2.1 j hj e; have h9 := (own_blk hXA.l hj).2; cases e; omega); have H6 := Lib.hid (And.intro hX2 (And.intro h6 hne6)); clear h6 hb6 hg6 hob6 hbA hX2 hne6 hXA hLA)
          go_roundw
          case rel => refine ⟨k + 1, s6, c6, vg, vl, by omega, by go_num, by rw [HP1.out], ?_⟩; rw [HP1.out, HT.out.2.2.2]; exact H6.out
          case measure => simp [intOf]; try omega

        · have hT : bldP c true (k + 1) = ((andL F gs (mapB ls g.a) (mapB ls g.b)).1, ls ++ [(andL F gs (mapB ls g.a) (mapB ls g.b)).2]) := by rw [HR.out.2.2.2.1]; rfl
          have HT0 := Lib.hid hT
          clear hT
          go_upto_region 9 with (go_at_call 33; ((with_reducible refine (firstGate_any _ _ _ _ _ _ _ _ (HB.out _ (HW.out _ HG.out.1.bl).2.2).1 (by omega) (by omega)).mono ?_); rintro e wf ⟨rfl, hq⟩; rw [HFF.out.1]; have hqf := hq.below WG.heap.size; have H5 : Hid (BX F W3 bb mb gs (lvlL F gs) gs vg vl wf ∧ wf.ownsRow W3.heap.size 3 1 (.slice s p cc) p (ints ls) ∧ wf.heap[G]? = some (.cells #[.int .i64 g.a, .int .i64 g.b] 24 (0, 0))) := ⟨HG.out.1.below hqf, own_below HG.out.2.1 hqf, blk_below hqf (blk_lt HG.out.2.2) HG.out.2.2⟩; clear hq hqf; have hc5 := bools_cell (HW.out _ H5.out.1.bl).1 HR.out.2.2.2.2.1))
          clear hc5 HG
          obtain ⟨⟨a0, a1⟩, b0, b1⟩ := HR.out.2.2.2.2.2.1
          rw [show c.first = (F : Int) from HFF.out.1] at a1 b1
          obtain ⟨qa, hqa⟩ : ∃ qa : Nat, g.a / 2 = qa := ⟨(g.a / 2).toNat, by omega⟩
          obtain ⟨qb, hqb⟩ : ∃ qb : Nat, g.b / 2 = qb := ⟨(g.b / 2).toNat, by omega⟩
          have hqap : qa < p := by omega
          have hqbp : qb < p := by omega
          have hll := HBI.out.2.2.1
          have hpF := HR.out.2.2.2.2.2.2
          obtain ⟨ya, hya⟩ := get_of_lt (l := ls) (k := qa) (by omega)
          obtain ⟨yb, hyb⟩ := get_of_lt (l := ls) (k := qb) (by omega)
          have lya := HBI.out.2.2.2 ya (List.mem_of_getElem? hya)
          have lyb := HBI.out.2.2.2 yb (List.mem_of_getElem? hyb)
          have lxa : litP (mapB ls g.a) ((F : Int) + gs.length) := mapB_litP HBI.out.2.2.2 a0 (by omega)
          have lxb : litP (mapB ls g.b) ((F : Int) + gs.length) := mapB_litP HBI.out.2.2.2 b0 (by omega)
          unfold litP at lya lyb lxa lxb
          have hxa : bits .xor .i64 ya (g.a % 2) = mapB ls g.a := by rw [mapB_eq hqa hya]; exact bits_xrb ya (g.a % 2) lya.1 (by omega) (by omega)
          have hxb : bits .xor .i64 yb (g.b % 2) = mapB ls g.b := by rw [mapB_eq hqb hyb]; exact bits_xrb yb (g.b % 2) lyb.1 (by omega) (by omega)
          have hta : Int.tdiv g.a 2 = (qa : Int) := by rw [Int.tdiv_eq_ediv_of_nonneg a0]; exact hqa
          have htb : Int.tdiv g.b 2 = (qb : Int) := by rw [Int.tdiv_eq_ediv_of_nonneg b0]; exact hqb
          have hwa : IntKind.i64.wrap (qa : Int) = qa := IntWalk.i64_in _ ⟨by omega, by omega⟩
          have hwb : IntKind.i64.wrap (qb : Int) = qb := IntWalk.i64_in _ ⟨by omega, by omega⟩
          have handa := i64_and1 g.a
          have handb := i64_and1 g.b
          obtain ⟨bs, os, rfl, -, -⟩ := (own_sl H5.out.2.1).int (Below.refl _ _) hya
          have HCE : Hid (∀ W : World, W.ownsRow W3.heap.size 3 1 (.slice (some ⟨bs, os, none⟩) p cc) p (ints ls) → W.heap[G]? = some (.cells #[.int .i64 g.a, .int .i64 g.b] 24 (0, 0)) → W.cell? ⟨G, 0, none⟩ = some (.int .i64 g.a) ∧ W.cell? ⟨G, 1, none⟩ = some (.int .i64 g.b) ∧ W.cell? ⟨bs, os + qa, none⟩ = some (.int .i64 ya) ∧ W.cell? ⟨bs, os + qb, none⟩ = some (.int .i64 yb)) := fun W h1 h2 => by
            obtain ⟨_, _, e1, -, y1⟩ := (own_sl h1).int (Below.refl _ _) hya
            obtain ⟨_, _, e2, -, y2⟩ := (own_sl h1).int (Below.refl _ _) hyb
            cases e1; cases e2
            exact ⟨blk_cell h2, blk_cell h2, y1, y2⟩
          obtain ⟨XA, hXA⟩ : ∃ XA, XA = mapB ls g.a := ⟨_, rfl⟩
          obtain ⟨XB, hXB⟩ : ∃ XB, XB = mapB ls g.b := ⟨_, rfl⟩
          rw [← hXA] at hxa lxa HT0
          rw [← hXB] at hxb lxb HT0
          obtain ⟨W5, hW5⟩ : ∃ W5, W5 = wf.drew := ⟨_, rfl⟩
          have hb5 : Below wf.heap.size wf W5 := by rw [hW5]; exact (Below.refl _ _).drew
          have H7 := Lib.hid (And.intro (H5.out.1.below hb5) (And.intro (own_below H5.out.2.1 hb5) (blk_below hb5 (blk_lt H5.out.2.2) H5.out.2.2)))
          clear hb5 H5 hll hpF hya hyb hXA hXB
          go_cut [8] from 41 to 63 (fun s8 wx => ∃ vg' vl', s8 = .int .i64 (andL F gs XA XB).2 ∧ BX F W3 bb mb (andL F gs XA XB).1 (lvlL F (andL F gs XA XB).1) (andL F gs XA XB).1 vg' vl' wx ∧ wx.ownsRow W3.heap.size 3 1 (.slice (some ⟨bs, os, none⟩) p cc) p (ints ls) ∧ (∀ j, vl'.ownBlock = some j → (Value.slice (some ⟨bs, os, none⟩) p cc).ownBlock ≠ some j))
          case first =>
            refine wp_region_T (fun w' => w'.cell? ⟨G, 0, none⟩ = some (.int .i64 g.a) ∧ w'.cell? ⟨G, 1, none⟩ = some (.int .i64 g.b) ∧ w'.cell? ⟨bs, os + qa, none⟩ = some (.int .i64 ya) ∧ w'.cell? ⟨bs, os + qb, none⟩ = some (.int .i64 yb)) (.q 0 (.q 1 (.q 2 (.q 3 (.q 4 (.q 5 (.q 6 (.q 7 (.q 8 (.q 9 (.q 10 (.q 11 (.q 12 (.q 13 (.q 14 (.q 15 (.q 16 (.q 17 (.q 18 (.q 19 (.q 20 (.e 21 (.q 22 .nil))))))))))))))))))))))) (by kernel_rfl) (by kernel_rfl) (by kernel_rfl) (by rw [← hW5]; exact HCE.out _ H7.out.2.1 H7.out.2.2) ?_
            repeat (first | (refine ordt_s (o := ?_) ?_ ?_ ?_; rotate_left 1; (focus ((simp only [zD, zE, zF]) <;> rfl)); (focus rfl); simp only [Act.put, zA, zB, zC]) | (refine ordt_q (o := ?_) (v := ?_) ?_ ?_ ?_ ?_; rotate_left 2; (focus ((simp only [zD, zE, zF]) <;> rfl)); (focus rfl); (focus (intro w' hS; (try dsimp only at hS); go_split_ands; go_simp; (try (with_reducible rfl)))); simp only [Act.put, zA, zB, zC]))
            refine ordt_e ?_
            (refine op_e (o := ?_) ?_ ?_ (fun K hK => ?_); rotate_left 1; (focus ((simp only [zD, zE, zF]) <;> rfl)); (focus rfl); go_simp)
            rw [← hW5]
            refine (and_any F W3 bb mb gs vg vl XA XB W5 H7.out.1 (by omega) (by omega) (by omega) (by omega)).mono ?_
            rintro e w6 ⟨vg', vl', rfl, hX6, hc6, hv6⟩
            have hG6 : w6.heap[G]? = some (.cells #[.int .i64 g.a, .int .i64 g.b] 24 (0, 0)) := hc6.blk H7.out.2.2 (fun h => by
              rcases h with h | h | h | h
              · have := HGN.out.1; omega
              · have := HGN.out.2.1; omega
              · have := HGN.out.2.2.1 _ h; omega
              · have := HGN.out.2.2.2 _ h; omega)
            have hL6 := hc6.own H7.out.2.1 (fun j hj h => by
              rcases h with h | h | h | h
              · subst h; exact own_tyb H7.out.2.1 H7.out.1.blk (by decide) hj
              · subst h; exact own_nomapg H7.out.2.1 H7.out.1.map hj
              · exact own_ty H7.out.1.g H7.out.2.1 (by decide) h hj
              · exact HR.out.2.2.1 j h hj)
            have hne6 : ∀ j, vl'.ownBlock = some j → (Value.slice (some ⟨bs, os, none⟩) p cc).ownBlock ≠ some j := fun j hj hk => by
              rcases hv6 with h | h
              · rw [h] at hj; exact HR.out.2.2.1 j hj hk
              · have h1 := h j hj
                have h2 := (own_blk H7.out.2.1 hk).2
                omega
            refine hK.out _ _ (HCE.out _ hL6 hG6) ?_
            clear hK K
            have H6 := Lib.hid (And.intro hX6 (And.intro hL6 hne6))
            clear hX6 hL6 hne6 hc6 hv6 hG6
            (try simp only [Act.put, zA, zB, zC])
            repeat (first | (refine ordt_s (o := ?_) ?_ ?_ ?_; rotate_left 1; (focus ((simp only [zD, zE, zF]) <;> rfl)); (focus rfl); simp only [Act.put, zA, zB, zC]) | (refine ordt_q (o := ?_) (v := ?_) ?_ ?_ ?_ ?_; rotate_left 2; (focus ((simp only [zD, zE, zF]) <;> rfl)); (focus rfl); (focus (intro w' hS; (try dsimp only at hS); go_split_ands; go_simp; (try (with_reducible rfl)))); simp only [Act.put, zA, zB, zC]))
            refine ordt_nil ?_
            go_wp2_with fail
            go_meet
            exact ⟨vg', vl', rfl, H6.out⟩
          case rest =>
            obtain ⟨vg', vl', rfl, hX6, hL6, hne6⟩ := hcut
            obtain ⟨r, hr⟩ : ∃ r, r = andL F gs XA XB := ⟨_, rfl⟩
            rw [← hr] at hX6 HT0
            rw [← hr]
            have HT := Lib.hid (And.intro hX6 (And.intro hL6 (And.intro hne6 HT0.out)))
            clear hX6 hL6 hne6 hr handa handb hxa hxb hta htb hwa hwb
            have hp1 : F + (k + 1) = p + 1 := by have := HR.out.2.2.2.2.2.2; omega
            have HP1 := Lib.hid hp1
            clear hp1
            go_wp2_with (at_builtin; refine wpl_app rfl _ _ rfl elem_int (own_below HT.out.2.1 ((Below.refl _ _).alloc (Nat.le_refl _) _)) rfl rfl rfl (Sl.new _ _ _) (by simp [Value.oneCell']) (p + 1) rfl (ints (ls ++ [r.2])) (by rw [← ints_append]; rfl) (by unfold maxLen; omega) (by omega) (HT.out.1.bl.alloc HT.out.1.bl.size _).size ?_; intro s6 c6 w6 h6 hb6 hg6 hob6; have hbA := (Below.refl wc.heap.size wc).alloc (Nat.le_refl _) (.cells #[.int .i64 r.2] 3); have hXA := HT.out.1.below hbA; have hLA := own_below HT.out.2.1 hbA; have hX2 := hXA.chg (Chg.of_grown hg6) (own_tyb hLA hXA.blk (by decide)) (own_nomapg hLA hXA.map) (fun j hj e => own_ty hXA.g hLA (by decide) hj e) (fun j hj e => HT.out.2.2.1 j hj e) (hXA.bl.trans hb6); have hne6 : ∀ j, vl'.ownBlock = some j → (Value.slice s6 (p + 1) c6).ownBlock ≠ some j := (fun j hj e => by rcases hob6 with h | h <;> rw [h] at e; exact HT.out.2.2.1 j hj e; have h9 := (own_blk hXA.l hj).2; cases e; omega); have H6 := Lib.hid (And.intro hX2 (And.intro h6 hne6)); clear h6 hb6 hg6 hob6 hbA hX2 hne6 hXA hLA)
            go_roundw
            case rel => refine ⟨k + 1, s6, c6, vg', vl', by omega, by go_num, by rw [HP1.out], ?_⟩; rw [HP1.out, HT.out.2.2.2]; exact H6.out
            case measure => simp [intOf]; try omega

      · obtain rfl : n = k := by omega
        have hB2 : buildC true c = cirR c gs ls := by unfold buildC cirR; rw [← HFF.out.2.2, ← HBI.out.1, ← HBI.out.2.1]
        have hsm := own_sl hL
        rw [← HFF.out.2.1]
        have hli9 : ∀ x ∈ ls, 0 ≤ x ∧ x ≤ 300 := fun x hx => by have := HBI.out.2.2.2 x hx; unfold litP at this; omega
        have hmV : ls.length = V := by have h1 := HBI.out.2.2.1; have h2 := HFF.out.2.1; omega
        have HE := Lib.hid (And.intro hB2 (And.intro hX (And.intro hsm (And.intro hli9 hmV))))
        clear hB2 hX hL hne hsm hli9 hmV
        go_upto_region 13 with (go_at_call 36; refine (circuit_any F V W3 bb mb gs vg vl b sn sg so cn cg co c s cc ls wr HE.out.2.1 (by rw [← HFF.out.2.2]; exact (HB.out _ (HW.out _ HE.out.2.1.bl).2.2).1) (HB.out _ (HW.out _ HE.out.2.1.bl).2.2).2.1 (HB.out _ (HW.out _ HE.out.2.1.bl).2.2).2.2.2 HVV.out.1 HVV.out.2.1 HE.out.2.2.2.2 HE.out.2.2.1 HE.out.2.2.2.1 (by omega)).mono ?_; rintro e w6 ⟨vn2, vg2, vo2, rfl, hcv, hq⟩; obtain ⟨sn2, cn2, sg2, cg2, so2, co2, hv2, hs1, hs2, hs3, -, -, -⟩ := hcv; rw [← HE.out.1] at hv2 hs1 hs2 hs3; cases hv2; have H6 := Lib.hid (And.intro hs1 (And.intro hs2 (And.intro hs3 hq))); clear hs1 hs2 hs3 hq)
        obtain ⟨X, hX⟩ : ∃ X, X = w6.heap.size := ⟨_, rfl⟩
        have kX := blk_new w6 (.cells #[.int .i64 c.inp, .slice sn2 (buildC true c).next.length cn2, .slice sg2 (buildC true c).gates.length cg2, .slice so2 (buildC true c).outs.length co2] 28)
        have bX := (Below.refl w6.heap.size w6).alloc (Nat.le_refl _) (.cells #[.int .i64 c.inp, .slice sn2 (buildC true c).next.length cn2, .slice sg2 (buildC true c).gates.length cg2, .slice so2 (buildC true c).outs.length co2] 28)
        rw [← hX] at kX
        rw [← hX]
        clear hX
        revert kX bX
        generalize w6.alloc (.cells #[.int .i64 c.inp, .slice sn2 (buildC true c).next.length cn2, .slice sg2 (buildC true c).gates.length cg2, .slice so2 (buildC true c).outs.length co2] 28) = W8
        intro kX bX
        have b8 : Below W3.heap.size W3 W8 := (HE.out.2.1.bl.trans (H6.out.2.2.2.mono HE.out.2.1.bl.size)).trans (bX.mono (Nat.le_trans HE.out.2.1.bl.size H6.out.2.2.2.size))
        have H8 : Hid (W8.heap[X]? = some (.cells #[.int .i64 c.inp, .slice sn2 (buildC true c).next.length cn2, .slice sg2 (buildC true c).gates.length cg2, .slice so2 (buildC true c).outs.length co2] 28 (0, 0)) ∧ Sl W8 sn2 (ints (buildC true c).next) ∧ Sl W8 sg2 (gcells (buildC true c).gates) ∧ Sl W8 so2 (ints (buildC true c).outs) ∧ Below W3.heap.size W3 W8) :=
          ⟨kX, H6.out.1.mono bX, H6.out.2.1.mono bX, H6.out.2.2.1.mono bX, b8⟩
        clear kX bX b8 H6
        go_upto_region 14 with (go_at_call 74; refine (pruned_any X sn2 sg2 so2 cn2 cg2 co2 (buildC true c) W8 (CirAt.of_blk H8.out.1) H8.out.2.1 H8.out.2.2.1 H8.out.2.2.2.1 (buildC_wide HVV.out.1 true)).mono ?_; rintro e w9 ⟨vn, vg9, vo, rfl, hown, hq⟩; have H9 := Lib.hid (And.intro (own_base hown.n H8.out.2.2.2.2.size) (And.intro (own_base hown.g H8.out.2.2.2.2.size) (And.intro (own_base hown.o H8.out.2.2.2.2.size) (And.intro hown (H8.out.2.2.2.2.trans (hq.mono H8.out.2.2.2.2.size)))))); obtain ⟨sn4, cn4, rfl⟩ := own_shape hown.n; obtain ⟨sg4, cg4, rfl⟩ := own_shape hown.g; obtain ⟨so4, co4, rfl⟩ := own_shape hown.o; clear hown hq; obtain ⟨rc, rf⟩ := blk_all (HW.out _ H9.out.2.2.2.2).2.1)
        clear rc rf
        have hR0 := (HW.out _ H9.out.2.2.2.2).2.1
        have hZ : ((((w9.setCell ⟨w.heap.size, 0, none⟩ (.int .i64 (buildC true c).inp)).setCell ⟨w.heap.size, 1, none⟩ (.slice sn4 (buildC false (buildC true c)).next.length cn4)).setCell ⟨w.heap.size, 2, none⟩ (.slice sg4 (buildC false (buildC true c)).gates.length cg4)).setCell ⟨w.heap.size, 3, none⟩ (.slice so4 (buildC false (buildC true c)).outs.length co4)).heap[w.heap.size]? = some (.cells #[.int .i64 (buildC true c).inp, .slice sn4 (buildC false (buildC true c)).next.length cn4, .slice sg4 (buildC false (buildC true c)).gates.length cg4, .slice so4 (buildC false (buildC true c)).outs.length co4] 28 (0, 0)) := by
          simpa using blk_set (o := 3) (v := .slice so4 (buildC false (buildC true c)).outs.length co4) (blk_set (o := 2) (v := .slice sg4 (buildC false (buildC true c)).gates.length cg4) (blk_set (o := 1) (v := .slice sn4 (buildC false (buildC true c)).next.length cn4) (blk_set (o := 0) (v := .int .i64 (buildC true c).inp) hR0)))
        have hR : CirOwn ((((w9.setCell ⟨w.heap.size, 0, none⟩ (.int .i64 (buildC true c).inp)).setCell ⟨w.heap.size, 1, none⟩ (.slice sn4 (buildC false (buildC true c)).next.length cn4)).setCell ⟨w.heap.size, 2, none⟩ (.slice sg4 (buildC false (buildC true c)).gates.length cg4)).setCell ⟨w.heap.size, 3, none⟩ (.slice so4 (buildC false (buildC true c)).outs.length co4)) w.heap.size (optC c) (.slice sn4 (buildC false (buildC true c)).next.length cn4) (.slice sg4 (buildC false (buildC true c)).gates.length cg4) (.slice so4 (buildC false (buildC true c)).outs.length co4) :=
          ⟨own_sets4' H9.out.1 hRU (by omega), own_sets4' H9.out.2.1 hRU (by omega), own_sets4' H9.out.2.2.1 hRU (by omega), H9.out.2.2.2.1.ne, H9.out.2.2.2.1.l1, H9.out.2.2.2.1.l2, H9.out.2.2.2.1.l3⟩
        have hB := ((((HW.out _ H9.out.2.2.2.2).2.2.setCell (p := ⟨w.heap.size, 0, none⟩) (Nat.le_refl _) (.int .i64 (buildC true c).inp)).setCell (p := ⟨w.heap.size, 1, none⟩) (Nat.le_refl _) (.slice sn4 (buildC false (buildC true c)).next.length cn4)).setCell (p := ⟨w.heap.size, 2, none⟩) (Nat.le_refl _) (.slice sg4 (buildC false (buildC true c)).gates.length cg4)).setCell (p := ⟨w.heap.size, 3, none⟩) (Nat.le_refl _) (.slice so4 (buildC false (buildC true c)).outs.length co4)
        revert hZ hR hB
        generalize ((((w9.setCell ⟨w.heap.size, 0, none⟩ (.int .i64 (buildC true c).inp)).setCell ⟨w.heap.size, 1, none⟩ (.slice sn4 (buildC false (buildC true c)).next.length cn4)).setCell ⟨w.heap.size, 2, none⟩ (.slice sg4 (buildC false (buildC true c)).gates.length cg4)).setCell ⟨w.heap.size, 3, none⟩ (.slice so4 (buildC false (buildC true c)).outs.length co4)) = WZ
        intro hZ hR hB
        have cr := (blk_all hZ).1
        exact bodyPost_ret (v := .agg #[.int .i64 (buildC true c).inp, .slice sn4 (buildC false (buildC true c)).next.length cn4, .slice sg4 (buildC false (buildC true c)).gates.length cg4, .slice so4 (buildC false (buildC true c)).outs.length co4]) (by simp [results, Try.results28, go_sem, cr]) rfl ⟨_, _, _, rfl, hR, hB⟩

end Go.Proofs.Ytjecchljhdfjdaa
