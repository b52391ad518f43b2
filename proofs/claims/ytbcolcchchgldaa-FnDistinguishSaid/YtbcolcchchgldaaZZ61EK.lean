import Derived.Test.YtbcolcchchgldaaZZ61EI
import Derived.Test.YtbcolcchchgldaaZZ61DU
import Derived.Test.YtbcolcchchgldaaZZ61W9
import Derived.Test.YtbcolcchchgldaaZZ61V3
namespace Go.Proofs.Ytbcolcchchgldaa
set_option linter.unusedVariables false
set_option linter.unusedSimpArgs false
open Go.RowKit

/-! Part of the proof of one law. -/

set_option maxRecDepth 100000 in
set_option maxHeartbeats 3200000 in
theorem l20Twins_any (R : Nat) (s : Option Addr) (c : Nat) (xs : List Int) (p : Nat) (w : World) (h : Rd w R s c xs p) (hp : p ≤ 50000) :
    Calls Try.prog 109 #[.pointer (some ⟨R, 0, none⟩)] w (PairPost R w) := by
  have hR : R < w.heap.size := blk_lt h.blk
  obtain ⟨Z, hZ⟩ : ∃ Z, Z = w.heap.size := ⟨_, rfl⟩
  obtain ⟨W0, hW0⟩ : ∃ W0, W0 = (w.alloc (.cells #[.int .i64 0, .slice none 0 0, .slice none 0 0, .slice none 0 0] 26)).alloc (.cells #[.int .i64 0, .slice none 0 0, .slice none 0 0, .slice none 0 0] 26) := ⟨_, rfl⟩
  have z1 : W0.heap.size = Z + 2 := by rw [hW0, hZ]; simp
  have z2 : W0.heap[Z]? = some (.cells #[.int .i64 0, .slice none 0 0, .slice none 0 0, .slice none 0 0] 26 (0, 0)) := by rw [hW0, hZ]; exact blk_old (blk_new w _)
  have z3 : W0.heap[Z + 1]? = some (.cells #[.int .i64 0, .slice none 0 0, .slice none 0 0, .slice none 0 0] 26 (0, 0)) := by rw [hW0, hZ]; exact blk_at (by simp)
  have z4 : Below w.heap.size w W0 := by rw [hW0]; go_grown
  have HRD0 := Lib.hid (h.mono z4)
  rw [← hZ] at hR
  have H0 : Hid (∀ W, Chg (fun k => k = R) W0 W → (W.heap[Z]? = some (.cells #[.int .i64 0, .slice none 0 0, .slice none 0 0, .slice none 0 0] 26 (0, 0)) ∧ W.heap[Z + 1]? = some (.cells #[.int .i64 0, .slice none 0 0, .slice none 0 0, .slice none 0 0] 26 (0, 0))) ∧ Chg (fun k => k = R) w W ∧ Z + 2 ≤ W.heap.size) := fun W hW =>
    ⟨⟨hW.blk z2 (by omega), hW.blk z3 (by omega)⟩, (Chg.of_below z4).trans hW, by have := hW.size; omega⟩
  have HW := Lib.hid (And.intro hW0 (And.intro hZ z1))
  clear h hW0 z1 z2 z3 z4 hZ
  go_enter Try.func109, Try.ntmps109
  go_upto_region 1 with fail
  rw [← HW.out.1, ← HW.out.2.1]
  go_upto_region 2 with (go_at_call 96; (with_reducible refine (l20Circuit_any R s c xs p 16 W0 HRD0.out (by omega) (by omega) (by omega)).mono ?_); rintro e w1 ⟨A, vn, vg, vo, p1, rfl, h1, h2, h3, h4, h5⟩; obtain ⟨sn, cn, rfl⟩ := own_shape h1.n; obtain ⟨sg, cg, rfl⟩ := own_shape h1.g; obtain ⟨so, co, rfl⟩ := own_shape h1.o; have HI := Lib.hid (And.intro h1 (And.intro h3 h5)); have HP1 := Lib.hid h4; obtain ⟨l1, l2, l3, l4, l5⟩ := h2; clear h1 h3 h4 h5)
  obtain ⟨BA, hBA⟩ : ∃ BA, BA = w1.heap.size := ⟨_, rfl⟩
  obtain ⟨W1, hW1⟩ : ∃ W1, W1 = w1.alloc (.cells #[.int .i64 A.inp, .slice sn A.next.length cn, .slice sg A.gates.length cg, .slice so A.outs.length co] 26) := ⟨_, rfl⟩
  have y1 : Chg (fun k => k = R) W0 W1 := by rw [hW1]; exact (HI.out.2.2.chg (Nat.le_refl _)).trans (Chg.of_below (below_al _ _))
  have y2 : CirOwn W1 (Z + 2) A (.slice sn A.next.length cn) (.slice sg A.gates.length cg) (.slice so A.outs.length co) := by
    rw [hW1]; have e := HW.out.2.2; rw [← e]; exact own_cbelow HI.out.1 (below_al _ _)
  have y3 : W1.heap[BA]? = some (.cells #[.int .i64 A.inp, .slice sn A.next.length cn, .slice sg A.gates.length cg, .slice so A.outs.length co] 26 (0, 0)) := by rw [hW1, hBA]; exact blk_new _ _
  have y4 : Rd W1 R s c xs p1 := by rw [hW1]; exact HI.out.2.1.mono (below_al _ _)
  have y5 : BA < W1.heap.size ∧ Z + 2 ≤ BA := by
    have e := HW.out.2.2; have e2 := HI.out.2.2.size
    rw [hW1, hBA]; simp; omega
  rw [← hW1, ← hBA]
  have HA : Hid (∀ W, Chg (fun k => k = R) W1 W → CirOwn W (Z + 2) A (.slice sn A.next.length cn) (.slice sg A.gates.length cg) (.slice so A.outs.length co) ∧ W.heap[BA]? = some (.cells #[.int .i64 A.inp, .slice sn A.next.length cn, .slice sg A.gates.length cg, .slice so A.outs.length co] 26 (0, 0)) ∧ (W.heap[Z]? = some (.cells #[.int .i64 0, .slice none 0 0, .slice none 0 0, .slice none 0 0] 26 (0, 0)) ∧ W.heap[Z + 1]? = some (.cells #[.int .i64 0, .slice none 0 0, .slice none 0 0, .slice none 0 0] 26 (0, 0))) ∧ Chg (fun k => k = R) w W ∧ W1.heap.size ≤ W.heap.size) := fun W hW =>
    ⟨y2.chgs hW (fun k hk _ e => by omega), hW.blk y3 (by omega), (H0.out W (y1.trans hW)).1, (H0.out W (y1.trans hW)).2.1, hW.size⟩
  have HY := Lib.hid (And.intro y4 y5)
  clear y1 y2 y3 y4 y5 hBA hW1 HI HRD0
  have HB : Hid (∀ W, Chg (fun k => k = R) W1 W → Chg (fun k => k = R) W1 W) := fun W hW => hW
  have HB2 := HY
  go_upto_region 3 with (go_at_call 120; ((with_reducible refine (pick_any R s c xs p1 5 _ HB2.out.1 (by have := HP1.out; omega) (by omega)).mono ?_); rintro e w3 ⟨q, rfl, hq1, hq2, hq3, hq4⟩; have H3 := Lib.hid (And.intro hq2 hq3.chg); have HQ := Lib.hid hq1; clear hq1 hq2 hq3 hq4))
  cases e0 : ((q : Int) == 0)
  · cases e1 : ((q : Int) == 1)
    · cases e2 : ((q : Int) == 2)
      · cases e3 : ((q : Int) == 3)
        · go_wp2_with (go_at_call 115; (with_reducible refine (l20Pair_any R s c xs (p1 + 1) _ H3.out.1 (by have := HP1.out; omega)).mono ?_); rintro e w4 ⟨A2, B, vn2, vg2, vo2, un, ug, uo, rfl, h0, h1, h5⟩; obtain ⟨sn2, cn2, rfl⟩ := own_shape h0.n; obtain ⟨sg2, cg2, rfl⟩ := own_shape h0.g; obtain ⟨so2, co2, rfl⟩ := own_shape h0.o; obtain ⟨tn, dn, rfl⟩ := own_shape h1.n; obtain ⟨tg, dg, rfl⟩ := own_shape h1.g; obtain ⟨to_, do_, rfl⟩ := own_shape h1.o; have H4 := Lib.hid (And.intro h0 (And.intro h1 (((HB.out _ H3.out.2)).trans h5))); clear h0 h1 h5; obtain ⟨rc, rf⟩ := blk_all (HA.out _ H4.out.2.2).2.2.1.1; obtain ⟨rc2, rf2⟩ := blk_all (HA.out _ H4.out.2.2).2.2.1.2)
          clear rc rf rc2 rf2
          have hzz : Z + 2 ≤ W1.heap.size := by have := HY.out.2; omega
          have hz3 := (HA.out _ ((HB.out _ H3.out.2))).2.2.2.2
          obtain ⟨W5, hW5⟩ : ∃ W5, W5 = ((((w4.setCell ⟨Z, 0, none⟩ (.int .i64 A2.inp)).setCell ⟨Z, 1, none⟩ (.slice sn2 A2.next.length cn2)).setCell ⟨Z, 2, none⟩ (.slice sg2 A2.gates.length cg2)).setCell ⟨Z, 3, none⟩ (.slice so2 A2.outs.length co2)) := ⟨_, rfl⟩
          have x1 : Chg (fun k => k = Z) w4 W5 := by rw [hW5]; exact (((chgS (S := fun k => k = Z) _ 0 _ rfl).trans (chgS _ 1 _ rfl)).trans (chgS _ 2 _ rfl)).trans (chgS _ 3 _ rfl)
          have x2 : W5.heap[Z]? = some (.cells #[.int .i64 A2.inp, .slice sn2 A2.next.length cn2, .slice sg2 A2.gates.length cg2, .slice so2 A2.outs.length co2] 26 (0, 0)) := by
            rw [hW5]; simpa using blk_set (o := 3) (v := .slice so2 A2.outs.length co2) (blk_set (o := 2) (v := .slice sg2 A2.gates.length cg2) (blk_set (o := 1) (v := .slice sn2 A2.next.length cn2) (blk_set (o := 0) (v := .int .i64 A2.inp) ((HA.out _ H4.out.2.2).2.2.1.1))))
          rw [← hW5]
          obtain ⟨W6, hW6⟩ : ∃ W6, W6 = ((((W5.setCell ⟨Z + 1, 0, none⟩ (.int .i64 B.inp)).setCell ⟨Z + 1, 1, none⟩ (.slice tn B.next.length dn)).setCell ⟨Z + 1, 2, none⟩ (.slice tg B.gates.length dg)).setCell ⟨Z + 1, 3, none⟩ (.slice to_ B.outs.length do_)) := ⟨_, rfl⟩
          have x3 : Chg (fun k => k = Z + 1) W5 W6 := by rw [hW6]; exact (((chgS (S := fun k => k = Z + 1) _ 0 _ rfl).trans (chgS _ 1 _ rfl)).trans (chgS _ 2 _ rfl)).trans (chgS _ 3 _ rfl)
          have x4 : W6.heap[Z + 1]? = some (.cells #[.int .i64 B.inp, .slice tn B.next.length dn, .slice tg B.gates.length dg, .slice to_ B.outs.length do_] 26 (0, 0)) := by
            rw [hW6]; simpa using blk_set (o := 3) (v := .slice to_ B.outs.length do_) (blk_set (o := 2) (v := .slice tg B.gates.length dg) (blk_set (o := 1) (v := .slice tn B.next.length dn) (blk_set (o := 0) (v := .int .i64 B.inp) ((x1.blk (HA.out _ H4.out.2.2).2.2.1.2 (by omega))))))
          have x5 := x3.blk x2 (by omega)
          have hw2 := HW.out.2.1
          have f1 := ((H4.out.1.chgs x1 (fun k hk _ e => by omega)).chgs x3 (fun k hk _ e => by omega)).low (b2 := w.heap.size) (by omega)
          have f2 := ((H4.out.2.1.chgs x1 (fun k hk _ e => by omega)).chgs x3 (fun k hk _ e => by omega)).low (b2 := w.heap.size) (by omega)
          have f3 := ((HA.out _ H4.out.2.2).2.2.2.1.tail x1 (fun k e => by omega)).tail x3 (fun k e => by omega)
          rw [← hW6]
          clear hW5 hW6 x1 x2 x3
          have cr := (blk_all x5).1
          have cr2 := (blk_all x4).1
          exact bodyPost_ret (v := .tuple #[.agg #[.int .i64 A2.inp, .slice sn2 A2.next.length cn2, .slice sg2 A2.gates.length cg2, .slice so2 A2.outs.length co2], .agg #[.int .i64 B.inp, .slice tn B.next.length dn, .slice tg B.gates.length dg, .slice to_ B.outs.length do_]]) (by simp [results, Try.results109, go_sem, cr, cr2]) rfl ⟨A2, B, _, _, _, _, _, _, rfl, f1, f2, f3⟩
        · obtain rfl : q = 3 := by simpa using e3
          have ca := (blk_all (HA.out _ (HB.out _ H3.out.2)).2.1).1
          go_upto_region 15 with fail
          clear ca
          obtain ⟨BB, hBB⟩ : ∃ BB, BB = w3.heap.size := ⟨_, rfl⟩
          obtain ⟨W2, hW2⟩ : ∃ W2, W2 = w3.alloc (.cells #[.int .i64 A.inp, .slice sn A.next.length cn, .slice sg A.gates.length cg, .slice so A.outs.length co] 26) := ⟨_, rfl⟩
          have HM : Hid (Chg (fun k => k = R) W1 W2 ∧ W2.heap[BB]? = some (.cells #[.int .i64 A.inp, .slice sn A.next.length cn, .slice sg A.gates.length cg, .slice so A.outs.length co] 26 (0, 0)) ∧ Rd W2 R s c xs (p1 + 1) ∧ R < BB ∧ W1.heap.size ≤ BB ∧ BB < W2.heap.size ∧ BA < BB) := by
            have e1 : W1.heap.size ≤ w3.heap.size := (HB.out _ H3.out.2).size
            have e2 := HY.out.2
            refine ⟨?_, ?_, ?_, by omega, by omega, ?_, by omega⟩
            · rw [hW2]; exact (HB.out _ H3.out.2).trans (Chg.of_below (below_al _ _))
            · rw [hW2, hBB]; exact blk_new _ _
            · rw [hW2]; exact H3.out.1.mono (below_al _ _)
            · rw [hW2, hBB]; simp
          rw [← hW2, ← hBB]
          clear hBB hW2
          have ca := (blk_all (HA.out _ HM.out.1).2.1).1
          obtain ⟨rc, rf⟩ := blk_all HM.out.2.1
          have hBA3 : BA < W2.heap.size := blk_lt (HA.out _ HM.out.1).2.1
          go_upto_region 16 with (at_builtin; refine wpl_app rfl _ _ rfl elem_int (own_of_blk (base := W2.heap.size) (size := 1) (n := 0) (cur := #[]) (blk_new _ _) (Nat.le_refl _) (by simp) (by unfold maxLen; omega)) rfl rfl (by simp) (own_sl (own_below (HA.out _ HM.out.1).1.n (below_al _ _))) (ints_one _) A.next.length (by omega) (ints A.next) (by simp) (by unfold maxLen; omega) (by omega) (by simp) ?_; intro s6 c6 w6 h6 hb6 hg6 hob6; have H6 := Lib.hid (And.intro h6 hb6); clear h6 hb6 hg6 hob6; clear ca; obtain ⟨rc, rf⟩ := blk_all (blk_below ((below_al _ _).trans H6.out.2) (blk_lt HM.out.2.1) HM.out.2.1))
          clear rc rf
          obtain ⟨W5, hW5⟩ : ∃ W5, W5 = w6.setCell ⟨BB, 1, none⟩ (.slice s6 A.next.length c6) := ⟨_, rfl⟩
          have HG : Hid (W5.ownsRow W2.heap.size 3 1 (.slice s6 A.next.length c6) A.next.length (ints A.next) ∧ W5.heap[BB]? = some (.cells #[.int .i64 A.inp, .slice s6 A.next.length c6, .slice sg A.gates.length cg, .slice so A.outs.length co] 26 (0, 0)) ∧ Chg (fun k => k = R) W1 W5 ∧ Rd W5 R s c xs (p1 + 1) ∧ BB < W2.heap.size ∧ W2.heap.size ≤ W5.heap.size) := by
            obtain ⟨m1, m2, m3, m4, m5, m6, m7⟩ := HM.out
            have x0 : Chg (fun k => k = R) W2 w6 := Chg.of_below ((below_al _ _).trans H6.out.2)
            have x1 : Chg (fun k => k = BB) w6 W5 := by rw [hW5]; exact chgS (S := fun k => k = BB) _ 1 _ rfl
            have x3 : Chg (fun k => k = BB) W2 W5 := (Chg.of_below ((below_al _ _).trans H6.out.2)).trans x1
            refine ⟨by rw [hW5]; exact own_set_ne H6.out.1 (fun e => by have := (own_blk H6.out.1 e).1; omega) _, ?_, (m1.trans x0).tail x1 (fun k e => by omega), m3.grown (x3.below (b := BB) (by omega) (fun k hk e => by omega)) m4, m6, x3.size⟩
            rw [hW5]; simpa using blk_set (o := 1) (v := .slice s6 A.next.length c6) (blk_below ((below_al _ _).trans H6.out.2) (blk_lt m2) m2)
          rw [← hW5]
          clear hW5 H6 hBA3
          have HOW : Hid (∀ (W : World) (ys : List Int), Chg (fun k => k = R) W1 W → W.ownsRow W2.heap.size 3 1 (.slice s6 A.next.length c6) A.next.length (ints ys) → ys.length = A.next.length → CirOwn W (Z + 2) ⟨A.inp, ys, A.gates, A.outs⟩ (.slice s6 A.next.length c6) (.slice sg A.gates.length cg) (.slice so A.outs.length co)) := fun W ys hW ho hy => by
            obtain ⟨h1, h2, h3, h4⟩ := HA.out _ hW
            obtain ⟨m1, m2, m3, m4, m5, m6, m7⟩ := HM.out
            have q1 := HY.out.2
            refine ⟨by simp only [hy]; exact own_base ho (by omega), h1.g, h1.o, fun i hi hj => ?_, by simp only [hy]; exact h1.l1, h1.l2, h1.l3⟩
            have e1 := (own_blk ho hi).1
            have e2 := (own_blk (HA.out _ (Chg.refl _ W1)).1.o hj).2
            omega
          have HBB := HM.out.2.2.2.2.1
          by_cases hlt : 0 < A.next.length
          · obtain ⟨G, cq6, e, gb, gl⟩ := HG.out.1.form hlt
            cases e
            have cb := (blk_all HG.out.2.1).1
            go_upto_region 17 with fail
            have HO : Hid (∀ W, Chg (fun k => k = R) W5 W → W.ownsRow W2.heap.size 3 1 (.slice (some ⟨G, 0, none⟩) A.next.length c6) A.next.length (ints A.next) ∧ W.heap[BB]? = some (.cells #[.int .i64 A.inp, .slice (some ⟨G, 0, none⟩) A.next.length c6, .slice sg A.gates.length cg, .slice so A.outs.length co] 26 (0, 0)) ∧ W2.heap.size ≤ G ∧ BB < W2.heap.size ∧ Chg (fun k => k = R) W1 W) := fun W hW => by
              obtain ⟨m1, m2, m3, m4, m5, m6, m7⟩ := HM.out
              exact ⟨hW.own HG.out.1 (fun i hi e => by have h1 := (own_blk HG.out.1 hi).1; omega), hW.blk HG.out.2.1 (by omega), gb, m6, HG.out.2.2.1.trans hW⟩
            refine wp_region_E (fun w' => ∀ o, w'.cell? ⟨BB, o, none⟩ = #[Value.int .i64 A.inp, .slice (some ⟨G, 0, none⟩) A.next.length c6, .slice sg A.gates.length cg, .slice so A.outs.length co][o]?) 10 (.q 0 (.q 1 (.q 2 (.q 3 (.q 4 (.q 5 (.q 7 (.e 6 (.e 8 (.q 9 (.z 10))))))))))) (by kernel_rfl) (by kernel_rfl) (by kernel_rfl) (by kernel_rfl) (by kernel_rfl) (by kernel_rfl) (blk_all (HO.out _ (Chg.of_below (Below.refl _ _).drew)).2.1).1 ?_
            have hd : Chg (fun k => k = R) W5 W5.drew := Chg.of_below (Below.refl W5.heap.size W5).drew
            have hr : Rd W5.drew R s c xs (p1 + 1) := HG.out.2.2.2.1.mono (Below.refl W5.heap.size W5).drew
            revert hd hr
            generalize W5.drew = Wd
            intro hd hr
            have HD := Lib.hid (And.intro hd hr)
            clear hd hr
            repeat (first | (refine orde_s (o := ?_) ?_ ?_ ?_; rotate_left 1; (focus ((simp only [zD, zE, zF]) <;> rfl)); (focus rfl); simp only [Act.put, zA, zB, zC]) | (refine orde_q (o := ?_) (v := ?_) ?_ ?_ ?_ ?_; rotate_left 2; (focus ((simp only [zD, zE, zF]) <;> rfl)); (focus rfl); (focus (intro w' hS; (try dsimp only at hS); go_split_ands; go_simp; (try (with_reducible rfl)))); simp only [Act.put, zA, zB, zC]))
            refine orde_e ?_
            (refine ope_e (o := ?_) ?_ ?_ (fun K hK => ?_); rotate_left 1; (focus ((simp only [zD, zE, zF]) <;> rfl)); (focus rfl); go_simp)
            refine (pick_any R s c xs (p1 + 1) A.next.length _ HD.out.2 (by have := HP1.out; omega) (by omega)).mono ?_
            rintro e w7 ⟨q7, rfl, hq1, hq2, hq3, hq4⟩
            obtain ⟨k, rfl, hk⟩ : ∃ k : Nat, q7 = k ∧ k < A.next.length := ⟨q7.toNat, by have := hq1.1; omega, by have := hq1.1; have := hq1.2; omega⟩
            have H7 := Lib.hid (And.intro hq2 (HD.out.1.trans hq3.chg))
            clear hq1 hq2 hq3 hq4 cb
            refine hK.out _ _ (blk_all (HO.out _ H7.out.2).2.1).1 ?_
            clear hK K
            (try simp only [Act.put, zA, zB, zC])
            repeat (first | (refine orde_s (o := ?_) ?_ ?_ ?_; rotate_left 1; (focus ((simp only [zD, zE, zF]) <;> rfl)); (focus rfl); simp only [Act.put, zA, zB, zC]) | (refine orde_q (o := ?_) (v := ?_) ?_ ?_ ?_ ?_; rotate_left 2; (focus ((simp only [zD, zE, zF]) <;> rfl)); (focus rfl); (focus (intro w' hS; (try dsimp only at hS); go_split_ands; go_simp; (try (with_reducible rfl)))); simp only [Act.put, zA, zB, zC]))
            refine orde_e ?_
            (refine ope_e (o := ?_) ?_ ?_ (fun K hK => ?_); rotate_left 1; (focus ((simp only [zD, zE, zF]) <;> rfl)); (focus rfl); go_simp)
            refine (pick_any R s c xs (p1 + 1 + 1) 4 _ H7.out.1 (by have := HP1.out; omega) (by omega)).mono ?_
            rintro e w8 ⟨q8, rfl, hq1, hq2, hq3, hq4⟩
            have H8 := Lib.hid (H7.out.2.trans hq3.chg)
            clear hq1 hq2 hq3 hq4
            have cb := (blk_all (HO.out _ H8.out).2.1).1
            refine hK.out _ _ cb ?_
            clear hK K
            have rf := fun j => ((HO.out _ H8.out).1.frozenAt j)
            have zc := (HO.out _ H8.out).1.cellAt k (by omega)
            have zk : (ints A.next)[k]? = some (.int .i64 (A.next[k])) := by unfold ints; rw [List.getElem?_map, List.getElem?_eq_getElem hk]; rfl
            rw [zk] at zc
            clear zk
            (try simp only [Act.put, zA, zB, zC])
            repeat (first | (refine orde_s (o := ?_) ?_ ?_ ?_; rotate_left 1; (focus ((simp only [zD, zE, zF]) <;> rfl)); (focus rfl); simp only [Act.put, zA, zB, zC]) | (refine orde_q (o := ?_) (v := ?_) ?_ ?_ ?_ ?_; rotate_left 2; (focus ((simp only [zD, zE, zF]) <;> rfl)); (focus rfl); (focus (intro w' hS; (try dsimp only at hS); go_split_ands; go_simp; (try (with_reducible rfl)))); simp only [Act.put, zA, zB, zC]))
            (refine orde_z (o := ?_) ?_ ?_ (fun K hK => ?_); rotate_left 1; (focus ((simp only [zD, zE, zF]) <;> rfl)); (focus rfl); go_simp)
            refine hK.out _ _ ?_
            clear hK K cb rf zc
            go_upto_region 18 with fail
            obtain ⟨W8, hW8⟩ : ∃ W8, W8 = w8.setCell ⟨G, k, none⟩ (.int .i64 q8) := ⟨_, rfl⟩
            have HE : Hid (CirOwn W8 (Z + 2) ⟨A.inp, A.next.set k q8, A.gates, A.outs⟩ (.slice (some ⟨G, 0, none⟩) (A.next.set k q8).length c6) (.slice sg A.gates.length cg) (.slice so A.outs.length co) ∧ W8.heap[BB]? = some (.cells #[.int .i64 A.inp, .slice (some ⟨G, 0, none⟩) (A.next.set k q8).length c6, .slice sg A.gates.length cg, .slice so A.outs.length co] 26 (0, 0)) ∧ Chg (fun k => k = R) W1 W8) := by
              obtain ⟨o1, o2, o3, o4, o5⟩ := HO.out _ H8.out
              have x1 : Chg (fun k => k = G) w8 W8 := by rw [hW8]; exact chgS (S := fun k => k = G) _ _ _ rfl
              obtain ⟨m1, m2, m3, m4, m5, m6, m7⟩ := HM.out
              have hc1 : Chg (fun k => k = R) W1 W8 := o5.tail x1 (fun k e => by omega)
              have ho : W8.ownsRow W2.heap.size 3 1 (.slice (some ⟨G, 0, none⟩) A.next.length c6) A.next.length (ints (A.next.set k q8)) := by
                rw [hW8, show ints (A.next.set k q8) = (ints A.next).set k (.int .i64 q8) by unfold ints; rw [List.map_set]]
                exact (o1.stored k _).1
              rw [List.length_set]
              exact ⟨HOW.out W8 _ hc1 ho (by rw [List.length_set]), x1.blk o2 (by omega), hc1⟩
            rw [← hW8]
            clear hW8 HO HG HOW H8 H7
            obtain ⟨B, tn, dn, tg, dg, to_, do_, W4, hW4, HE⟩ : ∃ (B : Cir) (tn : Option Addr) (dn : Nat) (tg : Option Addr) (dg : Nat) (to_ : Option Addr) (do_ : Nat) (W4 : World), W4 = W8 ∧ Hid (CirOwn W4 (Z + 2) B (.slice tn B.next.length dn) (.slice tg B.gates.length dg) (.slice to_ B.outs.length do_) ∧ W4.heap[BB]? = some (.cells #[.int .i64 B.inp, .slice tn B.next.length dn, .slice tg B.gates.length dg, .slice to_ B.outs.length do_] 26 (0, 0)) ∧ Chg (fun k => k = R) W1 W4) := ⟨⟨A.inp, A.next.set k q8, A.gates, A.outs⟩, some ⟨G, 0, none⟩, c6, sg, cg, so, co, W8, rfl, HE⟩
            rw [← hW4]
            clear hW4
            have HZR : Hid (Z + 2 ≤ BA ∧ BA < W1.heap.size ∧ (R < Z ∧ W1.heap.size ≤ BB)) := ⟨HY.out.2.2, HY.out.2.1, hR, HBB⟩
            have ca := (blk_all (HA.out _ HE.out.2.2).2.1).1
            have cb := (blk_all HE.out.2.1).1
            refine wp_region_T (fun w' => (∀ o, w'.cell? ⟨BA, o, none⟩ = #[Value.int .i64 A.inp, .slice sn A.next.length cn, .slice sg A.gates.length cg, .slice so A.outs.length co][o]?) ∧ (∀ o, w'.cell? ⟨BB, o, none⟩ = #[Value.int .i64 B.inp, .slice tn B.next.length dn, .slice tg B.gates.length dg, .slice to_ B.outs.length do_][o]?)) (.q 0 (.q 1 (.e 2 (.e 3 .nil)))) (by kernel_rfl) (by kernel_rfl) (by kernel_rfl) ⟨ca, cb⟩ ?_
            clear ca cb
            obtain ⟨Wd, hWd⟩ : ∃ Wd, Wd = W4.drew := ⟨_, rfl⟩
            have HE : Hid (CirOwn Wd (Z + 2) A (.slice sn A.next.length cn) (.slice sg A.gates.length cg) (.slice so A.outs.length co) ∧ CirOwn Wd (Z + 2) B (.slice tn B.next.length dn) (.slice tg B.gates.length dg) (.slice to_ B.outs.length do_) ∧ Wd.heap[BA]? = some (.cells #[.int .i64 A.inp, .slice sn A.next.length cn, .slice sg A.gates.length cg, .slice so A.outs.length co] 26 (0, 0)) ∧ Wd.heap[BB]? = some (.cells #[.int .i64 B.inp, .slice tn B.next.length dn, .slice tg B.gates.length dg, .slice to_ B.outs.length do_] 26 (0, 0)) ∧ Wd.heap[Z]? = some (.cells #[.int .i64 0, .slice none 0 0, .slice none 0 0, .slice none 0 0] 26 (0, 0)) ∧ Wd.heap[Z + 1]? = some (.cells #[.int .i64 0, .slice none 0 0, .slice none 0 0, .slice none 0 0] 26 (0, 0)) ∧ Chg (fun k => k = R) w Wd) := by
              have hd := (Below.refl W4.heap.size W4).drew
              rw [← hWd] at hd
              have hh := HA.out _ (HE.out.2.2.trans (Chg.of_below hd))
              exact ⟨hh.1, own_cbelow HE.out.1 hd, hh.2.1, blk_below hd (blk_lt HE.out.2.1) HE.out.2.1, hh.2.2.1.1, hh.2.2.1.2, hh.2.2.2.1⟩
            rw [← hWd]
            clear hWd
            obtain ⟨rc, rf⟩ := blk_all HE.out.2.2.2.2.1
            have ca := (blk_all HE.out.2.2.1).1
            have cb := (blk_all HE.out.2.2.2.1).1
            repeat (first | (refine ordt_s (o := ?_) ?_ ?_ ?_; rotate_left 1; (focus ((simp only [zD, zE, zF]) <;> rfl)); (focus rfl); simp only [Act.put, zA, zB, zC]) | (refine ordt_q (o := ?_) (v := ?_) ?_ ?_ ?_ ?_; rotate_left 2; (focus ((simp only [zD, zE, zF]) <;> rfl)); (focus rfl); (focus (intro w' hS; (try dsimp only at hS); go_split_ands; go_simp; (try (with_reducible rfl)))); simp only [Act.put, zA, zB, zC]))
            refine ordt_e ?_
            (refine op_e (o := ?_) ?_ ?_ (fun K hK => ?_); rotate_left 1; (focus ((simp only [zD, zE, zF]) <;> rfl)); (focus rfl); go_simp)
            obtain ⟨W5, hW5⟩ : ∃ W5, W5 = ((((Wd.setCell ⟨Z, 0, none⟩ (.int .i64 A.inp)).setCell ⟨Z, 1, none⟩ (.slice sn A.next.length cn)).setCell ⟨Z, 2, none⟩ (.slice sg A.gates.length cg)).setCell ⟨Z, 3, none⟩ (.slice so A.outs.length co)) := ⟨_, rfl⟩
            have HE5 : Hid (CirOwn W5 (Z + 2) A (.slice sn A.next.length cn) (.slice sg A.gates.length cg) (.slice so A.outs.length co) ∧ CirOwn W5 (Z + 2) B (.slice tn B.next.length dn) (.slice tg B.gates.length dg) (.slice to_ B.outs.length do_) ∧ W5.heap[BA]? = some (.cells #[.int .i64 A.inp, .slice sn A.next.length cn, .slice sg A.gates.length cg, .slice so A.outs.length co] 26 (0, 0)) ∧ W5.heap[BB]? = some (.cells #[.int .i64 B.inp, .slice tn B.next.length dn, .slice tg B.gates.length dg, .slice to_ B.outs.length do_] 26 (0, 0)) ∧ W5.heap[Z]? = some (.cells #[.int .i64 A.inp, .slice sn A.next.length cn, .slice sg A.gates.length cg, .slice so A.outs.length co] 26 (0, 0)) ∧ W5.heap[Z + 1]? = some (.cells #[.int .i64 0, .slice none 0 0, .slice none 0 0, .slice none 0 0] 26 (0, 0)) ∧ Chg (fun k => k = R) w W5) := by
              have x1 : Chg (fun k => k = Z) Wd W5 := by rw [hW5]; exact (((chgS (S := fun k => k = Z) _ 0 _ rfl).trans (chgS _ 1 _ rfl)).trans (chgS _ 2 _ rfl)).trans (chgS _ 3 _ rfl)
              obtain ⟨q1, q2, q3⟩ := HZR.out
              refine ⟨HE.out.1.chgs x1 (fun k hk _ e => by omega), HE.out.2.1.chgs x1 (fun k hk _ e => by omega), x1.blk HE.out.2.2.1 (by omega), x1.blk HE.out.2.2.2.1 (by omega), ?_, x1.blk HE.out.2.2.2.2.2.1 (by omega), HE.out.2.2.2.2.2.2.tail x1 (fun k e => by have := HW.out.2.1; omega)⟩
              rw [hW5]; simpa using blk_set (o := 3) (v := .slice so A.outs.length co) (blk_set (o := 2) (v := .slice sg A.gates.length cg) (blk_set (o := 1) (v := .slice sn A.next.length cn) (blk_set (o := 0) (v := .int .i64 A.inp) (HE.out.2.2.2.2.1))))
            rw [← hW5]
            clear hW5 ca rc rf
            clear cb
            refine hK.out _ _ ⟨(blk_all HE5.out.2.2.1).1, (blk_all HE5.out.2.2.2.1).1⟩ ?_
            clear hK K
            obtain ⟨rc, rf⟩ := blk_all HE5.out.2.2.2.2.2.1
            have ca := (blk_all HE5.out.2.2.1).1
            have cb := (blk_all HE5.out.2.2.2.1).1
            (try simp only [Act.put, zA, zB, zC])
            repeat (first | (refine ordt_s (o := ?_) ?_ ?_ ?_; rotate_left 1; (focus ((simp only [zD, zE, zF]) <;> rfl)); (focus rfl); simp only [Act.put, zA, zB, zC]) | (refine ordt_q (o := ?_) (v := ?_) ?_ ?_ ?_ ?_; rotate_left 2; (focus ((simp only [zD, zE, zF]) <;> rfl)); (focus rfl); (focus (intro w' hS; (try dsimp only at hS); go_split_ands; go_simp; (try (with_reducible rfl)))); simp only [Act.put, zA, zB, zC]))
            refine ordt_e ?_
            (refine op_e (o := ?_) ?_ ?_ (fun K hK => ?_); rotate_left 1; (focus ((simp only [zD, zE, zF]) <;> rfl)); (focus rfl); go_simp)
            obtain ⟨W6, hW6⟩ : ∃ W6, W6 = ((((W5.setCell ⟨Z + 1, 0, none⟩ (.int .i64 B.inp)).setCell ⟨Z + 1, 1, none⟩ (.slice tn B.next.length dn)).setCell ⟨Z + 1, 2, none⟩ (.slice tg B.gates.length dg)).setCell ⟨Z + 1, 3, none⟩ (.slice to_ B.outs.length do_)) := ⟨_, rfl⟩
            have HE6 : Hid (CirOwn W6 (Z + 2) A (.slice sn A.next.length cn) (.slice sg A.gates.length cg) (.slice so A.outs.length co) ∧ CirOwn W6 (Z + 2) B (.slice tn B.next.length dn) (.slice tg B.gates.length dg) (.slice to_ B.outs.length do_) ∧ W6.heap[BA]? = some (.cells #[.int .i64 A.inp, .slice sn A.next.length cn, .slice sg A.gates.length cg, .slice so A.outs.length co] 26 (0, 0)) ∧ W6.heap[BB]? = some (.cells #[.int .i64 B.inp, .slice tn B.next.length dn, .slice tg B.gates.length dg, .slice to_ B.outs.length do_] 26 (0, 0)) ∧ W6.heap[Z]? = some (.cells #[.int .i64 A.inp, .slice sn A.next.length cn, .slice sg A.gates.length cg, .slice so A.outs.length co] 26 (0, 0)) ∧ W6.heap[Z + 1]? = some (.cells #[.int .i64 B.inp, .slice tn B.next.length dn, .slice tg B.gates.length dg, .slice to_ B.outs.length do_] 26 (0, 0)) ∧ Chg (fun k => k = R) w W6) := by
              have x1 : Chg (fun k => k = Z + 1) W5 W6 := by rw [hW6]; exact (((chgS (S := fun k => k = Z + 1) _ 0 _ rfl).trans (chgS _ 1 _ rfl)).trans (chgS _ 2 _ rfl)).trans (chgS _ 3 _ rfl)
              obtain ⟨q1, q2, q3⟩ := HZR.out
              refine ⟨HE5.out.1.chgs x1 (fun k hk _ e => by omega), HE5.out.2.1.chgs x1 (fun k hk _ e => by omega), x1.blk HE5.out.2.2.1 (by omega), x1.blk HE5.out.2.2.2.1 (by omega), x1.blk HE5.out.2.2.2.2.1 (by omega), ?_, HE5.out.2.2.2.2.2.2.tail x1 (fun k e => by have := HW.out.2.1; omega)⟩
              rw [hW6]; simpa using blk_set (o := 3) (v := .slice to_ B.outs.length do_) (blk_set (o := 2) (v := .slice tg B.gates.length dg) (blk_set (o := 1) (v := .slice tn B.next.length dn) (blk_set (o := 0) (v := .int .i64 B.inp) (HE5.out.2.2.2.2.2.1))))
            rw [← hW6]
            clear hW6 ca rc rf
            clear cb
            refine hK.out _ _ ⟨(blk_all HE6.out.2.2.1).1, (blk_all HE6.out.2.2.2.1).1⟩ ?_
            clear hK K
            (try simp only [Act.put, zA, zB, zC])
            refine ordt_nil ?_
            have cr := (blk_all HE6.out.2.2.2.2.1).1
            have cr2 := (blk_all HE6.out.2.2.2.2.2.1).1
            go_wp2_with fail
            exact bodyPost_ret (v := .tuple #[.agg #[.int .i64 A.inp, .slice sn A.next.length cn, .slice sg A.gates.length cg, .slice so A.outs.length co], .agg #[.int .i64 B.inp, .slice tn B.next.length dn, .slice tg B.gates.length dg, .slice to_ B.outs.length do_]]) (by simp [results, Try.results109, go_sem, cr, cr2]) rfl ⟨A, B, _, _, _, _, _, _, rfl, HE6.out.1.low (by have := HW.out.2.1; omega), HE6.out.2.1.low (by have := HW.out.2.1; omega), HE6.out.2.2.2.2.2.2⟩
          · have HE : Hid (CirOwn W5 (Z + 2) A (.slice s6 A.next.length c6) (.slice sg A.gates.length cg) (.slice so A.outs.length co) ∧ W5.heap[BB]? = some (.cells #[.int .i64 A.inp, .slice s6 A.next.length c6, .slice sg A.gates.length cg, .slice so A.outs.length co] 26 (0, 0)) ∧ Chg (fun k => k = R) W1 W5) := ⟨HOW.out W5 A.next HG.out.2.2.1 HG.out.1 rfl, HG.out.2.1, HG.out.2.2.1⟩
            have cb := (blk_all HG.out.2.1).1
            clear HG HOW
            go_upto_region 18 with fail
            clear cb
            obtain ⟨B, tn, dn, tg, dg, to_, do_, W4, hW4, HE⟩ : ∃ (B : Cir) (tn : Option Addr) (dn : Nat) (tg : Option Addr) (dg : Nat) (to_ : Option Addr) (do_ : Nat) (W4 : World), W4 = W5 ∧ Hid (CirOwn W4 (Z + 2) B (.slice tn B.next.length dn) (.slice tg B.gates.length dg) (.slice to_ B.outs.length do_) ∧ W4.heap[BB]? = some (.cells #[.int .i64 B.inp, .slice tn B.next.length dn, .slice tg B.gates.length dg, .slice to_ B.outs.length do_] 26 (0, 0)) ∧ Chg (fun k => k = R) W1 W4) := ⟨A, s6, c6, sg, cg, so, co, W5, rfl, HE⟩
            rw [← hW4]
            clear hW4
            have HZR : Hid (Z + 2 ≤ BA ∧ BA < W1.heap.size ∧ (R < Z ∧ W1.heap.size ≤ BB)) := ⟨HY.out.2.2, HY.out.2.1, hR, HBB⟩
            have ca := (blk_all (HA.out _ HE.out.2.2).2.1).1
            have cb := (blk_all HE.out.2.1).1
            refine wp_region_T (fun w' => (∀ o, w'.cell? ⟨BA, o, none⟩ = #[Value.int .i64 A.inp, .slice sn A.next.length cn, .slice sg A.gates.length cg, .slice so A.outs.length co][o]?) ∧ (∀ o, w'.cell? ⟨BB, o, none⟩ = #[Value.int .i64 B.inp, .slice tn B.next.length dn, .slice tg B.gates.length dg, .slice to_ B.outs.length do_][o]?)) (.q 0 (.q 1 (.e 2 (.e 3 .nil)))) (by kernel_rfl) (by kernel_rfl) (by kernel_rfl) ⟨ca, cb⟩ ?_
            clear ca cb
            obtain ⟨Wd, hWd⟩ : ∃ Wd, Wd = W4.drew := ⟨_, rfl⟩
            have HE : Hid (CirOwn Wd (Z + 2) A (.slice sn A.next.length cn) (.slice sg A.gates.length cg) (.slice so A.outs.length co) ∧ CirOwn Wd (Z + 2) B (.slice tn B.next.length dn) (.slice tg B.gates.length dg) (.slice to_ B.outs.length do_) ∧ Wd.heap[BA]? = some (.cells #[.int .i64 A.inp, .slice sn A.next.length cn, .slice sg A.gates.length cg, .slice so A.outs.length co] 26 (0, 0)) ∧ Wd.heap[BB]? = some (.cells #[.int .i64 B.inp, .slice tn B.next.length dn, .slice tg B.gates.length dg, .slice to_ B.outs.length do_] 26 (0, 0)) ∧ Wd.heap[Z]? = some (.cells #[.int .i64 0, .slice none 0 0, .slice none 0 0, .slice none 0 0] 26 (0, 0)) ∧ Wd.heap[Z + 1]? = some (.cells #[.int .i64 0, .slice none 0 0, .slice none 0 0, .slice none 0 0] 26 (0, 0)) ∧ Chg (fun k => k = R) w Wd) := by
              have hd := (Below.refl W4.heap.size W4).drew
              rw [← hWd] at hd
              have hh := HA.out _ (HE.out.2.2.trans (Chg.of_below hd))
              exact ⟨hh.1, own_cbelow HE.out.1 hd, hh.2.1, blk_below hd (blk_lt HE.out.2.1) HE.out.2.1, hh.2.2.1.1, hh.2.2.1.2, hh.2.2.2.1⟩
            rw [← hWd]
            clear hWd
            obtain ⟨rc, rf⟩ := blk_all HE.out.2.2.2.2.1
            have ca := (blk_all HE.out.2.2.1).1
            have cb := (blk_all HE.out.2.2.2.1).1
            repeat (first | (refine ordt_s (o := ?_) ?_ ?_ ?_; rotate_left 1; (focus ((simp only [zD, zE, zF]) <;> rfl)); (focus rfl); simp only [Act.put, zA, zB, zC]) | (refine ordt_q (o := ?_) (v := ?_) ?_ ?_ ?_ ?_; rotate_left 2; (focus ((simp only [zD, zE, zF]) <;> rfl)); (focus rfl); (focus (intro w' hS; (try dsimp only at hS); go_split_ands; go_simp; (try (with_reducible rfl)))); simp only [Act.put, zA, zB, zC]))
            refine ordt_e ?_
            (refine op_e (o := ?_) ?_ ?_ (fun K hK => ?_); rotate_left 1; (focus ((simp only [zD, zE, zF]) <;> rfl)); (focus rfl); go_simp)
            obtain ⟨W5, hW5⟩ : ∃ W5, W5 = ((((Wd.setCell ⟨Z, 0, none⟩ (.int .i64 A.inp)).setCell ⟨Z, 1, none⟩ (.slice sn A.next.length cn)).setCell ⟨Z, 2, none⟩ (.slice sg A.gates.length cg)).setCell ⟨Z, 3, none⟩ (.slice so A.outs.length co)) := ⟨_, rfl⟩
            have HE5 : Hid (CirOwn W5 (Z + 2) A (.slice sn A.next.length cn) (.slice sg A.gates.length cg) (.slice so A.outs.length co) ∧ CirOwn W5 (Z + 2) B (.slice tn B.next.length dn) (.slice tg B.gates.length dg) (.slice to_ B.outs.length do_) ∧ W5.heap[BA]? = some (.cells #[.int .i64 A.inp, .slice sn A.next.length cn, .slice sg A.gates.length cg, .slice so A.outs.length co] 26 (0, 0)) ∧ W5.heap[BB]? = some (.cells #[.int .i64 B.inp, .slice tn B.next.length dn, .slice tg B.gates.length dg, .slice to_ B.outs.length do_] 26 (0, 0)) ∧ W5.heap[Z]? = some (.cells #[.int .i64 A.inp, .slice sn A.next.length cn, .slice sg A.gates.length cg, .slice so A.outs.length co] 26 (0, 0)) ∧ W5.heap[Z + 1]? = some (.cells #[.int .i64 0, .slice none 0 0, .slice none 0 0, .slice none 0 0] 26 (0, 0)) ∧ Chg (fun k => k = R) w W5) := by
              have x1 : Chg (fun k => k = Z) Wd W5 := by rw [hW5]; exact (((chgS (S := fun k => k = Z) _ 0 _ rfl).trans (chgS _ 1 _ rfl)).trans (chgS _ 2 _ rfl)).trans (chgS _ 3 _ rfl)
              obtain ⟨q1, q2, q3⟩ := HZR.out
              refine ⟨HE.out.1.chgs x1 (fun k hk _ e => by omega), HE.out.2.1.chgs x1 (fun k hk _ e => by omega), x1.blk HE.out.2.2.1 (by omega), x1.blk HE.out.2.2.2.1 (by omega), ?_, x1.blk HE.out.2.2.2.2.2.1 (by omega), HE.out.2.2.2.2.2.2.tail x1 (fun k e => by have := HW.out.2.1; omega)⟩
              rw [hW5]; simpa using blk_set (o := 3) (v := .slice so A.outs.length co) (blk_set (o := 2) (v := .slice sg A.gates.length cg) (blk_set (o := 1) (v := .slice sn A.next.length cn) (blk_set (o := 0) (v := .int .i64 A.inp) (HE.out.2.2.2.2.1))))
            rw [← hW5]
            clear hW5 ca rc rf
            clear cb
            refine hK.out _ _ ⟨(blk_all HE5.out.2.2.1).1, (blk_all HE5.out.2.2.2.1).1⟩ ?_
            clear hK K
            obtain ⟨rc, rf⟩ := blk_all HE5.out.2.2.2.2.2.1
            have ca := (blk_all HE5.out.2.2.1).1
            have cb := (blk_all HE5.out.2.2.2.1).1
            (try simp only [Act.put, zA, zB, zC])
            repeat (first | (refine ordt_s (o := ?_) ?_ ?_ ?_; rotate_left 1; (focus ((simp only [zD, zE, zF]) <;> rfl)); (focus rfl); simp only [Act.put, zA, zB, zC]) | (refine ordt_q (o := ?_) (v := ?_) ?_ ?_ ?_ ?_; rotate_left 2; (focus ((simp only [zD, zE, zF]) <;> rfl)); (focus rfl); (focus (intro w' hS; (try dsimp only at hS); go_split_ands; go_simp; (try (with_reducible rfl)))); simp only [Act.put, zA, zB, zC]))
            refine ordt_e ?_
            (refine op_e (o := ?_) ?_ ?_ (fun K hK => ?_); rotate_left 1; (focus ((simp only [zD, zE, zF]) <;> rfl)); (focus rfl); go_simp)
            obtain ⟨W6, hW6⟩ : ∃ W6, W6 = ((((W5.setCell ⟨Z + 1, 0, none⟩ (.int .i64 B.inp)).setCell ⟨Z + 1, 1, none⟩ (.slice tn B.next.length dn)).setCell ⟨Z + 1, 2, none⟩ (.slice tg B.gates.length dg)).setCell ⟨Z + 1, 3, none⟩ (.slice to_ B.outs.length do_)) := ⟨_, rfl⟩
            have HE6 : Hid (CirOwn W6 (Z + 2) A (.slice sn A.next.length cn) (.slice sg A.gates.length cg) (.slice so A.outs.length co) ∧ CirOwn W6 (Z + 2) B (.slice tn B.next.length dn) (.slice tg B.gates.length dg) (.slice to_ B.outs.length do_) ∧ W6.heap[BA]? = some (.cells #[.int .i64 A.inp, .slice sn A.next.length cn, .slice sg A.gates.length cg, .slice so A.outs.length co] 26 (0, 0)) ∧ W6.heap[BB]? = some (.cells #[.int .i64 B.inp, .slice tn B.next.length dn, .slice tg B.gates.length dg, .slice to_ B.outs.length do_] 26 (0, 0)) ∧ W6.heap[Z]? = some (.cells #[.int .i64 A.inp, .slice sn A.next.length cn, .slice sg A.gates.length cg, .slice so A.outs.length co] 26 (0, 0)) ∧ W6.heap[Z + 1]? = some (.cells #[.int .i64 B.inp, .slice tn B.next.length dn, .slice tg B.gates.length dg, .slice to_ B.outs.length do_] 26 (0, 0)) ∧ Chg (fun k => k = R) w W6) := by
              have x1 : Chg (fun k => k = Z + 1) W5 W6 := by rw [hW6]; exact (((chgS (S := fun k => k = Z + 1) _ 0 _ rfl).trans (chgS _ 1 _ rfl)).trans (chgS _ 2 _ rfl)).trans (chgS _ 3 _ rfl)
              obtain ⟨q1, q2, q3⟩ := HZR.out
              refine ⟨HE5.out.1.chgs x1 (fun k hk _ e => by omega), HE5.out.2.1.chgs x1 (fun k hk _ e => by omega), x1.blk HE5.out.2.2.1 (by omega), x1.blk HE5.out.2.2.2.1 (by omega), x1.blk HE5.out.2.2.2.2.1 (by omega), ?_, HE5.out.2.2.2.2.2.2.tail x1 (fun k e => by have := HW.out.2.1; omega)⟩
              rw [hW6]; simpa using blk_set (o := 3) (v := .slice to_ B.outs.length do_) (blk_set (o := 2) (v := .slice tg B.gates.length dg) (blk_set (o := 1) (v := .slice tn B.next.length dn) (blk_set (o := 0) (v := .int .i64 B.inp) (HE5.out.2.2.2.2.2.1))))
            rw [← hW6]
            clear hW6 ca rc rf
            clear cb
            refine hK.out _ _ ⟨(blk_all HE6.out.2.2.1).1, (blk_all HE6.out.2.2.2.1).1⟩ ?_
            clear hK K
            (try simp only [Act.put, zA, zB, zC])
            refine ordt_nil ?_
            have cr := (blk_all HE6.out.2.2.2.2.1).1
            have cr2 := (blk_all HE6.out.2.2.2.2.2.1).1
            go_wp2_with fail
            exact bodyPost_ret (v := .tuple #[.agg #[.int .i64 A.inp, .slice sn A.next.length cn, .slice sg A.gates.length cg, .slice so A.outs.length co], .agg #[.int .i64 B.inp, .slice tn B.next.length dn, .slice tg B.gates.length dg, .slice to_ B.outs.length do_]]) (by simp [results, Try.results109, go_sem, cr, cr2]) rfl ⟨A, B, _, _, _, _, _, _, rfl, HE6.out.1.low (by have := HW.out.2.1; omega), HE6.out.2.1.low (by have := HW.out.2.1; omega), HE6.out.2.2.2.2.2.2⟩
      · obtain rfl : q = 2 := by simpa using e2
        go_upto_region 9 with fail
        go_loopw [5] (fun i wr => ∃ k : Nat, k ≤ A.gates.length ∧ i = .int .i64 k ∧ Below w3.heap.size w3 wr) (fun i _ => A.gates.length - (intOf i).toNat)
        case atStart => exact ⟨0, Nat.zero_le _, rfl, Below.refl _ _⟩
        case round =>
          obtain ⟨k, hk, rfl, hbl⟩ := hrel
          have HCK : Hid (Chg (fun k => k = R) W1 wr ∧ Rd wr R s c xs (p1 + 1) ∧ Below w3.heap.size w3 wr) := ⟨(HB.out _ H3.out.2).trans (Chg.of_below hbl), H3.out.1.mono hbl, hbl⟩
          have ca := (blk_all (HA.out _ HCK.out.1).2.1).1
          clear hbl
          by_cases hlt : k < A.gates.length
          · cases hcr : canRetimeB A k
            · have HCR := Lib.hid hcr
              clear hcr
              go_wp2_with (go_at_call 25; ((with_reducible refine (CanRetime_s _ A k _ (own_cv (HA.out _ HCK.out.1).1)).mono ?_); rintro e wn ⟨rfl, hq⟩; rw [HCR.out]; have HN := Lib.hid (HCK.out.2.2.trans (hq.mono HCK.out.2.2.size)); clear hq ca))
              go_roundw
              case rel => exact ⟨k + 1, by omega, by go_num, HN.out⟩
              case measure => simp [intOf]; omega
            · have HCR := Lib.hid hcr
              clear hcr
              go_upto_region 12 with (go_at_call 25; ((with_reducible refine (CanRetime_s _ A k _ (own_cv (HA.out _ HCK.out.1).1)).mono ?_); rintro e WK ⟨rfl, hq⟩; rw [HCR.out]; have HCK := Lib.hid (And.intro (HCK.out.1.trans (Chg.of_below hq)) trivial); clear hq ca))
              have HZR : Hid (Z + 2 ≤ BA ∧ BA < W1.heap.size ∧ R < Z) := ⟨HY.out.2.2, HY.out.2.1, hR⟩
              have hch := HCK.out.1
              refine wp_region_T (fun w' => ∀ o, w'.cell? ⟨BA, o, none⟩ = #[Value.int .i64 A.inp, .slice sn A.next.length cn, .slice sg A.gates.length cg, .slice so A.outs.length co][o]?) (.q 0 (.q 1 (.q 2 (.e 3 (.e 4 (.e 5 .nil)))))) (by kernel_rfl) (by kernel_rfl) (by kernel_rfl) (blk_all (HA.out _ (hch.trans (Chg.of_below (Below.refl _ _).drew))).2.1).1 ?_
              have HCH := Lib.hid (hch.trans (Chg.of_below (Below.refl WK.heap.size WK).drew))
              clear hch
              revert HCH
              generalize WK.drew = Wc
              intro HCH
              have ca := (blk_all (HA.out _ HCH.out).2.1).1
              repeat (first | (refine ordt_s (o := ?_) ?_ ?_ ?_; rotate_left 1; (focus ((simp only [zD, zE, zF]) <;> rfl)); (focus rfl); simp only [Act.put, zA, zB, zC]) | (refine ordt_q (o := ?_) (v := ?_) ?_ ?_ ?_ ?_; rotate_left 2; (focus ((simp only [zD, zE, zF]) <;> rfl)); (focus rfl); (focus (intro w' hS; (try dsimp only at hS); go_split_ands; go_simp; (try (with_reducible rfl)))); simp only [Act.put, zA, zB, zC]))
              refine ordt_e ?_
              (refine op_e (o := ?_) ?_ ?_ (fun K hK => ?_); rotate_left 1; (focus ((simp only [zD, zE, zF]) <;> rfl)); (focus rfl); go_simp)
              refine (Retime_s _ A k _ (own_cv (HA.out _ HCH.out).1)).mono ?_
              rintro e Wd ⟨un, ug, uo, rfl, h1, h5⟩
              obtain ⟨B, hB⟩ : ∃ B, B = retR A k := ⟨_, rfl⟩
              rw [← hB] at h1 ⊢
              obtain ⟨tn, dn, rfl⟩ := own_shape h1.n
              obtain ⟨tg, dg, rfl⟩ := own_shape h1.g
              obtain ⟨to_, do_, rfl⟩ := own_shape h1.o
              have HE : Hid (CirOwn Wd (Z + 2) A (.slice sn A.next.length cn) (.slice sg A.gates.length cg) (.slice so A.outs.length co) ∧ CirOwn Wd (Z + 2) B (.slice tn B.next.length dn) (.slice tg B.gates.length dg) (.slice to_ B.outs.length do_) ∧ Wd.heap[BA]? = some (.cells #[.int .i64 A.inp, .slice sn A.next.length cn, .slice sg A.gates.length cg, .slice so A.outs.length co] 26 (0, 0)) ∧ True ∧ Wd.heap[Z]? = some (.cells #[.int .i64 0, .slice none 0 0, .slice none 0 0, .slice none 0 0] 26 (0, 0)) ∧ Wd.heap[Z + 1]? = some (.cells #[.int .i64 0, .slice none 0 0, .slice none 0 0, .slice none 0 0] 26 (0, 0)) ∧ Chg (fun k => k = R) w Wd) := by
                have hc := HCH.out.trans (Chg.of_below (S := fun k => k = R) h5)
                obtain ⟨e1, e2, e3, e4, e5⟩ := HA.out _ hc
                obtain ⟨-, -, -, -, e6⟩ := HA.out _ HCH.out
                obtain ⟨q1, q2, q3⟩ := HZR.out
                exact ⟨e1, h1.low (by omega), e2, trivial, e3.1, e3.2, e4⟩
              clear h1 h5 hB ca
              refine hK.out _ _ (blk_all HE.out.2.2.1).1 ?_
              clear hK K
              (try simp only [Act.put, zA, zB, zC])
              obtain ⟨rc, rf⟩ := blk_all HE.out.2.2.2.2.1
              have ca := (blk_all HE.out.2.2.1).1
              repeat (first | (refine ordt_s (o := ?_) ?_ ?_ ?_; rotate_left 1; (focus ((simp only [zD, zE, zF]) <;> rfl)); (focus rfl); simp only [Act.put, zA, zB, zC]) | (refine ordt_q (o := ?_) (v := ?_) ?_ ?_ ?_ ?_; rotate_left 2; (focus ((simp only [zD, zE, zF]) <;> rfl)); (focus rfl); (focus (intro w' hS; (try dsimp only at hS); go_split_ands; go_simp; (try (with_reducible rfl)))); simp only [Act.put, zA, zB, zC]))
              refine ordt_e ?_
              (refine op_e (o := ?_) ?_ ?_ (fun K hK => ?_); rotate_left 1; (focus ((simp only [zD, zE, zF]) <;> rfl)); (focus rfl); go_simp)
              obtain ⟨W5, hW5⟩ : ∃ W5, W5 = ((((Wd.setCell ⟨Z, 0, none⟩ (.int .i64 A.inp)).setCell ⟨Z, 1, none⟩ (.slice sn A.next.length cn)).setCell ⟨Z, 2, none⟩ (.slice sg A.gates.length cg)).setCell ⟨Z, 3, none⟩ (.slice so A.outs.length co)) := ⟨_, rfl⟩
              have HE5 : Hid (CirOwn W5 (Z + 2) A (.slice sn A.next.length cn) (.slice sg A.gates.length cg) (.slice so A.outs.length co) ∧ CirOwn W5 (Z + 2) B (.slice tn B.next.length dn) (.slice tg B.gates.length dg) (.slice to_ B.outs.length do_) ∧ W5.heap[BA]? = some (.cells #[.int .i64 A.inp, .slice sn A.next.length cn, .slice sg A.gates.length cg, .slice so A.outs.length co] 26 (0, 0)) ∧ True ∧ W5.heap[Z]? = some (.cells #[.int .i64 A.inp, .slice sn A.next.length cn, .slice sg A.gates.length cg, .slice so A.outs.length co] 26 (0, 0)) ∧ W5.heap[Z + 1]? = some (.cells #[.int .i64 0, .slice none 0 0, .slice none 0 0, .slice none 0 0] 26 (0, 0)) ∧ Chg (fun k => k = R) w W5) := by
                have x1 : Chg (fun k => k = Z) Wd W5 := by rw [hW5]; exact (((chgS (S := fun k => k = Z) _ 0 _ rfl).trans (chgS _ 1 _ rfl)).trans (chgS _ 2 _ rfl)).trans (chgS _ 3 _ rfl)
                obtain ⟨q1, q2, q3⟩ := HZR.out
                refine ⟨HE.out.1.chgs x1 (fun k hk _ e => by omega), HE.out.2.1.chgs x1 (fun k hk _ e => by omega), x1.blk HE.out.2.2.1 (by omega), trivial, ?_, x1.blk HE.out.2.2.2.2.2.1 (by omega), HE.out.2.2.2.2.2.2.tail x1 (fun k e => by have := HW.out.2.1; omega)⟩
                rw [hW5]; simpa using blk_set (o := 3) (v := .slice so A.outs.length co) (blk_set (o := 2) (v := .slice sg A.gates.length cg) (blk_set (o := 1) (v := .slice sn A.next.length cn) (blk_set (o := 0) (v := .int .i64 A.inp) (HE.out.2.2.2.2.1))))
              rw [← hW5]
              clear hW5 ca rc rf
              skip
              refine hK.out _ _ (blk_all HE5.out.2.2.1).1 ?_
              clear hK K
              obtain ⟨rc, rf⟩ := blk_all HE5.out.2.2.2.2.2.1
              have ca := (blk_all HE5.out.2.2.1).1
              (try simp only [Act.put, zA, zB, zC])
              repeat (first | (refine ordt_s (o := ?_) ?_ ?_ ?_; rotate_left 1; (focus ((simp only [zD, zE, zF]) <;> rfl)); (focus rfl); simp only [Act.put, zA, zB, zC]) | (refine ordt_q (o := ?_) (v := ?_) ?_ ?_ ?_ ?_; rotate_left 2; (focus ((simp only [zD, zE, zF]) <;> rfl)); (focus rfl); (focus (intro w' hS; (try dsimp only at hS); go_split_ands; go_simp; (try (with_reducible rfl)))); simp only [Act.put, zA, zB, zC]))
              refine ordt_e ?_
              (refine op_e (o := ?_) ?_ ?_ (fun K hK => ?_); rotate_left 1; (focus ((simp only [zD, zE, zF]) <;> rfl)); (focus rfl); go_simp)
              obtain ⟨W6, hW6⟩ : ∃ W6, W6 = ((((W5.setCell ⟨Z + 1, 0, none⟩ (.int .i64 B.inp)).setCell ⟨Z + 1, 1, none⟩ (.slice tn B.next.length dn)).setCell ⟨Z + 1, 2, none⟩ (.slice tg B.gates.length dg)).setCell ⟨Z + 1, 3, none⟩ (.slice to_ B.outs.length do_)) := ⟨_, rfl⟩
              have HE6 : Hid (CirOwn W6 (Z + 2) A (.slice sn A.next.length cn) (.slice sg A.gates.length cg) (.slice so A.outs.length co) ∧ CirOwn W6 (Z + 2) B (.slice tn B.next.length dn) (.slice tg B.gates.length dg) (.slice to_ B.outs.length do_) ∧ W6.heap[BA]? = some (.cells #[.int .i64 A.inp, .slice sn A.next.length cn, .slice sg A.gates.length cg, .slice so A.outs.length co] 26 (0, 0)) ∧ True ∧ W6.heap[Z]? = some (.cells #[.int .i64 A.inp, .slice sn A.next.length cn, .slice sg A.gates.length cg, .slice so A.outs.length co] 26 (0, 0)) ∧ W6.heap[Z + 1]? = some (.cells #[.int .i64 B.inp, .slice tn B.next.length dn, .slice tg B.gates.length dg, .slice to_ B.outs.length do_] 26 (0, 0)) ∧ Chg (fun k => k = R) w W6) := by
                have x1 : Chg (fun k => k = Z + 1) W5 W6 := by rw [hW6]; exact (((chgS (S := fun k => k = Z + 1) _ 0 _ rfl).trans (chgS _ 1 _ rfl)).trans (chgS _ 2 _ rfl)).trans (chgS _ 3 _ rfl)
                obtain ⟨q1, q2, q3⟩ := HZR.out
                refine ⟨HE5.out.1.chgs x1 (fun k hk _ e => by omega), HE5.out.2.1.chgs x1 (fun k hk _ e => by omega), x1.blk HE5.out.2.2.1 (by omega), trivial, x1.blk HE5.out.2.2.2.2.1 (by omega), ?_, HE5.out.2.2.2.2.2.2.tail x1 (fun k e => by have := HW.out.2.1; omega)⟩
                rw [hW6]; simpa using blk_set (o := 3) (v := .slice to_ B.outs.length do_) (blk_set (o := 2) (v := .slice tg B.gates.length dg) (blk_set (o := 1) (v := .slice tn B.next.length dn) (blk_set (o := 0) (v := .int .i64 B.inp) (HE5.out.2.2.2.2.2.1))))
              rw [← hW6]
              clear hW6 ca rc rf
              skip
              refine hK.out _ _ (blk_all HE6.out.2.2.1).1 ?_
              clear hK K
              (try simp only [Act.put, zA, zB, zC])
              refine ordt_nil ?_
              have cr := (blk_all HE6.out.2.2.2.2.1).1
              have cr2 := (blk_all HE6.out.2.2.2.2.2.1).1
              go_wp2_with fail
              exact bodyPost_ret (v := .tuple #[.agg #[.int .i64 A.inp, .slice sn A.next.length cn, .slice sg A.gates.length cg, .slice so A.outs.length co], .agg #[.int .i64 B.inp, .slice tn B.next.length dn, .slice tg B.gates.length dg, .slice to_ B.outs.length do_]]) (by simp [results, Try.results109, go_sem, cr, cr2]) rfl ⟨A, B, _, _, _, _, _, _, rfl, HE6.out.1.low (by have := HW.out.2.1; omega), HE6.out.2.1.low (by have := HW.out.2.1; omega), HE6.out.2.2.2.2.2.2⟩
          · obtain rfl : k = A.gates.length := by omega
            go_wp2_with (go_at_call 115; (with_reducible refine (l20Pair_any R s c xs (p1 + 1) _ HCK.out.2.1 (by have := HP1.out; omega)).mono ?_); rintro e w4 ⟨A2, B, vn2, vg2, vo2, un, ug, uo, rfl, h0, h1, h5⟩; obtain ⟨sn2, cn2, rfl⟩ := own_shape h0.n; obtain ⟨sg2, cg2, rfl⟩ := own_shape h0.g; obtain ⟨so2, co2, rfl⟩ := own_shape h0.o; obtain ⟨tn, dn, rfl⟩ := own_shape h1.n; obtain ⟨tg, dg, rfl⟩ := own_shape h1.g; obtain ⟨to_, do_, rfl⟩ := own_shape h1.o; have H4 := Lib.hid (And.intro h0 (And.intro h1 ((HCK.out.1).trans h5))); clear h0 h1 h5; obtain ⟨rc, rf⟩ := blk_all (HA.out _ H4.out.2.2).2.2.1.1; obtain ⟨rc2, rf2⟩ := blk_all (HA.out _ H4.out.2.2).2.2.1.2)
            clear rc rf rc2 rf2
            have hzz : Z + 2 ≤ W1.heap.size := by have := HY.out.2; omega
            have hz3 := (HA.out _ (HCK.out.1)).2.2.2.2
            obtain ⟨W5, hW5⟩ : ∃ W5, W5 = ((((w4.setCell ⟨Z, 0, none⟩ (.int .i64 A2.inp)).setCell ⟨Z, 1, none⟩ (.slice sn2 A2.next.length cn2)).setCell ⟨Z, 2, none⟩ (.slice sg2 A2.gates.length cg2)).setCell ⟨Z, 3, none⟩ (.slice so2 A2.outs.length co2)) := ⟨_, rfl⟩
            have x1 : Chg (fun k => k = Z) w4 W5 := by rw [hW5]; exact (((chgS (S := fun k => k = Z) _ 0 _ rfl).trans (chgS _ 1 _ rfl)).trans (chgS _ 2 _ rfl)).trans (chgS _ 3 _ rfl)
            have x2 : W5.heap[Z]? = some (.cells #[.int .i64 A2.inp, .slice sn2 A2.next.length cn2, .slice sg2 A2.gates.length cg2, .slice so2 A2.outs.length co2] 26 (0, 0)) := by
              rw [hW5]; simpa using blk_set (o := 3) (v := .slice so2 A2.outs.length co2) (blk_set (o := 2) (v := .slice sg2 A2.gates.length cg2) (blk_set (o := 1) (v := .slice sn2 A2.next.length cn2) (blk_set (o := 0) (v := .int .i64 A2.inp) ((HA.out _ H4.out.2.2).2.2.1.1))))
            rw [← hW5]
            obtain ⟨W6, hW6⟩ : ∃ W6, W6 = ((((W5.setCell ⟨Z + 1, 0, none⟩ (.int .i64 B.inp)).setCell ⟨Z + 1, 1, none⟩ (.slice tn B.next.length dn)).setCell ⟨Z + 1, 2, none⟩ (.slice tg B.gates.length dg)).setCell ⟨Z + 1, 3, none⟩ (.slice to_ B.outs.length do_)) := ⟨_, rfl⟩
            have x3 : Chg (fun k => k = Z + 1) W5 W6 := by rw [hW6]; exact (((chgS (S := fun k => k = Z + 1) _ 0 _ rfl).trans (chgS _ 1 _ rfl)).trans (chgS _ 2 _ rfl)).trans (chgS _ 3 _ rfl)
            have x4 : W6.heap[Z + 1]? = some (.cells #[.int .i64 B.inp, .slice tn B.next.length dn, .slice tg B.gates.length dg, .slice to_ B.outs.length do_] 26 (0, 0)) := by
              rw [hW6]; simpa using blk_set (o := 3) (v := .slice to_ B.outs.length do_) (blk_set (o := 2) (v := .slice tg B.gates.length dg) (blk_set (o := 1) (v := .slice tn B.next.length dn) (blk_set (o := 0) (v := .int .i64 B.inp) ((x1.blk (HA.out _ H4.out.2.2).2.2.1.2 (by omega))))))
            have x5 := x3.blk x2 (by omega)
            have hw2 := HW.out.2.1
            have f1 := ((H4.out.1.chgs x1 (fun k hk _ e => by omega)).chgs x3 (fun k hk _ e => by omega)).low (b2 := w.heap.size) (by omega)
            have f2 := ((H4.out.2.1.chgs x1 (fun k hk _ e => by omega)).chgs x3 (fun k hk _ e => by omega)).low (b2 := w.heap.size) (by omega)
            have f3 := ((HA.out _ H4.out.2.2).2.2.2.1.tail x1 (fun k e => by omega)).tail x3 (fun k e => by omega)
            rw [← hW6]
            clear hW5 hW6 x1 x2 x3
            have cr := (blk_all x5).1
            have cr2 := (blk_all x4).1
            exact bodyPost_ret (v := .tuple #[.agg #[.int .i64 A2.inp, .slice sn2 A2.next.length cn2, .slice sg2 A2.gates.length cg2, .slice so2 A2.outs.length co2], .agg #[.int .i64 B.inp, .slice tn B.next.length dn, .slice tg B.gates.length dg, .slice to_ B.outs.length do_]]) (by simp [results, Try.results109, go_sem, cr, cr2]) rfl ⟨A2, B, _, _, _, _, _, _, rfl, f1, f2, f3⟩
    · obtain rfl : q = 1 := by simpa using e1
      go_upto_region 6 with fail
      have HZR : Hid (Z + 2 ≤ BA ∧ BA < W1.heap.size ∧ R < Z) := ⟨HY.out.2.2, HY.out.2.1, hR⟩
      have hch := (HB.out _ H3.out.2)
      refine wp_region_T (fun w' => ∀ o, w'.cell? ⟨BA, o, none⟩ = #[Value.int .i64 A.inp, .slice sn A.next.length cn, .slice sg A.gates.length cg, .slice so A.outs.length co][o]?) (.q 0 (.q 1 (.e 2 (.e 3 (.e 4 .nil))))) (by kernel_rfl) (by kernel_rfl) (by kernel_rfl) (blk_all (HA.out _ (hch.trans (Chg.of_below (Below.refl _ _).drew))).2.1).1 ?_
      have HCH := Lib.hid (hch.trans (Chg.of_below (Below.refl w3.heap.size w3).drew))
      clear hch
      revert HCH
      generalize w3.drew = Wc
      intro HCH
      have ca := (blk_all (HA.out _ HCH.out).2.1).1
      repeat (first | (refine ordt_s (o := ?_) ?_ ?_ ?_; rotate_left 1; (focus ((simp only [zD, zE, zF]) <;> rfl)); (focus rfl); simp only [Act.put, zA, zB, zC]) | (refine ordt_q (o := ?_) (v := ?_) ?_ ?_ ?_ ?_; rotate_left 2; (focus ((simp only [zD, zE, zF]) <;> rfl)); (focus rfl); (focus (intro w' hS; (try dsimp only at hS); go_split_ands; go_simp; (try (with_reducible rfl)))); simp only [Act.put, zA, zB, zC]))
      refine ordt_e ?_
      (refine op_e (o := ?_) ?_ ?_ (fun K hK => ?_); rotate_left 1; (focus ((simp only [zD, zE, zF]) <;> rfl)); (focus rfl); go_simp)
      refine (RemoveLatches_s _ A _ (own_cv (HA.out _ HCH.out).1)).mono ?_
      rintro e Wd ⟨un, ug, uo, rfl, h1, h5⟩
      obtain ⟨B, hB⟩ : ∃ B, B = rmR A := ⟨_, rfl⟩
      rw [← hB] at h1 ⊢
      obtain ⟨tn, dn, rfl⟩ := own_shape h1.n
      obtain ⟨tg, dg, rfl⟩ := own_shape h1.g
      obtain ⟨to_, do_, rfl⟩ := own_shape h1.o
      have HE : Hid (CirOwn Wd (Z + 2) A (.slice sn A.next.length cn) (.slice sg A.gates.length cg) (.slice so A.outs.length co) ∧ CirOwn Wd (Z + 2) B (.slice tn B.next.length dn) (.slice tg B.gates.length dg) (.slice to_ B.outs.length do_) ∧ Wd.heap[BA]? = some (.cells #[.int .i64 A.inp, .slice sn A.next.length cn, .slice sg A.gates.length cg, .slice so A.outs.length co] 26 (0, 0)) ∧ True ∧ Wd.heap[Z]? = some (.cells #[.int .i64 0, .slice none 0 0, .slice none 0 0, .slice none 0 0] 26 (0, 0)) ∧ Wd.heap[Z + 1]? = some (.cells #[.int .i64 0, .slice none 0 0, .slice none 0 0, .slice none 0 0] 26 (0, 0)) ∧ Chg (fun k => k = R) w Wd) := by
        have hc := HCH.out.trans (Chg.of_below (S := fun k => k = R) h5)
        obtain ⟨e1, e2, e3, e4, e5⟩ := HA.out _ hc
        obtain ⟨-, -, -, -, e6⟩ := HA.out _ HCH.out
        obtain ⟨q1, q2, q3⟩ := HZR.out
        exact ⟨e1, h1.low (by omega), e2, trivial, e3.1, e3.2, e4⟩
      clear h1 h5 hB ca
      refine hK.out _ _ (blk_all HE.out.2.2.1).1 ?_
      clear hK K
      (try simp only [Act.put, zA, zB, zC])
      obtain ⟨rc, rf⟩ := blk_all HE.out.2.2.2.2.1
      have ca := (blk_all HE.out.2.2.1).1
      repeat (first | (refine ordt_s (o := ?_) ?_ ?_ ?_; rotate_left 1; (focus ((simp only [zD, zE, zF]) <;> rfl)); (focus rfl); simp only [Act.put, zA, zB, zC]) | (refine ordt_q (o := ?_) (v := ?_) ?_ ?_ ?_ ?_; rotate_left 2; (focus ((simp only [zD, zE, zF]) <;> rfl)); (focus rfl); (focus (intro w' hS; (try dsimp only at hS); go_split_ands; go_simp; (try (with_reducible rfl)))); simp only [Act.put, zA, zB, zC]))
      refine ordt_e ?_
      (refine op_e (o := ?_) ?_ ?_ (fun K hK => ?_); rotate_left 1; (focus ((simp only [zD, zE, zF]) <;> rfl)); (focus rfl); go_simp)
      obtain ⟨W5, hW5⟩ : ∃ W5, W5 = ((((Wd.setCell ⟨Z, 0, none⟩ (.int .i64 A.inp)).setCell ⟨Z, 1, none⟩ (.slice sn A.next.length cn)).setCell ⟨Z, 2, none⟩ (.slice sg A.gates.length cg)).setCell ⟨Z, 3, none⟩ (.slice so A.outs.length co)) := ⟨_, rfl⟩
      have HE5 : Hid (CirOwn W5 (Z + 2) A (.slice sn A.next.length cn) (.slice sg A.gates.length cg) (.slice so A.outs.length co) ∧ CirOwn W5 (Z + 2) B (.slice tn B.next.length dn) (.slice tg B.gates.length dg) (.slice to_ B.outs.length do_) ∧ W5.heap[BA]? = some (.cells #[.int .i64 A.inp, .slice sn A.next.length cn, .slice sg A.gates.length cg, .slice so A.outs.length co] 26 (0, 0)) ∧ True ∧ W5.heap[Z]? = some (.cells #[.int .i64 A.inp, .slice sn A.next.length cn, .slice sg A.gates.length cg, .slice so A.outs.length co] 26 (0, 0)) ∧ W5.heap[Z + 1]? = some (.cells #[.int .i64 0, .slice none 0 0, .slice none 0 0, .slice none 0 0] 26 (0, 0)) ∧ Chg (fun k => k = R) w W5) := by
        have x1 : Chg (fun k => k = Z) Wd W5 := by rw [hW5]; exact (((chgS (S := fun k => k = Z) _ 0 _ rfl).trans (chgS _ 1 _ rfl)).trans (chgS _ 2 _ rfl)).trans (chgS _ 3 _ rfl)
        obtain ⟨q1, q2, q3⟩ := HZR.out
        refine ⟨HE.out.1.chgs x1 (fun k hk _ e => by omega), HE.out.2.1.chgs x1 (fun k hk _ e => by omega), x1.blk HE.out.2.2.1 (by omega), trivial, ?_, x1.blk HE.out.2.2.2.2.2.1 (by omega), HE.out.2.2.2.2.2.2.tail x1 (fun k e => by have := HW.out.2.1; omega)⟩
        rw [hW5]; simpa using blk_set (o := 3) (v := .slice so A.outs.length co) (blk_set (o := 2) (v := .slice sg A.gates.length cg) (blk_set (o := 1) (v := .slice sn A.next.length cn) (blk_set (o := 0) (v := .int .i64 A.inp) (HE.out.2.2.2.2.1))))
      rw [← hW5]
      clear hW5 ca rc rf
      skip
      refine hK.out _ _ (blk_all HE5.out.2.2.1).1 ?_
      clear hK K
      obtain ⟨rc, rf⟩ := blk_all HE5.out.2.2.2.2.2.1
      have ca := (blk_all HE5.out.2.2.1).1
      (try simp only [Act.put, zA, zB, zC])
      repeat (first | (refine ordt_s (o := ?_) ?_ ?_ ?_; rotate_left 1; (focus ((simp only [zD, zE, zF]) <;> rfl)); (focus rfl); simp only [Act.put, zA, zB, zC]) | (refine ordt_q (o := ?_) (v := ?_) ?_ ?_ ?_ ?_; rotate_left 2; (focus ((simp only [zD, zE, zF]) <;> rfl)); (focus rfl); (focus (intro w' hS; (try dsimp only at hS); go_split_ands; go_simp; (try (with_reducible rfl)))); simp only [Act.put, zA, zB, zC]))
      refine ordt_e ?_
      (refine op_e (o := ?_) ?_ ?_ (fun K hK => ?_); rotate_left 1; (focus ((simp only [zD, zE, zF]) <;> rfl)); (focus rfl); go_simp)
      obtain ⟨W6, hW6⟩ : ∃ W6, W6 = ((((W5.setCell ⟨Z + 1, 0, none⟩ (.int .i64 B.inp)).setCell ⟨Z + 1, 1, none⟩ (.slice tn B.next.length dn)).setCell ⟨Z + 1, 2, none⟩ (.slice tg B.gates.length dg)).setCell ⟨Z + 1, 3, none⟩ (.slice to_ B.outs.length do_)) := ⟨_, rfl⟩
      have HE6 : Hid (CirOwn W6 (Z + 2) A (.slice sn A.next.length cn) (.slice sg A.gates.length cg) (.slice so A.outs.length co) ∧ CirOwn W6 (Z + 2) B (.slice tn B.next.length dn) (.slice tg B.gates.length dg) (.slice to_ B.outs.length do_) ∧ W6.heap[BA]? = some (.cells #[.int .i64 A.inp, .slice sn A.next.length cn, .slice sg A.gates.length cg, .slice so A.outs.length co] 26 (0, 0)) ∧ True ∧ W6.heap[Z]? = some (.cells #[.int .i64 A.inp, .slice sn A.next.length cn, .slice sg A.gates.length cg, .slice so A.outs.length co] 26 (0, 0)) ∧ W6.heap[Z + 1]? = some (.cells #[.int .i64 B.inp, .slice tn B.next.length dn, .slice tg B.gates.length dg, .slice to_ B.outs.length do_] 26 (0, 0)) ∧ Chg (fun k => k = R) w W6) := by
        have x1 : Chg (fun k => k = Z + 1) W5 W6 := by rw [hW6]; exact (((chgS (S := fun k => k = Z + 1) _ 0 _ rfl).trans (chgS _ 1 _ rfl)).trans (chgS _ 2 _ rfl)).trans (chgS _ 3 _ rfl)
        obtain ⟨q1, q2, q3⟩ := HZR.out
        refine ⟨HE5.out.1.chgs x1 (fun k hk _ e => by omega), HE5.out.2.1.chgs x1 (fun k hk _ e => by omega), x1.blk HE5.out.2.2.1 (by omega), trivial, x1.blk HE5.out.2.2.2.2.1 (by omega), ?_, HE5.out.2.2.2.2.2.2.tail x1 (fun k e => by have := HW.out.2.1; omega)⟩
        rw [hW6]; simpa using blk_set (o := 3) (v := .slice to_ B.outs.length do_) (blk_set (o := 2) (v := .slice tg B.gates.length dg) (blk_set (o := 1) (v := .slice tn B.next.length dn) (blk_set (o := 0) (v := .int .i64 B.inp) (HE5.out.2.2.2.2.2.1))))
      rw [← hW6]
      clear hW6 ca rc rf
      skip
      refine hK.out _ _ (blk_all HE6.out.2.2.1).1 ?_
      clear hK K
      (try simp only [Act.put, zA, zB, zC])
      refine ordt_nil ?_
      have cr := (blk_all HE6.out.2.2.2.2.1).1
      have cr2 := (blk_all HE6.out.2.2.2.2.2.1).1
      go_wp2_with fail
      exact bodyPost_ret (v := .tuple #[.agg #[.int .i64 A.inp, .slice sn A.next.length cn, .slice sg A.gates.length cg, .slice so A.outs.length co], .agg #[.int .i64 B.inp, .slice tn B.next.length dn, .slice tg B.gates.length dg, .slice to_ B.outs.length do_]]) (by simp [results, Try.results109, go_sem, cr, cr2]) rfl ⟨A, B, _, _, _, _, _, _, rfl, HE6.out.1.low (by have := HW.out.2.1; omega), HE6.out.2.1.low (by have := HW.out.2.1; omega), HE6.out.2.2.2.2.2.2⟩
  · obtain rfl : q = 0 := by simpa using e0
    go_upto_region 4 with fail
    have HZR : Hid (Z + 2 ≤ BA ∧ BA < W1.heap.size ∧ R < Z) := ⟨HY.out.2.2, HY.out.2.1, hR⟩
    have hch := (HB.out _ H3.out.2)
    refine wp_region_T (fun w' => ∀ o, w'.cell? ⟨BA, o, none⟩ = #[Value.int .i64 A.inp, .slice sn A.next.length cn, .slice sg A.gates.length cg, .slice so A.outs.length co][o]?) (.q 0 (.q 1 (.e 2 (.e 3 (.e 4 .nil))))) (by kernel_rfl) (by kernel_rfl) (by kernel_rfl) (blk_all (HA.out _ (hch.trans (Chg.of_below (Below.refl _ _).drew))).2.1).1 ?_
    have HCH := Lib.hid (hch.trans (Chg.of_below (Below.refl w3.heap.size w3).drew))
    clear hch
    revert HCH
    generalize w3.drew = Wc
    intro HCH
    have ca := (blk_all (HA.out _ HCH.out).2.1).1
    repeat (first | (refine ordt_s (o := ?_) ?_ ?_ ?_; rotate_left 1; (focus ((simp only [zD, zE, zF]) <;> rfl)); (focus rfl); simp only [Act.put, zA, zB, zC]) | (refine ordt_q (o := ?_) (v := ?_) ?_ ?_ ?_ ?_; rotate_left 2; (focus ((simp only [zD, zE, zF]) <;> rfl)); (focus rfl); (focus (intro w' hS; (try dsimp only at hS); go_split_ands; go_simp; (try (with_reducible rfl)))); simp only [Act.put, zA, zB, zC]))
    refine ordt_e ?_
    (refine op_e (o := ?_) ?_ ?_ (fun K hK => ?_); rotate_left 1; (focus ((simp only [zD, zE, zF]) <;> rfl)); (focus rfl); go_simp)
    refine (Optimize_s _ A _ (own_cv (HA.out _ HCH.out).1)).mono ?_
    rintro e Wd ⟨un, ug, uo, rfl, h1, h5⟩
    obtain ⟨B, hB⟩ : ∃ B, B = optR A := ⟨_, rfl⟩
    rw [← hB] at h1 ⊢
    obtain ⟨tn, dn, rfl⟩ := own_shape h1.n
    obtain ⟨tg, dg, rfl⟩ := own_shape h1.g
    obtain ⟨to_, do_, rfl⟩ := own_shape h1.o
    have HE : Hid (CirOwn Wd (Z + 2) A (.slice sn A.next.length cn) (.slice sg A.gates.length cg) (.slice so A.outs.length co) ∧ CirOwn Wd (Z + 2) B (.slice tn B.next.length dn) (.slice tg B.gates.length dg) (.slice to_ B.outs.length do_) ∧ Wd.heap[BA]? = some (.cells #[.int .i64 A.inp, .slice sn A.next.length cn, .slice sg A.gates.length cg, .slice so A.outs.length co] 26 (0, 0)) ∧ True ∧ Wd.heap[Z]? = some (.cells #[.int .i64 0, .slice none 0 0, .slice none 0 0, .slice none 0 0] 26 (0, 0)) ∧ Wd.heap[Z + 1]? = some (.cells #[.int .i64 0, .slice none 0 0, .slice none 0 0, .slice none 0 0] 26 (0, 0)) ∧ Chg (fun k => k = R) w Wd) := by
      have hc := HCH.out.trans (Chg.of_below (S := fun k => k = R) h5)
      obtain ⟨e1, e2, e3, e4, e5⟩ := HA.out _ hc
      obtain ⟨-, -, -, -, e6⟩ := HA.out _ HCH.out
      obtain ⟨q1, q2, q3⟩ := HZR.out
      exact ⟨e1, h1.low (by omega), e2, trivial, e3.1, e3.2, e4⟩
    clear h1 h5 hB ca
    refine hK.out _ _ (blk_all HE.out.2.2.1).1 ?_
    clear hK K
    (try simp only [Act.put, zA, zB, zC])
    obtain ⟨rc, rf⟩ := blk_all HE.out.2.2.2.2.1
    have ca := (blk_all HE.out.2.2.1).1
    repeat (first | (refine ordt_s (o := ?_) ?_ ?_ ?_; rotate_left 1; (focus ((simp only [zD, zE, zF]) <;> rfl)); (focus rfl); simp only [Act.put, zA, zB, zC]) | (refine ordt_q (o := ?_) (v := ?_) ?_ ?_ ?_ ?_; rotate_left 2; (focus ((simp only [zD, zE, zF]) <;> rfl)); (focus rfl); (focus (intro w' hS; (try dsimp only at hS); go_split_ands; go_simp; (try (with_reducible rfl)))); simp only [Act.put, zA, zB, zC]))
    refine ordt_e ?_
    (refine op_e (o := ?_) ?_ ?_ (fun K hK => ?_); rotate_left 1; (focus ((simp only [zD, zE, zF]) <;> rfl)); (focus rfl); go_simp)
    obtain ⟨W5, hW5⟩ : ∃ W5, W5 = ((((Wd.setCell ⟨Z, 0, none⟩ (.int .i64 A.inp)).setCell ⟨Z, 1, none⟩ (.slice sn A.next.length cn)).setCell ⟨Z, 2, none⟩ (.slice sg A.gates.length cg)).setCell ⟨Z, 3, none⟩ (.slice so A.outs.length co)) := ⟨_, rfl⟩
    have HE5 : Hid (CirOwn W5 (Z + 2) A (.slice sn A.next.length cn) (.slice sg A.gates.length cg) (.slice so A.outs.length co) ∧ CirOwn W5 (Z + 2) B (.slice tn B.next.length dn) (.slice tg B.gates.length dg) (.slice to_ B.outs.length do_) ∧ W5.heap[BA]? = some (.cells #[.int .i64 A.inp, .slice sn A.next.length cn, .slice sg A.gates.length cg, .slice so A.outs.length co] 26 (0, 0)) ∧ True ∧ W5.heap[Z]? = some (.cells #[.int .i64 A.inp, .slice sn A.next.length cn, .slice sg A.gates.length cg, .slice so A.outs.length co] 26 (0, 0)) ∧ W5.heap[Z + 1]? = some (.cells #[.int .i64 0, .slice none 0 0, .slice none 0 0, .slice none 0 0] 26 (0, 0)) ∧ Chg (fun k => k = R) w W5) := by
      have x1 : Chg (fun k => k = Z) Wd W5 := by rw [hW5]; exact (((chgS (S := fun k => k = Z) _ 0 _ rfl).trans (chgS _ 1 _ rfl)).trans (chgS _ 2 _ rfl)).trans (chgS _ 3 _ rfl)
      obtain ⟨q1, q2, q3⟩ := HZR.out
      refine ⟨HE.out.1.chgs x1 (fun k hk _ e => by omega), HE.out.2.1.chgs x1 (fun k hk _ e => by omega), x1.blk HE.out.2.2.1 (by omega), trivial, ?_, x1.blk HE.out.2.2.2.2.2.1 (by omega), HE.out.2.2.2.2.2.2.tail x1 (fun k e => by have := HW.out.2.1; omega)⟩
      rw [hW5]; simpa using blk_set (o := 3) (v := .slice so A.outs.length co) (blk_set (o := 2) (v := .slice sg A.gates.length cg) (blk_set (o := 1) (v := .slice sn A.next.length cn) (blk_set (o := 0) (v := .int .i64 A.inp) (HE.out.2.2.2.2.1))))
    rw [← hW5]
    clear hW5 ca rc rf
    skip
    refine hK.out _ _ (blk_all HE5.out.2.2.1).1 ?_
    clear hK K
    obtain ⟨rc, rf⟩ := blk_all HE5.out.2.2.2.2.2.1
    have ca := (blk_all HE5.out.2.2.1).1
    (try simp only [Act.put, zA, zB, zC])
    repeat (first | (refine ordt_s (o := ?_) ?_ ?_ ?_; rotate_left 1; (focus ((simp only [zD, zE, zF]) <;> rfl)); (focus rfl); simp only [Act.put, zA, zB, zC]) | (refine ordt_q (o := ?_) (v := ?_) ?_ ?_ ?_ ?_; rotate_left 2; (focus ((simp only [zD, zE, zF]) <;> rfl)); (focus rfl); (focus (intro w' hS; (try dsimp only at hS); go_split_ands; go_simp; (try (with_reducible rfl)))); simp only [Act.put, zA, zB, zC]))
    refine ordt_e ?_
    (refine op_e (o := ?_) ?_ ?_ (fun K hK => ?_); rotate_left 1; (focus ((simp only [zD, zE, zF]) <;> rfl)); (focus rfl); go_simp)
    obtain ⟨W6, hW6⟩ : ∃ W6, W6 = ((((W5.setCell ⟨Z + 1, 0, none⟩ (.int .i64 B.inp)).setCell ⟨Z + 1, 1, none⟩ (.slice tn B.next.length dn)).setCell ⟨Z + 1, 2, none⟩ (.slice tg B.gates.length dg)).setCell ⟨Z + 1, 3, none⟩ (.slice to_ B.outs.length do_)) := ⟨_, rfl⟩
    have HE6 : Hid (CirOwn W6 (Z + 2) A (.slice sn A.next.length cn) (.slice sg A.gates.length cg) (.slice so A.outs.length co) ∧ CirOwn W6 (Z + 2) B (.slice tn B.next.length dn) (.slice tg B.gates.length dg) (.slice to_ B.outs.length do_) ∧ W6.heap[BA]? = some (.cells #[.int .i64 A.inp, .slice sn A.next.length cn, .slice sg A.gates.length cg, .slice so A.outs.length co] 26 (0, 0)) ∧ True ∧ W6.heap[Z]? = some (.cells #[.int .i64 A.inp, .slice sn A.next.length cn, .slice sg A.gates.length cg, .slice so A.outs.length co] 26 (0, 0)) ∧ W6.heap[Z + 1]? = some (.cells #[.int .i64 B.inp, .slice tn B.next.length dn, .slice tg B.gates.length dg, .slice to_ B.outs.length do_] 26 (0, 0)) ∧ Chg (fun k => k = R) w W6) := by
      have x1 : Chg (fun k => k = Z + 1) W5 W6 := by rw [hW6]; exact (((chgS (S := fun k => k = Z + 1) _ 0 _ rfl).trans (chgS _ 1 _ rfl)).trans (chgS _ 2 _ rfl)).trans (chgS _ 3 _ rfl)
      obtain ⟨q1, q2, q3⟩ := HZR.out
      refine ⟨HE5.out.1.chgs x1 (fun k hk _ e => by omega), HE5.out.2.1.chgs x1 (fun k hk _ e => by omega), x1.blk HE5.out.2.2.1 (by omega), trivial, x1.blk HE5.out.2.2.2.2.1 (by omega), ?_, HE5.out.2.2.2.2.2.2.tail x1 (fun k e => by have := HW.out.2.1; omega)⟩
      rw [hW6]; simpa using blk_set (o := 3) (v := .slice to_ B.outs.length do_) (blk_set (o := 2) (v := .slice tg B.gates.length dg) (blk_set (o := 1) (v := .slice tn B.next.length dn) (blk_set (o := 0) (v := .int .i64 B.inp) (HE5.out.2.2.2.2.2.1))))
    rw [← hW6]
    clear hW6 ca rc rf
    skip
    refine hK.out _ _ (blk_all HE6.out.2.2.1).1 ?_
    clear hK K
    (try simp only [Act.put, zA, zB, zC])
    refine ordt_nil ?_
    have cr := (blk_all HE6.out.2.2.2.2.1).1
    have cr2 := (blk_all HE6.out.2.2.2.2.2.1).1
    go_wp2_with fail
    exact bodyPost_ret (v := .tuple #[.agg #[.int .i64 A.inp, .slice sn A.next.length cn, .slice sg A.gates.length cg, .slice so A.outs.length co], .agg #[.int .i64 B.inp, .slice tn B.next.length dn, .slice tg B.gates.length dg, .slice to_ B.outs.length do_]]) (by simp [results, Try.results109, go_sem, cr, cr2]) rfl ⟨A, B, _, _, _, _, _, _, rfl, HE6.out.1.low (by have := HW.out.2.1; omega), HE6.out.2.1.low (by have := HW.out.2.1; omega), HE6.out.2.2.2.2.2.2⟩

end Go.Proofs.Ytbcolcchchgldaa
