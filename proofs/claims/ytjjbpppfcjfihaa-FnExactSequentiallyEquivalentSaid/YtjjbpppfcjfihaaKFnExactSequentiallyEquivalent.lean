import Derived.Test.YtjjbpppfcjfihaaC0
import Derived.Test.YtjjbpppfcjfihaaDM
import Derived.Deep.DeepCutAuto
import Derived.Deep.RegionHeld3
namespace Go.Proofs.Ytjjbpppfcjfihaa
set_option linter.unusedVariables false
set_option linter.unusedSimpArgs false
open Go.RowKit

/-! The exact law of SequentiallyEquivalent. -/

set_option maxRecDepth 100000 in
set_option maxHeartbeats 6400000 in
theorem FnExactSequentiallyEquivalent_any (u : Value) (a : Cir) (v : Value) (b : Cir) (w : World) (ha : CirA w u a) (hb : CirA w v b) :
    Calls Try.prog 3 #[u, v] w fun e w' => e = .returned (.bool true) ∧ Below w.heap.size w w' := by
  have HG := Lib.hid (And.intro ha hb)
  obtain ⟨sn, cn, sg, cg, so, co, rfl, -, -, -, ka1, ka2, ka3⟩ := ha
  obtain ⟨tn, dn, tg, dg, to_, do_, rfl, -, -, -, kb1, kb2, kb3⟩ := hb
  obtain ⟨W0, hW0⟩ : ∃ W0, W0 = ((w.alloc (.cells #[.int .i64 a.inp, .slice sn a.next.length cn, .slice sg a.gates.length cg, .slice so a.outs.length co] 25)).alloc (.cells #[.int .i64 b.inp, .slice tn b.next.length dn, .slice tg b.gates.length dg, .slice to_ b.outs.length do_] 25)) := ⟨_, rfl⟩
  obtain ⟨A, hA⟩ : ∃ A, A = w.heap.size := ⟨_, rfl⟩
  have z1 : W0.heap.size = A + 2 := by rw [hW0, hA]; simp
  have z2 : W0.heap[A]? = some (.cells #[.int .i64 a.inp, .slice sn a.next.length cn, .slice sg a.gates.length cg, .slice so a.outs.length co] 25 (0, 0)) := by rw [hW0, hA]; exact blk_old (blk_new w _)
  have z3 : W0.heap[A + 1]? = some (.cells #[.int .i64 b.inp, .slice tn b.next.length dn, .slice tg b.gates.length dg, .slice to_ b.outs.length do_] 25 (0, 0)) := by rw [hW0, hA]; exact blk_at (by simp)
  have z4 : Below w.heap.size w W0 := by rw [hW0]; go_grown
  have HW := Lib.hid (And.intro hW0 (And.intro hA z1))
  have HB : Hid (∀ W, Below W0.heap.size W0 W → ((∀ o, W.cell? ⟨A, o, none⟩ = #[.int .i64 a.inp, .slice sn a.next.length cn, .slice sg a.gates.length cg, .slice so a.outs.length co][o]?) ∧ ∀ o, W.cell? ⟨A + 1, o, none⟩ = #[.int .i64 b.inp, .slice tn b.next.length dn, .slice tg b.gates.length dg, .slice to_ b.outs.length do_][o]?) ∧ Below w.heap.size w W) := fun W hW => ⟨⟨(blk_all (blk_below hW (by omega) z2)).1, (blk_all (blk_below hW (by omega) z3)).1⟩, z4.trans (hW.mono z4.size)⟩
  clear hW0 hA z1 z2 z3 z4
  have sa0 : 0 ≤ a.size := by rw [Cir.size_eq]; omega
  have sb0 : 0 ≤ b.size := by rw [Cir.size_eq]; omega
  by_cases hc : a.size ≤ 1048576
  · obtain ⟨L, hL⟩ : ∃ L : Int, L = 1048576 - a.size := ⟨_, rfl⟩
    have h1 : leftOf 1048576 (a.next.length + a.gates.length + a.outs.length) = L := by rw [hL, ← Cir.size_eq]; unfold leftOf; rw [if_pos (by omega)]
    have L0 : 0 ≤ L := by omega
    have L1 : L ≤ 1048576 := by omega
    by_cases hd : b.size ≤ L
    · have h2 : leftOf L (b.next.length + b.gates.length + b.outs.length) = L - b.size := by rw [← Cir.size_eq]; unfold leftOf; rw [if_pos hd]
      obtain ⟨L2, hL2⟩ : ∃ L2 : Int, L2 = L - b.size := ⟨_, rfl⟩
      rw [← hL2] at h2
      have L20 : 0 ≤ L2 := by omega
      have hb2 : b.size ≤ 1048576 := by omega
      have HV : Hid (∀ W, Below W0.heap.size W0 W → CirV W (.agg #[.int .i64 a.inp, .slice sn a.next.length cn, .slice sg a.gates.length cg, .slice so a.outs.length co]) a ∧ CirV W (.agg #[.int .i64 b.inp, .slice tn b.next.length dn, .slice tg b.gates.length dg, .slice to_ b.outs.length do_]) b) := fun W hW => ⟨(HG.out.1.v hc).mono (HB.out W hW).2, (HG.out.2.v hb2).mono (HB.out W hW).2⟩
      have HL := Lib.hid (And.intro h1 h2)
      obtain ⟨R, hR⟩ : ∃ R, R = seqB a b := ⟨_, rfl⟩
      have HR := Lib.hid hR
      clear hL h1 h2 hL2 hc hd hR hb2
      go_enter Try.func3, Try.ntmps3
      go_upto_region 1 with fail
      rw [← HW.out.1]
      try rw [← HW.out.2.1]
      have ca := (HB.out _ (Below.refl _ _)).1.1
      have cb := (HB.out _ (Below.refl _ _)).1.2
      go_upto_region 3 with (go_at_call 4; ((with_reducible refine (szCircuit_any _ _ _ _ _ _ _ _ _ _ _ _ (by omega) (by omega) ka1 ka2 ka3).mono ?_); rintro e w1 ⟨rfl, hq⟩; have H1 := Lib.hid hq; rw [HL.out.1]; clear hq ca cb; obtain ⟨ca, cb⟩ := (HB.out _ H1.out).1))
      go_upto_region 8 with (go_at_call 4; ((with_reducible refine (szCircuit_any _ _ _ _ _ _ _ _ _ _ L _ L0 L1 kb1 kb2 kb3).mono ?_); rintro e w2 ⟨rfl, hq⟩; have H2 := Lib.hid (H1.out.trans (hq.mono H1.out.size)); rw [HL.out.2]; clear hq ca cb; obtain ⟨ca, cb⟩ := (HB.out _ H2.out).1))
      clear ca cb
      refine wp_region_T (fun w' => (∀ o, w'.cell? ⟨A, o, none⟩ = #[.int .i64 a.inp, .slice sn a.next.length cn, .slice sg a.gates.length cg, .slice so a.outs.length co][o]?) ∧ ∀ o, w'.cell? ⟨A + 1, o, none⟩ = #[.int .i64 b.inp, .slice tn b.next.length dn, .slice tg b.gates.length dg, .slice to_ b.outs.length do_][o]?) (.q 0 (.q 2 (.e 1 (.e 3 (.e 4 (.q 5 .nil)))))) (by kernel_rfl) (by kernel_rfl) (by kernel_rfl) (HB.out _ H2.out.drew).1 ?_
      repeat (first | (refine ordt_s (o := ?_) ?_ ?_ ?_; rotate_left 1; (focus ((simp only [List.getElem?_toArray, List.getElem?_cons_succ, List.getElem?_cons_zero]) <;> rfl)); (focus rfl); simp only [Act.put, List.setIfInBounds_toArray, List.set_cons_zero, List.set_cons_succ]) | (refine ordt_q (o := ?_) (v := ?_) ?_ ?_ ?_ ?_; rotate_left 2; (focus ((simp only [List.getElem?_toArray, List.getElem?_cons_succ, List.getElem?_cons_zero]) <;> rfl)); (focus rfl); (focus (intro w' hS; (try dsimp only at hS); go_split_ands; go_simp; (try (with_reducible rfl)))); simp only [Act.put, List.setIfInBounds_toArray, List.set_cons_zero, List.set_cons_succ]))
      refine ordt_e ?_
      (refine op_e (o := ?_) ?_ ?_ (fun K hK => ?_); rotate_left 1; (focus ((simp only [List.getElem?_toArray, List.getElem?_cons_succ, List.getElem?_cons_zero]) <;> rfl)); (focus rfl); go_simp)
      refine (toCircuit_c _ _ _ (HV.out _ H2.out.drew).1).mono ?_
      rintro e w3 ⟨x1, x2, x3, rfl, hv3, hq⟩
      have hb3 : Below W0.heap.size W0 w3 := H2.out.drew.trans (hq.mono H2.out.drew.size)
      refine hK.out _ _ (HB.out _ hb3).1 ?_
      clear hK K hq
      have H3 := Lib.hid (And.intro hb3 hv3)
      clear hb3 hv3
      (try simp only [Act.put, List.setIfInBounds_toArray, List.set_cons_zero, List.set_cons_succ])
      repeat (first | (refine ordt_s (o := ?_) ?_ ?_ ?_; rotate_left 1; (focus ((simp only [List.getElem?_toArray, List.getElem?_cons_succ, List.getElem?_cons_zero]) <;> rfl)); (focus rfl); simp only [Act.put, List.setIfInBounds_toArray, List.set_cons_zero, List.set_cons_succ]) | (refine ordt_q (o := ?_) (v := ?_) ?_ ?_ ?_ ?_; rotate_left 2; (focus ((simp only [List.getElem?_toArray, List.getElem?_cons_succ, List.getElem?_cons_zero]) <;> rfl)); (focus rfl); (focus (intro w' hS; (try dsimp only at hS); go_split_ands; go_simp; (try (with_reducible rfl)))); simp only [Act.put, List.setIfInBounds_toArray, List.set_cons_zero, List.set_cons_succ]))
      refine ordt_e ?_
      (refine op_e (o := ?_) ?_ ?_ (fun K hK => ?_); rotate_left 1; (focus ((simp only [List.getElem?_toArray, List.getElem?_cons_succ, List.getElem?_cons_zero]) <;> rfl)); (focus rfl); go_simp)
      refine (toCircuit_c _ _ _ (HV.out _ H3.out.1).2).mono ?_
      rintro e w4 ⟨y1, y2, y3, rfl, hv4, hq⟩
      have hb4 : Below W0.heap.size W0 w4 := H3.out.1.trans (hq.mono H3.out.1.size)
      refine hK.out _ _ (HB.out _ hb4).1 ?_
      clear hK K
      have H4 := Lib.hid (And.intro hb4 (And.intro (H3.out.2.mono hq) hv4))
      clear hb4 hv4 hq
      (try simp only [Act.put, List.setIfInBounds_toArray, List.set_cons_zero, List.set_cons_succ])
      repeat (first | (refine ordt_s (o := ?_) ?_ ?_ ?_; rotate_left 1; (focus ((simp only [List.getElem?_toArray, List.getElem?_cons_succ, List.getElem?_cons_zero]) <;> rfl)); (focus rfl); simp only [Act.put, List.setIfInBounds_toArray, List.set_cons_zero, List.set_cons_succ]) | (refine ordt_q (o := ?_) (v := ?_) ?_ ?_ ?_ ?_; rotate_left 2; (focus ((simp only [List.getElem?_toArray, List.getElem?_cons_succ, List.getElem?_cons_zero]) <;> rfl)); (focus rfl); (focus (intro w' hS; (try dsimp only at hS); go_split_ands; go_simp; (try (with_reducible rfl)))); simp only [Act.put, List.setIfInBounds_toArray, List.set_cons_zero, List.set_cons_succ]))
      refine ordt_e ?_
      (refine op_e (o := ?_) ?_ ?_ (fun K hK => ?_); rotate_left 1; (focus ((simp only [List.getElem?_toArray, List.getElem?_cons_succ, List.getElem?_cons_zero]) <;> rfl)); (focus rfl); go_simp)
      refine (SequentiallyEquivalent_s _ _ a b _ H4.out.2.1 H4.out.2.2).mono ?_
      rintro e w5 ⟨rfl, hq⟩
      rw [← HR.out]
      have hb5 : Below W0.heap.size W0 w5 := H4.out.1.trans (hq.mono H4.out.1.size)
      refine hK.out _ _ (HB.out _ hb5).1 ?_
      clear hK K hq
      have H5 := Lib.hid hb5
      clear hb5
      (try simp only [Act.put, List.setIfInBounds_toArray, List.set_cons_zero, List.set_cons_succ])
      repeat (first | (refine ordt_s (o := ?_) ?_ ?_ ?_; rotate_left 1; (focus ((simp only [List.getElem?_toArray, List.getElem?_cons_succ, List.getElem?_cons_zero]) <;> rfl)); (focus rfl); simp only [Act.put, List.setIfInBounds_toArray, List.set_cons_zero, List.set_cons_succ]) | (refine ordt_q (o := ?_) (v := ?_) ?_ ?_ ?_ ?_; rotate_left 2; (focus ((simp only [List.getElem?_toArray, List.getElem?_cons_succ, List.getElem?_cons_zero]) <;> rfl)); (focus rfl); (focus (intro w' hS; (try dsimp only at hS); go_split_ands; go_simp; (try (with_reducible rfl)))); simp only [Act.put, List.setIfInBounds_toArray, List.set_cons_zero, List.set_cons_succ]))
      refine ordt_nil ?_
      obtain ⟨ca, cb⟩ := (HB.out _ H5.out).1
      go_upto_region 10 with (go_at_call 6; ((with_reducible refine (toCircuit_c _ _ _ (HV.out _ H5.out).1).mono ?_); rintro e w6 ⟨d1, d2, d3, rfl, hv, hq⟩; have H6 := Lib.hid (And.intro (H5.out.trans (hq.mono H5.out.size)) hv); clear hq hv ca cb))
      have k6 := blk_new w6 (.cells #[.int .i64 a.inp, .slice (some ⟨d1, 0, none⟩) a.next.length a.next.length, .slice (some ⟨d2, 0, none⟩) a.gates.length a.gates.length, .slice (some ⟨d3, 0, none⟩) a.outs.length a.outs.length] 30)
      have b6 := (Below.refl w6.heap.size w6).alloc (Nat.le_refl _) (.cells #[.int .i64 a.inp, .slice (some ⟨d1, 0, none⟩) a.next.length a.next.length, .slice (some ⟨d2, 0, none⟩) a.gates.length a.gates.length, .slice (some ⟨d3, 0, none⟩) a.outs.length a.outs.length] 30)
      have v6 := H6.out.2.mono b6
      have h6 := H6.out.1.trans (b6.mono H6.out.1.size)
      obtain ⟨X, hX⟩ : ∃ X, X = w6.heap.size := ⟨_, rfl⟩
      rw [← hX] at k6
      rw [← hX]
      clear b6 hX
      revert v6 h6 k6
      generalize w6.alloc (.cells #[.int .i64 a.inp, .slice (some ⟨d1, 0, none⟩) a.next.length a.next.length, .slice (some ⟨d2, 0, none⟩) a.gates.length a.gates.length, .slice (some ⟨d3, 0, none⟩) a.outs.length a.outs.length] 30) = W6
      intro v6 h6 k6
      have H7 := Lib.hid (And.intro h6 (And.intro v6 k6))
      clear v6 h6 k6 H6
      obtain ⟨ca, cb⟩ := (HB.out _ H7.out.1).1
      go_upto_region 11 with (go_at_call 6; ((with_reducible refine (toCircuit_c _ _ _ (HV.out _ H7.out.1).2).mono ?_); rintro e w8 ⟨f1, f2, f3, rfl, hv, hq⟩; have H8 := Lib.hid (And.intro (H7.out.1.trans (hq.mono H7.out.1.size)) (And.intro hv (And.intro (H7.out.2.1.mono hq) (blk_below hq (blk_lt H7.out.2.2) H7.out.2.2)))); clear hq hv ca cb))
      have k8 := blk_new w8 (.cells #[.int .i64 b.inp, .slice (some ⟨f1, 0, none⟩) b.next.length b.next.length, .slice (some ⟨f2, 0, none⟩) b.gates.length b.gates.length, .slice (some ⟨f3, 0, none⟩) b.outs.length b.outs.length] 30)
      have b8 := (Below.refl w8.heap.size w8).alloc (Nat.le_refl _) (.cells #[.int .i64 b.inp, .slice (some ⟨f1, 0, none⟩) b.next.length b.next.length, .slice (some ⟨f2, 0, none⟩) b.gates.length b.gates.length, .slice (some ⟨f3, 0, none⟩) b.outs.length b.outs.length] 30)
      have v8 := H8.out.2.1.mono b8
      have v8a := H8.out.2.2.1.mono b8
      have k8a := blk_below b8 (blk_lt H8.out.2.2.2) H8.out.2.2.2
      have h8 := H8.out.1.trans (b8.mono H8.out.1.size)
      obtain ⟨Y, hY⟩ : ∃ Y, Y = w8.heap.size := ⟨_, rfl⟩
      rw [← hY] at k8
      rw [← hY]
      clear b8 hY
      revert v8 v8a k8a h8 k8
      generalize w8.alloc (.cells #[.int .i64 b.inp, .slice (some ⟨f1, 0, none⟩) b.next.length b.next.length, .slice (some ⟨f2, 0, none⟩) b.gates.length b.gates.length, .slice (some ⟨f3, 0, none⟩) b.outs.length b.outs.length] 30) = W8
      intro v8 v8a k8a h8 k8
      have HC : Hid (∀ W, Below W8.heap.size W8 W → Below W0.heap.size W0 W ∧ (CirV W (.agg #[.int .i64 a.inp, .slice (some ⟨d1, 0, none⟩) a.next.length a.next.length, .slice (some ⟨d2, 0, none⟩) a.gates.length a.gates.length, .slice (some ⟨d3, 0, none⟩) a.outs.length a.outs.length]) a ∧ CirV W (.agg #[.int .i64 b.inp, .slice (some ⟨f1, 0, none⟩) b.next.length b.next.length, .slice (some ⟨f2, 0, none⟩) b.gates.length b.gates.length, .slice (some ⟨f3, 0, none⟩) b.outs.length b.outs.length]) b) ∧ (∀ o, W.cell? ⟨X, o, none⟩ = #[.int .i64 a.inp, .slice (some ⟨d1, 0, none⟩) a.next.length a.next.length, .slice (some ⟨d2, 0, none⟩) a.gates.length a.gates.length, .slice (some ⟨d3, 0, none⟩) a.outs.length a.outs.length][o]?) ∧ ∀ o, W.cell? ⟨Y, o, none⟩ = #[.int .i64 b.inp, .slice (some ⟨f1, 0, none⟩) b.next.length b.next.length, .slice (some ⟨f2, 0, none⟩) b.gates.length b.gates.length, .slice (some ⟨f3, 0, none⟩) b.outs.length b.outs.length][o]?) := fun W hW => ⟨h8.trans (hW.mono h8.size), ⟨v8a.mono hW, v8.mono hW⟩, (blk_all (blk_below hW (blk_lt k8a) k8a)).1, (blk_all (blk_below hW (blk_lt k8) k8)).1⟩
      clear v8 v8a k8a h8 k8 H8 H7
      have cx := (HC.out _ (Below.refl _ _)).2.2.1
      have cy := (HC.out _ (Below.refl _ _)).2.2.2
      cases R
      all_goals
        go_upto_region 14 with (go_at_call 7; ((with_reducible refine (SequentiallyEquivalent_i _ _ a b _ (HC.out _ (Below.refl _ _)).2.1.1 (HC.out _ (Below.refl _ _)).2.1.2).mono ?_); rintro e w9 ⟨rfl, hq⟩; rw [← HR.out]; have H9 := Lib.hid hq; clear hq cx cy))
        refine wp_region_T (fun w' => (∀ o, w'.cell? ⟨A, o, none⟩ = #[.int .i64 a.inp, .slice sn a.next.length cn, .slice sg a.gates.length cg, .slice so a.outs.length co][o]?) ∧ ∀ o, w'.cell? ⟨X, o, none⟩ = #[.int .i64 a.inp, .slice (some ⟨d1, 0, none⟩) a.next.length a.next.length, .slice (some ⟨d2, 0, none⟩) a.gates.length a.gates.length, .slice (some ⟨d3, 0, none⟩) a.outs.length a.outs.length][o]?) (.q 0 (.q 1 (.e 2 (.e 3 (.q 4 .nil))))) (by kernel_rfl) (by kernel_rfl) (by kernel_rfl) ⟨(HB.out _ (HC.out _ H9.out.drew).1).1.1, (HC.out _ H9.out.drew).2.2.1⟩ ?_
        repeat (first | (refine ordt_s (o := ?_) ?_ ?_ ?_; rotate_left 1; (focus ((simp only [List.getElem?_toArray, List.getElem?_cons_succ, List.getElem?_cons_zero]) <;> rfl)); (focus rfl); simp only [Act.put, List.setIfInBounds_toArray, List.set_cons_zero, List.set_cons_succ]) | (refine ordt_q (o := ?_) (v := ?_) ?_ ?_ ?_ ?_; rotate_left 2; (focus ((simp only [List.getElem?_toArray, List.getElem?_cons_succ, List.getElem?_cons_zero]) <;> rfl)); (focus rfl); (focus (intro w' hS; (try dsimp only at hS); go_split_ands; go_simp; (try (with_reducible rfl)))); simp only [Act.put, List.setIfInBounds_toArray, List.set_cons_zero, List.set_cons_succ]))
        refine ordt_e ?_
        (refine op_e (o := ?_) ?_ ?_ (fun K hK => ?_); rotate_left 1; (focus ((simp only [List.getElem?_toArray, List.getElem?_cons_succ, List.getElem?_cons_zero]) <;> rfl)); (focus rfl); go_simp)
        refine (toCircuit_c _ _ _ (HV.out _ (HC.out _ H9.out.drew).1).1).mono ?_
        rintro e w10 ⟨g1, g2, g3, rfl, hv, hq⟩
        have hb : Below W8.heap.size W8 w10 := H9.out.drew.trans (hq.mono H9.out.drew.size)
        refine hK.out _ _ ⟨(HB.out _ (HC.out _ hb).1).1.1, (HC.out _ hb).2.2.1⟩ ?_
        clear hK K hq
        have H10 := Lib.hid (And.intro hb hv)
        clear hb hv
        (try simp only [Act.put, List.setIfInBounds_toArray, List.set_cons_zero, List.set_cons_succ])
        repeat (first | (refine ordt_s (o := ?_) ?_ ?_ ?_; rotate_left 1; (focus ((simp only [List.getElem?_toArray, List.getElem?_cons_succ, List.getElem?_cons_zero]) <;> rfl)); (focus rfl); simp only [Act.put, List.setIfInBounds_toArray, List.set_cons_zero, List.set_cons_succ]) | (refine ordt_q (o := ?_) (v := ?_) ?_ ?_ ?_ ?_; rotate_left 2; (focus ((simp only [List.getElem?_toArray, List.getElem?_cons_succ, List.getElem?_cons_zero]) <;> rfl)); (focus rfl); (focus (intro w' hS; (try dsimp only at hS); go_split_ands; go_simp; (try (with_reducible rfl)))); simp only [Act.put, List.setIfInBounds_toArray, List.set_cons_zero, List.set_cons_succ]))
        refine ordt_e ?_
        (refine op_e (o := ?_) ?_ ?_ (fun K hK => ?_); rotate_left 1; (focus ((simp only [List.getElem?_toArray, List.getElem?_cons_succ, List.getElem?_cons_zero]) <;> rfl)); (focus rfl); go_simp)
        refine (eqCircuit_any _ _ a a _ (HC.out _ H10.out.1).2.1.1 H10.out.2).mono ?_
        rintro e w11 ⟨rfl, hq⟩
        rw [cirB_self]
        have hb : Below W8.heap.size W8 w11 := H10.out.1.trans (hq.mono H10.out.1.size)
        refine hK.out _ _ ⟨(HB.out _ (HC.out _ hb).1).1.1, (HC.out _ hb).2.2.1⟩ ?_
        clear hK K hq
        have H11 := Lib.hid hb
        clear hb H10
        (try simp only [Act.put, List.setIfInBounds_toArray, List.set_cons_zero, List.set_cons_succ])
        repeat (first | (refine ordt_s (o := ?_) ?_ ?_ ?_; rotate_left 1; (focus ((simp only [List.getElem?_toArray, List.getElem?_cons_succ, List.getElem?_cons_zero]) <;> rfl)); (focus rfl); simp only [Act.put, List.setIfInBounds_toArray, List.set_cons_zero, List.set_cons_succ]) | (refine ordt_q (o := ?_) (v := ?_) ?_ ?_ ?_ ?_; rotate_left 2; (focus ((simp only [List.getElem?_toArray, List.getElem?_cons_succ, List.getElem?_cons_zero]) <;> rfl)); (focus rfl); (focus (intro w' hS; (try dsimp only at hS); go_split_ands; go_simp; (try (with_reducible rfl)))); simp only [Act.put, List.setIfInBounds_toArray, List.set_cons_zero, List.set_cons_succ]))
        refine ordt_nil ?_
        go_upto_region 16 with fail
        refine wp_region_T (fun w' => (∀ o, w'.cell? ⟨A + 1, o, none⟩ = #[.int .i64 b.inp, .slice tn b.next.length dn, .slice tg b.gates.length dg, .slice to_ b.outs.length do_][o]?) ∧ ∀ o, w'.cell? ⟨Y, o, none⟩ = #[.int .i64 b.inp, .slice (some ⟨f1, 0, none⟩) b.next.length b.next.length, .slice (some ⟨f2, 0, none⟩) b.gates.length b.gates.length, .slice (some ⟨f3, 0, none⟩) b.outs.length b.outs.length][o]?) (.q 0 (.q 1 (.e 2 (.e 3 (.q 4 .nil))))) (by kernel_rfl) (by kernel_rfl) (by kernel_rfl) ⟨(HB.out _ (HC.out _ H11.out.drew).1).1.2, (HC.out _ H11.out.drew).2.2.2⟩ ?_
        repeat (first | (refine ordt_s (o := ?_) ?_ ?_ ?_; rotate_left 1; (focus ((simp only [List.getElem?_toArray, List.getElem?_cons_succ, List.getElem?_cons_zero]) <;> rfl)); (focus rfl); simp only [Act.put, List.setIfInBounds_toArray, List.set_cons_zero, List.set_cons_succ]) | (refine ordt_q (o := ?_) (v := ?_) ?_ ?_ ?_ ?_; rotate_left 2; (focus ((simp only [List.getElem?_toArray, List.getElem?_cons_succ, List.getElem?_cons_zero]) <;> rfl)); (focus rfl); (focus (intro w' hS; (try dsimp only at hS); go_split_ands; go_simp; (try (with_reducible rfl)))); simp only [Act.put, List.setIfInBounds_toArray, List.set_cons_zero, List.set_cons_succ]))
        refine ordt_e ?_
        (refine op_e (o := ?_) ?_ ?_ (fun K hK => ?_); rotate_left 1; (focus ((simp only [List.getElem?_toArray, List.getElem?_cons_succ, List.getElem?_cons_zero]) <;> rfl)); (focus rfl); go_simp)
        refine (toCircuit_c _ _ _ (HV.out _ (HC.out _ H11.out.drew).1).2).mono ?_
        rintro e w12 ⟨g1, g2, g3, rfl, hv, hq⟩
        have hb : Below W8.heap.size W8 w12 := H11.out.drew.trans (hq.mono H11.out.drew.size)
        refine hK.out _ _ ⟨(HB.out _ (HC.out _ hb).1).1.2, (HC.out _ hb).2.2.2⟩ ?_
        clear hK K hq
        have H12 := Lib.hid (And.intro hb hv)
        clear hb hv
        (try simp only [Act.put, List.setIfInBounds_toArray, List.set_cons_zero, List.set_cons_succ])
        repeat (first | (refine ordt_s (o := ?_) ?_ ?_ ?_; rotate_left 1; (focus ((simp only [List.getElem?_toArray, List.getElem?_cons_succ, List.getElem?_cons_zero]) <;> rfl)); (focus rfl); simp only [Act.put, List.setIfInBounds_toArray, List.set_cons_zero, List.set_cons_succ]) | (refine ordt_q (o := ?_) (v := ?_) ?_ ?_ ?_ ?_; rotate_left 2; (focus ((simp only [List.getElem?_toArray, List.getElem?_cons_succ, List.getElem?_cons_zero]) <;> rfl)); (focus rfl); (focus (intro w' hS; (try dsimp only at hS); go_split_ands; go_simp; (try (with_reducible rfl)))); simp only [Act.put, List.setIfInBounds_toArray, List.set_cons_zero, List.set_cons_succ]))
        refine ordt_e ?_
        (refine op_e (o := ?_) ?_ ?_ (fun K hK => ?_); rotate_left 1; (focus ((simp only [List.getElem?_toArray, List.getElem?_cons_succ, List.getElem?_cons_zero]) <;> rfl)); (focus rfl); go_simp)
        refine (eqCircuit_any _ _ b b _ (HC.out _ H12.out.1).2.1.2 H12.out.2).mono ?_
        rintro e w13 ⟨rfl, hq⟩
        rw [cirB_self]
        have hb : Below W8.heap.size W8 w13 := H12.out.1.trans (hq.mono H12.out.1.size)
        refine hK.out _ _ ⟨(HB.out _ (HC.out _ hb).1).1.2, (HC.out _ hb).2.2.2⟩ ?_
        clear hK K hq
        have H13 := Lib.hid hb
        clear hb H12
        (try simp only [Act.put, List.setIfInBounds_toArray, List.set_cons_zero, List.set_cons_succ])
        repeat (first | (refine ordt_s (o := ?_) ?_ ?_ ?_; rotate_left 1; (focus ((simp only [List.getElem?_toArray, List.getElem?_cons_succ, List.getElem?_cons_zero]) <;> rfl)); (focus rfl); simp only [Act.put, List.setIfInBounds_toArray, List.set_cons_zero, List.set_cons_succ]) | (refine ordt_q (o := ?_) (v := ?_) ?_ ?_ ?_ ?_; rotate_left 2; (focus ((simp only [List.getElem?_toArray, List.getElem?_cons_succ, List.getElem?_cons_zero]) <;> rfl)); (focus rfl); (focus (intro w' hS; (try dsimp only at hS); go_split_ands; go_simp; (try (with_reducible rfl)))); simp only [Act.put, List.setIfInBounds_toArray, List.set_cons_zero, List.set_cons_succ]))
        refine ordt_nil ?_
        go_wp2_with fail
        go_ret
        exact ⟨rfl, (HB.out _ (HC.out _ H13.out).1).2⟩
    · have h2 : leftOf L (b.next.length + b.gates.length + b.outs.length) = -1 := by rw [← Cir.size_eq]; unfold leftOf; rw [if_neg hd]
      have HL := Lib.hid (And.intro h1 h2)
      clear hL h1 h2 hc hd
      go_enter Try.func3, Try.ntmps3
      go_upto_region 1 with fail
      rw [← HW.out.1]
      try rw [← HW.out.2.1]
      have ca := (HB.out _ (Below.refl _ _)).1.1
      have cb := (HB.out _ (Below.refl _ _)).1.2
      go_upto_region 3 with (go_at_call 4; ((with_reducible refine (szCircuit_any _ _ _ _ _ _ _ _ _ _ _ _ (by omega) (by omega) ka1 ka2 ka3).mono ?_); rintro e w1 ⟨rfl, hq⟩; have H1 := Lib.hid hq; rw [HL.out.1]; clear hq ca cb; obtain ⟨ca, cb⟩ := (HB.out _ H1.out).1))
      go_wp2_with (go_at_call 4; ((with_reducible refine (szCircuit_any _ _ _ _ _ _ _ _ _ _ L _ L0 L1 kb1 kb2 kb3).mono ?_); rintro e w2 ⟨rfl, hq⟩; have H2 := Lib.hid (H1.out.trans (hq.mono H1.out.size)); rw [HL.out.2]; clear hq ca cb))
      go_ret
      exact ⟨rfl, (HB.out _ H2.out).2⟩
  · have h1 : leftOf 1048576 (a.next.length + a.gates.length + a.outs.length) = -1 := by rw [← Cir.size_eq]; unfold leftOf; rw [if_neg (by omega)]
    have HL := Lib.hid h1
    clear h1 hc
    go_enter Try.func3, Try.ntmps3
    go_upto_region 1 with fail
    rw [← HW.out.1]
    try rw [← HW.out.2.1]
    have ca := (HB.out _ (Below.refl _ _)).1.1
    have cb := (HB.out _ (Below.refl _ _)).1.2
    go_wp2_with (go_at_call 4; ((with_reducible refine (szCircuit_any _ _ _ _ _ _ _ _ _ _ _ _ (by omega) (by omega) ka1 ka2 ka3).mono ?_); rintro e w1 ⟨rfl, hq⟩; have H1 := Lib.hid hq; rw [HL.out]; clear hq ca cb))
    go_ret
    exact ⟨rfl, (HB.out _ H1.out).2⟩

end Go.Proofs.Ytjjbpppfcjfihaa
