import Derived.Test.YtddmgphlhfilnaaCH
import Derived.Test.YtddmgphlhfilnaaCF
import Derived.Test.YtddmgphlhfilnaaR1
namespace Go.Proofs.Ytddmgphlhfilnaa
set_option linter.unusedVariables false
set_option linter.unusedSimpArgs false
open Go.RowKit

/-! CanBeTrue, both. -/

set_option maxHeartbeats 1600000 in
theorem CanBeTrue_i (v : Value) (c : Cir) (l : Int) (w : World) (h : CirV w v c) :
    Calls Try.prog 53 #[v, .int .i64 l] w fun e w' => e = .returned (.bool (cbR c l)) ∧ Below w.heap.size w w' := by
  have HC : Hid (∀ w', Below w.heap.size w w' → CirV w' v c) := fun w' hb => h.mono hb
  obtain ⟨sn, cn, sg, cg, so, co, rfl, h1, h2, h3, hl1, hl2, hl3⟩ := h
  have hL : Below w.heap.size w (w.alloc (.cells #[.int .i64 c.inp, .slice sn c.next.length cn, .slice sg c.gates.length cg, .slice so c.outs.length co] 44)) := by go_grown
  have hN := blk_new w (.cells #[.int .i64 c.inp, .slice sn c.next.length cn, .slice sg c.gates.length cg, .slice so c.outs.length co] 44)
  have HL := Lib.hid (And.intro hL (And.intro hN h2))
  clear hL hN h1 h2 h3
  cases hv : c.validB
  · have e : cbR c l = false := cbR_no fun h => by rw [h.1] at hv; cases hv
    rw [e]
    have HE := Lib.hid hv
    clear hv e
    go_enter Try.func53, Try.ntmps53
    go_wp2_with (go_at_call 59; ((with_reducible refine (CircuitValid_i _ _ _ (HC.out _ HL.out.1)).mono ?_); rintro e w1 ⟨rfl, hq⟩; have HQ := Lib.hid hq; clear hq; rw [HE.out]))
    go_ret
    exact ⟨rfl, HL.out.1.trans (HQ.out.mono (by simp))⟩
  · have hval := c.validB_iff.1 hv
    obtain ⟨f1, f2, f3, f4⟩ := valid_first hval
    obtain ⟨q1, q2, q3, q4, q5⟩ := id hval.lim
    have eC : c.first = 1 + c.inp + c.next.length := rfl
    obtain ⟨V, hV⟩ : ∃ V : Nat, c.vars = V := ⟨c.vars.toNat, by omega⟩
    have e2 : 1 + c.inp + (c.next.length : Int) + (c.gates.length : Int) = (V : Int) := hV
    have v22 : V ≤ 22 := by omega
    have HH := Lib.hid (And.intro hv (And.intro hV e2))
    clear hv hval f1 f2 f3 f4 eC hV e2
    by_cases hlit : 0 ≤ l ∧ l < 2 * (V : Int)
    · have hok : tsOk c l := ⟨HH.out.1, by rw [HH.out.2.1]; exact hlit⟩
      have HE := Lib.hid (And.intro hok (decide_eq_true hlit))
      obtain ⟨R, hR⟩ : ∃ R, R = tsR c l := ⟨_, rfl⟩
      have hRl : R.length ≤ 44 := by rw [hR]; exact (tsR_small c l).1
      have HR := Lib.hid (And.intro hR (show ∀ r ∈ R, r.length ≤ 1048576 from fun r hr => by rw [hR] at hr; exact Nat.le_trans ((tsR_small c l).2 r hr) (by decide)))
      have k1 : -9223372036854775808 ≤ l := by omega
      have k2 : l ≤ 9223372036854775807 := by omega
      clear hlit hok hR
      obtain ⟨B, hB⟩ : ∃ B, B = cbR c l := ⟨_, rfl⟩
      rw [← hB]
      have HB := Lib.hid hB
      clear hB
      go_enter Try.func53, Try.ntmps53
      go_wp2_with (first
        | (go_at_call 59; ((with_reducible refine (CircuitValid_i _ _ _ (HC.out _ HL.out.1)).mono ?_); rintro e w1 ⟨rfl, hq⟩; have HQ := Lib.hid (And.intro (blk_below hq (blk_lt HL.out.2.1) HL.out.2.1) (HL.out.1.trans (hq.mono (by simp)))); clear hq; rw [HH.out.1]))
        | (go_at_call 68; ((refine (vars_any _ _ _ _ _ _ _ _ _ _ (CirAt.of_blk HQ.out.1) (by omega) (by omega) (by omega)).mono ?_); rintro e w3 ⟨rfl, hd⟩; rw [HH.out.2.2]; have HQ := Lib.hid (And.intro (blk_below (hd.below _) (blk_lt HQ.out.1) HQ.out.1) (HQ.out.2.trans (hd.below _))); have ca := (blk_all HQ.out.1).1; clear hd))
        | (go_at_call 67; ((refine (isLit_any _ _ _ (by omega)).mono ?_); rintro e w4 ⟨rfl, rfl⟩; rw [HE.out.2]))
        | (go_at_call 85; ((with_reducible refine (Tseitin_i _ c l _ (HC.out _ HQ.out.2) ⟨k1, k2⟩).mono ?_); rintro e w5 ⟨s5, c5, bs, rfl, h1, hq⟩; rw [← HR.out.1] at h1 ⊢; have H5 := Lib.hid (And.intro h1.sls (HQ.out.2.trans (hq.mono HQ.out.2.size))); clear h1 hq ca))
        | (go_at_call 42; ((with_reducible refine (Satisfy_i _ _ R _ H5.out.1 (by omega) HR.out.2).mono ?_); rintro e w6 ⟨s6, c6, o, rfl, -, a2, hq⟩; have H6 := Lib.hid (And.intro a2 (H5.out.2.trans (hq.mono H5.out.2.size))); clear a2 hq)))
      have ho := H6.out.1
      rw [HR.out.1] at ho
      have he := (cbR_some HE.out.1 ho).trans HB.out.symm
      go_ret
      exact ⟨ret_bool he, H6.out.2⟩
    · have e : cbR c l = false := cbR_no fun h => hlit (by have := h.2; rw [HH.out.2.1] at this; exact this)
      have HE := Lib.hid (decide_eq_false hlit)
      rw [e]
      clear e hlit
      go_enter Try.func53, Try.ntmps53
      go_wp2_with (first
        | (go_at_call 59; ((with_reducible refine (CircuitValid_i _ _ _ (HC.out _ HL.out.1)).mono ?_); rintro e w1 ⟨rfl, hq⟩; have HQ := Lib.hid (And.intro (blk_below hq (blk_lt HL.out.2.1) HL.out.2.1) (HL.out.1.trans (hq.mono (by simp)))); clear hq; rw [HH.out.1]))
        | (go_at_call 68; ((refine (vars_any _ _ _ _ _ _ _ _ _ _ (CirAt.of_blk HQ.out.1) (by omega) (by omega) (by omega)).mono ?_); rintro e w3 ⟨rfl, hd⟩; rw [HH.out.2.2]; have HQ := Lib.hid (And.intro (blk_below (hd.below _) (blk_lt HQ.out.1) HQ.out.1) (HQ.out.2.trans (hd.below _))); have ca := (blk_all HQ.out.1).1; clear hd))
        | (go_at_call 67; ((refine (isLit_any _ _ _ (by omega)).mono ?_); rintro e w4 ⟨rfl, rfl⟩; rw [HE.out])))
      go_ret
      exact ⟨rfl, HQ.out.2⟩

set_option maxRecDepth 100000 in
set_option maxHeartbeats 3200000 in
theorem CanBeTrue_s (v : Value) (c : Cir) (l : Int) (w : World) (h : CirV w v c) :
    Calls Try.prog 52 #[v, .int .i64 l] w fun e w' => e = .returned (.bool (cbR c l)) ∧ Below w.heap.size w w' := by
  have HC : Hid (∀ w', Below w.heap.size w w' → CirV w' v c) := fun w' hb => h.mono hb
  obtain ⟨sn, cn, sg, cg, so, co, rfl, h1, h2, h3, hl1, hl2, hl3⟩ := h
  have hL : Below w.heap.size w (w.alloc (.cells #[.int .i64 c.inp, .slice sn c.next.length cn, .slice sg c.gates.length cg, .slice so c.outs.length co] 44)) := by go_grown
  have hN := blk_new w (.cells #[.int .i64 c.inp, .slice sn c.next.length cn, .slice sg c.gates.length cg, .slice so c.outs.length co] 44)
  have HL := Lib.hid (And.intro hL hN)
  clear hL hN h1 h2 h3
  cases hv : c.validB
  · have e : cbR c l = false := cbR_no fun h => by rw [h.1] at hv; cases hv
    rw [e]
    have HE := Lib.hid hv
    clear hv e
    go_enter Try.func52, Try.ntmps52
    go_upto_region 1 with fail
    revert HL
    generalize (w.alloc (.cells #[.int .i64 c.inp, .slice sn c.next.length cn, .slice sg c.gates.length cg, .slice so c.outs.length co] 44)) = WB
    intro HL
    refine wp_region_ord (fun w' => ∀ o, w'.cell? ⟨w.heap.size, o, none⟩ = #[Value.int .i64 c.inp, .slice sn c.next.length cn, .slice sg c.gates.length cg, .slice so c.outs.length co][o]?) ((0, false) :: (1, true) :: (2, false) :: (3, false) :: (4, false) :: (5, false) :: (7, false) :: (8, false) :: (9, false) :: (6, true) :: (10, false) :: (11, false) :: (12, false) :: (13, true) :: (14, false) :: (15, false) :: []) (by kernel_rfl) (by kernel_rfl) (by kernel_rfl) (by kernel_rfl) (blk_all HL.out.2).1 ?_
    repeat (first | (refine ord_es (o := ?_) ?_ ?_ (by assumption) ?_; rotate_left 1; (focus ((simp only [List.getElem?_toArray, List.getElem?_cons_succ, List.getElem?_cons_zero]) <;> rfl)); (focus rfl); simp only [Act.put, List.setIfInBounds_toArray, List.set_cons_zero, List.set_cons_succ]) | (refine ord_s (o := ?_) ?_ ?_ ?_; rotate_left 1; (focus ((simp only [List.getElem?_toArray, List.getElem?_cons_succ, List.getElem?_cons_zero]) <;> rfl)); (focus rfl); simp only [Act.put, List.setIfInBounds_toArray, List.set_cons_zero, List.set_cons_succ]) | (refine ord_q (o := ?_) (v := ?_) ?_ ?_ ?_ ?_; rotate_left 2; (focus ((simp only [List.getElem?_toArray, List.getElem?_cons_succ, List.getElem?_cons_zero]) <;> rfl)); (focus rfl); (focus (intro w' hS; (try dsimp only at hS); go_split_ands; go_simp; (try (with_reducible rfl)))); simp only [Act.put, List.setIfInBounds_toArray, List.set_cons_zero, List.set_cons_succ]))
    (refine ord_e (o := ?_) ?_ ?_ (fun K hK => ?_); rotate_left 1; (focus ((simp only [List.getElem?_toArray, List.getElem?_cons_succ, List.getElem?_cons_zero]) <;> rfl)); (focus rfl); go_simp)
    refine (CircuitValid_s _ _ _ (HC.out _ HL.out.1.drew)).mono ?_
    rintro e w1 ⟨rfl, hq⟩
    have hq1 := (Below.refl WB.heap.size WB).drew.trans hq
    have W1 := Lib.hid (And.intro (blk_below hq1 (blk_lt HL.out.2) HL.out.2) (HL.out.1.trans (hq1.mono HL.out.1.size)))
    clear hq hq1
    have hSW := (blk_all W1.out.1).1
    refine hK.out _ _ hSW ?_
    clear hK K
    rw [HE.out]
    (try simp only [Act.put, List.setIfInBounds_toArray, List.set_cons_zero, List.set_cons_succ])
    repeat (first | (refine ord_es (o := ?_) ?_ ?_ (by assumption) ?_; rotate_left 1; (focus ((simp only [List.getElem?_toArray, List.getElem?_cons_succ, List.getElem?_cons_zero]) <;> rfl)); (focus rfl); simp only [Act.put, List.setIfInBounds_toArray, List.set_cons_zero, List.set_cons_succ]) | (refine ord_s (o := ?_) ?_ ?_ ?_; rotate_left 1; (focus ((simp only [List.getElem?_toArray, List.getElem?_cons_succ, List.getElem?_cons_zero]) <;> rfl)); (focus rfl); simp only [Act.put, List.setIfInBounds_toArray, List.set_cons_zero, List.set_cons_succ]) | (refine ord_q (o := ?_) (v := ?_) ?_ ?_ ?_ ?_; rotate_left 2; (focus ((simp only [List.getElem?_toArray, List.getElem?_cons_succ, List.getElem?_cons_zero]) <;> rfl)); (focus rfl); (focus (intro w' hS; (try dsimp only at hS); go_split_ands; go_simp; (try (with_reducible rfl)))); simp only [Act.put, List.setIfInBounds_toArray, List.set_cons_zero, List.set_cons_succ]))
    refine ord_nil ?_
    clear hSW
    go_wp2_with fail
    go_ret
    exact ⟨rfl, W1.out.2⟩
  · have hval := c.validB_iff.1 hv
    obtain ⟨f1, f2, f3, f4⟩ := valid_first hval
    obtain ⟨q1, q2, q3, q4, q5⟩ := id hval.lim
    have eC : c.first = 1 + c.inp + c.next.length := rfl
    obtain ⟨F, hF⟩ : ∃ F : Nat, c.first = F := ⟨c.first.toNat, by omega⟩
    obtain ⟨V, hV⟩ : ∃ V : Nat, c.vars = V := ⟨c.vars.toNat, by omega⟩
    have e1 : 1 + c.inp + (c.next.length : Int) = (F : Int) := by omega
    have v22 : V ≤ 22 := by omega
    have f8 : F ≤ 8 := by omega
    have w1' : IntKind.i64.wrap ((F : Int) + (c.gates.length : Int)) = (V : Int) := by rw [IntWalk.i64_in _ ⟨by omega, by omega⟩]; omega
    have w2' : IntKind.i64.wrap (2 * (V : Int)) = 2 * (V : Int) := IntWalk.i64_in _ ⟨by omega, by omega⟩
    have w3' : IntKind.i64.wrap (2 * (V : Int) - 1) = 2 * (V : Int) - 1 := IntWalk.i64_in _ ⟨by omega, by omega⟩
    have HH := Lib.hid (And.intro hv (And.intro hV e1))
    clear hv hval f1 f2 f3 f4 eC hF hV e1
    obtain ⟨ok, hok⟩ : ∃ ok : Bool, decide ((0 : Int) ≤ l ∧ l ≤ 2 * (V : Int) - 1) = ok := ⟨_, rfl⟩
    have HO := Lib.hid hok
    clear hok
    obtain ⟨R, hR⟩ : ∃ R, R = tsR c l := ⟨_, rfl⟩
    have hRl : R.length ≤ 44 := by rw [hR]; exact (tsR_small c l).1
    have HR := Lib.hid (And.intro hR (show ∀ r ∈ R, r.length ≤ 1048576 from fun r hr => by rw [hR] at hr; exact Nat.le_trans ((tsR_small c l).2 r hr) (by decide)))
    clear hR
    obtain ⟨B, hB⟩ : ∃ B, B = cbR c l := ⟨_, rfl⟩
    rw [← hB]
    have HB := Lib.hid hB
    clear hB
    go_enter Try.func52, Try.ntmps52
    go_upto_region 1 with fail
    revert HL
    generalize (w.alloc (.cells #[.int .i64 c.inp, .slice sn c.next.length cn, .slice sg c.gates.length cg, .slice so c.outs.length co] 44)) = WB
    intro HL
    go_cut [22] from 7 to 22 (fun s22 wx => s22 = .bool (!ok) ∧ Below WB.heap.size WB wx)
    case first =>
      refine wp_region_ord (fun w' => ∀ o, w'.cell? ⟨w.heap.size, o, none⟩ = #[Value.int .i64 c.inp, .slice sn c.next.length cn, .slice sg c.gates.length cg, .slice so c.outs.length co][o]?) ((0, false) :: (1, true) :: (2, false) :: (3, false) :: (4, false) :: (5, false) :: (7, false) :: (8, false) :: (9, false) :: (6, true) :: (10, false) :: (11, false) :: (12, false) :: (13, true) :: (14, false) :: (15, false) :: []) (by kernel_rfl) (by kernel_rfl) (by kernel_rfl) (by kernel_rfl) (blk_all HL.out.2).1 ?_
      repeat (first | (refine ord_es (o := ?_) ?_ ?_ (by assumption) ?_; rotate_left 1; (focus ((simp only [List.getElem?_toArray, List.getElem?_cons_succ, List.getElem?_cons_zero]) <;> rfl)); (focus rfl); simp only [Act.put, List.setIfInBounds_toArray, List.set_cons_zero, List.set_cons_succ]) | (refine ord_s (o := ?_) ?_ ?_ ?_; rotate_left 1; (focus ((simp only [List.getElem?_toArray, List.getElem?_cons_succ, List.getElem?_cons_zero]) <;> rfl)); (focus rfl); simp only [Act.put, List.setIfInBounds_toArray, List.set_cons_zero, List.set_cons_succ]) | (refine ord_q (o := ?_) (v := ?_) ?_ ?_ ?_ ?_; rotate_left 2; (focus ((simp only [List.getElem?_toArray, List.getElem?_cons_succ, List.getElem?_cons_zero]) <;> rfl)); (focus rfl); (focus (intro w' hS; (try dsimp only at hS); go_split_ands; go_simp; (try (with_reducible rfl)))); simp only [Act.put, List.setIfInBounds_toArray, List.set_cons_zero, List.set_cons_succ]))
      (refine ord_e (o := ?_) ?_ ?_ (fun K hK => ?_); rotate_left 1; (focus ((simp only [List.getElem?_toArray, List.getElem?_cons_succ, List.getElem?_cons_zero]) <;> rfl)); (focus rfl); go_simp)
      refine (CircuitValid_s _ _ _ (HC.out _ HL.out.1.drew)).mono ?_
      rintro e w1 ⟨rfl, hq⟩
      have hb1 : Below WB.heap.size WB w1 := (Below.refl _ _).drew.trans hq
      have W1 := Lib.hid (And.intro (blk_below hb1 (blk_lt HL.out.2) HL.out.2) hb1)
      clear hq hb1
      have hSW := (blk_all W1.out.1).1
      refine hK.out _ _ hSW ?_
      clear hK K
      rw [HH.out.1]
      (try simp only [Act.put, List.setIfInBounds_toArray, List.set_cons_zero, List.set_cons_succ])
      repeat (first | (refine ord_es (o := ?_) ?_ ?_ (by assumption) ?_; rotate_left 1; (focus ((simp only [List.getElem?_toArray, List.getElem?_cons_succ, List.getElem?_cons_zero]) <;> rfl)); (focus rfl); simp only [Act.put, List.setIfInBounds_toArray, List.set_cons_zero, List.set_cons_succ]) | (refine ord_s (o := ?_) ?_ ?_ ?_; rotate_left 1; (focus ((simp only [List.getElem?_toArray, List.getElem?_cons_succ, List.getElem?_cons_zero]) <;> rfl)); (focus rfl); simp only [Act.put, List.setIfInBounds_toArray, List.set_cons_zero, List.set_cons_succ]) | (refine ord_q (o := ?_) (v := ?_) ?_ ?_ ?_ ?_; rotate_left 2; (focus ((simp only [List.getElem?_toArray, List.getElem?_cons_succ, List.getElem?_cons_zero]) <;> rfl)); (focus rfl); (focus (intro w' hS; (try dsimp only at hS); go_split_ands; go_simp; (try (with_reducible rfl)))); simp only [Act.put, List.setIfInBounds_toArray, List.set_cons_zero, List.set_cons_succ]))
      (refine ord_e (o := ?_) ?_ ?_ (fun K hK => ?_); rotate_left 1; (focus ((simp only [List.getElem?_toArray, List.getElem?_cons_succ, List.getElem?_cons_zero]) <;> rfl)); (focus rfl); go_simp)
      refine (l1First_any _ _ _ _ _ _ _ (by omega) (by omega)).mono ?_
      rintro e w2 ⟨rfl, hq⟩
      rw [HH.out.2.2]
      have W2 := Lib.hid (And.intro (blk_below hq (blk_lt W1.out.1) W1.out.1) (W1.out.2.trans (hq.mono W1.out.2.size)))
      clear hq hSW
      have hSW := (blk_all W2.out.1).1
      refine hK.out _ _ hSW ?_
      clear hK K
      (try simp only [Act.put, List.setIfInBounds_toArray, List.set_cons_zero, List.set_cons_succ])
      repeat (first | (refine ord_es (o := ?_) ?_ ?_ (by assumption) ?_; rotate_left 1; (focus ((simp only [List.getElem?_toArray, List.getElem?_cons_succ, List.getElem?_cons_zero]) <;> rfl)); (focus rfl); simp only [Act.put, List.setIfInBounds_toArray, List.set_cons_zero, List.set_cons_succ]) | (refine ord_s (o := ?_) ?_ ?_ ?_; rotate_left 1; (focus ((simp only [List.getElem?_toArray, List.getElem?_cons_succ, List.getElem?_cons_zero]) <;> rfl)); (focus rfl); simp only [Act.put, List.setIfInBounds_toArray, List.set_cons_zero, List.set_cons_succ]) | (refine ord_q (o := ?_) (v := ?_) ?_ ?_ ?_ ?_; rotate_left 2; (focus ((simp only [List.getElem?_toArray, List.getElem?_cons_succ, List.getElem?_cons_zero]) <;> rfl)); (focus rfl); (focus (intro w' hS; (try dsimp only at hS); go_split_ands; go_simp; (try (with_reducible rfl)))); simp only [Act.put, List.setIfInBounds_toArray, List.set_cons_zero, List.set_cons_succ]))
      (refine ord_e (o := ?_) ?_ ?_ (fun K hK => ?_); rotate_left 1; (focus ((simp only [List.getElem?_toArray, List.getElem?_cons_succ, List.getElem?_cons_zero]) <;> rfl)); (focus rfl); go_simp)
      refine (l1In_any _ _ _ _).mono ?_
      rintro e w3' ⟨rfl, rfl⟩
      refine hK.out _ _ hSW ?_
      clear hK K
      rw [HO.out]
      (try simp only [Act.put, List.setIfInBounds_toArray, List.set_cons_zero, List.set_cons_succ])
      repeat (first | (refine ord_es (o := ?_) ?_ ?_ (by assumption) ?_; rotate_left 1; (focus ((simp only [List.getElem?_toArray, List.getElem?_cons_succ, List.getElem?_cons_zero]) <;> rfl)); (focus rfl); simp only [Act.put, List.setIfInBounds_toArray, List.set_cons_zero, List.set_cons_succ]) | (refine ord_s (o := ?_) ?_ ?_ ?_; rotate_left 1; (focus ((simp only [List.getElem?_toArray, List.getElem?_cons_succ, List.getElem?_cons_zero]) <;> rfl)); (focus rfl); simp only [Act.put, List.setIfInBounds_toArray, List.set_cons_zero, List.set_cons_succ]) | (refine ord_q (o := ?_) (v := ?_) ?_ ?_ ?_ ?_; rotate_left 2; (focus ((simp only [List.getElem?_toArray, List.getElem?_cons_succ, List.getElem?_cons_zero]) <;> rfl)); (focus rfl); (focus (intro w' hS; (try dsimp only at hS); go_split_ands; go_simp; (try (with_reducible rfl)))); simp only [Act.put, List.setIfInBounds_toArray, List.set_cons_zero, List.set_cons_succ]))
      refine ord_nil ?_
      clear hSW
      go_wp2_with fail
      go_meet
      exact ⟨rfl, W2.out.2⟩
    case rest =>
      obtain ⟨rfl, hb⟩ := hcut
      have HX := Lib.hid (And.intro (HL.out.1.trans (hb.mono HL.out.1.size)) (blk_below hb (blk_lt HL.out.2) HL.out.2))
      clear hb w1' w2' w3'
      have ca := (blk_all HX.out.2).1
      cases ok
      · have e : B = false := HB.out.trans (cbR_no fun h => by
          have h1 := HO.out
          rw [decide_eq_false_iff_not] at h1
          have h2 := h.2; rw [HH.out.2.1] at h2
          exact h1 (by unfold litP at h2; omega))
        clear HB
        subst e
        go_wp2_with fail
        go_ret
        exact ⟨rfl, HX.out.1⟩
      · have h1 := HO.out
        rw [decide_eq_true_eq] at h1
        have hok : tsOk c l := ⟨HH.out.1, by rw [HH.out.2.1]; exact ⟨h1.1, by omega⟩⟩
        have HE := Lib.hid hok
        have k1 : -9223372036854775808 ≤ l := by omega
        have k2 : l ≤ 9223372036854775807 := by omega
        clear h1 hok
        go_wp2_with (first
          | (go_at_call 84; ((with_reducible refine (Tseitin_s _ c l _ (HC.out _ HX.out.1) ⟨k1, k2⟩).mono ?_); rintro e w5 ⟨s5, c5, rfl, h1, hq⟩; rw [← HR.out.1] at h1 ⊢; have H5 := Lib.hid (And.intro h1 (HX.out.1.trans (hq.mono HX.out.1.size))); clear h1 hq ca))
          | (go_at_call 40; ((with_reducible refine (Satisfy_s _ _ R _ H5.out.1 (by omega) HR.out.2).mono ?_); rintro e w6 ⟨s6, c6, o, rfl, -, a2, hq⟩; have H6 := Lib.hid (And.intro a2 (H5.out.2.trans (hq.mono H5.out.2.size))); clear a2 hq)))
        have ho := H6.out.1
        rw [HR.out.1] at ho
        have he := (cbR_some HE.out ho).trans HB.out.symm
        go_ret
        exact ⟨ret_bool he, H6.out.2⟩

end Go.Proofs.Ytddmgphlhfilnaa
