import Derived.Test.YtnmafbggpjglaaaG4
namespace Go.Proofs.Ytnmafbggpjglaaa
set_option linter.unusedVariables false
set_option linter.unusedSimpArgs false
open Go.RowKit

set_option maxHeartbeats 1600000 in
theorem ForceGate_s (v : Value) (c : Cir) (p : Int) (val : Bool) (w : World) (h : CirV w v c) :
    Calls Try.prog 38 #[v, .int .i64 p, .bool val] w fun e w' => ∃ vn vg vo, e = .returned (.agg #[.int .i64 (fgR c p val).inp, vn, vg, vo]) ∧ CirOwn w' w.heap.size (fgR c p val) vn vg vo ∧ Below w.heap.size w w' := by
  have HC : Hid (∀ w', Below w.heap.size w w' → CirV w' v c) := fun w' hb => h.mono hb
  obtain ⟨sn, cn, sg, cg, so, co, rfl, h1, h2, h3, hl1, hl2, hl3⟩ := h
  have hL : Below w.heap.size w ((w.alloc (.cells #[.int .i64 c.inp, .slice sn c.next.length cn, .slice sg c.gates.length cg, .slice so c.outs.length co] 26)).alloc (.cells #[.int .i64 0, .slice none 0 0, .slice none 0 0, .slice none 0 0] 26)) := by go_grown
  have hN := blk_old (o := .cells #[.int .i64 0, .slice none 0 0, .slice none 0 0, .slice none 0 0] 26) (blk_new w (.cells #[.int .i64 c.inp, .slice sn c.next.length cn, .slice sg c.gates.length cg, .slice so c.outs.length co] 26))
  have hM : ((w.alloc (.cells #[.int .i64 c.inp, .slice sn c.next.length cn, .slice sg c.gates.length cg, .slice so c.outs.length co] 26)).alloc (.cells #[.int .i64 0, .slice none 0 0, .slice none 0 0, .slice none 0 0] 26)).heap[w.heap.size + 1]? = some (.cells #[.int .i64 0, .slice none 0 0, .slice none 0 0, .slice none 0 0] 26 (0, 0)) := blk_at (by simp)
  have hZ0 : ((w.alloc (.cells #[.int .i64 c.inp, .slice sn c.next.length cn, .slice sg c.gates.length cg, .slice so c.outs.length co] 26)).alloc (.cells #[.int .i64 0, .slice none 0 0, .slice none 0 0, .slice none 0 0] 26)).heap.size = w.heap.size + 2 := by simp
  have HBad : Hid (∀ W : World, CirOwn W (w.heap.size + 2) ⟨0, [], [], []⟩ (.slice none 0 0) (.slice none 0 0) (.slice none 0 0)) := fun W =>
    ⟨World.ownsRow_nil _ _ _ _, World.ownsRow_nil _ _ _ _, World.ownsRow_nil _ _ _ _, (fun k hk => by cases hk), by simp, by simp, by simp⟩
  clear h1 h2 h3
  cases hv : c.validB
  · have e : fgR c p val = ⟨0, [], [], []⟩ := fgR_no fun h => by rw [h.1] at hv; cases hv
    rw [e]
    have HE := Lib.hid hv
    clear hv e
    go_enter Try.func38, Try.ntmps38
    go_wp2_with fail
    revert hL hN hM hZ0
    generalize ((w.alloc (.cells #[.int .i64 c.inp, .slice sn c.next.length cn, .slice sg c.gates.length cg, .slice so c.outs.length co] 26)).alloc (.cells #[.int .i64 0, .slice none 0 0, .slice none 0 0, .slice none 0 0] 26)) = WB
    intro hL hN hM hZ0
    have HL := Lib.hid (And.intro hL (And.intro hN hM))
    have hZb := hZ0
    clear hL hN hM hZ0
    go_cut [23] from 7 to 23 (fun s23 wx => s23 = .bool true ∧ Below WB.heap.size WB wx)
    case first =>
      refine wp_region_ord (fun w' => ∀ o, w'.cell? ⟨w.heap.size, o, none⟩ = #[Value.int .i64 c.inp, Value.slice sn c.next.length cn, Value.slice sg c.gates.length cg, Value.slice so c.outs.length co][o]?) ((0, false) :: (1, true) :: (2, false) :: (3, false) :: (4, false) :: (5, false) :: (7, false) :: (9, false) :: (10, false) :: (11, false) :: (6, true) :: (8, true) :: (12, false) :: (13, false) :: (14, true) :: (15, false) :: (16, false) :: []) (by kernel_rfl) (by kernel_rfl) (by kernel_rfl) (by kernel_rfl) (blk_all HL.out.2.1).1 ?_
      repeat (first | (refine ord_es (o := ?_) ?_ ?_ (by assumption) ?_; rotate_left 1; (focus ((simp only [List.getElem?_toArray, List.getElem?_cons_succ, List.getElem?_cons_zero]) <;> rfl)); (focus rfl); simp only [Act.put, List.setIfInBounds_toArray, List.set_cons_zero, List.set_cons_succ]) | (refine ord_s (o := ?_) ?_ ?_ ?_; rotate_left 1; (focus ((simp only [List.getElem?_toArray, List.getElem?_cons_succ, List.getElem?_cons_zero]) <;> rfl)); (focus rfl); simp only [Act.put, List.setIfInBounds_toArray, List.set_cons_zero, List.set_cons_succ]) | (refine ord_q (o := ?_) (v := ?_) ?_ ?_ ?_ ?_; rotate_left 2; (focus ((simp only [List.getElem?_toArray, List.getElem?_cons_succ, List.getElem?_cons_zero]) <;> rfl)); (focus rfl); (focus (intro w' hS; (try dsimp only at hS); go_split_ands; go_simp; (try (with_reducible rfl)))); simp only [Act.put, List.setIfInBounds_toArray, List.set_cons_zero, List.set_cons_succ]))
      (refine ord_e (o := ?_) ?_ ?_ (fun K hK => ?_); rotate_left 1; (focus ((simp only [List.getElem?_toArray, List.getElem?_cons_succ, List.getElem?_cons_zero]) <;> rfl)); (focus rfl); go_simp)
      refine (CircuitValid_s _ _ _ (HC.out _ HL.out.1.drew)).mono ?_
      rintro e w1 ⟨rfl, hq⟩
      have hb1 : Below WB.heap.size WB w1 := (Below.refl _ _).drew.trans hq
      have hSW := (blk_all (blk_below hb1 (blk_lt HL.out.2.1) HL.out.2.1)).1
      refine hK.out _ _ hSW ?_
      clear hK K hq
      have H1 := Lib.hid hb1
      clear hb1
      rw [HE.out]
      (try simp only [Act.put, List.setIfInBounds_toArray, List.set_cons_zero, List.set_cons_succ])
      repeat (first | (refine ord_es (o := ?_) ?_ ?_ (by assumption) ?_; rotate_left 1; (focus ((simp only [List.getElem?_toArray, List.getElem?_cons_succ, List.getElem?_cons_zero]) <;> rfl)); (focus rfl); simp only [Act.put, List.setIfInBounds_toArray, List.set_cons_zero, List.set_cons_succ]) | (refine ord_s (o := ?_) ?_ ?_ ?_; rotate_left 1; (focus ((simp only [List.getElem?_toArray, List.getElem?_cons_succ, List.getElem?_cons_zero]) <;> rfl)); (focus rfl); simp only [Act.put, List.setIfInBounds_toArray, List.set_cons_zero, List.set_cons_succ]) | (refine ord_q (o := ?_) (v := ?_) ?_ ?_ ?_ ?_; rotate_left 2; (focus ((simp only [List.getElem?_toArray, List.getElem?_cons_succ, List.getElem?_cons_zero]) <;> rfl)); (focus rfl); (focus (intro w' hS; (try dsimp only at hS); go_split_ands; go_simp; (try (with_reducible rfl)))); simp only [Act.put, List.setIfInBounds_toArray, List.set_cons_zero, List.set_cons_succ]))
      refine ord_nil ?_
      go_wp2_with fail
      go_meet
      exact ⟨rfl, H1.out⟩
    case rest =>
      obtain ⟨rfl, hb⟩ := hcut
      have hm := blk_below hb (blk_lt HL.out.2.2) HL.out.2.2
      obtain ⟨rc, rf⟩ := blk_all hm
      have HQ := Lib.hid (And.intro (HL.out.1.trans (hb.mono (by omega))) hm)
      have hzc := hb.size
      clear hb hm
      go_wp2_with fail
      have hZ : ((((wc.setCell ⟨w.heap.size + 1, 0, none⟩ (.int .i64 0)).setCell ⟨w.heap.size + 1, 1, none⟩ (.slice none 0 0)).setCell ⟨w.heap.size + 1, 2, none⟩ (.slice none 0 0)).setCell ⟨w.heap.size + 1, 3, none⟩ (.slice none 0 0)).heap[w.heap.size + 1]? = some (.cells #[.int .i64 0, .slice none 0 0, .slice none 0 0, .slice none 0 0] 26 (0, 0)) := by
        simpa using blk_set (o := 3) (v := .slice none 0 0) (blk_set (o := 2) (v := .slice none 0 0) (blk_set (o := 1) (v := .slice none 0 0) (blk_set (o := 0) (v := .int .i64 0) HQ.out.2)))
      have hR := (HBad.out wc).sets4 (r := w.heap.size + 1) (by omega) (base := w.heap.size) (by omega) (a := .int .i64 0) (b' := .slice none 0 0) (c' := .slice none 0 0) (d := .slice none 0 0)
      have hB := ((((HQ.out.1).setCell (p := ⟨w.heap.size + 1, 0, none⟩) (by simp) (.int .i64 0)).setCell (p := ⟨w.heap.size + 1, 1, none⟩) (by simp) (.slice none 0 0)).setCell (p := ⟨w.heap.size + 1, 2, none⟩) (by simp) (.slice none 0 0)).setCell (p := ⟨w.heap.size + 1, 3, none⟩) (by simp) (.slice none 0 0)
      revert hZ hR hB
      generalize ((((wc.setCell ⟨w.heap.size + 1, 0, none⟩ (.int .i64 0)).setCell ⟨w.heap.size + 1, 1, none⟩ (.slice none 0 0)).setCell ⟨w.heap.size + 1, 2, none⟩ (.slice none 0 0)).setCell ⟨w.heap.size + 1, 3, none⟩ (.slice none 0 0)) = WZ
      intro hZ hR hB
      have cr := (blk_all hZ).1
      exact bodyPost_ret (v := .agg #[.int .i64 0, .slice none 0 0, .slice none 0 0, .slice none 0 0]) (by simp [results, Try.results38, go_sem, cr]) rfl ⟨_, _, _, rfl, hR, hB⟩
  · have hval := c.validB_iff.1 hv
    obtain ⟨f1, f2, f3, f4⟩ := valid_first hval
    obtain ⟨q1, q2, q3, q4, q5⟩ := id hval.lim
    have eC : c.first = 1 + c.inp + c.next.length := rfl
    obtain ⟨F, hF⟩ : ∃ F : Nat, c.first = F := ⟨c.first.toNat, by omega⟩
    obtain ⟨V, hV⟩ : ∃ V : Nat, c.vars = V := ⟨c.vars.toNat, by omega⟩
    have e1 : 1 + c.inp + (c.next.length : Int) = (F : Int) := by omega
    have v22 : V ≤ 22 := by omega
    have f8 : F ≤ 8 := by omega
    have w1' : IntKind.i64.wrap ((F : Int) + (c.gates.length : Int)) = (V : Int) := by rw [IntWalk.i64_in _ ⟨by omega, by omega⟩]; omega
    have w2' : IntKind.i64.wrap ((V : Int) - 1) = (V : Int) - 1 := IntWalk.i64_in _ ⟨by omega, by omega⟩
    have HH := Lib.hid (And.intro hv (And.intro hval (And.intro hF (And.intro hV e1))))
    clear hv hval f1 f2 f3 f4 eC hF hV e1
    obtain ⟨ok, hok⟩ : ∃ ok : Bool, decide ((F : Int) ≤ p ∧ p ≤ (V : Int) - 1) = ok := ⟨_, rfl⟩
    have HO := Lib.hid hok
    clear hok
    go_enter Try.func38, Try.ntmps38
    go_wp2_with fail
    revert hL hN hM hZ0
    generalize ((w.alloc (.cells #[.int .i64 c.inp, .slice sn c.next.length cn, .slice sg c.gates.length cg, .slice so c.outs.length co] 26)).alloc (.cells #[.int .i64 0, .slice none 0 0, .slice none 0 0, .slice none 0 0] 26)) = WB
    intro hL hN hM hZ0
    have HL := Lib.hid (And.intro hL (And.intro hN hM))
    have hZb := hZ0
    clear hL hN hM hZ0
    go_cut [23] from 7 to 23 (fun s23 wx => s23 = .bool (!ok) ∧ Below WB.heap.size WB wx)
    case first =>
      refine wp_region_ord (fun w' => ∀ o, w'.cell? ⟨w.heap.size, o, none⟩ = #[Value.int .i64 c.inp, Value.slice sn c.next.length cn, Value.slice sg c.gates.length cg, Value.slice so c.outs.length co][o]?) ((0, false) :: (1, true) :: (2, false) :: (3, false) :: (4, false) :: (5, false) :: (7, false) :: (9, false) :: (10, false) :: (11, false) :: (6, true) :: (8, true) :: (12, false) :: (13, false) :: (14, true) :: (15, false) :: (16, false) :: []) (by kernel_rfl) (by kernel_rfl) (by kernel_rfl) (by kernel_rfl) (blk_all HL.out.2.1).1 ?_
      repeat (first | (refine ord_es (o := ?_) ?_ ?_ (by assumption) ?_; rotate_left 1; (focus ((simp only [List.getElem?_toArray, List.getElem?_cons_succ, List.getElem?_cons_zero]) <;> rfl)); (focus rfl); simp only [Act.put, List.setIfInBounds_toArray, List.set_cons_zero, List.set_cons_succ]) | (refine ord_s (o := ?_) ?_ ?_ ?_; rotate_left 1; (focus ((simp only [List.getElem?_toArray, List.getElem?_cons_succ, List.getElem?_cons_zero]) <;> rfl)); (focus rfl); simp only [Act.put, List.setIfInBounds_toArray, List.set_cons_zero, List.set_cons_succ]) | (refine ord_q (o := ?_) (v := ?_) ?_ ?_ ?_ ?_; rotate_left 2; (focus ((simp only [List.getElem?_toArray, List.getElem?_cons_succ, List.getElem?_cons_zero]) <;> rfl)); (focus rfl); (focus (intro w' hS; (try dsimp only at hS); go_split_ands; go_simp; (try (with_reducible rfl)))); simp only [Act.put, List.setIfInBounds_toArray, List.set_cons_zero, List.set_cons_succ]))
      (refine ord_e (o := ?_) ?_ ?_ (fun K hK => ?_); rotate_left 1; (focus ((simp only [List.getElem?_toArray, List.getElem?_cons_succ, List.getElem?_cons_zero]) <;> rfl)); (focus rfl); go_simp)
      refine (CircuitValid_s _ _ _ (HC.out _ HL.out.1.drew)).mono ?_
      rintro e w1 ⟨rfl, hq⟩
      have hb1 : Below WB.heap.size WB w1 := (Below.refl _ _).drew.trans hq
      have W1 := Lib.hid (And.intro (blk_below hb1 (blk_lt HL.out.2.1) HL.out.2.1) hb1)
      clear hq hb1
      have hSW := (blk_all W1.out.1).1
      refine hK.out _ _ hSW ?_
      clear hK K
      rw [HH.out.1]
      (try simp only [Act.put, List.setIfInBounds_toArray, List.set_cons_zero, List.set_cons_succ])
      repeat (first | (refine ord_es (o := ?_) ?_ ?_ (by assumption) ?_; rotate_left 1; (focus ((simp only [List.getElem?_toArray, List.getElem?_cons_succ, List.getElem?_cons_zero]) <;> rfl)); (focus rfl); simp only [Act.put, List.setIfInBounds_toArray, List.set_cons_zero, List.set_cons_succ]) | (refine ord_s (o := ?_) ?_ ?_ ?_; rotate_left 1; (focus ((simp only [List.getElem?_toArray, List.getElem?_cons_succ, List.getElem?_cons_zero]) <;> rfl)); (focus rfl); simp only [Act.put, List.setIfInBounds_toArray, List.set_cons_zero, List.set_cons_succ]) | (refine ord_q (o := ?_) (v := ?_) ?_ ?_ ?_ ?_; rotate_left 2; (focus ((simp only [List.getElem?_toArray, List.getElem?_cons_succ, List.getElem?_cons_zero]) <;> rfl)); (focus rfl); (focus (intro w' hS; (try dsimp only at hS); go_split_ands; go_simp; (try (with_reducible rfl)))); simp only [Act.put, List.setIfInBounds_toArray, List.set_cons_zero, List.set_cons_succ]))
      (refine ord_e (o := ?_) ?_ ?_ (fun K hK => ?_); rotate_left 1; (focus ((simp only [List.getElem?_toArray, List.getElem?_cons_succ, List.getElem?_cons_zero]) <;> rfl)); (focus rfl); go_simp)
      refine (l1First_any _ _ _ _ _ _ _ (by omega) (by omega)).mono ?_
      rintro e w2 ⟨rfl, hq⟩
      rw [HH.out.2.2.2.2]
      have W2 := Lib.hid (And.intro (blk_below hq (blk_lt W1.out.1) W1.out.1) (W1.out.2.trans (hq.mono W1.out.2.size)))
      clear hq hSW
      have hSW := (blk_all W2.out.1).1
      refine hK.out _ _ hSW ?_
      clear hK K
      (try simp only [Act.put, List.setIfInBounds_toArray, List.set_cons_zero, List.set_cons_succ])
      repeat (first | (refine ord_es (o := ?_) ?_ ?_ (by assumption) ?_; rotate_left 1; (focus ((simp only [List.getElem?_toArray, List.getElem?_cons_succ, List.getElem?_cons_zero]) <;> rfl)); (focus rfl); simp only [Act.put, List.setIfInBounds_toArray, List.set_cons_zero, List.set_cons_succ]) | (refine ord_s (o := ?_) ?_ ?_ ?_; rotate_left 1; (focus ((simp only [List.getElem?_toArray, List.getElem?_cons_succ, List.getElem?_cons_zero]) <;> rfl)); (focus rfl); simp only [Act.put, List.setIfInBounds_toArray, List.set_cons_zero, List.set_cons_succ]) | (refine ord_q (o := ?_) (v := ?_) ?_ ?_ ?_ ?_; rotate_left 2; (focus ((simp only [List.getElem?_toArray, List.getElem?_cons_succ, List.getElem?_cons_zero]) <;> rfl)); (focus rfl); (focus (intro w' hS; (try dsimp only at hS); go_split_ands; go_simp; (try (with_reducible rfl)))); simp only [Act.put, List.setIfInBounds_toArray, List.set_cons_zero, List.set_cons_succ]))
      (refine ord_e (o := ?_) ?_ ?_ (fun K hK => ?_); rotate_left 1; (focus ((simp only [List.getElem?_toArray, List.getElem?_cons_succ, List.getElem?_cons_zero]) <;> rfl)); (focus rfl); go_simp)
      refine (l1First_any _ _ _ _ _ _ _ (by omega) (by omega)).mono ?_
      rintro e w3 ⟨rfl, hq⟩
      rw [HH.out.2.2.2.2]
      have W3 := Lib.hid (And.intro (blk_below hq (blk_lt W2.out.1) W2.out.1) (W2.out.2.trans (hq.mono W2.out.2.size)))
      clear hq hSW
      have hSW := (blk_all W3.out.1).1
      refine hK.out _ _ hSW ?_
      clear hK K
      (try simp only [Act.put, List.setIfInBounds_toArray, List.set_cons_zero, List.set_cons_succ])
      repeat (first | (refine ord_es (o := ?_) ?_ ?_ (by assumption) ?_; rotate_left 1; (focus ((simp only [List.getElem?_toArray, List.getElem?_cons_succ, List.getElem?_cons_zero]) <;> rfl)); (focus rfl); simp only [Act.put, List.setIfInBounds_toArray, List.set_cons_zero, List.set_cons_succ]) | (refine ord_s (o := ?_) ?_ ?_ ?_; rotate_left 1; (focus ((simp only [List.getElem?_toArray, List.getElem?_cons_succ, List.getElem?_cons_zero]) <;> rfl)); (focus rfl); simp only [Act.put, List.setIfInBounds_toArray, List.set_cons_zero, List.set_cons_succ]) | (refine ord_q (o := ?_) (v := ?_) ?_ ?_ ?_ ?_; rotate_left 2; (focus ((simp only [List.getElem?_toArray, List.getElem?_cons_succ, List.getElem?_cons_zero]) <;> rfl)); (focus rfl); (focus (intro w' hS; (try dsimp only at hS); go_split_ands; go_simp; (try (with_reducible rfl)))); simp only [Act.put, List.setIfInBounds_toArray, List.set_cons_zero, List.set_cons_succ]))
      (refine ord_e (o := ?_) ?_ ?_ (fun K hK => ?_); rotate_left 1; (focus ((simp only [List.getElem?_toArray, List.getElem?_cons_succ, List.getElem?_cons_zero]) <;> rfl)); (focus rfl); go_simp)
      refine (l1In_any _ _ _ _).mono ?_
      rintro e w3' ⟨rfl, rfl⟩
      refine hK.out _ _ hSW ?_
      clear hK K
      rw [HO.out]
      (try simp only [Act.put, List.setIfInBounds_toArray, List.set_cons_zero, List.set_cons_succ])
      repeat (first | (refine ord_es (o := ?_) ?_ ?_ (by assumption) ?_; rotate_left 1; (focus ((simp only [List.getElem?_toArray, List.getElem?_cons_succ, List.getElem?_cons_zero]) <;> rfl)); (focus rfl); simp only [Act.put, List.setIfInBounds_toArray, List.set_cons_zero, List.set_cons_succ]) | (refine ord_s (o := ?_) ?_ ?_ ?_; rotate_left 1; (focus ((simp only [List.getElem?_toArray, List.getElem?_cons_succ, List.getElem?_cons_zero]) <;> rfl)); (focus rfl); simp only [Act.put, List.setIfInBounds_toArray, List.set_cons_zero, List.set_cons_succ]) | (refine ord_q (o := ?_) (v := ?_) ?_ ?_ ?_ ?_; rotate_left 2; (focus ((simp only [List.getElem?_toArray, List.getElem?_cons_succ, List.getElem?_cons_zero]) <;> rfl)); (focus rfl); (focus (intro w' hS; (try dsimp only at hS); go_split_ands; go_simp; (try (with_reducible rfl)))); simp only [Act.put, List.setIfInBounds_toArray, List.set_cons_zero, List.set_cons_succ]))
      refine ord_nil ?_
      clear hSW
      go_wp2_with fail
      go_meet
      exact ⟨rfl, W3.out.2⟩
    case rest =>
      obtain ⟨rfl, hb⟩ := hcut
      have hm := blk_below hb (blk_lt HL.out.2.2) HL.out.2.2
      have hx := blk_below hb (blk_lt HL.out.2.1) HL.out.2.1
      obtain ⟨rc, rf⟩ := blk_all hm
      have ca := (blk_all hx).1
      have HQ := Lib.hid (And.intro (HL.out.1.trans (hb.mono (by omega))) hm)
      have hzc := hb.size
      clear hb hm hx w1' w2'
      cases ok
      · have e : fgR c p val = ⟨0, [], [], []⟩ := fgR_no fun h => by
          have h1 := HO.out
          rw [decide_eq_false_iff_not] at h1
          exact h1 ⟨by have := h.2.1; rw [HH.out.2.2.1] at this; exact this, by have := h.2.2; rw [HH.out.2.2.2.1] at this; omega⟩
        have HE := Lib.hid e
        clear e
        go_wp2_with fail
        have hZ : ((((wc.setCell ⟨w.heap.size + 1, 0, none⟩ (.int .i64 0)).setCell ⟨w.heap.size + 1, 1, none⟩ (.slice none 0 0)).setCell ⟨w.heap.size + 1, 2, none⟩ (.slice none 0 0)).setCell ⟨w.heap.size + 1, 3, none⟩ (.slice none 0 0)).heap[w.heap.size + 1]? = some (.cells #[.int .i64 0, .slice none 0 0, .slice none 0 0, .slice none 0 0] 26 (0, 0)) := by
          simpa using blk_set (o := 3) (v := .slice none 0 0) (blk_set (o := 2) (v := .slice none 0 0) (blk_set (o := 1) (v := .slice none 0 0) (blk_set (o := 0) (v := .int .i64 0) HQ.out.2)))
        have hR := (HBad.out wc).sets4 (r := w.heap.size + 1) (by omega) (base := w.heap.size) (by omega) (a := .int .i64 0) (b' := .slice none 0 0) (c' := .slice none 0 0) (d := .slice none 0 0)
        have hB := ((((HQ.out.1).setCell (p := ⟨w.heap.size + 1, 0, none⟩) (by simp) (.int .i64 0)).setCell (p := ⟨w.heap.size + 1, 1, none⟩) (by simp) (.slice none 0 0)).setCell (p := ⟨w.heap.size + 1, 2, none⟩) (by simp) (.slice none 0 0)).setCell (p := ⟨w.heap.size + 1, 3, none⟩) (by simp) (.slice none 0 0)
        revert hZ hR hB
        generalize ((((wc.setCell ⟨w.heap.size + 1, 0, none⟩ (.int .i64 0)).setCell ⟨w.heap.size + 1, 1, none⟩ (.slice none 0 0)).setCell ⟨w.heap.size + 1, 2, none⟩ (.slice none 0 0)).setCell ⟨w.heap.size + 1, 3, none⟩ (.slice none 0 0)) = WZ
        intro hZ hR hB
        have cr := (blk_all hZ).1
        rw [← HE.out] at hR
        exact bodyPost_ret (v := .agg #[.int .i64 0, .slice none 0 0, .slice none 0 0, .slice none 0 0]) (by simp [results, Try.results38, go_sem, cr]) rfl ⟨_, _, _, by rw [HE.out], hR, hB⟩
      · have h1 := HO.out
        rw [decide_eq_true_eq] at h1
        have e : fgR c p val = c.mapC (forceL p val) := fgR_yes ⟨HH.out.1, by rw [HH.out.2.2.1]; exact h1.1, by rw [HH.out.2.2.2.1]; omega⟩
        obtain ⟨p, rfl⟩ : ∃ P : Nat, p = P := ⟨p.toNat, by omega⟩
        have HE := Lib.hid (And.intro e (show (p : Int) < c.vars by rw [HH.out.2.2.2.1]; omega))
        clear e h1
        go_wp2_with (go_at_call 71; ((refine (l18Force_any _ c p val _ (HC.out _ HQ.out.1) HH.out.2.1 HE.out.2).mono ?_); rintro e w4 ⟨vn, vg, vo, rfl, hR, hq⟩; obtain ⟨s1, c1, rfl⟩ := own_shape hR.n; obtain ⟨s2, c2, rfl⟩ := own_shape hR.g; obtain ⟨s3, c3, rfl⟩ := own_shape hR.o; have hlt := blk_lt HQ.out.2; have hm := blk_below hq hlt HQ.out.2; clear rc rf; obtain ⟨rc, rf⟩ := blk_all hm; have HF := Lib.hid (And.intro hR (And.intro (HQ.out.1.trans (hq.mono HQ.out.1.size)) hm)); clear hq hm hR))
        have hZ : ((((w4.setCell ⟨w.heap.size + 1, 0, none⟩ (.int .i64 c.inp)).setCell ⟨w.heap.size + 1, 1, none⟩ (.slice s1 (c.mapC (forceL p val)).next.length c1)).setCell ⟨w.heap.size + 1, 2, none⟩ (.slice s2 (c.mapC (forceL p val)).gates.length c2)).setCell ⟨w.heap.size + 1, 3, none⟩ (.slice s3 (c.mapC (forceL p val)).outs.length c3)).heap[w.heap.size + 1]? = some (.cells #[.int .i64 c.inp, .slice s1 (c.mapC (forceL p val)).next.length c1, .slice s2 (c.mapC (forceL p val)).gates.length c2, .slice s3 (c.mapC (forceL p val)).outs.length c3] 26 (0, 0)) := by
          simpa using blk_set (o := 3) (v := .slice s3 (c.mapC (forceL p val)).outs.length c3) (blk_set (o := 2) (v := .slice s2 (c.mapC (forceL p val)).gates.length c2) (blk_set (o := 1) (v := .slice s1 (c.mapC (forceL p val)).next.length c1) (blk_set (o := 0) (v := .int .i64 c.inp) HF.out.2.2)))
        have hR := (HF.out.1).sets4 (r := w.heap.size + 1) (by omega) (base := w.heap.size) (by omega) (a := .int .i64 c.inp) (b' := .slice s1 (c.mapC (forceL p val)).next.length c1) (c' := .slice s2 (c.mapC (forceL p val)).gates.length c2) (d := .slice s3 (c.mapC (forceL p val)).outs.length c3)
        have hB := ((((HF.out.2.1).setCell (p := ⟨w.heap.size + 1, 0, none⟩) (by simp) (.int .i64 c.inp)).setCell (p := ⟨w.heap.size + 1, 1, none⟩) (by simp) (.slice s1 (c.mapC (forceL p val)).next.length c1)).setCell (p := ⟨w.heap.size + 1, 2, none⟩) (by simp) (.slice s2 (c.mapC (forceL p val)).gates.length c2)).setCell (p := ⟨w.heap.size + 1, 3, none⟩) (by simp) (.slice s3 (c.mapC (forceL p val)).outs.length c3)
        revert hZ hR hB
        generalize ((((w4.setCell ⟨w.heap.size + 1, 0, none⟩ (.int .i64 c.inp)).setCell ⟨w.heap.size + 1, 1, none⟩ (.slice s1 (c.mapC (forceL p val)).next.length c1)).setCell ⟨w.heap.size + 1, 2, none⟩ (.slice s2 (c.mapC (forceL p val)).gates.length c2)).setCell ⟨w.heap.size + 1, 3, none⟩ (.slice s3 (c.mapC (forceL p val)).outs.length c3)) = WZ
        intro hZ hR hB
        have cr := (blk_all hZ).1
        rw [HE.out.1]
        exact bodyPost_ret (v := .agg #[.int .i64 c.inp, .slice s1 (c.mapC (forceL p val)).next.length c1, .slice s2 (c.mapC (forceL p val)).gates.length c2, .slice s3 (c.mapC (forceL p val)).outs.length c3]) (by simp [results, Try.results38, go_sem, cr]) rfl ⟨_, _, _, rfl, hR, hB⟩

theorem fgR_small (c : Cir) (p : Int) (val : Bool) : (fgR c p val).next.length ≤ 3 ∧ (fgR c p val).gates.length ≤ 14 ∧ (fgR c p val).outs.length ≤ 3 := by
  by_cases h : fgOk c p
  · have hv := c.validB_iff.1 h.1
    obtain ⟨q1, q2, q3, q4, q5⟩ := hv.lim
    rw [fgR_yes h]
    refine ⟨?_, ?_, ?_⟩
    · show (c.next.map _).length ≤ 3; simp; omega
    · show (mapG _ c.gates).length ≤ 14; simp [mapG]; omega
    · show (c.outs.map _).length ≤ 3; simp; omega
  · rw [fgR_no h]; simp

end Go.Proofs.Ytnmafbggpjglaaa
