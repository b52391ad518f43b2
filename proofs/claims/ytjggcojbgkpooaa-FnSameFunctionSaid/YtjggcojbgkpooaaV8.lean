import Derived.Test.YtjggcojbgkpooaaV7
import Derived.Test.YtjggcojbgkpooaaL1
namespace Go.Proofs.Ytjggcojbgkpooaa
set_option linter.unusedVariables false
set_option linter.unusedSimpArgs false
open Go.RowKit

/-! SameFunction, both. -/

def sfOk (c : Cir) (p q : Int) : Prop := c.validB = true ∧ (0 ≤ p ∧ p < c.vars) ∧ 0 ≤ q ∧ q < c.vars
instance (c : Cir) (p q : Int) : Decidable (sfOk c p q) := inferInstanceAs (Decidable (_ ∧ _))
def sfR (c : Cir) (p q : Int) : Int := if sfOk c p q then sameV c p.toNat q.toNat else 0
theorem sfR_no {c : Cir} {p q : Int} (h : ¬ sfOk c p q) : sfR c p q = 0 := by unfold sfR; rw [if_neg h]
theorem sfR_yes {c : Cir} {p q : Int} (h : sfOk c p q) : sfR c p q = sameV c p.toNat q.toNat := by unfold sfR; rw [if_pos h]
theorem Sl.two {w wr : World} {s : Option Addr} {cs : List Value} (h : Sl w s cs) (hbl : Below w.heap.size w wr) {j k : Nat} {x y : Value} (hx : cs[j]? = some x) (hy : cs[k]? = some y) :
    ∃ b off, s = some ⟨b, off, none⟩ ∧ b < w.heap.size ∧ wr.cell? ⟨b, off + j, none⟩ = some x ∧ wr.cell? ⟨b, off + k, none⟩ = some y := by
  obtain ⟨b, off, rfl, hbw, hcs⟩ := h.at (k := j) (List.getElem?_eq_some_iff.1 hx).1
  exact ⟨b, off, rfl, hbw, by rw [hbl.cell (by exact hbw)]; exact hcs _ _ hx, by rw [hbl.cell (by exact hbw)]; exact hcs _ _ hy⟩

theorem compareCols_any (c : Cir) (p q : Nat) (w : World) (hN : asgN c ≤ 1000) :
    Calls Try.prog 50 #[.string (bstr (colV c p) (asgN c)), .string (bstr (colV c q) (asgN c))] w fun e w' => e = .returned (.int .i64 (sameV c p q)) ∧ Drew w w' := compareColumns_any _ _ _ w hN

set_option maxHeartbeats 1600000 in
theorem SameFunction_s (v : Value) (c : Cir) (p q : Int) (w : World) (h : CirV w v c) :
    Calls Try.prog 13 #[v, .int .i64 p, .int .i64 q] w fun e w' => e = .returned (.int .i64 (sfR c p q)) ∧ Below w.heap.size w w' := by
  have HC : Hid (∀ w', Below w.heap.size w w' → CirV w' v c) := fun w' hb => h.mono hb
  obtain ⟨sn, cn, sg, cg, so, co, rfl, h1, h2, h3, hl1, hl2, hl3⟩ := h
  have hL : Below w.heap.size w (w.alloc (.cells #[.int .i64 c.inp, .slice sn c.next.length cn, .slice sg c.gates.length cg, .slice so c.outs.length co] 26)) := by go_grown
  have hN := blk_new w (.cells #[.int .i64 c.inp, .slice sn c.next.length cn, .slice sg c.gates.length cg, .slice so c.outs.length co] 26)
  cases hv : c.validB
  · have e : sfR c p q = 0 := sfR_no fun h => by rw [h.1] at hv; cases hv
    rw [e]
    have HE := Lib.hid hv
    clear hv e h1 h2 h3
    go_enter Try.func13, Try.ntmps13
    go_wp2_with fail
    revert hL hN
    generalize (w.alloc (.cells #[.int .i64 c.inp, .slice sn c.next.length cn, .slice sg c.gates.length cg, .slice so c.outs.length co] 26)) = WB
    intro hL hN
    have HL := Lib.hid (And.intro hL hN)
    clear hL hN
    refine wp_region_ord (fun w' => ∀ o, w'.cell? ⟨w.heap.size, o, none⟩ = #[Value.int .i64 c.inp, Value.slice sn c.next.length cn, Value.slice sg c.gates.length cg, Value.slice so c.outs.length co][o]?) ((0, false) :: (1, true) :: (2, false) :: (3, false) :: (4, false) :: (5, false) :: (7, false) :: (8, false) :: (9, false) :: (6, true) :: (10, false) :: (11, false) :: (12, true) :: (13, false) :: (14, false) :: (15, false) :: (16, false) :: (17, false) :: (19, false) :: (20, false) :: (21, false) :: (18, true) :: (22, false) :: (23, false) :: (24, true) :: (25, false) :: (26, false) :: []) (by kernel_rfl) (by kernel_rfl) (by kernel_rfl) (by kernel_rfl) (blk_all HL.out.2).1 ?_
    repeat (first | (refine ord_es (o := ?_) ?_ ?_ (by assumption) ?_; rotate_left 1; (focus ((simp only [List.getElem?_toArray, List.getElem?_cons_succ, List.getElem?_cons_zero]) <;> rfl)); (focus rfl); simp only [Act.put, List.setIfInBounds_toArray, List.set_cons_zero, List.set_cons_succ]) | (refine ord_s (o := ?_) ?_ ?_ ?_; rotate_left 1; (focus ((simp only [List.getElem?_toArray, List.getElem?_cons_succ, List.getElem?_cons_zero]) <;> rfl)); (focus rfl); simp only [Act.put, List.setIfInBounds_toArray, List.set_cons_zero, List.set_cons_succ]) | (refine ord_q (o := ?_) (v := ?_) ?_ ?_ ?_ ?_; rotate_left 2; (focus ((simp only [List.getElem?_toArray, List.getElem?_cons_succ, List.getElem?_cons_zero]) <;> rfl)); (focus rfl); (focus (intro w' hS; (try dsimp only at hS); go_split_ands; go_simp; (try (with_reducible rfl)))); simp only [Act.put, List.setIfInBounds_toArray, List.set_cons_zero, List.set_cons_succ]))
    (refine ord_e (o := ?_) ?_ ?_ (fun K hK => ?_); rotate_left 1; (focus ((simp only [List.getElem?_toArray, List.getElem?_cons_succ, List.getElem?_cons_zero]) <;> rfl)); (focus rfl); go_simp)
    refine (CircuitValid_s _ _ _ (HC.out _ HL.out.1.drew)).mono ?_
    rintro e w1 ⟨rfl, hq⟩
    have W1 := Lib.hid (And.intro (blk_below hq (blk_lt HL.out.2) HL.out.2) (HL.out.1.drew.trans (hq.mono HL.out.1.size)))
    clear hq
    have hSW := (blk_all W1.out.1).1
    refine hK.out _ _ hSW ?_
    clear hK K
    rw [HE.out]
    (try simp only [Act.put, List.setIfInBounds_toArray, List.set_cons_zero, List.set_cons_succ])
    repeat (first | (refine ord_es (o := ?_) ?_ ?_ (by assumption) ?_; rotate_left 1; (focus ((simp only [List.getElem?_toArray, List.getElem?_cons_succ, List.getElem?_cons_zero]) <;> rfl)); (focus rfl); simp only [Act.put, List.setIfInBounds_toArray, List.set_cons_zero, List.set_cons_succ]) | (refine ord_s (o := ?_) ?_ ?_ ?_; rotate_left 1; (focus ((simp only [List.getElem?_toArray, List.getElem?_cons_succ, List.getElem?_cons_zero]) <;> rfl)); (focus rfl); simp only [Act.put, List.setIfInBounds_toArray, List.set_cons_zero, List.set_cons_succ]) | (refine ord_q (o := ?_) (v := ?_) ?_ ?_ ?_ ?_; rotate_left 2; (focus ((simp only [List.getElem?_toArray, List.getElem?_cons_succ, List.getElem?_cons_zero]) <;> rfl)); (focus rfl); (focus (intro w' hS; (try dsimp only at hS); go_split_ands; go_simp; (try (with_reducible rfl)))); simp only [Act.put, List.setIfInBounds_toArray, List.set_cons_zero, List.set_cons_succ]))
    refine ord_nil ?_
    clear hSW
    go_wp2_with fail
    go_ret
    exact ⟨rfl, W1.out.2⟩
  · have hval := c.validB_iff.1 hv
    obtain ⟨f1, f2, f3, f4⟩ := valid_first hval
    obtain ⟨q1, q2, q3, q4, q5⟩ := id hval.lim
    have eC : c.first = 1 + c.inp + c.next.length := rfl
    obtain ⟨F, hF⟩ : ∃ F : Nat, c.first = F := ⟨c.first.toNat, by omega⟩
    obtain ⟨V, hV⟩ : ∃ V : Nat, c.vars = V := ⟨c.vars.toNat, by omega⟩
    have HH := Lib.hid (And.intro hv (And.intro hval (And.intro hF (And.intro hV f3))))
    have e1 : 1 + c.inp + (c.next.length : Int) = (F : Int) := by omega
    have E1 := Lib.hid e1
    have w1' : IntKind.i64.wrap ((F : Int) + (c.gates.length : Int)) = (V : Int) := by rw [IntWalk.i64_in _ ⟨by omega, by omega⟩]; omega
    have w2' : IntKind.i64.wrap ((V : Int) - 1) = (V : Int) - 1 := IntWalk.i64_in _ ⟨by omega, by omega⟩
    have hV30 : (V : Int) ≤ 30 ∧ (0 : Int) ≤ V ∧ (F : Int) ≤ 8 ∧ (0 : Int) ≤ F := by omega
    obtain ⟨v1, v2, v3, v4⟩ := hV30
    clear hv hval f1 f2 f3 f4 eC hF hV e1 h1 h2 h3
    obtain ⟨ok1, hok1⟩ : ∃ ok : Bool, decide ((0 : Int) ≤ p ∧ p ≤ (V : Int) - 1) = ok := ⟨_, rfl⟩
    obtain ⟨ok2, hok2⟩ : ∃ ok : Bool, decide ((0 : Int) ≤ q ∧ q ≤ (V : Int) - 1) = ok := ⟨_, rfl⟩
    have HO := Lib.hid (And.intro hok1 hok2)
    clear hok1 hok2
    go_enter Try.func13, Try.ntmps13
    go_wp2_with fail
    revert hL hN
    generalize (w.alloc (.cells #[.int .i64 c.inp, .slice sn c.next.length cn, .slice sg c.gates.length cg, .slice so c.outs.length co] 26)) = WB
    intro hL hN
    have HL := Lib.hid (And.intro hL hN)
    clear hL hN
    go_cut [33] from 7 to 33 (fun s21 wx => s21 = .bool (!(ok1 && ok2)) ∧ wx.heap[w.heap.size]? = some (.cells #[.int .i64 c.inp, .slice sn c.next.length cn, .slice sg c.gates.length cg, .slice so c.outs.length co] 26 (0, 0)) ∧ Below w.heap.size w wx)
    case first =>
      refine wp_region_ord (fun w' => ∀ o, w'.cell? ⟨w.heap.size, o, none⟩ = #[Value.int .i64 c.inp, Value.slice sn c.next.length cn, Value.slice sg c.gates.length cg, Value.slice so c.outs.length co][o]?) ((0, false) :: (1, true) :: (2, false) :: (3, false) :: (4, false) :: (5, false) :: (7, false) :: (8, false) :: (9, false) :: (6, true) :: (10, false) :: (11, false) :: (12, true) :: (13, false) :: (14, false) :: (15, false) :: (16, false) :: (17, false) :: (19, false) :: (20, false) :: (21, false) :: (18, true) :: (22, false) :: (23, false) :: (24, true) :: (25, false) :: (26, false) :: []) (by kernel_rfl) (by kernel_rfl) (by kernel_rfl) (by kernel_rfl) (blk_all HL.out.2).1 ?_
      repeat (first | (refine ord_es (o := ?_) ?_ ?_ (by assumption) ?_; rotate_left 1; (focus ((simp only [List.getElem?_toArray, List.getElem?_cons_succ, List.getElem?_cons_zero]) <;> rfl)); (focus rfl); simp only [Act.put, List.setIfInBounds_toArray, List.set_cons_zero, List.set_cons_succ]) | (refine ord_s (o := ?_) ?_ ?_ ?_; rotate_left 1; (focus ((simp only [List.getElem?_toArray, List.getElem?_cons_succ, List.getElem?_cons_zero]) <;> rfl)); (focus rfl); simp only [Act.put, List.setIfInBounds_toArray, List.set_cons_zero, List.set_cons_succ]) | (refine ord_q (o := ?_) (v := ?_) ?_ ?_ ?_ ?_; rotate_left 2; (focus ((simp only [List.getElem?_toArray, List.getElem?_cons_succ, List.getElem?_cons_zero]) <;> rfl)); (focus rfl); (focus (intro w' hS; (try dsimp only at hS); go_split_ands; go_simp; (try (with_reducible rfl)))); simp only [Act.put, List.setIfInBounds_toArray, List.set_cons_zero, List.set_cons_succ]))
      (refine ord_e (o := ?_) ?_ ?_ (fun K hK => ?_); rotate_left 1; (focus ((simp only [List.getElem?_toArray, List.getElem?_cons_succ, List.getElem?_cons_zero]) <;> rfl)); (focus rfl); go_simp)
      refine (CircuitValid_s _ _ _ (HC.out _ HL.out.1.drew)).mono ?_
      rintro e w1 ⟨rfl, hq⟩
      have W1 := Lib.hid (And.intro (blk_below hq (blk_lt HL.out.2) HL.out.2) (HL.out.1.drew.trans (hq.mono HL.out.1.size)))
      clear hq
      have hSW := (blk_all W1.out.1).1
      refine hK.out _ _ hSW ?_
      clear hK K
      rw [HH.out.1]
      (try simp only [Act.put, List.setIfInBounds_toArray, List.set_cons_zero, List.set_cons_succ])
      repeat (first | (refine ord_es (o := ?_) ?_ ?_ (by assumption) ?_; rotate_left 1; (focus ((simp only [List.getElem?_toArray, List.getElem?_cons_succ, List.getElem?_cons_zero]) <;> rfl)); (focus rfl); simp only [Act.put, List.setIfInBounds_toArray, List.set_cons_zero, List.set_cons_succ]) | (refine ord_s (o := ?_) ?_ ?_ ?_; rotate_left 1; (focus ((simp only [List.getElem?_toArray, List.getElem?_cons_succ, List.getElem?_cons_zero]) <;> rfl)); (focus rfl); simp only [Act.put, List.setIfInBounds_toArray, List.set_cons_zero, List.set_cons_succ]) | (refine ord_q (o := ?_) (v := ?_) ?_ ?_ ?_ ?_; rotate_left 2; (focus ((simp only [List.getElem?_toArray, List.getElem?_cons_succ, List.getElem?_cons_zero]) <;> rfl)); (focus rfl); (focus (intro w' hS; (try dsimp only at hS); go_split_ands; go_simp; (try (with_reducible rfl)))); simp only [Act.put, List.setIfInBounds_toArray, List.set_cons_zero, List.set_cons_succ]))
      (refine ord_e (o := ?_) ?_ ?_ (fun K hK => ?_); rotate_left 1; (focus ((simp only [List.getElem?_toArray, List.getElem?_cons_succ, List.getElem?_cons_zero]) <;> rfl)); (focus rfl); go_simp)
      refine (l1First_any _ _ _ _ _ _ _ (by omega) (by omega)).mono ?_
      rintro e w2 ⟨rfl, hq⟩
      rw [E1.out]
      have W2 := Lib.hid (And.intro (blk_below hq (blk_lt W1.out.1) W1.out.1) (W1.out.2.trans (hq.mono W1.out.2.size)))
      clear hq hSW
      have hSW := (blk_all W2.out.1).1
      refine hK.out _ _ hSW ?_
      clear hK K
      (try simp only [Act.put, List.setIfInBounds_toArray, List.set_cons_zero, List.set_cons_succ])
      repeat (first | (refine ord_es (o := ?_) ?_ ?_ (by assumption) ?_; rotate_left 1; (focus ((simp only [List.getElem?_toArray, List.getElem?_cons_succ, List.getElem?_cons_zero]) <;> rfl)); (focus rfl); simp only [Act.put, List.setIfInBounds_toArray, List.set_cons_zero, List.set_cons_succ]) | (refine ord_s (o := ?_) ?_ ?_ ?_; rotate_left 1; (focus ((simp only [List.getElem?_toArray, List.getElem?_cons_succ, List.getElem?_cons_zero]) <;> rfl)); (focus rfl); simp only [Act.put, List.setIfInBounds_toArray, List.set_cons_zero, List.set_cons_succ]) | (refine ord_q (o := ?_) (v := ?_) ?_ ?_ ?_ ?_; rotate_left 2; (focus ((simp only [List.getElem?_toArray, List.getElem?_cons_succ, List.getElem?_cons_zero]) <;> rfl)); (focus rfl); (focus (intro w' hS; (try dsimp only at hS); go_split_ands; go_simp; (try (with_reducible rfl)))); simp only [Act.put, List.setIfInBounds_toArray, List.set_cons_zero, List.set_cons_succ]))
      (refine ord_e (o := ?_) ?_ ?_ (fun K hK => ?_); rotate_left 1; (focus ((simp only [List.getElem?_toArray, List.getElem?_cons_succ, List.getElem?_cons_zero]) <;> rfl)); (focus rfl); go_simp)
      refine (l1In_any _ _ _ _).mono ?_
      rintro e w3' ⟨rfl, rfl⟩
      refine hK.out _ _ hSW ?_
      clear hK K
      rw [HO.out.1]
      (try simp only [Act.put, List.setIfInBounds_toArray, List.set_cons_zero, List.set_cons_succ])
      cases ok1
      · repeat (first | (refine ord_es (o := ?_) ?_ ?_ (by assumption) ?_; rotate_left 1; (focus ((simp only [List.getElem?_toArray, List.getElem?_cons_succ, List.getElem?_cons_zero]) <;> rfl)); (focus rfl); simp only [Act.put, List.setIfInBounds_toArray, List.set_cons_zero, List.set_cons_succ]) | (refine ord_s (o := ?_) ?_ ?_ ?_; rotate_left 1; (focus ((simp only [List.getElem?_toArray, List.getElem?_cons_succ, List.getElem?_cons_zero]) <;> rfl)); (focus rfl); simp only [Act.put, List.setIfInBounds_toArray, List.set_cons_zero, List.set_cons_succ]) | (refine ord_q (o := ?_) (v := ?_) ?_ ?_ ?_ ?_; rotate_left 2; (focus ((simp only [List.getElem?_toArray, List.getElem?_cons_succ, List.getElem?_cons_zero]) <;> rfl)); (focus rfl); (focus (intro w' hS; (try dsimp only at hS); go_split_ands; go_simp; (try (with_reducible rfl)))); simp only [Act.put, List.setIfInBounds_toArray, List.set_cons_zero, List.set_cons_succ]))
        refine ord_nil ?_
        clear hSW
        go_wp2_with fail
        go_meet
        exact ⟨rfl, W2.out.1, W2.out.2⟩
      · repeat (first | (refine ord_es (o := ?_) ?_ ?_ (by assumption) ?_; rotate_left 1; (focus ((simp only [List.getElem?_toArray, List.getElem?_cons_succ, List.getElem?_cons_zero]) <;> rfl)); (focus rfl); simp only [Act.put, List.setIfInBounds_toArray, List.set_cons_zero, List.set_cons_succ]) | (refine ord_s (o := ?_) ?_ ?_ ?_; rotate_left 1; (focus ((simp only [List.getElem?_toArray, List.getElem?_cons_succ, List.getElem?_cons_zero]) <;> rfl)); (focus rfl); simp only [Act.put, List.setIfInBounds_toArray, List.set_cons_zero, List.set_cons_succ]) | (refine ord_q (o := ?_) (v := ?_) ?_ ?_ ?_ ?_; rotate_left 2; (focus ((simp only [List.getElem?_toArray, List.getElem?_cons_succ, List.getElem?_cons_zero]) <;> rfl)); (focus rfl); (focus (intro w' hS; (try dsimp only at hS); go_split_ands; go_simp; (try (with_reducible rfl)))); simp only [Act.put, List.setIfInBounds_toArray, List.set_cons_zero, List.set_cons_succ]))
        (refine ord_e (o := ?_) ?_ ?_ (fun K hK => ?_); rotate_left 1; (focus ((simp only [List.getElem?_toArray, List.getElem?_cons_succ, List.getElem?_cons_zero]) <;> rfl)); (focus rfl); go_simp)
        refine (l1First_any _ _ _ _ _ _ _ (by omega) (by omega)).mono ?_
        rintro e w3 ⟨rfl, hq⟩
        rw [E1.out]
        have W3 := Lib.hid (And.intro (blk_below hq (blk_lt W2.out.1) W2.out.1) (W2.out.2.trans (hq.mono W2.out.2.size)))
        clear hq hSW
        have hSW := (blk_all W3.out.1).1
        refine hK.out _ _ hSW ?_
        clear hK K
        (try simp only [Act.put, List.setIfInBounds_toArray, List.set_cons_zero, List.set_cons_succ])
        repeat (first | (refine ord_es (o := ?_) ?_ ?_ (by assumption) ?_; rotate_left 1; (focus ((simp only [List.getElem?_toArray, List.getElem?_cons_succ, List.getElem?_cons_zero]) <;> rfl)); (focus rfl); simp only [Act.put, List.setIfInBounds_toArray, List.set_cons_zero, List.set_cons_succ]) | (refine ord_s (o := ?_) ?_ ?_ ?_; rotate_left 1; (focus ((simp only [List.getElem?_toArray, List.getElem?_cons_succ, List.getElem?_cons_zero]) <;> rfl)); (focus rfl); simp only [Act.put, List.setIfInBounds_toArray, List.set_cons_zero, List.set_cons_succ]) | (refine ord_q (o := ?_) (v := ?_) ?_ ?_ ?_ ?_; rotate_left 2; (focus ((simp only [List.getElem?_toArray, List.getElem?_cons_succ, List.getElem?_cons_zero]) <;> rfl)); (focus rfl); (focus (intro w' hS; (try dsimp only at hS); go_split_ands; go_simp; (try (with_reducible rfl)))); simp only [Act.put, List.setIfInBounds_toArray, List.set_cons_zero, List.set_cons_succ]))
        (refine ord_e (o := ?_) ?_ ?_ (fun K hK => ?_); rotate_left 1; (focus ((simp only [List.getElem?_toArray, List.getElem?_cons_succ, List.getElem?_cons_zero]) <;> rfl)); (focus rfl); go_simp)
        refine (l1In_any _ _ _ _).mono ?_
        rintro e w4' ⟨rfl, rfl⟩
        refine hK.out _ _ hSW ?_
        clear hK K
        rw [HO.out.2]
        (try simp only [Act.put, List.setIfInBounds_toArray, List.set_cons_zero, List.set_cons_succ])
        repeat (first | (refine ord_es (o := ?_) ?_ ?_ (by assumption) ?_; rotate_left 1; (focus ((simp only [List.getElem?_toArray, List.getElem?_cons_succ, List.getElem?_cons_zero]) <;> rfl)); (focus rfl); simp only [Act.put, List.setIfInBounds_toArray, List.set_cons_zero, List.set_cons_succ]) | (refine ord_s (o := ?_) ?_ ?_ ?_; rotate_left 1; (focus ((simp only [List.getElem?_toArray, List.getElem?_cons_succ, List.getElem?_cons_zero]) <;> rfl)); (focus rfl); simp only [Act.put, List.setIfInBounds_toArray, List.set_cons_zero, List.set_cons_succ]) | (refine ord_q (o := ?_) (v := ?_) ?_ ?_ ?_ ?_; rotate_left 2; (focus ((simp only [List.getElem?_toArray, List.getElem?_cons_succ, List.getElem?_cons_zero]) <;> rfl)); (focus rfl); (focus (intro w' hS; (try dsimp only at hS); go_split_ands; go_simp; (try (with_reducible rfl)))); simp only [Act.put, List.setIfInBounds_toArray, List.set_cons_zero, List.set_cons_succ]))
        refine ord_nil ?_
        clear hSW
        go_wp2_with fail
        go_meet
        exact ⟨by simp, W3.out.1, W3.out.2⟩
    case rest =>
      obtain ⟨rfl, hn, hb⟩ := hcut
      have HR := Lib.hid (And.intro hn hb)
      have ca := (blk_all HR.out.1).1
      clear hn hb w1' w2'
      obtain ⟨ok, hok⟩ : ∃ ok, ok = (ok1 && ok2) := ⟨_, rfl⟩
      rw [← hok]
      have HK2 := Lib.hid hok
      clear hok
      cases ok
      · have e : sfR c p q = 0 := sfR_no fun h => by
          have h1 := HO.out.1
          have h2 := HO.out.2
          have h3 := HK2.out
          have h4 := HH.out.2.2.2.1
          rw [decide_eq_true (by have := h.2; omega)] at h1
          rw [decide_eq_true (by have := h.2; omega)] at h2
          rw [← h1, ← h2] at h3
          cases h3
        have HE := Lib.hid e
        clear e
        go_wp2_with fail
        go_ret
        exact ⟨ret_int HE.out.symm, HR.out.2⟩
      · have hh : ok1 = true ∧ ok2 = true := by have h3 := HK2.out; cases ok1 <;> cases ok2 <;> simp at h3 ⊢
        obtain ⟨rfl, rfl⟩ := hh
        have h1 := HO.out.1
        have h2 := HO.out.2
        rw [decide_eq_true_eq] at h1 h2
        obtain ⟨p, rfl⟩ : ∃ P : Nat, p = P := ⟨p.toNat, by omega⟩
        obtain ⟨q, rfl⟩ : ∃ P : Nat, q = P := ⟨q.toNat, by omega⟩
        have hp : (p : Int) < c.vars := by have := HH.out.2.2.2.1; omega
        have hq : (q : Int) < c.vars := by have := HH.out.2.2.2.1; omega
        have e : sfR c p q = sameV c p q := sfR_yes ⟨HH.out.1, ⟨by omega, hp⟩, by omega, hq⟩
        have HE := Lib.hid (And.intro e (And.intro hp hq))
        clear e hp hq
        go_wp2_with (go_at_call 52; ((refine (l17Same_any _ c p q _ (HC.out _ HR.out.2) HH.out.2.1 HE.out.2.1 HE.out.2.2).mono ?_); rintro e w5 ⟨rfl, hq5⟩; have H5 := Lib.hid (HR.out.2.trans (hq5.mono HR.out.2.size)); clear hq5))
        go_ret
        exact ⟨ret_int HE.out.1.symm, H5.out⟩

set_option maxHeartbeats 1600000 in
theorem SameFunction_i (v : Value) (c : Cir) (p q : Int) (w : World) (h : CirV w v c) :
    Calls Try.prog 12 #[v, .int .i64 p, .int .i64 q] w fun e w' => e = .returned (.int .i64 (sfR c p q)) ∧ Below w.heap.size w w' := by
  have HC : Hid (∀ w', Below w.heap.size w w' → CirV w' v c) := fun w' hb => h.mono hb
  obtain ⟨sn, cn, sg, cg, so, co, rfl, h1, h2, h3, hl1, hl2, hl3⟩ := h
  have hL : Below w.heap.size w (w.alloc (.cells #[.int .i64 c.inp, .slice sn c.next.length cn, .slice sg c.gates.length cg, .slice so c.outs.length co] 26)) := by go_grown
  have hN := blk_new w (.cells #[.int .i64 c.inp, .slice sn c.next.length cn, .slice sg c.gates.length cg, .slice so c.outs.length co] 26)
  have HL := Lib.hid (And.intro hL (And.intro hN (And.intro h1 (And.intro h2 h3))))
  clear hL hN h1 h2 h3
  cases hv : c.validB
  · have e : sfR c p q = 0 := sfR_no fun h => by rw [h.1] at hv; cases hv
    rw [e]
    have HE := Lib.hid hv
    clear hv e
    go_enter Try.func12, Try.ntmps12
    go_wp2_with (go_at_call 47; ((with_reducible refine (CircuitValid_i _ _ _ (HC.out _ HL.out.1)).mono ?_); rintro e w1 ⟨rfl, hq⟩; have HQ := Lib.hid hq; clear hq; rw [HE.out]))
    go_ret
    exact ⟨rfl, HL.out.1.trans (HQ.out.mono (by simp))⟩
  · have hval := c.validB_iff.1 hv
    obtain ⟨f1, f2, f3, f4⟩ := valid_first hval
    obtain ⟨q1, q2, q3, q4, q5⟩ := id hval.lim
    obtain ⟨V, hV⟩ : ∃ V : Nat, c.vars = V := ⟨c.vars.toNat, by omega⟩
    have e2 : 1 + c.inp + (c.next.length : Int) + (c.gates.length : Int) = (V : Int) := hV
    have v22 : V ≤ 22 := by omega
    obtain ⟨n1, n2⟩ := asgN_le hval
    have HH := Lib.hid (And.intro hv (And.intro hval (And.intro hV (And.intro e2 n2))))
    clear hv hval f1 f2 f3 f4 hV e2 n1 n2
    by_cases hok : (0 ≤ p ∧ p < (V : Int)) ∧ 0 ≤ q ∧ q < (V : Int)
    · obtain ⟨⟨o1, o2⟩, o3, o4⟩ := hok
      obtain ⟨p, rfl⟩ : ∃ P : Nat, p = P := ⟨p.toNat, by omega⟩
      obtain ⟨q, rfl⟩ : ∃ P : Nat, q = P := ⟨q.toNat, by omega⟩
      have e : sfR c p q = sameV c p q := sfR_yes ⟨HH.out.1, ⟨by omega, by rw [HH.out.2.2.1]; exact o2⟩, by omega, by rw [HH.out.2.2.1]; exact o4⟩
      have HE := Lib.hid e
      clear e
      go_enter Try.func12, Try.ntmps12
      go_wp2_with (first
        | (go_at_call 47; ((with_reducible refine (CircuitValid_i _ _ _ (HC.out _ HL.out.1)).mono ?_); rintro e w1 ⟨rfl, hq⟩; have HQ := Lib.hid (And.intro (blk_below hq (blk_lt HL.out.2.1) HL.out.2.1) (HL.out.1.trans (hq.mono (by simp)))); clear hq; rw [HH.out.1]))
        | (go_at_call 48; ((refine (vars_any _ _ _ _ _ _ _ _ _ _ (CirAt.of_blk HQ.out.1) (by omega) (by omega) (by omega)).mono ?_); rintro e w3 ⟨rfl, hd⟩; rw [HH.out.2.2.2.1]; have HQ := Lib.hid (And.intro (blk_below (hd.below _) (blk_lt HQ.out.1) HQ.out.1) (HQ.out.2.trans (hd.below _))); clear hd))
        | (go_at_call 49; ((refine (functions_any _ _ _ _ _ _ c _ (CirAt.of_blk HQ.out.1) (HL.out.2.2.2.1.mono HQ.out.2) HH.out.2.1 V HH.out.2.2.1).mono ?_); rintro e w4 ⟨s4, c4, rfl, hs4, hq⟩; have HF := Lib.hid (And.intro hs4 (HQ.out.2.trans (hq.mono HQ.out.2.size))); clear hs4 hq)))
      obtain ⟨fb, off, rfl, hfb, z1, z2⟩ := HF.out.1.two (Below.refl _ _) (j := p) (k := q) (x := .string (bstr (colV c p) (asgN c))) (y := .string (bstr (colV c q) (asgN c))) (by rw [List.getElem?_map, List.getElem?_range (by omega)]; rfl) (by rw [List.getElem?_map, List.getElem?_range (by omega)]; rfl)
      go_quiet ((go_at_call 50; exact Calls.quiet_of (compareCols_any c p q _ (by have := HH.out.2.2.2.2; omega))))
      go_wp2_with fail
      go_ret
      exact ⟨ret_int HE.out.symm, below_n HF.out.2 _⟩
    · have e : sfR c p q = 0 := sfR_no fun h => hok (by have h1 := h.2; rw [HH.out.2.2.1] at h1; exact h1)
      have HE := Lib.hid (And.intro e hok)
      clear e hok
      go_enter Try.func12, Try.ntmps12
      go_wp2_with (first
        | (go_at_call 47; ((with_reducible refine (CircuitValid_i _ _ _ (HC.out _ HL.out.1)).mono ?_); rintro e w1 ⟨rfl, hq⟩; have HQ := Lib.hid (And.intro (blk_below hq (blk_lt HL.out.2.1) HL.out.2.1) (HL.out.1.trans (hq.mono (by simp)))); clear hq; rw [HH.out.1]))
        | (go_at_call 48; ((refine (vars_any _ _ _ _ _ _ _ _ _ _ (CirAt.of_blk HQ.out.1) (by omega) (by omega) (by omega)).mono ?_); rintro e w3 ⟨rfl, hd⟩; rw [HH.out.2.2.2.1]; have HQ := Lib.hid (And.intro (blk_below (hd.below _) (blk_lt HQ.out.1) HQ.out.1) (HQ.out.2.trans (hd.below _))); clear hd))
        | (go_at_call 49; exfalso; apply HE.out.2; omega))
      all_goals first
        | (go_ret; exact ⟨ret_int HE.out.1.symm, HQ.out.2⟩)
        | (exfalso; apply HE.out.2; omega)

end Go.Proofs.Ytjggcojbgkpooaa
