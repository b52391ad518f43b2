import Derived.Test.YtnmafbggpjglaaaS3
namespace Go.Proofs.Ytnmafbggpjglaaa
set_option linter.unusedVariables false
set_option linter.unusedSimpArgs false
open Go.RowKit

/-! Detects. -/

set_option maxRecDepth 100000 in
set_option maxHeartbeats 1600000 in
theorem Detects_any (c : Cir) (ni : Nat) (li : c.inp = ni) (sn sg so : Option Addr) (cn cg co : Nat) (p : Int) (val : Bool) (k : Nat) (w : World)
    (h : CirV w (.agg #[.int .i64 c.inp, .slice sn c.next.length cn, .slice sg c.gates.length cg, .slice so c.outs.length co]) c) (hn : Sl w sn (ints c.next)) (hg : Sl w sg (gcells c.gates)) (ho : Sl w so (ints c.outs)) (hv : c.valid) (hp1 : 1 ≤ p) (hp2 : p < c.vars) (hk : k < asgN c) :
    Calls Try.prog 40 #[.agg #[.int .i64 ni, .slice sn c.next.length cn, .slice sg c.gates.length cg, .slice so c.outs.length co], .agg #[.int .i64 p, .bool val], .int .i64 k] w fun e w' => e = .returned (.bool (detV c p val k)) ∧ Below w.heap.size w w' := by
  have HB := Lib.hid (Box2.new w (.cells #[.int .i64 ni, .slice sn c.next.length cn, .slice sg c.gates.length cg, .slice so c.outs.length co] 26) (.cells #[.int .i64 p, .bool val] 61))
  have HC : Hid (∀ W, Below w.heap.size w W → CirV W (.agg #[.int .i64 c.inp, .slice sn c.next.length cn, .slice sg c.gates.length cg, .slice so c.outs.length co]) c ∧ Sl W sn (ints c.next) ∧ Sl W sg (gcells c.gates) ∧ Sl W so (ints c.outs)) := fun W hW => ⟨h.mono hW, hn.mono hW, hg.mono hW, ho.mono hW⟩
  have hvB := c.validB_iff.2 hv
  obtain ⟨q1, q2, q3, q4, q5⟩ := id hv.lim
  obtain ⟨N1, N2⟩ := asgN_le2 hv
  obtain ⟨N, hN⟩ : ∃ N, N = 2 ^ (c.inp.toNat + c.next.length) := ⟨_, rfl⟩
  have hkN : k < N := by rw [hN]; exact hk
  obtain ⟨VV, hVV⟩ : ∃ VV, VV = 1 + c.inp + (c.next.length : Int) + c.gates.length := ⟨_, rfl⟩
  have hpV : p < VV := by rw [hVV]; unfold Cir.vars at hp2; exact hp2
  have hk1000 : k ≤ 1000 := by omega
  have hvar : ∀ W, CirAt W w.heap.size c.inp (.slice sn c.next.length cn) (.slice sg c.gates.length cg) (.slice so c.outs.length co) → Calls Try.prog 60 #[.pointer (some ⟨w.heap.size, 0, none⟩)] W fun e w' => e = .returned (.int .i64 VV) ∧ Drew W w' := fun W hW => by
    rw [hVV]; exact vars_any _ _ _ _ _ _ _ _ _ _ hW (by omega) (by omega) (by omega)
  have hasg : ∀ W, CirAt W w.heap.size c.inp (.slice sn c.next.length cn) (.slice sg c.gates.length cg) (.slice so c.outs.length co) → Calls Try.prog 72 #[.pointer (some ⟨w.heap.size, 0, none⟩)] W fun e w' => e = .returned (.int .i64 (N : Int)) ∧ Drew W w' := fun W hW => by
    rw [hN]; exact assignments_any _ _ _ _ _ _ _ _ hW ⟨q1, q2⟩ q3
  have HX := Lib.hid (And.intro hv (And.intro li (And.intro hvB (And.intro hvar (And.intro hasg hp2)))))
  have HCA : Hid (∀ W, Box2 w W (.cells #[.int .i64 ni, .slice sn c.next.length cn, .slice sg c.gates.length cg, .slice so c.outs.length co] 26) (.cells #[.int .i64 p, .bool val] 61) → CirAt W w.heap.size c.inp (.slice sn c.next.length cn) (.slice sg c.gates.length cg) (.slice so c.outs.length co)) := fun W hW => by
    have h := CirAt.of_blk hW.a; rw [← li] at h; exact h
  clear h hn hg ho hv li hvB hN hVV hvar hasg hp2 hk N1 N2 q1 q2
  go_enter Try.func40, Try.ntmps40
  go_upto_region 1 with fail
  revert HB
  generalize ((w.alloc (.cells #[.int .i64 ni, .slice sn c.next.length cn, .slice sg c.gates.length cg, .slice so c.outs.length co] 26)).alloc (.cells #[.int .i64 p, .bool val] 61)) = W0
  intro HB
  have d1 : decide (p < 1) = false := decide_eq_false (by omega)
  have d2 : decide (VV ≤ p) = false := decide_eq_false (by omega)
  have d3 : decide ((k : Int) < 0) = false := decide_eq_false (by omega)
  have d4 : decide ((N : Int) ≤ (k : Int)) = false := decide_eq_false (by omega)
  have d5 : decide (N ≤ k) = false := decide_eq_false (by omega)
  have hS : Hid (∀ W, Box2 w W (.cells #[.int .i64 ni, .slice sn c.next.length cn, .slice sg c.gates.length cg, .slice so c.outs.length co] 26) (.cells #[.int .i64 p, .bool val] 61) → (fun w' => (∀ o, w'.cell? ⟨w.heap.size, o, none⟩ = #[Value.int .i64 ni, .slice sn c.next.length cn, .slice sg c.gates.length cg, .slice so c.outs.length co][o]?) ∧ (∀ o, w'.cell? ⟨w.heap.size + 1, o, none⟩ = #[Value.int .i64 p, .bool val][o]?)) W) := fun W hW => ⟨(blk_all hW.a).1, (blk_all hW.c).1⟩
  refine wp_region_T (fun w' => (∀ o, w'.cell? ⟨w.heap.size, o, none⟩ = #[Value.int .i64 ni, .slice sn c.next.length cn, .slice sg c.gates.length cg, .slice so c.outs.length co][o]?) ∧ (∀ o, w'.cell? ⟨w.heap.size + 1, o, none⟩ = #[Value.int .i64 p, .bool val][o]?)) (.q 0 (.e 1 (.q 2 (.q 3 (.q 4 (.q 5 (.q 6 (.q 7 (.q 8 (.q 9 (.q 10 (.e 11 (.q 12 (.q 13 (.q 14 (.q 15 (.q 16 (.q 17 (.q 18 (.q 19 (.e 20 (.q 21 (.q 22 .nil))))))))))))))))))))))) (by kernel_rfl) (by kernel_rfl) (by kernel_rfl) (hS.out _ (HB.out.below ((Below.refl _ _).drew))) ?_
  repeat (first | (refine ordt_s (o := ?_) ?_ ?_ ?_; rotate_left 1; (focus ((simp only [List.getElem?_toArray, List.getElem?_cons_succ, List.getElem?_cons_zero]) <;> rfl)); (focus rfl); simp only [Act.put, List.setIfInBounds_toArray, List.set_cons_zero, List.set_cons_succ]) | (refine ordt_q (o := ?_) (v := ?_) ?_ ?_ ?_ ?_; rotate_left 2; (focus ((simp only [List.getElem?_toArray, List.getElem?_cons_succ, List.getElem?_cons_zero]) <;> rfl)); (focus rfl); (focus (intro w' hS; (try dsimp only at hS); go_split_ands; go_simp; (try (with_reducible rfl)))); simp only [Act.put, List.setIfInBounds_toArray, List.set_cons_zero, List.set_cons_succ]))
  refine ordt_e ?_
  (refine op_e (o := ?_) ?_ ?_ (fun K hK => ?_); rotate_left 1; (focus ((simp only [List.getElem?_toArray, List.getElem?_cons_succ, List.getElem?_cons_zero]) <;> rfl)); (focus rfl); go_simp)
  have hbx := HB.out.below ((Below.refl _ _).drew)
  refine (CircuitValid_i _ c _ (by have h := (HC.out _ hbx.bl).1; rw [HX.out.2.1] at h; exact h)).mono ?_
  rintro e w1 ⟨rfl, hq⟩
  rw [HX.out.2.2.1]
  have hb1 := hbx.below hq
  refine hK.out _ _ (hS.out _ hb1) ?_
  clear hK K hq hbx
  have HB1 := Lib.hid hb1
  clear hb1
  (try simp only [Act.put, List.setIfInBounds_toArray, List.set_cons_zero, List.set_cons_succ])
  repeat (first | (refine ordt_s (o := ?_) ?_ ?_ ?_; rotate_left 1; (focus ((simp only [List.getElem?_toArray, List.getElem?_cons_succ, List.getElem?_cons_zero]) <;> rfl)); (focus rfl); simp only [Act.put, List.setIfInBounds_toArray, List.set_cons_zero, List.set_cons_succ]) | (refine ordt_q (o := ?_) (v := ?_) ?_ ?_ ?_ ?_; rotate_left 2; (focus ((simp only [List.getElem?_toArray, List.getElem?_cons_succ, List.getElem?_cons_zero]) <;> rfl)); (focus rfl); (focus (intro w' hS; (try dsimp only at hS); go_split_ands; go_simp; (try (with_reducible rfl)))); simp only [Act.put, List.setIfInBounds_toArray, List.set_cons_zero, List.set_cons_succ]))
  refine ordt_e ?_
  (refine op_e (o := ?_) ?_ ?_ (fun K hK => ?_); rotate_left 1; (focus ((simp only [List.getElem?_toArray, List.getElem?_cons_succ, List.getElem?_cons_zero]) <;> rfl)); (focus rfl); go_simp)
  refine (HX.out.2.2.2.1 _ (HCA.out _ HB1.out)).mono ?_
  rintro e w2 ⟨rfl, hd⟩
  have hb2 := HB1.out.below (hd.below _)
  refine hK.out _ _ (hS.out _ hb2) ?_
  clear hK K hd
  have HB2 := Lib.hid hb2
  clear hb2
  (try simp only [Act.put, List.setIfInBounds_toArray, List.set_cons_zero, List.set_cons_succ])
  repeat (first | (refine ordt_s (o := ?_) ?_ ?_ ?_; rotate_left 1; (focus ((simp only [List.getElem?_toArray, List.getElem?_cons_succ, List.getElem?_cons_zero]) <;> rfl)); (focus rfl); simp only [Act.put, List.setIfInBounds_toArray, List.set_cons_zero, List.set_cons_succ]) | (refine ordt_q (o := ?_) (v := ?_) ?_ ?_ ?_ ?_; rotate_left 2; (focus ((simp only [List.getElem?_toArray, List.getElem?_cons_succ, List.getElem?_cons_zero]) <;> rfl)); (focus rfl); (focus (intro w' hS; (try dsimp only at hS); go_split_ands; go_simp; (try (with_reducible rfl)))); simp only [Act.put, List.setIfInBounds_toArray, List.set_cons_zero, List.set_cons_succ]))
  refine ordt_e ?_
  (refine op_e (o := ?_) ?_ ?_ (fun K hK => ?_); rotate_left 1; (focus ((simp only [List.getElem?_toArray, List.getElem?_cons_succ, List.getElem?_cons_zero]) <;> rfl)); (focus rfl); go_simp)
  refine (HX.out.2.2.2.2.1 _ (HCA.out _ HB2.out)).mono ?_
  rintro e w3 ⟨rfl, hd⟩
  have hb3 := HB2.out.below (hd.below _)
  refine hK.out _ _ (hS.out _ hb3) ?_
  clear hK K hd
  have HB3 := Lib.hid hb3
  clear hb3
  (try simp only [Act.put, List.setIfInBounds_toArray, List.set_cons_zero, List.set_cons_succ])
  repeat (first | (refine ordt_s (o := ?_) ?_ ?_ ?_; rotate_left 1; (focus ((simp only [List.getElem?_toArray, List.getElem?_cons_succ, List.getElem?_cons_zero]) <;> rfl)); (focus rfl); simp only [Act.put, List.setIfInBounds_toArray, List.set_cons_zero, List.set_cons_succ]) | (refine ordt_q (o := ?_) (v := ?_) ?_ ?_ ?_ ?_; rotate_left 2; (focus ((simp only [List.getElem?_toArray, List.getElem?_cons_succ, List.getElem?_cons_zero]) <;> rfl)); (focus rfl); (focus (intro w' hS; (try dsimp only at hS); go_split_ands; go_simp; (try (with_reducible rfl)))); simp only [Act.put, List.setIfInBounds_toArray, List.set_cons_zero, List.set_cons_succ]))
  refine ordt_nil ?_
  have cb := (blk_all HB3.out.a).1
  have cf := (blk_all HB3.out.c).1
  go_wp2_with (go_at_call 73; ((refine (detects_any _ sn sg so cn cg co c k p val _ (HCA.out _ HB3.out) (HC.out _ HB3.out.bl).2.1 (HC.out _ HB3.out.bl).2.2.1 (HC.out _ HB3.out.bl).2.2.2 HX.out.1 hk1000 (by omega) HX.out.2.2.2.2.2).mono ?_); rintro e w4 ⟨rfl, hq⟩; have HB4 := Lib.hid (HB3.out.below hq); clear hq))
  go_ret
  exact ⟨rfl, HB4.out.bl⟩

end Go.Proofs.Ytnmafbggpjglaaa
