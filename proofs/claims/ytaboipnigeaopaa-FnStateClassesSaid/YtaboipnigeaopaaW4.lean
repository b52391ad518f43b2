import Derived.Test.YtaboipnigeaopaaW3
namespace Go.Proofs.Ytaboipnigeaopaa
set_option linter.unusedVariables false
set_option linter.unusedSimpArgs false
open Go.RowKit

/-! Next state and outputs of the reference; is a number in a list? -/

set_option maxRecDepth 100000 in
set_option maxHeartbeats 1600000 in
theorem l16Next_any (v : Value) (c : Cir) (s i : Int) (w : World) (h : CirV w v c) (hv : c.valid) (hs : 0 ≤ s) (hs2 : s ≤ 1000) (hi : 0 ≤ i) (hi2 : i ≤ 1000) :
    Calls Try.prog 75 #[v, .int .i64 s, .int .i64 i] w fun e w' => e = .returned (.int .i64 (nextN c s i)) ∧ Below w.heap.size w w' := by
  have HC : Hid (∀ w', Below w.heap.size w w' → CirV w' v c) := fun w' hb => h.mono hb
  obtain ⟨sn, cn, sg, cg, so, co, rfl, h1, h2, h3, hl1, hl2, hl3⟩ := h
  obtain ⟨q1, q2, q3, q4, q5⟩ := id hv.lim
  obtain ⟨ni, hni⟩ : ∃ ni : Nat, c.inp = ni := ⟨c.inp.toNat, by omega⟩
  have n4 : ni ≤ 4 := by omega
  have hle : valsV (-1) false (false :: (bitsV i ni ++ bitsV s c.next.length)) c.gates = cycV c s i := by
    unfold cycV; rw [hni]; simp
  have hL : Below w.heap.size w (w.alloc (.cells #[.int .i64 c.inp, .slice sn c.next.length cn, .slice sg c.gates.length cg, .slice so c.outs.length co] 26)) := by go_grown
  have hN := blk_new w (.cells #[.int .i64 c.inp, .slice sn c.next.length cn, .slice sg c.gates.length cg, .slice so c.outs.length co] 26)
  have H := Lib.hid (And.intro hv (And.intro hni hle))
  have HL := Lib.hid (And.intro hL hN)
  clear h1 h2 h3 hv hle hL hN
  obtain ⟨N, hN⟩ : ∃ N, N = nextN c s i := ⟨_, rfl⟩
  have HNO := Lib.hid hN
  clear hN
  rw [hni] at HL HC ⊢
  clear hni
  go_enter Try.func75, Try.ntmps75
  go_upto_region 1 with fail
  revert HL
  generalize (w.alloc (.cells #[.int .i64 ni, .slice sn c.next.length cn, .slice sg c.gates.length cg, .slice so c.outs.length co] 26)) = W0
  intro HL
  have ca := (blk_all HL.out.2).1
  refine wp_region_T (fun w' => ∀ o, w'.cell? ⟨w.heap.size, o, none⟩ = #[Value.int .i64 ni, .slice sn c.next.length cn, .slice sg c.gates.length cg, .slice so c.outs.length co][o]?) (.q 0 (.q 1 (.q 2 (.q 3 (.q 4 (.q 6 (.q 7 (.q 8 (.e 5 (.e 9 (.e 10 (.q 11 (.e 12 (.q 13 .nil)))))))))))))) (by kernel_rfl) (by kernel_rfl) (by kernel_rfl) (fun o => ca o) ?_
  repeat (first | (refine ordt_s (o := ?_) ?_ ?_ ?_; rotate_left 1; (focus ((simp only [List.getElem?_toArray, List.getElem?_cons_succ, List.getElem?_cons_zero]) <;> rfl)); (focus rfl); simp only [Act.put, List.setIfInBounds_toArray, List.set_cons_zero, List.set_cons_succ]) | (refine ordt_q (o := ?_) (v := ?_) ?_ ?_ ?_ ?_; rotate_left 2; (focus ((simp only [List.getElem?_toArray, List.getElem?_cons_succ, List.getElem?_cons_zero]) <;> rfl)); (focus rfl); (focus (intro w' hS; (try dsimp only at hS); go_split_ands; go_simp; (try (with_reducible rfl)))); simp only [Act.put, List.setIfInBounds_toArray, List.set_cons_zero, List.set_cons_succ]))
  refine ordt_e ?_
  (refine op_e (o := ?_) ?_ ?_ (fun K hK => ?_); rotate_left 1; (focus ((simp only [List.getElem?_toArray, List.getElem?_cons_succ, List.getElem?_cons_zero]) <;> rfl)); (focus rfl); go_simp)
  refine (l4Bits_any s c.next.length _ hs (by omega) (by omega)).mono ?_
  rintro e wa ⟨sa, cca, rfl, ha, hqa⟩
  have hba : Below W0.heap.size W0 wa := (Below.refl _ _).drew.trans hqa
  have hxa := blk_below hba (blk_lt HL.out.2) HL.out.2
  refine hK.out _ _ (blk_all hxa).1 ?_
  clear hK K hqa ca
  have HA := Lib.hid (And.intro (HL.out.1.trans (hba.mono HL.out.1.size)) (And.intro hxa ha))
  clear hba hxa ha
  (try simp only [Act.put, List.setIfInBounds_toArray, List.set_cons_zero, List.set_cons_succ])
  refine ordt_e ?_
  (refine op_e (o := ?_) ?_ ?_ (fun K hK => ?_); rotate_left 1; (focus ((simp only [List.getElem?_toArray, List.getElem?_cons_succ, List.getElem?_cons_zero]) <;> rfl)); (focus rfl); go_simp)
  refine (l4Bits_any i ni _ hi (by omega) (by omega)).mono ?_
  rintro e wb ⟨sb, cb, rfl, hb, hqb⟩
  have hxb := blk_below hqb (blk_lt HA.out.2.1) HA.out.2.1
  refine hK.out _ _ (blk_all hxb).1 ?_
  clear hK K
  have HB := Lib.hid (And.intro (HA.out.1.trans (hqb.mono HA.out.1.size)) (And.intro hxb (And.intro (HA.out.2.2.mono hqb) hb)))
  clear hqb hxb hb
  (try simp only [Act.put, List.setIfInBounds_toArray, List.set_cons_zero, List.set_cons_succ])
  refine ordt_e ?_
  (refine op_e (o := ?_) ?_ ?_ (fun K hK => ?_); rotate_left 1; (focus ((simp only [List.getElem?_toArray, List.getElem?_cons_succ, List.getElem?_cons_zero]) <;> rfl)); (focus rfl); go_simp)
  refine (l2Step_any _ c sa sb cca cb (bitsV s c.next.length) (bitsV i ni) _ (HC.out _ HB.out.1) H.out.1 HB.out.2.2.1 HB.out.2.2.2 (bitsV_length _ _) ni (bitsV_length _ _) H.out.2.1).mono ?_
  rintro e wc ⟨so', co', sn', cn', rfl, hso, hsn, hqc⟩
  rw [H.out.2.2] at hso hsn
  have hxc := blk_below hqc (blk_lt HB.out.2.1) HB.out.2.1
  refine hK.out _ _ (blk_all hxc).1 ?_
  clear hK K
  have HX := Lib.hid (And.intro (HB.out.1.trans (hqc.mono HB.out.1.size)) (And.intro hxc (And.intro hso hsn)))
  clear hqc hxc hso hsn
  have hfd0 : ∀ (w' : World) (a b : Value), (Instr.field 36 (.agg #[a, b]) 0).run Try.prog w' = .ok a w' := fun w' a b => by kernel_rfl
  have hfd1 : ∀ (w' : World) (a b : Value), (Instr.field 36 (.agg #[a, b]) 1).run Try.prog w' = .ok b w' := fun w' a b => by kernel_rfl
  (try simp only [Act.put, List.setIfInBounds_toArray, List.set_cons_zero, List.set_cons_succ])
  repeat (first | (refine ordt_s (o := ?_) ?_ ?_ ?_; rotate_left 1; (focus ((simp only [List.getElem?_toArray, List.getElem?_cons_succ, List.getElem?_cons_zero]) <;> rfl)); (focus rfl); simp only [Act.put, List.setIfInBounds_toArray, List.set_cons_zero, List.set_cons_succ]) | (refine ordt_q (o := ?_) (v := ?_) ?_ ?_ ?_ ?_; rotate_left 2; (focus ((simp only [List.getElem?_toArray, List.getElem?_cons_succ, List.getElem?_cons_zero]) <;> rfl)); (focus rfl); (focus (intro w' hS; (try dsimp only at hS); go_split_ands; go_simp; (try (with_reducible rfl)))); simp only [Act.put, List.setIfInBounds_toArray, List.set_cons_zero, List.set_cons_succ]))
  refine ordt_e ?_
  (refine op_e (o := ?_) ?_ ?_ (fun K hK => ?_); rotate_left 1; (focus ((simp only [List.getElem?_toArray, List.getElem?_cons_succ, List.getElem?_cons_zero]) <;> rfl)); (focus rfl); go_simp)
  have hnum := l16Number_any sn' cn' (c.next.map (litB (cycV c s i))) wc HX.out.2.2.2 (by simp; omega)
  rw [List.length_map] at hnum
  refine hnum.mono ?_
  rintro e wd ⟨rfl, rfl⟩
  rw [show numB (c.next.map (litB (cycV c s i))) = N from HNO.out.symm]
  refine hK.out _ _ (blk_all HX.out.2.1).1 ?_
  clear hK K hnum
  (try simp only [Act.put, List.setIfInBounds_toArray, List.set_cons_zero, List.set_cons_succ])
  repeat (first | (refine ordt_s (o := ?_) ?_ ?_ ?_; rotate_left 1; (focus ((simp only [List.getElem?_toArray, List.getElem?_cons_succ, List.getElem?_cons_zero]) <;> rfl)); (focus rfl); simp only [Act.put, List.setIfInBounds_toArray, List.set_cons_zero, List.set_cons_succ]) | (refine ordt_q (o := ?_) (v := ?_) ?_ ?_ ?_ ?_; rotate_left 2; (focus ((simp only [List.getElem?_toArray, List.getElem?_cons_succ, List.getElem?_cons_zero]) <;> rfl)); (focus rfl); (focus (intro w' hS; (try dsimp only at hS); go_split_ands; go_simp; (try (with_reducible rfl)))); simp only [Act.put, List.setIfInBounds_toArray, List.set_cons_zero, List.set_cons_succ]))
  refine ordt_nil ?_
  go_wp2_with fail
  go_ret
  exact ⟨by rw [← HNO.out]; rfl, HX.out.1⟩

set_option maxRecDepth 100000 in
set_option maxHeartbeats 1600000 in
theorem l16Outs_any (v : Value) (c : Cir) (s i : Int) (w : World) (h : CirV w v c) (hv : c.valid) (hs : 0 ≤ s) (hs2 : s ≤ 1000) (hi : 0 ≤ i) (hi2 : i ≤ 1000) :
    Calls Try.prog 46 #[v, .int .i64 s, .int .i64 i] w fun e w' => ∃ s' cap, e = .returned (.slice s' c.outs.length cap) ∧ Sl w' s' (bools (c.outs.map (litB (cycV c s i)))) ∧ Below w.heap.size w w' := by
  have HC : Hid (∀ w', Below w.heap.size w w' → CirV w' v c) := fun w' hb => h.mono hb
  obtain ⟨sn, cn, sg, cg, so, co, rfl, h1, h2, h3, hl1, hl2, hl3⟩ := h
  obtain ⟨q1, q2, q3, q4, q5⟩ := id hv.lim
  obtain ⟨ni, hni⟩ : ∃ ni : Nat, c.inp = ni := ⟨c.inp.toNat, by omega⟩
  have n4 : ni ≤ 4 := by omega
  have hle : valsV (-1) false (false :: (bitsV i ni ++ bitsV s c.next.length)) c.gates = cycV c s i := by
    unfold cycV; rw [hni]; simp
  have hL : Below w.heap.size w (w.alloc (.cells #[.int .i64 c.inp, .slice sn c.next.length cn, .slice sg c.gates.length cg, .slice so c.outs.length co] 26)) := by go_grown
  have hN := blk_new w (.cells #[.int .i64 c.inp, .slice sn c.next.length cn, .slice sg c.gates.length cg, .slice so c.outs.length co] 26)
  have H := Lib.hid (And.intro hv (And.intro hni hle))
  have HL := Lib.hid (And.intro hL hN)
  clear h1 h2 h3 hv hle hL hN
  rw [hni] at HL HC ⊢
  clear hni
  go_enter Try.func46, Try.ntmps46
  go_upto_region 1 with fail
  revert HL
  generalize (w.alloc (.cells #[.int .i64 ni, .slice sn c.next.length cn, .slice sg c.gates.length cg, .slice so c.outs.length co] 26)) = W0
  intro HL
  have ca := (blk_all HL.out.2).1
  refine wp_region_T (fun w' => ∀ o, w'.cell? ⟨w.heap.size, o, none⟩ = #[Value.int .i64 ni, .slice sn c.next.length cn, .slice sg c.gates.length cg, .slice so c.outs.length co][o]?) (.q 0 (.q 1 (.q 2 (.q 3 (.q 4 (.q 6 (.q 7 (.q 8 (.e 5 (.e 9 (.e 10 (.q 11 (.q 12 .nil))))))))))))) (by kernel_rfl) (by kernel_rfl) (by kernel_rfl) (fun o => ca o) ?_
  repeat (first | (refine ordt_s (o := ?_) ?_ ?_ ?_; rotate_left 1; (focus ((simp only [List.getElem?_toArray, List.getElem?_cons_succ, List.getElem?_cons_zero]) <;> rfl)); (focus rfl); simp only [Act.put, List.setIfInBounds_toArray, List.set_cons_zero, List.set_cons_succ]) | (refine ordt_q (o := ?_) (v := ?_) ?_ ?_ ?_ ?_; rotate_left 2; (focus ((simp only [List.getElem?_toArray, List.getElem?_cons_succ, List.getElem?_cons_zero]) <;> rfl)); (focus rfl); (focus (intro w' hS; (try dsimp only at hS); go_split_ands; go_simp; (try (with_reducible rfl)))); simp only [Act.put, List.setIfInBounds_toArray, List.set_cons_zero, List.set_cons_succ]))
  refine ordt_e ?_
  (refine op_e (o := ?_) ?_ ?_ (fun K hK => ?_); rotate_left 1; (focus ((simp only [List.getElem?_toArray, List.getElem?_cons_succ, List.getElem?_cons_zero]) <;> rfl)); (focus rfl); go_simp)
  refine (l4Bits_any s c.next.length _ hs (by omega) (by omega)).mono ?_
  rintro e wa ⟨sa, cca, rfl, ha, hqa⟩
  have hba : Below W0.heap.size W0 wa := (Below.refl _ _).drew.trans hqa
  have hxa := blk_below hba (blk_lt HL.out.2) HL.out.2
  refine hK.out _ _ (blk_all hxa).1 ?_
  clear hK K hqa ca
  have HA := Lib.hid (And.intro (HL.out.1.trans (hba.mono HL.out.1.size)) (And.intro hxa ha))
  clear hba hxa ha
  (try simp only [Act.put, List.setIfInBounds_toArray, List.set_cons_zero, List.set_cons_succ])
  refine ordt_e ?_
  (refine op_e (o := ?_) ?_ ?_ (fun K hK => ?_); rotate_left 1; (focus ((simp only [List.getElem?_toArray, List.getElem?_cons_succ, List.getElem?_cons_zero]) <;> rfl)); (focus rfl); go_simp)
  refine (l4Bits_any i ni _ hi (by omega) (by omega)).mono ?_
  rintro e wb ⟨sb, cb, rfl, hb, hqb⟩
  have hxb := blk_below hqb (blk_lt HA.out.2.1) HA.out.2.1
  refine hK.out _ _ (blk_all hxb).1 ?_
  clear hK K
  have HB := Lib.hid (And.intro (HA.out.1.trans (hqb.mono HA.out.1.size)) (And.intro hxb (And.intro (HA.out.2.2.mono hqb) hb)))
  clear hqb hxb hb
  (try simp only [Act.put, List.setIfInBounds_toArray, List.set_cons_zero, List.set_cons_succ])
  refine ordt_e ?_
  (refine op_e (o := ?_) ?_ ?_ (fun K hK => ?_); rotate_left 1; (focus ((simp only [List.getElem?_toArray, List.getElem?_cons_succ, List.getElem?_cons_zero]) <;> rfl)); (focus rfl); go_simp)
  refine (l2Step_any _ c sa sb cca cb (bitsV s c.next.length) (bitsV i ni) _ (HC.out _ HB.out.1) H.out.1 HB.out.2.2.1 HB.out.2.2.2 (bitsV_length _ _) ni (bitsV_length _ _) H.out.2.1).mono ?_
  rintro e wc ⟨so', co', sn', cn', rfl, hso, hsn, hqc⟩
  rw [H.out.2.2] at hso hsn
  have hxc := blk_below hqc (blk_lt HB.out.2.1) HB.out.2.1
  refine hK.out _ _ (blk_all hxc).1 ?_
  clear hK K
  have HX := Lib.hid (And.intro (HB.out.1.trans (hqc.mono HB.out.1.size)) (And.intro hxc (And.intro hso hsn)))
  clear hqc hxc hso hsn
  have hfd0 : ∀ (w' : World) (a b : Value), (Instr.field 36 (.agg #[a, b]) 0).run Try.prog w' = .ok a w' := fun w' a b => by kernel_rfl
  have hfd1 : ∀ (w' : World) (a b : Value), (Instr.field 36 (.agg #[a, b]) 1).run Try.prog w' = .ok b w' := fun w' a b => by kernel_rfl
  (try simp only [Act.put, List.setIfInBounds_toArray, List.set_cons_zero, List.set_cons_succ])
  repeat (first | (refine ordt_s (o := ?_) ?_ ?_ ?_; rotate_left 1; (focus ((simp only [List.getElem?_toArray, List.getElem?_cons_succ, List.getElem?_cons_zero]) <;> rfl)); (focus rfl); simp only [Act.put, List.setIfInBounds_toArray, List.set_cons_zero, List.set_cons_succ]) | (refine ordt_q (o := ?_) (v := ?_) ?_ ?_ ?_ ?_; rotate_left 2; (focus ((simp only [List.getElem?_toArray, List.getElem?_cons_succ, List.getElem?_cons_zero]) <;> rfl)); (focus rfl); (focus (intro w' hS; (try dsimp only at hS); go_split_ands; go_simp; (try (with_reducible rfl)))); simp only [Act.put, List.setIfInBounds_toArray, List.set_cons_zero, List.set_cons_succ]))
  refine ordt_nil ?_
  go_wp2_with fail
  go_ret
  exact ⟨_, _, rfl, HX.out.2.2.1, HX.out.1⟩

end Go.Proofs.Ytaboipnigeaopaa
