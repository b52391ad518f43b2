import Derived.Test.YtindndcdpnpcmaaH3
namespace Go.Proofs.Ytindndcdpnpcmaa
set_option linter.unusedVariables false
set_option linter.unusedSimpArgs false
open Go.RowKit

theorem map_app_eq (f g : Int → Bool) (xs ys : List Int) : ((xs ++ ys).map f = (xs ++ ys).map g) ↔ (ys.map f = ys.map g ∧ xs.map f = xs.map g) := by
  rw [List.map_append, List.map_append]
  constructor
  · intro h
    have := List.append_inj h (by simp)
    exact ⟨this.2, this.1⟩
  · rintro ⟨h1, h2⟩; rw [h1, h2]
theorem detV_eq (c : Cir) (p : Int) (val : Bool) (x : Int) : detV c p val x = !(decide (c.outs.map (litB (evalV c x (-1) false)) = c.outs.map (litB (evalV c x p val))) && decide (c.next.map (litB (evalV c x (-1) false)) = c.next.map (litB (evalV c x p val)))) := by
  unfold detV resV
  congr 1
  rw [Bool.eq_iff_iff]
  simp only [decide_eq_true_eq, Bool.and_eq_true]
  exact map_app_eq _ _ _ _

set_option maxRecDepth 100000 in
set_option maxHeartbeats 3200000 in
theorem l12Detects_any (v : Value) (c : Cir) (p : Int) (val : Bool) (k : Nat) (w : World) (h : CirV w v c) (hv : c.valid) (hp : 0 ≤ p) (hp2 : p < c.vars) (hk : k ≤ 1000) :
    Calls Try.prog 132 #[v, .agg #[.int .i64 p, .bool val], .int .i64 k] w fun e w' => e = .returned (.bool (detV c p val k)) ∧ Below w.heap.size w w' := by
  have HC : Hid (∀ w', Below w.heap.size w w' → CirV w' v c) := fun w' hb => h.mono hb
  obtain ⟨sn, cn, sg, cg, so, co, rfl, h1, h2, h3, hl1, hl2, hl3⟩ := h
  obtain ⟨f1, f2, f3, f4⟩ := valid_first hv
  obtain ⟨q1, q2, q3, q4, q5⟩ := id hv.lim
  obtain ⟨ni, hni⟩ : ∃ ni : Nat, c.inp = ni := ⟨c.inp.toNat, by omega⟩
  have n4 : ni ≤ 4 := by omega
  have p100 : p ≤ 100 := by omega
  have hkpw : (1 : Int) ≤ 2 ^ ni := by have : (0 : Int) < 2 ^ ni := Int.pow_pos (by decide); omega
  have d0 : 0 ≤ (k : Int) / 2 ^ ni := Int.ediv_nonneg (by omega) (by omega)
  have d1 : (k : Int) / 2 ^ ni ≤ 1000000 := Int.le_trans (Int.ediv_le_self _ (by omega)) (by omega)
  have hb0 : Below w.heap.size w ((w.alloc (.cells #[.int .i64 c.inp, .slice sn c.next.length cn, .slice sg c.gates.length cg, .slice so c.outs.length co] 29)).alloc (.cells #[.int .i64 p, .bool val] 51)) := by go_grown
  have hn0 := blk_old (o := .cells #[.int .i64 p, .bool val] 51) (blk_new w (.cells #[.int .i64 c.inp, .slice sn c.next.length cn, .slice sg c.gates.length cg, .slice so c.outs.length co] 29))
  have hf0 : ((w.alloc (.cells #[.int .i64 c.inp, .slice sn c.next.length cn, .slice sg c.gates.length cg, .slice so c.outs.length co] 29)).alloc (.cells #[.int .i64 p, .bool val] 51)).heap[w.heap.size + 1]? = some (.cells #[.int .i64 p, .bool val] 51 (0, 0)) := blk_at (by simp)
  have hlits : ∀ x ∈ c.next ++ c.outs, 0 ≤ x ∧ x ≤ 1000000 ∧ x / 2 < c.vars := roots_lits hv
  have hlen : ∀ (st : Int) (b : Bool), ((evalV c k st b).length : Int) = c.vars := fun st b => by
    rw [evalV_length]; unfold Cir.vars; omega
  have hg : valsV (-1) false (false :: (bitsV k ni ++ bitsV ((k : Int) / 2 ^ ni) c.next.length)) c.gates = evalV c k (-1) false := evalV_asg c k ni hni
  have hf : valsV p val (stuckB p val (false :: (bitsV k ni ++ bitsV ((k : Int) / 2 ^ ni) c.next.length))) c.gates = evalV c k p val := by
    unfold evalV asgV; rw [hni]; simp
  obtain ⟨so1, hso⟩ : ∃ so1, so1 = decide (c.outs.map (litB (evalV c k (-1) false)) = c.outs.map (litB (evalV c k p val))) := ⟨_, rfl⟩
  obtain ⟨sn1, hsn⟩ : ∃ sn1, sn1 = decide (c.next.map (litB (evalV c k (-1) false)) = c.next.map (litB (evalV c k p val))) := ⟨_, rfl⟩
  have hdet := detV_eq c p val k
  rw [← hso, ← hsn] at hdet
  have H := Lib.hid (And.intro hv (And.intro hni (And.intro hlits (And.intro hlen (And.intro hg (And.intro hf (And.intro hso (And.intro hsn (And.intro hdet (And.intro h1 h3))))))))))
  have H0 := Lib.hid (And.intro hb0 (And.intro hn0 hf0))
  clear h1 h2 h3 hv hlits hlen hg hf hso hsn hdet hb0 hn0 hf0 f1 f2 f3 f4 q1 q2 hp2 hkpw
  rw [hni] at H0 HC ⊢
  clear hni
  go_enter Try.func132, Try.ntmps132
  go_wp2_with (go_at_call 120; ((refine (l4Bits_any _ _ _ (by omega) (by omega) (by omega)).mono ?_); rintro e wa ⟨sa, ca, rfl, ha, hqa⟩; have hza : w.heap.size + 2 ≤ wa.heap.size := (by have h1 := hqa.size; simp at h1; omega); have HA := Lib.hid (And.intro (H0.out.1.trans (hqa.mono (by simp; omega))) (And.intro (blk_below hqa (blk_lt H0.out.2.1) H0.out.2.1) (And.intro (blk_below hqa (blk_lt H0.out.2.2) H0.out.2.2) ha))); clear hqa ha))
  have hlx : w.heap.size < wa.heap.size := by omega
  refine wp_region_T (fun w' => ∀ o, w'.cell? ⟨w.heap.size, o, none⟩ = #[Value.int .i64 ni, Value.slice sn c.next.length cn, Value.slice sg c.gates.length cg, Value.slice so c.outs.length co][o]?) (.q 0 (.q 1 (.q 2 (.q 3 (.q 4 (.q 5 (.q 6 (.e 7 (.q 8 .nil))))))))) (by kernel_rfl) (by kernel_rfl) (by kernel_rfl) (blk_all HA.out.2.1).1 ?_
  repeat (first | (refine ordt_s (o := ?_) ?_ ?_ ?_; rotate_left 1; (focus ((simp only [List.getElem?_toArray, List.getElem?_cons_succ, List.getElem?_cons_zero]) <;> rfl)); (focus rfl); simp only [Act.put, List.setIfInBounds_toArray, List.set_cons_zero, List.set_cons_succ]) | (refine ordt_q (o := ?_) (v := ?_) ?_ ?_ ?_ ?_; rotate_left 2; (focus ((simp only [List.getElem?_toArray, List.getElem?_cons_succ, List.getElem?_cons_zero]) <;> rfl)); (focus rfl); (focus (intro w' hS; (try dsimp only at hS); go_split_ands; go_simp; (try (with_reducible rfl)))); simp only [Act.put, List.setIfInBounds_toArray, List.set_cons_zero, List.set_cons_succ]))
  refine ordt_e ?_
  (refine op_e (o := ?_) ?_ ?_ (fun K hK => ?_); rotate_left 1; (focus ((simp only [List.getElem?_toArray, List.getElem?_cons_succ, List.getElem?_cons_zero]) <;> rfl)); (focus rfl); go_simp)
  refine (l4Bits_any _ _ _ d0 d1 (by omega)).mono ?_
  rintro e wb ⟨sb, cb, rfl, hb, hqb⟩
  have hbb : Below wa.heap.size wa wb := (Below.refl _ _).drew.trans hqb
  refine hK.out _ _ (blk_all (blk_below hbb hlx HA.out.2.1)).1 ?_
  clear hK K hqb
  have HB := Lib.hid (And.intro (HA.out.1.trans (hbb.mono HA.out.1.size)) (And.intro (blk_below hbb hlx HA.out.2.1) (And.intro (blk_below hbb (by omega) HA.out.2.2.1) (And.intro (HA.out.2.2.2.mono hbb) (And.intro hb (show w.heap.size + 2 ≤ wb.heap.size from Nat.le_trans hza hbb.size))))))
  clear hbb hb
  (try simp only [Act.put, List.setIfInBounds_toArray, List.set_cons_zero, List.set_cons_succ])
  repeat (first | (refine ordt_s (o := ?_) ?_ ?_ ?_; rotate_left 1; (focus ((simp only [List.getElem?_toArray, List.getElem?_cons_succ, List.getElem?_cons_zero]) <;> rfl)); (focus rfl); simp only [Act.put, List.setIfInBounds_toArray, List.set_cons_zero, List.set_cons_succ]) | (refine ordt_q (o := ?_) (v := ?_) ?_ ?_ ?_ ?_; rotate_left 2; (focus ((simp only [List.getElem?_toArray, List.getElem?_cons_succ, List.getElem?_cons_zero]) <;> rfl)); (focus rfl); (focus (intro w' hS; (try dsimp only at hS); go_split_ands; go_simp; (try (with_reducible rfl)))); simp only [Act.put, List.setIfInBounds_toArray, List.set_cons_zero, List.set_cons_succ]))
  refine ordt_nil ?_
  have cb2 := (blk_all HB.out.2.1).1
  have cf2 := (blk_all HB.out.2.2.1).1
  have hzb := HB.out.2.2.2.2.2
  go_upto_region 4 with (go_at_call 119; ((refine (l2Values_any _ c sb sa _ _ (bitsV ((k : Int) / 2 ^ ni) c.next.length) (bitsV k ni) _ (HC.out _ HB.out.1) H.out.1 HB.out.2.2.2.2.1 HB.out.2.2.2.1 (bitsV_length _ _) ni (bitsV_length _ _) H.out.2.1).mono ?_); rintro e wd ⟨sd, nd, cd, rfl, hnd, hd, hqd⟩; rw [H.out.2.2.2.2.1] at hnd hd; subst hnd; have HD := Lib.hid (And.intro (HB.out.1.trans (hqd.mono HB.out.1.size)) (And.intro (blk_below hqd (by omega) HB.out.2.1) (And.intro (blk_below hqd (by omega) HB.out.2.2.1) (And.intro (HB.out.2.2.2.1.mono hqd) (And.intro (HB.out.2.2.2.2.1.mono hqd) (And.intro hd (And.intro True.intro (show w.heap.size + 2 ≤ wd.heap.size from Nat.le_trans hzb hqd.size)))))))); clear hd hqd cb2 cf2; have cb2 := (blk_all HD.out.2.1).1; have cf2 := (blk_all HD.out.2.2.1).1))
  have hzd := HD.out.2.2.2.2.2.2.2
  go_wp2_with (go_at_call 141; ((refine (l12Values_any _ c p val sb sa _ _ (bitsV ((k : Int) / 2 ^ ni) c.next.length) (bitsV k ni) _ (HC.out _ HD.out.1) H.out.1 HD.out.2.2.2.2.1 HD.out.2.2.2.1 (bitsV_length _ _) ni (bitsV_length _ _) H.out.2.1 hp p100).mono ?_); rintro e we ⟨se, ce, rfl, he, hqe⟩; rw [H.out.2.2.2.2.2.1] at he ⊢; have HE := Lib.hid (And.intro (HD.out.1.trans (hqe.mono HD.out.1.size)) (And.intro (blk_below hqe (by omega) HD.out.2.1) (And.intro (HD.out.2.2.2.2.2.1.mono hqe) (And.intro he (show w.heap.size + 2 ≤ we.heap.size from Nat.le_trans hzd hqe.size))))); clear he hqe cb2 cf2))
  have hze := HE.out.2.2.2.2
  have hlG := H.out.2.2.2.1 (-1) false
  have hlF := H.out.2.2.2.1 p val
  have hlit := H.out.2.2.1
  have HL : Hid ((∀ x ∈ c.outs, 0 ≤ x ∧ x ≤ 1000000 ∧ x / 2 < (evalV c k (-1) false).length) ∧ (∀ x ∈ c.outs, 0 ≤ x ∧ x ≤ 1000000 ∧ x / 2 < (evalV c k p val).length) ∧ (∀ x ∈ c.next, 0 ≤ x ∧ x ≤ 1000000 ∧ x / 2 < (evalV c k (-1) false).length) ∧ (∀ x ∈ c.next, 0 ≤ x ∧ x ≤ 1000000 ∧ x / 2 < (evalV c k p val).length)) :=
    ⟨fun x hx => by have := hlit x (by simp [hx]); omega, fun x hx => by have := hlit x (by simp [hx]); omega, fun x hx => by have := hlit x (by simp [hx]); omega, fun x hx => by have := hlit x (by simp [hx]); omega⟩
  have hlE := blk_lt HE.out.2.1
  have HS0 := Lib.hid (And.intro (H.out.2.2.2.2.2.2.2.2.2.1.mono HE.out.1) (H.out.2.2.2.2.2.2.2.2.2.2.mono HE.out.1))
  clear hlG hlF hlit
  refine wp_region_ord (fun w' => ∀ o, w'.cell? ⟨w.heap.size, o, none⟩ = #[Value.int .i64 ni, Value.slice sn c.next.length cn, Value.slice sg c.gates.length cg, Value.slice so c.outs.length co][o]?) ((0, false) :: (1, false) :: (2, false) :: (4, false) :: (5, false) :: (6, false) :: (3, true) :: (7, true) :: (8, true) :: (9, false) :: (10, false) :: (11, false) :: (12, false) :: (13, false) :: (15, false) :: (16, false) :: (17, false) :: (14, true) :: (18, true) :: (19, true) :: (20, false) :: (21, false) :: (22, false) :: []) (by kernel_rfl) (by kernel_rfl) (by kernel_rfl) (by kernel_rfl) (blk_all HE.out.2.1).1 ?_
  repeat (first | (refine ord_es (o := ?_) ?_ ?_ (by assumption) ?_; rotate_left 1; (focus ((simp only [List.getElem?_toArray, List.getElem?_cons_succ, List.getElem?_cons_zero]) <;> rfl)); (focus rfl); simp only [Act.put, List.setIfInBounds_toArray, List.set_cons_zero, List.set_cons_succ]) | (refine ord_s (o := ?_) ?_ ?_ ?_; rotate_left 1; (focus ((simp only [List.getElem?_toArray, List.getElem?_cons_succ, List.getElem?_cons_zero]) <;> rfl)); (focus rfl); simp only [Act.put, List.setIfInBounds_toArray, List.set_cons_zero, List.set_cons_succ]) | (refine ord_q (o := ?_) (v := ?_) ?_ ?_ ?_ ?_; rotate_left 2; (focus ((simp only [List.getElem?_toArray, List.getElem?_cons_succ, List.getElem?_cons_zero]) <;> rfl)); (focus rfl); (focus (intro w' hS; (try dsimp only at hS); go_split_ands; go_simp; (try (with_reducible rfl)))); simp only [Act.put, List.setIfInBounds_toArray, List.set_cons_zero, List.set_cons_succ]))
  (refine ord_e (o := ?_) ?_ ?_ (fun K hK => ?_); rotate_left 1; (focus ((simp only [List.getElem?_toArray, List.getElem?_cons_succ, List.getElem?_cons_zero]) <;> rfl)); (focus rfl); go_simp)
  refine (l2Lits_any _ _ _ _ _ _ _ (HE.out.2.2.1.drew) (HS0.out.2.drew) HL.out.1 (by omega)).mono ?_
  rintro e wf ⟨sf, cf, rfl, hf, hqf⟩
  have hbf : Below we.heap.size we wf := (Below.refl _ _).drew.trans hqf
  have HF := Lib.hid (And.intro hbf hf)
  have hSW := (blk_all (blk_below hbf hlE HE.out.2.1)).1
  refine hK.out _ _ hSW ?_
  clear hK K hqf hbf hf
  (try simp only [Act.put, List.setIfInBounds_toArray, List.set_cons_zero, List.set_cons_succ])
  repeat (first | (refine ord_es (o := ?_) ?_ ?_ (by assumption) ?_; rotate_left 1; (focus ((simp only [List.getElem?_toArray, List.getElem?_cons_succ, List.getElem?_cons_zero]) <;> rfl)); (focus rfl); simp only [Act.put, List.setIfInBounds_toArray, List.set_cons_zero, List.set_cons_succ]) | (refine ord_s (o := ?_) ?_ ?_ ?_; rotate_left 1; (focus ((simp only [List.getElem?_toArray, List.getElem?_cons_succ, List.getElem?_cons_zero]) <;> rfl)); (focus rfl); simp only [Act.put, List.setIfInBounds_toArray, List.set_cons_zero, List.set_cons_succ]) | (refine ord_q (o := ?_) (v := ?_) ?_ ?_ ?_ ?_; rotate_left 2; (focus ((simp only [List.getElem?_toArray, List.getElem?_cons_succ, List.getElem?_cons_zero]) <;> rfl)); (focus rfl); (focus (intro w' hS; (try dsimp only at hS); go_split_ands; go_simp; (try (with_reducible rfl)))); simp only [Act.put, List.setIfInBounds_toArray, List.set_cons_zero, List.set_cons_succ]))
  (refine ord_e (o := ?_) ?_ ?_ (fun K hK => ?_); rotate_left 1; (focus ((simp only [List.getElem?_toArray, List.getElem?_cons_succ, List.getElem?_cons_zero]) <;> rfl)); (focus rfl); go_simp)
  refine (l2Lits_any _ _ _ _ _ _ _ (HE.out.2.2.2.1.mono HF.out.1) (HS0.out.2.mono HF.out.1) HL.out.2.1 (by omega)).mono ?_
  rintro e wg ⟨sg2, cg2, rfl, hg, hqg⟩
  have hbg := HF.out.1.trans (hqg.mono HF.out.1.size)
  have HG := Lib.hid (And.intro hbg (And.intro (HF.out.2.mono hqg) hg))
  clear hSW
  have hSW := (blk_all (blk_below hbg hlE HE.out.2.1)).1
  refine hK.out _ _ hSW ?_
  clear hK K hqg hbg hg
  (try simp only [Act.put, List.setIfInBounds_toArray, List.set_cons_zero, List.set_cons_succ])
  repeat (first | (refine ord_es (o := ?_) ?_ ?_ (by assumption) ?_; rotate_left 1; (focus ((simp only [List.getElem?_toArray, List.getElem?_cons_succ, List.getElem?_cons_zero]) <;> rfl)); (focus rfl); simp only [Act.put, List.setIfInBounds_toArray, List.set_cons_zero, List.set_cons_succ]) | (refine ord_s (o := ?_) ?_ ?_ ?_; rotate_left 1; (focus ((simp only [List.getElem?_toArray, List.getElem?_cons_succ, List.getElem?_cons_zero]) <;> rfl)); (focus rfl); simp only [Act.put, List.setIfInBounds_toArray, List.set_cons_zero, List.set_cons_succ]) | (refine ord_q (o := ?_) (v := ?_) ?_ ?_ ?_ ?_; rotate_left 2; (focus ((simp only [List.getElem?_toArray, List.getElem?_cons_succ, List.getElem?_cons_zero]) <;> rfl)); (focus rfl); (focus (intro w' hS; (try dsimp only at hS); go_split_ands; go_simp; (try (with_reducible rfl)))); simp only [Act.put, List.setIfInBounds_toArray, List.set_cons_zero, List.set_cons_succ]))
  (refine ord_e (o := ?_) ?_ ?_ (fun K hK => ?_); rotate_left 1; (focus ((simp only [List.getElem?_toArray, List.getElem?_cons_succ, List.getElem?_cons_zero]) <;> rfl)); (focus rfl); go_simp)
  refine (l4Same_any sf sg2 (c.outs.map (litB (evalV c k (-1) false))) (c.outs.map (litB (evalV c k p val))) _ _ _ _ HG.out.2.1 HG.out.2.2 (by simp) (by simp) (by omega)).mono ?_
  rintro e wh ⟨rfl, hd⟩
  rw [← H.out.2.2.2.2.2.2.1]
  have hbh := HG.out.1.trans (hd.below _)
  have HH := Lib.hid hbh
  clear hSW
  have hSW := (blk_all (blk_below hbh hlE HE.out.2.1)).1
  refine hK.out _ _ hSW ?_
  clear hK K hd hbh
  (try simp only [Act.put, List.setIfInBounds_toArray, List.set_cons_zero, List.set_cons_succ])
  cases so1
  · repeat (first | (refine ord_es (o := ?_) ?_ ?_ (by assumption) ?_; rotate_left 1; (focus ((simp only [List.getElem?_toArray, List.getElem?_cons_succ, List.getElem?_cons_zero]) <;> rfl)); (focus rfl); simp only [Act.put, List.setIfInBounds_toArray, List.set_cons_zero, List.set_cons_succ]) | (refine ord_s (o := ?_) ?_ ?_ ?_; rotate_left 1; (focus ((simp only [List.getElem?_toArray, List.getElem?_cons_succ, List.getElem?_cons_zero]) <;> rfl)); (focus rfl); simp only [Act.put, List.setIfInBounds_toArray, List.set_cons_zero, List.set_cons_succ]) | (refine ord_q (o := ?_) (v := ?_) ?_ ?_ ?_ ?_; rotate_left 2; (focus ((simp only [List.getElem?_toArray, List.getElem?_cons_succ, List.getElem?_cons_zero]) <;> rfl)); (focus rfl); (focus (intro w' hS; (try dsimp only at hS); go_split_ands; go_simp; (try (with_reducible rfl)))); simp only [Act.put, List.setIfInBounds_toArray, List.set_cons_zero, List.set_cons_succ]))
    refine ord_nil ?_
    clear hSW
    go_wp2_with fail
    go_ret
    exact ⟨ret_bool (by rw [H.out.2.2.2.2.2.2.2.2.1]; rfl), HE.out.1.trans (HH.out.mono HE.out.1.size)⟩
  · repeat (first | (refine ord_es (o := ?_) ?_ ?_ (by assumption) ?_; rotate_left 1; (focus ((simp only [List.getElem?_toArray, List.getElem?_cons_succ, List.getElem?_cons_zero]) <;> rfl)); (focus rfl); simp only [Act.put, List.setIfInBounds_toArray, List.set_cons_zero, List.set_cons_succ]) | (refine ord_s (o := ?_) ?_ ?_ ?_; rotate_left 1; (focus ((simp only [List.getElem?_toArray, List.getElem?_cons_succ, List.getElem?_cons_zero]) <;> rfl)); (focus rfl); simp only [Act.put, List.setIfInBounds_toArray, List.set_cons_zero, List.set_cons_succ]) | (refine ord_q (o := ?_) (v := ?_) ?_ ?_ ?_ ?_; rotate_left 2; (focus ((simp only [List.getElem?_toArray, List.getElem?_cons_succ, List.getElem?_cons_zero]) <;> rfl)); (focus rfl); (focus (intro w' hS; (try dsimp only at hS); go_split_ands; go_simp; (try (with_reducible rfl)))); simp only [Act.put, List.setIfInBounds_toArray, List.set_cons_zero, List.set_cons_succ]))
    (refine ord_e (o := ?_) ?_ ?_ (fun K hK => ?_); rotate_left 1; (focus ((simp only [List.getElem?_toArray, List.getElem?_cons_succ, List.getElem?_cons_zero]) <;> rfl)); (focus rfl); go_simp)
    refine (l2Lits_any _ _ _ _ _ _ _ (HE.out.2.2.1.mono HH.out) (HS0.out.1.mono HH.out) HL.out.2.2.1 (by omega)).mono ?_
    rintro e wi ⟨sn3, cn3, rfl, hi, hqi⟩
    have hbi := HH.out.trans (hqi.mono HH.out.size)
    have HI := Lib.hid (And.intro hbi hi)
    clear hSW
    have hSW := (blk_all (blk_below hbi hlE HE.out.2.1)).1
    refine hK.out _ _ hSW ?_
    clear hK K hqi hbi hi
    (try simp only [Act.put, List.setIfInBounds_toArray, List.set_cons_zero, List.set_cons_succ])
    repeat (first | (refine ord_es (o := ?_) ?_ ?_ (by assumption) ?_; rotate_left 1; (focus ((simp only [List.getElem?_toArray, List.getElem?_cons_succ, List.getElem?_cons_zero]) <;> rfl)); (focus rfl); simp only [Act.put, List.setIfInBounds_toArray, List.set_cons_zero, List.set_cons_succ]) | (refine ord_s (o := ?_) ?_ ?_ ?_; rotate_left 1; (focus ((simp only [List.getElem?_toArray, List.getElem?_cons_succ, List.getElem?_cons_zero]) <;> rfl)); (focus rfl); simp only [Act.put, List.setIfInBounds_toArray, List.set_cons_zero, List.set_cons_succ]) | (refine ord_q (o := ?_) (v := ?_) ?_ ?_ ?_ ?_; rotate_left 2; (focus ((simp only [List.getElem?_toArray, List.getElem?_cons_succ, List.getElem?_cons_zero]) <;> rfl)); (focus rfl); (focus (intro w' hS; (try dsimp only at hS); go_split_ands; go_simp; (try (with_reducible rfl)))); simp only [Act.put, List.setIfInBounds_toArray, List.set_cons_zero, List.set_cons_succ]))
    (refine ord_e (o := ?_) ?_ ?_ (fun K hK => ?_); rotate_left 1; (focus ((simp only [List.getElem?_toArray, List.getElem?_cons_succ, List.getElem?_cons_zero]) <;> rfl)); (focus rfl); go_simp)
    refine (l2Lits_any _ _ _ _ _ _ _ (HE.out.2.2.2.1.mono HI.out.1) (HS0.out.1.mono HI.out.1) HL.out.2.2.2 (by omega)).mono ?_
    rintro e wj ⟨sj, cj, rfl, hj, hqj⟩
    have hbj := HI.out.1.trans (hqj.mono HI.out.1.size)
    have HJ := Lib.hid (And.intro hbj (And.intro (HI.out.2.mono hqj) hj))
    clear hSW
    have hSW := (blk_all (blk_below hbj hlE HE.out.2.1)).1
    refine hK.out _ _ hSW ?_
    clear hK K hqj hbj hj
    (try simp only [Act.put, List.setIfInBounds_toArray, List.set_cons_zero, List.set_cons_succ])
    repeat (first | (refine ord_es (o := ?_) ?_ ?_ (by assumption) ?_; rotate_left 1; (focus ((simp only [List.getElem?_toArray, List.getElem?_cons_succ, List.getElem?_cons_zero]) <;> rfl)); (focus rfl); simp only [Act.put, List.setIfInBounds_toArray, List.set_cons_zero, List.set_cons_succ]) | (refine ord_s (o := ?_) ?_ ?_ ?_; rotate_left 1; (focus ((simp only [List.getElem?_toArray, List.getElem?_cons_succ, List.getElem?_cons_zero]) <;> rfl)); (focus rfl); simp only [Act.put, List.setIfInBounds_toArray, List.set_cons_zero, List.set_cons_succ]) | (refine ord_q (o := ?_) (v := ?_) ?_ ?_ ?_ ?_; rotate_left 2; (focus ((simp only [List.getElem?_toArray, List.getElem?_cons_succ, List.getElem?_cons_zero]) <;> rfl)); (focus rfl); (focus (intro w' hS; (try dsimp only at hS); go_split_ands; go_simp; (try (with_reducible rfl)))); simp only [Act.put, List.setIfInBounds_toArray, List.set_cons_zero, List.set_cons_succ]))
    (refine ord_e (o := ?_) ?_ ?_ (fun K hK => ?_); rotate_left 1; (focus ((simp only [List.getElem?_toArray, List.getElem?_cons_succ, List.getElem?_cons_zero]) <;> rfl)); (focus rfl); go_simp)
    refine (l4Same_any sn3 sj (c.next.map (litB (evalV c k (-1) false))) (c.next.map (litB (evalV c k p val))) _ _ _ _ HJ.out.2.1 HJ.out.2.2 (by simp) (by simp) (by omega)).mono ?_
    rintro e wk ⟨rfl, hd⟩
    rw [← H.out.2.2.2.2.2.2.2.1]
    have hbk := HJ.out.1.trans (hd.below _)
    have HK2 := Lib.hid hbk
    clear hSW
    have hSW := (blk_all (blk_below hbk hlE HE.out.2.1)).1
    refine hK.out _ _ hSW ?_
    clear hK K hd hbk
    (try simp only [Act.put, List.setIfInBounds_toArray, List.set_cons_zero, List.set_cons_succ])
    repeat (first | (refine ord_es (o := ?_) ?_ ?_ (by assumption) ?_; rotate_left 1; (focus ((simp only [List.getElem?_toArray, List.getElem?_cons_succ, List.getElem?_cons_zero]) <;> rfl)); (focus rfl); simp only [Act.put, List.setIfInBounds_toArray, List.set_cons_zero, List.set_cons_succ]) | (refine ord_s (o := ?_) ?_ ?_ ?_; rotate_left 1; (focus ((simp only [List.getElem?_toArray, List.getElem?_cons_succ, List.getElem?_cons_zero]) <;> rfl)); (focus rfl); simp only [Act.put, List.setIfInBounds_toArray, List.set_cons_zero, List.set_cons_succ]) | (refine ord_q (o := ?_) (v := ?_) ?_ ?_ ?_ ?_; rotate_left 2; (focus ((simp only [List.getElem?_toArray, List.getElem?_cons_succ, List.getElem?_cons_zero]) <;> rfl)); (focus rfl); (focus (intro w' hS; (try dsimp only at hS); go_split_ands; go_simp; (try (with_reducible rfl)))); simp only [Act.put, List.setIfInBounds_toArray, List.set_cons_zero, List.set_cons_succ]))
    refine ord_nil ?_
    clear hSW
    go_wp2_with fail
    go_ret
    exact ⟨ret_bool (by rw [H.out.2.2.2.2.2.2.2.2.1]; rfl), HE.out.1.trans (HK2.out.mono HE.out.1.size)⟩

end Go.Proofs.Ytindndcdpnpcmaa
