import Derived.Test.YtbcolcchchgldaaZ2
import Derived.Test.YtbcolcchchgldaaH2
import Derived.Test.YtbcolcchchgldaaD3
import Derived.Test.YtbcolcchchgldaaL4
import Derived.Lib.SliceRun
namespace Go.Proofs.Ytbcolcchchgldaa
set_option linter.unusedVariables false
set_option linter.unusedSimpArgs false
open Go.RowKit

/-! Step, for the laws (out of S2's text, for claims that want few files). -/

/-- Two blocks made at the start, kept. -/
structure Box2 (w W : World) (A C : Obj) : Prop where
  bl : Below w.heap.size w W
  a : W.heap[w.heap.size]? = some A
  c : W.heap[w.heap.size + 1]? = some C
theorem Box2.below {w W W' : World} {A C : Obj} (h : Box2 w W A C) (hb : Below W.heap.size W W') : Box2 w W' A C :=
  ⟨h.bl.trans (hb.mono h.bl.size), blk_below hb (blk_lt h.a) h.a, blk_below hb (blk_lt h.c) h.c⟩
theorem Box2.new (w : World) (A C : Obj) : Box2 w ((w.alloc A).alloc C) A C :=
  ⟨((Below.refl _ _).alloc (Nat.le_refl _) _).alloc (by simp) _, blk_old (blk_new w A), blk_at (by simp)⟩
theorem Sl.updB {W W2 : World} {R : Nat} {s s1 s2 : Option Addr} {xs : List Bool} {n1 n2 k1 k2 : Nat} {t : TypeId} (h : Sl W s (bools xs)) (hu : Upd R W W2) (hR : W.heap[R]? = some (.cells #[.slice s1 n1 k1, .slice s2 n2 k2] t (0, 0))) : Sl W2 s (bools xs) := by
  rcases h with h | ⟨b, off, rfl, hz⟩
  · exact .inl h
  · refine .inr ⟨b, off, rfl, fun j v hv => ?_⟩
    have z := hz j v hv
    by_cases e : b = R
    · exfalso
      subst e
      rw [blk_cell hR] at z
      obtain ⟨x, hx⟩ : ∃ x, v = .bool x := by
        simp only [bools, List.getElem?_map, Option.map_eq_some_iff] at hv
        obtain ⟨x, _, rfl⟩ := hv
        exact ⟨x, rfl⟩
      subst hx
      match h : off + j with
      | 0 => rw [h] at z; simp at z
      | 1 => rw [h] at z; simp at z
      | n + 2 => rw [h] at z; simp at z
    · rw [World.cell?_of_block (w := W) (hu.block b (World.block_lt_of_cell? W _ z) (by simp; exact fun h => e h))]
      exact z

set_option maxHeartbeats 1600000 in
theorem Step_any (c : Cir) (sn sg so ss si : Option Addr) (cn cg co cs ci : Nat) (S I : List Bool) (w : World) (ni : Nat) (li : c.inp = ni)
    (h : CirV w (.agg #[.int .i64 c.inp, .slice sn c.next.length cn, .slice sg c.gates.length cg, .slice so c.outs.length co]) c) (hn : Sl w sn (ints c.next)) (hg : Sl w sg (gcells c.gates)) (ho : Sl w so (ints c.outs)) (hv : c.valid) (hS : Sl w ss (bools S)) (hI : Sl w si (bools I)) (lS : S.length = c.next.length) (lI : I.length = ni) (E : List Bool) (hE : E = valsV (-1) false (stuckB (-1) false (false :: (I ++ S))) c.gates) (lE : (E.length : Int) = c.vars) :
    Calls Try.prog 43 #[.agg #[.int .i64 ni, .slice sn c.next.length cn, .slice sg c.gates.length cg, .slice so c.outs.length co], .slice ss c.next.length cs, .slice si ni ci] w fun e w' => ∃ s1 c1 s2 c2, e = .returned (.agg #[.slice s1 c.outs.length c1, .slice s2 c.next.length c2]) ∧ Sl w' s1 (bools (c.outs.map (litB E))) ∧ Sl w' s2 (bools (c.next.map (litB E))) ∧ Below w.heap.size w w' := by
  have HB := Lib.hid (Box2.new w (.cells #[.int .i64 ni, .slice sn c.next.length cn, .slice sg c.gates.length cg, .slice so c.outs.length co] 26) (.cells #[.slice none 0 0, .slice none 0 0] 54))
  have HC : Hid (∀ W, Below w.heap.size w W → CirV W (.agg #[.int .i64 c.inp, .slice sn c.next.length cn, .slice sg c.gates.length cg, .slice so c.outs.length co]) c ∧ Sl W sg (gcells c.gates) ∧ Sl W sn (ints c.next) ∧ Sl W so (ints c.outs) ∧ Sl W ss (bools S) ∧ Sl W si (bools I)) := fun W hW => ⟨h.mono hW, hg.mono hW, hn.mono hW, ho.mono hW, hS.mono hW, hI.mono hW⟩
  obtain ⟨q1, q2, q3, q4, q5⟩ := id hv.lim
  have hr := roots_lits hv
  have H := Lib.hid (And.intro hv (And.intro lS (And.intro lI (And.intro li (And.intro hE (And.intro lE hr))))))
  obtain ⟨V, hV⟩ : ∃ V, V = E.length := ⟨_, rfl⟩
  have HV := Lib.hid hV
  clear h hg hn ho hS hI hv lS lI li hE lE hr hV q1 q2
  have hnil : ∀ (W : World) (g n c : Nat), (binOp .eql 39 (.slice (some ⟨g, 0, none⟩) n c) (.slice none 0 0)).run Try.prog W = .ok (.bool false) W := fun W g n c => Lib.run_eql_slice_nil W _ 4 _ n c 0 0 (by kernel_rfl)
  go_enter Try.func43, Try.ntmps43
  go_upto_region 1 with fail
  revert HB
  generalize ((w.alloc (.cells #[.int .i64 ni, .slice sn c.next.length cn, .slice sg c.gates.length cg, .slice so c.outs.length co] 26)).alloc (.cells #[.slice none 0 0, .slice none 0 0] 54)) = W0
  intro HB
  have cb := (blk_all HB.out.a).1
  go_upto_region 4 with (go_at_call 98; ((refine (EvalVars_any c sn sg so ss si cn cg co cs ci S I W0 ni H.out.2.2.2.1 (HC.out _ HB.out.bl).1 (HC.out _ HB.out.bl).2.1 H.out.1 (HC.out _ HB.out.bl).2.2.2.2.1 (HC.out _ HB.out.bl).2.2.2.2.2 H.out.2.1 H.out.2.2.1 V (by rw [HV.out]; exact H.out.2.2.2.2.2.1.symm)).mono ?_); rintro e w1 ⟨g, rfl, hz, hq⟩; rw [← H.out.2.2.2.2.1] at hz; have H1 := Lib.hid (And.intro (Sl.toB hz) (HB.out.below hq)); clear hz hq cb))
  have hlv := fun (s : Option Addr) (cp : Nat) (ls : List Int) (W : World) (hs : Sl W (some ⟨g, 0, none⟩) (bools E)) (ht : Sl W s (ints ls)) (hx : ∀ x ∈ ls, 0 ≤ x ∧ x ≤ 1000000 ∧ x / 2 < c.vars) (hl : ls.length ≤ 1000) => litValues_any (some ⟨g, 0, none⟩) s E V cp ls W hs ht (fun x hx' => by have := hx x hx'; have := H.out.2.2.2.2.2.1; omega) hl
  rw [← HV.out] at hlv
  have HLV := Lib.hid hlv
  clear hlv
  refine wp_region_T (fun w' => ∀ o, w'.cell? ⟨w.heap.size, o, none⟩ = #[Value.int .i64 ni, .slice sn c.next.length cn, .slice sg c.gates.length cg, .slice so c.outs.length co][o]?) (.q 0 (.q 1 (.q 2 (.q 4 (.q 5 (.q 6 (.e 3 (.e 7 (.q 8 (.e 9 .nil)))))))))) (by kernel_rfl) (by kernel_rfl) (by kernel_rfl) (blk_all (blk_below ((Below.refl _ _).drew) (blk_lt H1.out.2.a) H1.out.2.a)).1 ?_
  repeat (first | (refine ordt_s (o := ?_) ?_ ?_ ?_; rotate_left 1; (focus ((simp only [List.getElem?_toArray, List.getElem?_cons_succ, List.getElem?_cons_zero]) <;> rfl)); (focus rfl); simp only [Act.put, List.setIfInBounds_toArray, List.set_cons_zero, List.set_cons_succ]) | (refine ordt_q (o := ?_) (v := ?_) ?_ ?_ ?_ ?_; rotate_left 2; (focus ((simp only [List.getElem?_toArray, List.getElem?_cons_succ, List.getElem?_cons_zero]) <;> rfl)); (focus rfl); (focus (intro w' hS; (try dsimp only at hS); go_split_ands; go_simp; (try (with_reducible rfl)))); simp only [Act.put, List.setIfInBounds_toArray, List.set_cons_zero, List.set_cons_succ]))
  refine ordt_e ?_
  (refine op_e (o := ?_) ?_ ?_ (fun K hK => ?_); rotate_left 1; (focus ((simp only [List.getElem?_toArray, List.getElem?_cons_succ, List.getElem?_cons_zero]) <;> rfl)); (focus rfl); go_simp)
  have hbx := H1.out.2.below ((Below.refl _ _).drew)
  refine (HLV.out so co c.outs _ (H1.out.1.mono (Below.refl _ _).drew) (HC.out _ hbx.bl).2.2.2.1 (fun x hx => H.out.2.2.2.2.2.2 x (List.mem_append_right _ hx)) (by omega)).mono ?_
  rintro e wa ⟨s1, c1, rfl, ha, hqa⟩
  have hba := hbx.below hqa
  refine hK.out _ _ (blk_all hba.a).1 ?_
  clear hK K hbx
  have HA := Lib.hid (And.intro ha (And.intro hba (H1.out.1.mono ((Below.refl _ _).drew.trans hqa))))
  clear ha hba hqa
  (try simp only [Act.put, List.setIfInBounds_toArray, List.set_cons_zero, List.set_cons_succ])
  refine ordt_e ?_
  (refine op_e (o := ?_) ?_ ?_ (fun K hK => ?_); rotate_left 1; (focus ((simp only [List.getElem?_toArray, List.getElem?_cons_succ, List.getElem?_cons_zero]) <;> rfl)); (focus rfl); go_simp)
  refine (HLV.out sn cn c.next _ HA.out.2.2 (HC.out _ HA.out.2.1.bl).2.2.1 (fun x hx => H.out.2.2.2.2.2.2 x (List.mem_append_left _ hx)) (by omega)).mono ?_
  rintro e wb ⟨s2, c2, rfl, hb, hqb⟩
  have hbb := HA.out.2.1.below hqb
  refine hK.out _ _ (blk_all hbb.a).1 ?_
  clear hK K
  have HB2 := Lib.hid (And.intro (HA.out.1.mono hqb) (And.intro hb hbb))
  clear hb hbb hqb
  obtain ⟨rc, rf⟩ := blk_all HB2.out.2.2.c
  (try simp only [Act.put, List.setIfInBounds_toArray, List.set_cons_zero, List.set_cons_succ])
  repeat (first | (refine ordt_s (o := ?_) ?_ ?_ ?_; rotate_left 1; (focus ((simp only [List.getElem?_toArray, List.getElem?_cons_succ, List.getElem?_cons_zero]) <;> rfl)); (focus rfl); simp only [Act.put, List.setIfInBounds_toArray, List.set_cons_zero, List.set_cons_succ]) | (refine ordt_q (o := ?_) (v := ?_) ?_ ?_ ?_ ?_; rotate_left 2; (focus ((simp only [List.getElem?_toArray, List.getElem?_cons_succ, List.getElem?_cons_zero]) <;> rfl)); (focus rfl); (focus (intro w' hS; (try dsimp only at hS); go_split_ands; go_simp; (try (with_reducible rfl)))); simp only [Act.put, List.setIfInBounds_toArray, List.set_cons_zero, List.set_cons_succ]))
  refine ordt_e ?_
  (refine op_e (o := ?_) ?_ ?_ (fun K hK => ?_); rotate_left 1; (focus ((simp only [List.getElem?_toArray, List.getElem?_cons_succ, List.getElem?_cons_zero]) <;> rfl)); (focus rfl); go_simp)
  have hU : Upd (w.heap.size + 1) wb ((wb.setCell ⟨w.heap.size + 1, 0, none⟩ (.slice s1 c.outs.length c1)).setCell ⟨w.heap.size + 1, 1, none⟩ (.slice s2 c.next.length c2)) := (Upd.set _ _ _ _).trans (Upd.set _ _ _ _)
  have hZ : ((wb.setCell ⟨w.heap.size + 1, 0, none⟩ (.slice s1 c.outs.length c1)).setCell ⟨w.heap.size + 1, 1, none⟩ (.slice s2 c.next.length c2)).heap[w.heap.size + 1]? = some (.cells #[.slice s1 c.outs.length c1, .slice s2 c.next.length c2] 54 (0, 0)) := by
    simpa using blk_set (o := 1) (v := .slice s2 c.next.length c2) (blk_set (o := 0) (v := .slice s1 c.outs.length c1) HB2.out.2.2.c)
  have hA2 : ((wb.setCell ⟨w.heap.size + 1, 0, none⟩ (.slice s1 c.outs.length c1)).setCell ⟨w.heap.size + 1, 1, none⟩ (.slice s2 c.next.length c2)).heap[w.heap.size]? = some (.cells #[.int .i64 ni, .slice sn c.next.length cn, .slice sg c.gates.length cg, .slice so c.outs.length co] 26 (0, 0)) := by
    rw [hU.block w.heap.size (blk_lt HB2.out.2.2.a) (by simp)]; exact HB2.out.2.2.a
  refine hK.out _ _ (blk_all hA2).1 ?_
  clear hK K hA2
  (try simp only [Act.put, List.setIfInBounds_toArray, List.set_cons_zero, List.set_cons_succ])
  refine ordt_nil ?_
  clear rc rf
  have hbl := (HB2.out.2.2.bl.setCell (p := ⟨w.heap.size + 1, 0, none⟩) (by simp) (.slice s1 c.outs.length c1)).setCell (p := ⟨w.heap.size + 1, 1, none⟩) (by simp) (.slice s2 c.next.length c2)
  have hs1 := HB2.out.1.updB hU HB2.out.2.2.c
  have hs2 := HB2.out.2.1.updB hU HB2.out.2.2.c
  revert hZ hU hbl hs1 hs2
  generalize ((wb.setCell ⟨w.heap.size + 1, 0, none⟩ (.slice s1 c.outs.length c1)).setCell ⟨w.heap.size + 1, 1, none⟩ (.slice s2 c.next.length c2)) = WZ
  intro hU hZ hbl hs1 hs2
  have cr := (blk_all hZ).1
  go_wp2_with fail
  exact bodyPost_ret (v := .agg #[.slice s1 c.outs.length c1, .slice s2 c.next.length c2]) (by simp [results, Try.results43, go_sem, cr]) rfl ⟨_, _, _, _, rfl, hs1, hs2, hbl⟩

end Go.Proofs.Ytbcolcchchgldaa
