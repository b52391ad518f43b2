import Derived.Test.YtaboipnigeaopaaZ2
import Derived.Test.YtaboipnigeaopaaCC
import Derived.Test.YtaboipnigeaopaaH2
import Derived.Test.YtaboipnigeaopaaSF
import Derived.Lib.SliceRun
namespace Go.Proofs.Ytaboipnigeaopaa
set_option linter.unusedVariables false
set_option linter.unusedSimpArgs false
open Go.RowKit

/-! Steps, circuits compared, faults detected: for the laws. -/

/-- Two blocks made at the start, kept. -/
structure BoxS (w W : World) (A C : Obj) : Prop where
  bl : Below w.heap.size w W
  a : W.heap[w.heap.size]? = some A
  c : W.heap[w.heap.size + 1]? = some C
theorem BoxS.below {w W W' : World} {A C : Obj} (h : BoxS w W A C) (hb : Below W.heap.size W W') : BoxS w W' A C :=
  ⟨h.bl.trans (hb.mono h.bl.size), blk_below hb (blk_lt h.a) h.a, blk_below hb (blk_lt h.c) h.c⟩
theorem BoxS.new (w : World) (A C : Obj) : BoxS w ((w.alloc A).alloc C) A C :=
  ⟨((Below.refl _ _).alloc (Nat.le_refl _) _).alloc (by simp) _, blk_old (blk_new w A), blk_at (by simp)⟩
theorem Sl.updB {W W2 : World} {R : Nat} {s s1 s2 : Option Addr} {xs : List Bool} {n1 n2 k1 k2 : Nat} {t : TypeId} (h : Sl W s (bools xs)) (hu : Upd R W W2) (hR : W.heap[R]? = some (.cells #[.slice s1 n1 k1, .slice s2 n2 k2] t (0, 0))) : Sl W2 s (bools xs) := by
  rcases h with h | ⟨b, off, rfl, hz⟩
  · exact .inl h
  · refine .inr ⟨b, off, rfl, fun j v hv => ?_⟩
    have z := hz j v hv
    by_cases e : b = R
    · exfalso
      subst e
      rw [blk_cell hR] at z
      obtain ⟨x, hx⟩ : ∃ x, v = .bool x := by
        simp only [bools, List.getElem?_map, Option.map_eq_some_iff] at hv
        obtain ⟨x, _, rfl⟩ := hv
        exact ⟨x, rfl⟩
      subst hx
      match h : off + j with
      | 0 => rw [h] at z; simp at z
      | 1 => rw [h] at z; simp at z
      | n + 2 => rw [h] at z; simp at z
    · rw [World.cell?_of_block (w := W) (hu.block b (World.block_lt_of_cell? W _ z) (by simp; exact fun h => e h))]
      exact z

set_option maxHeartbeats 800000 in
theorem sameBools_any (sa sb : Option Addr) (ca cb n : Nat) (xs ys : List Bool) (w : World) (ha : Sl w sa (bools xs)) (hb : Sl w sb (bools ys)) (lx : xs.length = n) (ly : ys.length = n) (hl : n ≤ 1000000) :
    Calls Try.prog 20 #[.slice sa n ca, .slice sb n cb] w fun e w' => e = .returned (.bool (decide (xs = ys))) ∧ Drew w w' := by
  have H := Lib.hid (And.intro ha (And.intro hb (And.intro lx ly)))
  clear ha hb lx ly
  go_enter Try.func20, Try.ntmps20
  go_upto_region 4 with fail
  go_loopw [5] (fun i wr => ∃ k : Nat, k ≤ n ∧ i = .int .i64 k ∧ xs.take k = ys.take k ∧ Drew w wr) (fun i _ => n - (intOf i).toNat)
  case atStart => exact ⟨0, Nat.zero_le _, rfl, rfl, 0, rfl⟩
  case round =>
    obtain ⟨k, hk, rfl, htk, hd⟩ := hrel
    by_cases hlt : k < n
    · obtain ⟨x, hx⟩ := get_of_lt (l := xs) (k := k) (by rw [H.out.2.2.1]; exact hlt)
      obtain ⟨y, hy⟩ := get_of_lt (l := ys) (k := k) (by rw [H.out.2.2.2]; exact hlt)
      obtain ⟨b1, o1, rfl, hb1, z1⟩ := H.out.1.bool (hd.below _) hx
      obtain ⟨b2, o2, rfl, hb2, z2⟩ := H.out.2.1.bool (hd.below _) hy
      have HD := Lib.hid (And.intro hd htk)
      have HE := Lib.hid (And.intro hx hy)
      clear hd hx hy htk
      by_cases e : x = y
      · subst e
        go_upto_region 6 with fail
        go_quiet (fail)
        go_wp2_with fail
        go_roundw
        case rel => exact ⟨k + 1, by omega, by go_num, by rw [List.take_add_one, List.take_add_one, HD.out.2, HE.out.1, HE.out.2], HD.out.1.n _⟩
        case measure => simp [intOf]; omega
      · have hne : (x != y) = true := by simpa using e
        have hf : decide (xs = ys) = false := by
          rw [decide_eq_false_iff_not]; intro he; have h1 := HE.out.1; rw [he, HE.out.2] at h1; exact e (by simpa using h1.symm)
        have HF := Lib.hid hf
        clear hf
        go_upto_region 6 with fail
        cases x <;> cases y <;> first
          | exact absurd rfl e
          | (go_quiet (fail)
             go_wp2_with fail
             go_ret
             exact ⟨ret_bool HF.out.symm, HD.out.1.n _⟩)
    · obtain rfl : n = k := by omega
      have ht : decide (xs = ys) = true := by
        rw [List.take_of_length_le (by rw [H.out.2.2.1]; exact Nat.le_refl _), List.take_of_length_le (by rw [H.out.2.2.2]; exact Nat.le_refl _)] at htk
        exact decide_eq_true htk
      have HD := Lib.hid (And.intro hd ht)
      clear hd ht htk
      go_wp2_with fail
      go_ret
      exact ⟨ret_bool HD.out.2.symm, HD.out.1⟩

set_option maxHeartbeats 1600000 in
theorem Step_any (c : Cir) (sn sg so ss si : Option Addr) (cn cg co cs ci : Nat) (S I : List Bool) (w : World) (ni : Nat) (li : c.inp = ni)
    (h : CirV w (.agg #[.int .i64 c.inp, .slice sn c.next.length cn, .slice sg c.gates.length cg, .slice so c.outs.length co]) c) (hn : Sl w sn (ints c.next)) (hg : Sl w sg (gcells c.gates)) (ho : Sl w so (ints c.outs)) (hv : c.valid) (hS : Sl w ss (bools S)) (hI : Sl w si (bools I)) (lS : S.length = c.next.length) (lI : I.length = ni) (E : List Bool) (hE : E = valsV (-1) false (stuckB (-1) false (false :: (I ++ S))) c.gates) (lE : (E.length : Int) = c.vars) :
    Calls Try.prog 18 #[.agg #[.int .i64 ni, .slice sn c.next.length cn, .slice sg c.gates.length cg, .slice so c.outs.length co], .slice ss c.next.length cs, .slice si ni ci] w fun e w' => ∃ s1 c1 s2 c2, e = .returned (.agg #[.slice s1 c.outs.length c1, .slice s2 c.next.length c2]) ∧ Sl w' s1 (bools (c.outs.map (litB E))) ∧ Sl w' s2 (bools (c.next.map (litB E))) ∧ Below w.heap.size w w' := by
  have HB := Lib.hid (BoxS.new w (.cells #[.int .i64 ni, .slice sn c.next.length cn, .slice sg c.gates.length cg, .slice so c.outs.length co] 26) (.cells #[.slice none 0 0, .slice none 0 0] 36))
  have HC : Hid (∀ W, Below w.heap.size w W → CirV W (.agg #[.int .i64 c.inp, .slice sn c.next.length cn, .slice sg c.gates.length cg, .slice so c.outs.length co]) c ∧ Sl W sg (gcells c.gates) ∧ Sl W sn (ints c.next) ∧ Sl W so (ints c.outs) ∧ Sl W ss (bools S) ∧ Sl W si (bools I)) := fun W hW => ⟨h.mono hW, hg.mono hW, hn.mono hW, ho.mono hW, hS.mono hW, hI.mono hW⟩
  obtain ⟨q1, q2, q3, q4, q5⟩ := id hv.lim
  have hr := roots_lits hv
  have H := Lib.hid (And.intro hv (And.intro lS (And.intro lI (And.intro li (And.intro hE (And.intro lE hr))))))
  obtain ⟨V, hV⟩ : ∃ V, V = E.length := ⟨_, rfl⟩
  have HV := Lib.hid hV
  clear h hg hn ho hS hI hv lS lI li hE lE hr hV q1 q2
  have hnil : ∀ (W : World) (g n c : Nat), (binOp .eql 34 (.slice (some ⟨g, 0, none⟩) n c) (.slice none 0 0)).run Try.prog W = .ok (.bool false) W := fun W g n c => Lib.run_eql_slice_nil W _ 4 _ n c 0 0 (by kernel_rfl)
  go_enter Try.func18, Try.ntmps18
  go_upto_region 1 with fail
  revert HB
  generalize ((w.alloc (.cells #[.int .i64 ni, .slice sn c.next.length cn, .slice sg c.gates.length cg, .slice so c.outs.length co] 26)).alloc (.cells #[.slice none 0 0, .slice none 0 0] 36)) = W0
  intro HB
  have cb := (blk_all HB.out.a).1
  go_upto_region 4 with (go_at_call 51; ((refine (EvalVars_any c sn sg so ss si cn cg co cs ci S I W0 ni H.out.2.2.2.1 (HC.out _ HB.out.bl).1 (HC.out _ HB.out.bl).2.1 H.out.1 (HC.out _ HB.out.bl).2.2.2.2.1 (HC.out _ HB.out.bl).2.2.2.2.2 H.out.2.1 H.out.2.2.1 V (by rw [HV.out]; exact H.out.2.2.2.2.2.1.symm)).mono ?_); rintro e w1 ⟨g, rfl, hz, hq⟩; rw [← H.out.2.2.2.2.1] at hz; have H1 := Lib.hid (And.intro (Sl.toB hz) (HB.out.below hq)); clear hz hq cb))
  have hlv := fun (s : Option Addr) (cp : Nat) (ls : List Int) (W : World) (hs : Sl W (some ⟨g, 0, none⟩) (bools E)) (ht : Sl W s (ints ls)) (hx : ∀ x ∈ ls, 0 ≤ x ∧ x ≤ 1000000 ∧ x / 2 < c.vars) (hl : ls.length ≤ 1000) => litValues_any (some ⟨g, 0, none⟩) s E V cp ls W hs ht (fun x hx' => by have := hx x hx'; have := H.out.2.2.2.2.2.1; omega) hl
  rw [← HV.out] at hlv
  have HLV := Lib.hid hlv
  clear hlv
  refine wp_region_T (fun w' => ∀ o, w'.cell? ⟨w.heap.size, o, none⟩ = #[Value.int .i64 ni, .slice sn c.next.length cn, .slice sg c.gates.length cg, .slice so c.outs.length co][o]?) (.q 0 (.q 1 (.q 2 (.q 4 (.q 5 (.q 6 (.e 3 (.e 7 (.q 8 (.e 9 .nil)))))))))) (by kernel_rfl) (by kernel_rfl) (by kernel_rfl) (blk_all (blk_below ((Below.refl _ _).drew) (blk_lt H1.out.2.a) H1.out.2.a)).1 ?_
  repeat (first | (refine ordt_s (o := ?_) ?_ ?_ ?_; rotate_left 1; (focus ((simp only [List.getElem?_toArray, List.getElem?_cons_succ, List.getElem?_cons_zero]) <;> rfl)); (focus rfl); simp only [Act.put, List.setIfInBounds_toArray, List.set_cons_zero, List.set_cons_succ]) | (refine ordt_q (o := ?_) (v := ?_) ?_ ?_ ?_ ?_; rotate_left 2; (focus ((simp only [List.getElem?_toArray, List.getElem?_cons_succ, List.getElem?_cons_zero]) <;> rfl)); (focus rfl); (focus (intro w' hS; (try dsimp only at hS); go_split_ands; go_simp; (try (with_reducible rfl)))); simp only [Act.put, List.setIfInBounds_toArray, List.set_cons_zero, List.set_cons_succ]))
  refine ordt_e ?_
  (refine op_e (o := ?_) ?_ ?_ (fun K hK => ?_); rotate_left 1; (focus ((simp only [List.getElem?_toArray, List.getElem?_cons_succ, List.getElem?_cons_zero]) <;> rfl)); (focus rfl); go_simp)
  have hbx := H1.out.2.below ((Below.refl _ _).drew)
  refine (HLV.out so co c.outs _ (H1.out.1.mono (Below.refl _ _).drew) (HC.out _ hbx.bl).2.2.2.1 (fun x hx => H.out.2.2.2.2.2.2 x (List.mem_append_right _ hx)) (by omega)).mono ?_
  rintro e wa ⟨s1, c1, rfl, ha, hqa⟩
  have hba := hbx.below hqa
  refine hK.out _ _ (blk_all hba.a).1 ?_
  clear hK K hbx
  have HA := Lib.hid (And.intro ha (And.intro hba (H1.out.1.mono ((Below.refl _ _).drew.trans hqa))))
  clear ha hba hqa
  (try simp only [Act.put, List.setIfInBounds_toArray, List.set_cons_zero, List.set_cons_succ])
  refine ordt_e ?_
  (refine op_e (o := ?_) ?_ ?_ (fun K hK => ?_); rotate_left 1; (focus ((simp only [List.getElem?_toArray, List.getElem?_cons_succ, List.getElem?_cons_zero]) <;> rfl)); (focus rfl); go_simp)
  refine (HLV.out sn cn c.next _ HA.out.2.2 (HC.out _ HA.out.2.1.bl).2.2.1 (fun x hx => H.out.2.2.2.2.2.2 x (List.mem_append_left _ hx)) (by omega)).mono ?_
  rintro e wb ⟨s2, c2, rfl, hb, hqb⟩
  have hbb := HA.out.2.1.below hqb
  refine hK.out _ _ (blk_all hbb.a).1 ?_
  clear hK K
  have HB2 := Lib.hid (And.intro (HA.out.1.mono hqb) (And.intro hb hbb))
  clear hb hbb hqb
  obtain ⟨rc, rf⟩ := blk_all HB2.out.2.2.c
  (try simp only [Act.put, List.setIfInBounds_toArray, List.set_cons_zero, List.set_cons_succ])
  repeat (first | (refine ordt_s (o := ?_) ?_ ?_ ?_; rotate_left 1; (focus ((simp only [List.getElem?_toArray, List.getElem?_cons_succ, List.getElem?_cons_zero]) <;> rfl)); (focus rfl); simp only [Act.put, List.setIfInBounds_toArray, List.set_cons_zero, List.set_cons_succ]) | (refine ordt_q (o := ?_) (v := ?_) ?_ ?_ ?_ ?_; rotate_left 2; (focus ((simp only [List.getElem?_toArray, List.getElem?_cons_succ, List.getElem?_cons_zero]) <;> rfl)); (focus rfl); (focus (intro w' hS; (try dsimp only at hS); go_split_ands; go_simp; (try (with_reducible rfl)))); simp only [Act.put, List.setIfInBounds_toArray, List.set_cons_zero, List.set_cons_succ]))
  refine ordt_e ?_
  (refine op_e (o := ?_) ?_ ?_ (fun K hK => ?_); rotate_left 1; (focus ((simp only [List.getElem?_toArray, List.getElem?_cons_succ, List.getElem?_cons_zero]) <;> rfl)); (focus rfl); go_simp)
  have hU : Upd (w.heap.size + 1) wb ((wb.setCell ⟨w.heap.size + 1, 0, none⟩ (.slice s1 c.outs.length c1)).setCell ⟨w.heap.size + 1, 1, none⟩ (.slice s2 c.next.length c2)) := (Upd.set _ _ _ _).trans (Upd.set _ _ _ _)
  have hZ : ((wb.setCell ⟨w.heap.size + 1, 0, none⟩ (.slice s1 c.outs.length c1)).setCell ⟨w.heap.size + 1, 1, none⟩ (.slice s2 c.next.length c2)).heap[w.heap.size + 1]? = some (.cells #[.slice s1 c.outs.length c1, .slice s2 c.next.length c2] 36 (0, 0)) := by
    simpa using blk_set (o := 1) (v := .slice s2 c.next.length c2) (blk_set (o := 0) (v := .slice s1 c.outs.length c1) HB2.out.2.2.c)
  have hA2 : ((wb.setCell ⟨w.heap.size + 1, 0, none⟩ (.slice s1 c.outs.length c1)).setCell ⟨w.heap.size + 1, 1, none⟩ (.slice s2 c.next.length c2)).heap[w.heap.size]? = some (.cells #[.int .i64 ni, .slice sn c.next.length cn, .slice sg c.gates.length cg, .slice so c.outs.length co] 26 (0, 0)) := by
    rw [hU.block w.heap.size (blk_lt HB2.out.2.2.a) (by simp)]; exact HB2.out.2.2.a
  refine hK.out _ _ (blk_all hA2).1 ?_
  clear hK K hA2
  (try simp only [Act.put, List.setIfInBounds_toArray, List.set_cons_zero, List.set_cons_succ])
  refine ordt_nil ?_
  clear rc rf
  have hbl := (HB2.out.2.2.bl.setCell (p := ⟨w.heap.size + 1, 0, none⟩) (by simp) (.slice s1 c.outs.length c1)).setCell (p := ⟨w.heap.size + 1, 1, none⟩) (by simp) (.slice s2 c.next.length c2)
  have hs1 := HB2.out.1.updB hU HB2.out.2.2.c
  have hs2 := HB2.out.2.1.updB hU HB2.out.2.2.c
  revert hZ hU hbl hs1 hs2
  generalize ((wb.setCell ⟨w.heap.size + 1, 0, none⟩ (.slice s1 c.outs.length c1)).setCell ⟨w.heap.size + 1, 1, none⟩ (.slice s2 c.next.length c2)) = WZ
  intro hU hZ hbl hs1 hs2
  have cr := (blk_all hZ).1
  go_wp2_with fail
  exact bodyPost_ret (v := .agg #[.slice s1 c.outs.length c1, .slice s2 c.next.length c2]) (by simp [results, Try.results18, go_sem, cr]) rfl ⟨_, _, _, _, rfl, hs1, hs2, hbl⟩

/-! Circuits compared; interfaces; Detects. -/

set_option maxRecDepth 100000 in
set_option maxHeartbeats 1600000 in
theorem SameInterface_any (c x : Cir) (ni : Int) (sn sg so tn tg to_ : Option Addr) (cn cg co dn dg do_ : Nat) (w : World)
    (h1 : CirV w (.agg #[.int .i64 ni, .slice sn c.next.length cn, .slice sg c.gates.length cg, .slice so c.outs.length co]) c) (h2 : CirV w (.agg #[.int .i64 ni, .slice tn c.next.length dn, .slice tg c.gates.length dg, .slice to_ c.outs.length do_]) x) (hv : c.validB = true) (hx : x.validB = true) :
    Calls Try.prog 54 #[.agg #[.int .i64 ni, .slice sn c.next.length cn, .slice sg c.gates.length cg, .slice so c.outs.length co], .agg #[.int .i64 ni, .slice tn c.next.length dn, .slice tg c.gates.length dg, .slice to_ c.outs.length do_]] w fun e w' => e = .returned (.bool true) ∧ Below w.heap.size w w' := by
  have HB := Lib.hid (BoxS.new w (.cells #[.int .i64 ni, .slice sn c.next.length cn, .slice sg c.gates.length cg, .slice so c.outs.length co] 26) (.cells #[.int .i64 ni, .slice tn c.next.length dn, .slice tg c.gates.length dg, .slice to_ c.outs.length do_] 26))
  have HC : Hid (∀ W, Below w.heap.size w W → CirV W (.agg #[.int .i64 ni, .slice sn c.next.length cn, .slice sg c.gates.length cg, .slice so c.outs.length co]) c ∧ CirV W (.agg #[.int .i64 ni, .slice tn c.next.length dn, .slice tg c.gates.length dg, .slice to_ c.outs.length do_]) x) := fun W hW => ⟨h1.mono hW, h2.mono hW⟩
  have HV := Lib.hid (And.intro hv hx)
  clear h1 h2 hv hx
  go_enter Try.func54, Try.ntmps54
  go_upto_region 1 with fail
  revert HB
  generalize ((w.alloc (.cells #[.int .i64 ni, .slice sn c.next.length cn, .slice sg c.gates.length cg, .slice so c.outs.length co] 26)).alloc (.cells #[.int .i64 ni, .slice tn c.next.length dn, .slice tg c.gates.length dg, .slice to_ c.outs.length do_] 26)) = W0
  intro HB
  have ca := (blk_all HB.out.a).1
  have cb := (blk_all HB.out.c).1
  go_wp2_with (first
    | (go_at_call 10; ((with_reducible refine (CircuitValid_i _ c _ (HC.out _ HB.out.bl).1).mono ?_); rintro e w1 ⟨rfl, hq⟩; rw [HV.out.1]; have HB := Lib.hid (HB.out.below hq); clear hq ca cb; have ca := (blk_all HB.out.a).1; have cb := (blk_all HB.out.c).1))
    | (go_at_call 10; ((with_reducible refine (CircuitValid_i _ x _ (HC.out _ HB.out.bl).2).mono ?_); rintro e w1 ⟨rfl, hq⟩; rw [HV.out.2]; have HB := Lib.hid (HB.out.below hq); clear hq ca cb; have ca := (blk_all HB.out.a).1; have cb := (blk_all HB.out.c).1)))
  go_ret
  exact ⟨by simp, HB.out.bl⟩

/-! Detects. -/

end Go.Proofs.Ytaboipnigeaopaa
