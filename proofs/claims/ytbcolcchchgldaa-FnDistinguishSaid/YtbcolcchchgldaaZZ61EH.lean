import Derived.Test.YtbcolcchchgldaaZZ61EN
import Derived.Test.YtbcolcchchgldaaZZ61OH
import Derived.Test.YtbcolcchchgldaaZZ61V2
namespace Go.Proofs.Ytbcolcchchgldaa
set_option linter.unusedVariables false
set_option linter.unusedSimpArgs false
open Go.RowKit

/-! Part of the proof of one law. -/

set_option maxHeartbeats 400000 in
theorem litValues_own (s t : Option Addr) (vs : List Bool) (cap capl : Nat) (xs : List Int) (w : World) (h : Sl w s (bools vs)) (ht : Sl w t (ints xs)) (hx : ∀ x ∈ xs, 0 ≤ x ∧ x ≤ 1000000 ∧ x / 2 < vs.length) (hl : xs.length ≤ 1000) :
    Calls Try.prog 99 #[.slice s vs.length cap, .slice t xs.length capl] w fun e w' => ∃ s c, e = .returned (.slice s xs.length c) ∧ w'.ownsRow w.heap.size 4 1 (.slice s xs.length c) xs.length (bools (xs.map (litB vs))) ∧ Below w.heap.size w w' := by
  have H := Lib.hid (And.intro h (And.intro ht hx))
  clear h ht hx
  have hmk := fun w => mkBools0 w xs.length (by omega)
  have hA : Below w.heap.size w (w.alloc (.cells (bools (List.replicate xs.length false)).toArray 4)) := (Below.refl _ _).alloc (Nat.le_refl _) _
  have ho : (w.alloc (.cells (bools (List.replicate xs.length false)).toArray 4)).ownsRow w.heap.size 4 1 (.slice (some ⟨w.heap.size, 0, none⟩) 0 xs.length) 0 [] := by
    have := World.ownsRow_made (base := w.heap.size) (e := 4) (size := 1) w (bools (List.replicate xs.length false)).toArray xs.length (Nat.le_refl _) (by unfold maxLen; omega) (by simp)
    simpa using this
  have HO := Lib.hid (And.intro ho hA)
  clear ho hA
  go_enter Try.func99, Try.ntmps99
  go_wp2
  clear hmk
  revert HO
  generalize w.alloc (.cells (bools (List.replicate xs.length false)).toArray 4) = WA
  intro HO
  go_loopw [13, 5] (fun i v wr => ∃ (k : Nat) (s : Option Addr) (c : Nat), k ≤ xs.length ∧ i = .int .i64 k ∧ v = .slice s k c ∧ wr.ownsRow w.heap.size 4 1 v k (bools ((xs.take k).map (litB vs))) ∧ Below w.heap.size w wr) (fun i _ _ => xs.length - (intOf i).toNat)
  case atStart => exact ⟨0, _, _, Nat.zero_le _, rfl, rfl, by simpa [bools] using HO.out.1, HO.out.2⟩
  case round =>
    obtain ⟨k, so, c, hk, rfl, rfl, ho, hbl⟩ := hrel
    by_cases hlt : k < xs.length
    · obtain ⟨x, hx⟩ := get_of_lt hlt
      obtain ⟨b, off, rfl, hbw, hz⟩ := H.out.2.1.int hbl hx
      obtain ⟨x0, x1, x2⟩ := H.out.2.2 x (List.mem_of_getElem? hx)
      have hbs := hbl.size
      have HR := Lib.hid (And.intro ho (And.intro hbl hx))
      clear ho hbl hx
      go_wp2_with (first
        | (go_at_call 137; ((refine (litValue_any _ _ _ _ _ (H.out.1.mono HR.out.2.1) x0 x1 x2).mono ?_); rintro e w' ⟨rfl, rfl⟩))
        | (at_builtin; refine wpl_app rfl _ _ rfl elem_bool (own_below HR.out.1 ((Below.refl _ _).alloc (Nat.le_refl _) _)) rfl rfl rfl (Sl.new _ _ _) (by simp [Value.oneCell']) (k + 1) rfl _ rfl (by unfold maxLen; omega) (by omega) (by simp; omega) ?_; intro s3 c3 w3 h3 hb3 _ _; have HA := Lib.hid (And.intro h3 hb3); clear h3 hb3))
      obtain ⟨ho, hbl, hx⟩ := HR.out
      go_roundw
      case rel =>
        refine ⟨k + 1, s3, c3, by omega, by go_num, rfl, ?_, (hbl.alloc hbs _).trans HA.out.2⟩
        have := HA.out.1
        rw [List.take_add_one, hx]
        simpa [bools] using this
      case measure => simp [intOf]; omega
    · obtain rfl : k = xs.length := by omega
      rw [List.take_length] at ho
      have HR := Lib.hid (And.intro ho hbl)
      clear ho hbl
      go_wp2
      go_ret
      exact ⟨_, _, rfl, HR.out.1, HR.out.2⟩

set_option maxHeartbeats 1600000 in
theorem Step_own (c : Cir) (sn sg so ss si : Option Addr) (cn cg co cs ci : Nat) (S I : List Bool) (w : World) (ni : Nat) (li : c.inp = ni)
    (h : CirV w (.agg #[.int .i64 c.inp, .slice sn c.next.length cn, .slice sg c.gates.length cg, .slice so c.outs.length co]) c) (hn : Sl w sn (ints c.next)) (hg : Sl w sg (gcells c.gates)) (ho : Sl w so (ints c.outs)) (hv : c.valid) (hS : Sl w ss (bools S)) (hI : Sl w si (bools I)) (lS : S.length = c.next.length) (lI : I.length = ni) (E : List Bool) (hE : E = valsV (-1) false (stuckB (-1) false (false :: (I ++ S))) c.gates) (lE : (E.length : Int) = c.vars) :
    Calls Try.prog 43 #[.agg #[.int .i64 ni, .slice sn c.next.length cn, .slice sg c.gates.length cg, .slice so c.outs.length co], .slice ss c.next.length cs, .slice si ni ci] w fun e w' => ∃ s1 c1 s2 c2, e = .returned (.agg #[.slice s1 c.outs.length c1, .slice s2 c.next.length c2]) ∧ w'.ownsRow w.heap.size 4 1 (.slice s1 c.outs.length c1) c.outs.length (bools (c.outs.map (litB E))) ∧ w'.ownsRow w.heap.size 4 1 (.slice s2 c.next.length c2) c.next.length (bools (c.next.map (litB E))) ∧ Below w.heap.size w w' := by
  have HB := Lib.hid (BoxT.new w (.cells #[.int .i64 ni, .slice sn c.next.length cn, .slice sg c.gates.length cg, .slice so c.outs.length co] 26) (.cells #[.slice none 0 0, .slice none 0 0] 54))
  have HC : Hid (∀ W, Below w.heap.size w W → CirV W (.agg #[.int .i64 c.inp, .slice sn c.next.length cn, .slice sg c.gates.length cg, .slice so c.outs.length co]) c ∧ Sl W sg (gcells c.gates) ∧ Sl W sn (ints c.next) ∧ Sl W so (ints c.outs) ∧ Sl W ss (bools S) ∧ Sl W si (bools I)) := fun W hW => ⟨h.mono hW, hg.mono hW, hn.mono hW, ho.mono hW, hS.mono hW, hI.mono hW⟩
  obtain ⟨q1, q2, q3, q4, q5⟩ := id hv.lim
  have hr := roots_lits hv
  have H := Lib.hid (And.intro hv (And.intro lS (And.intro lI (And.intro li (And.intro hE (And.intro lE hr))))))
  obtain ⟨V, hV⟩ : ∃ V, V = E.length := ⟨_, rfl⟩
  have HV := Lib.hid hV
  clear h hg hn ho hS hI hv lS lI li hE lE hr hV q1 q2
  have hnil : ∀ (W : World) (g n c : Nat), (binOp .eql 39 (.slice (some ⟨g, 0, none⟩) n c) (.slice none 0 0)).run Try.prog W = .ok (.bool false) W := fun W g n c => Lib.run_eql_slice_nil W _ 4 _ n c 0 0 (by kernel_rfl)
  go_enter Try.func43, Try.ntmps43
  go_upto_region 1 with fail
  revert HB
  generalize ((w.alloc (.cells #[.int .i64 ni, .slice sn c.next.length cn, .slice sg c.gates.length cg, .slice so c.outs.length co] 26)).alloc (.cells #[.slice none 0 0, .slice none 0 0] 54)) = W0
  intro HB
  have cb := (blk_all HB.out.a).1
  go_upto_region 4 with (go_at_call 98; ((refine (EvalVars_any c sn sg so ss si cn cg co cs ci S I W0 ni H.out.2.2.2.1 (HC.out _ HB.out.bl).1 (HC.out _ HB.out.bl).2.1 H.out.1 (HC.out _ HB.out.bl).2.2.2.2.1 (HC.out _ HB.out.bl).2.2.2.2.2 H.out.2.1 H.out.2.2.1 V (by rw [HV.out]; exact H.out.2.2.2.2.2.1.symm)).mono ?_); rintro e w1 ⟨g, rfl, hz, hq⟩; rw [← H.out.2.2.2.2.1] at hz; have H1 := Lib.hid (And.intro (Sl.toB hz) (HB.out.below hq)); clear hz hq cb))
  have hlv := fun (s : Option Addr) (cp : Nat) (ls : List Int) (W : World) (hs : Sl W (some ⟨g, 0, none⟩) (bools E)) (ht : Sl W s (ints ls)) (hx : ∀ x ∈ ls, 0 ≤ x ∧ x ≤ 1000000 ∧ x / 2 < c.vars) (hl : ls.length ≤ 1000) => litValues_own (some ⟨g, 0, none⟩) s E V cp ls W hs ht (fun x hx' => by have := hx x hx'; have := H.out.2.2.2.2.2.1; omega) hl
  rw [← HV.out] at hlv
  have HLV := Lib.hid hlv
  clear hlv
  refine wp_region_T (fun w' => ∀ o, w'.cell? ⟨w.heap.size, o, none⟩ = #[Value.int .i64 ni, .slice sn c.next.length cn, .slice sg c.gates.length cg, .slice so c.outs.length co][o]?) (.q 0 (.q 1 (.q 2 (.q 4 (.q 5 (.q 6 (.e 3 (.e 7 (.q 8 (.e 9 .nil)))))))))) (by kernel_rfl) (by kernel_rfl) (by kernel_rfl) (blk_all (blk_below ((Below.refl _ _).drew) (blk_lt H1.out.2.a) H1.out.2.a)).1 ?_
  repeat (first | (refine ordt_s (o := ?_) ?_ ?_ ?_; rotate_left 1; (focus ((simp only [zD, zE, zF]) <;> rfl)); (focus rfl); simp only [Act.put, zA, zB, zC]) | (refine ordt_q (o := ?_) (v := ?_) ?_ ?_ ?_ ?_; rotate_left 2; (focus ((simp only [zD, zE, zF]) <;> rfl)); (focus rfl); (focus (intro w' hS; (try dsimp only at hS); go_split_ands; go_simp; (try (with_reducible rfl)))); simp only [Act.put, zA, zB, zC]))
  refine ordt_e ?_
  (refine op_e (o := ?_) ?_ ?_ (fun K hK => ?_); rotate_left 1; (focus ((simp only [zD, zE, zF]) <;> rfl)); (focus rfl); go_simp)
  have hbx := H1.out.2.below ((Below.refl _ _).drew)
  refine (HLV.out so co c.outs _ (H1.out.1.mono (Below.refl _ _).drew) (HC.out _ hbx.bl).2.2.2.1 (fun x hx => H.out.2.2.2.2.2.2 x (List.mem_append_right _ hx)) (by omega)).mono ?_
  rintro e wa ⟨s1, c1, rfl, ha, hqa⟩
  replace ha := own_base ha hbx.bl.size
  have hba := hbx.below hqa
  refine hK.out _ _ (blk_all hba.a).1 ?_
  clear hK K hbx
  have HA := Lib.hid (And.intro ha (And.intro hba (H1.out.1.mono ((Below.refl _ _).drew.trans hqa))))
  clear ha hba hqa
  (try simp only [Act.put, zA, zB, zC])
  refine ordt_e ?_
  (refine op_e (o := ?_) ?_ ?_ (fun K hK => ?_); rotate_left 1; (focus ((simp only [zD, zE, zF]) <;> rfl)); (focus rfl); go_simp)
  refine (HLV.out sn cn c.next _ HA.out.2.2 (HC.out _ HA.out.2.1.bl).2.2.1 (fun x hx => H.out.2.2.2.2.2.2 x (List.mem_append_left _ hx)) (by omega)).mono ?_
  rintro e wb ⟨s2, c2, rfl, hb, hqb⟩
  replace hb := own_base hb HA.out.2.1.bl.size
  have hbb := HA.out.2.1.below hqb
  refine hK.out _ _ (blk_all hbb.a).1 ?_
  clear hK K
  have HB2 := Lib.hid (And.intro (own_below HA.out.1 hqb) (And.intro hb hbb))
  clear hb hbb hqb
  obtain ⟨rc, rf⟩ := blk_all HB2.out.2.2.c
  (try simp only [Act.put, zA, zB, zC])
  repeat (first | (refine ordt_s (o := ?_) ?_ ?_ ?_; rotate_left 1; (focus ((simp only [zD, zE, zF]) <;> rfl)); (focus rfl); simp only [Act.put, zA, zB, zC]) | (refine ordt_q (o := ?_) (v := ?_) ?_ ?_ ?_ ?_; rotate_left 2; (focus ((simp only [zD, zE, zF]) <;> rfl)); (focus rfl); (focus (intro w' hS; (try dsimp only at hS); go_split_ands; go_simp; (try (with_reducible rfl)))); simp only [Act.put, zA, zB, zC]))
  refine ordt_e ?_
  (refine op_e (o := ?_) ?_ ?_ (fun K hK => ?_); rotate_left 1; (focus ((simp only [zD, zE, zF]) <;> rfl)); (focus rfl); go_simp)
  have hU : Upd (w.heap.size + 1) wb ((wb.setCell ⟨w.heap.size + 1, 0, none⟩ (.slice s1 c.outs.length c1)).setCell ⟨w.heap.size + 1, 1, none⟩ (.slice s2 c.next.length c2)) := (Upd.set _ _ _ _).trans (Upd.set _ _ _ _)
  have hZ : ((wb.setCell ⟨w.heap.size + 1, 0, none⟩ (.slice s1 c.outs.length c1)).setCell ⟨w.heap.size + 1, 1, none⟩ (.slice s2 c.next.length c2)).heap[w.heap.size + 1]? = some (.cells #[.slice s1 c.outs.length c1, .slice s2 c.next.length c2] 54 (0, 0)) := by
    simpa using blk_set (o := 1) (v := .slice s2 c.next.length c2) (blk_set (o := 0) (v := .slice s1 c.outs.length c1) HB2.out.2.2.c)
  have hA2 : ((wb.setCell ⟨w.heap.size + 1, 0, none⟩ (.slice s1 c.outs.length c1)).setCell ⟨w.heap.size + 1, 1, none⟩ (.slice s2 c.next.length c2)).heap[w.heap.size]? = some (.cells #[.int .i64 ni, .slice sn c.next.length cn, .slice sg c.gates.length cg, .slice so c.outs.length co] 26 (0, 0)) := by
    rw [hU.block w.heap.size (blk_lt HB2.out.2.2.a) (by simp)]; exact HB2.out.2.2.a
  refine hK.out _ _ (blk_all hA2).1 ?_
  clear hK K hA2
  (try simp only [Act.put, zA, zB, zC])
  refine ordt_nil ?_
  clear rc rf
  have hbl := (HB2.out.2.2.bl.setCell (p := ⟨w.heap.size + 1, 0, none⟩) (by simp) (.slice s1 c.outs.length c1)).setCell (p := ⟨w.heap.size + 1, 1, none⟩) (by simp) (.slice s2 c.next.length c2)
  have n1 := own_tyb HB2.out.1 HB2.out.2.2.c (by decide)
  have n2 := own_tyb HB2.out.2.1 HB2.out.2.2.c (by decide)
  have hs1 := own_set_ne (o := 1) (own_set_ne (o := 0) HB2.out.1 n1 (.slice s1 c.outs.length c1)) n1 (.slice s2 c.next.length c2)
  have hs2 := own_set_ne (o := 1) (own_set_ne (o := 0) HB2.out.2.1 n2 (.slice s1 c.outs.length c1)) n2 (.slice s2 c.next.length c2)
  clear n1 n2
  revert hZ hU hbl hs1 hs2
  generalize ((wb.setCell ⟨w.heap.size + 1, 0, none⟩ (.slice s1 c.outs.length c1)).setCell ⟨w.heap.size + 1, 1, none⟩ (.slice s2 c.next.length c2)) = WZ
  intro hU hZ hbl hs1 hs2
  have cr := (blk_all hZ).1
  go_wp2_with fail
  exact bodyPost_ret (v := .agg #[.slice s1 c.outs.length c1, .slice s2 c.next.length c2]) (by simp [results, Try.results43, go_sem, cr]) rfl ⟨_, _, _, _, rfl, hs1, hs2, hbl⟩

set_option maxRecDepth 100000 in
set_option maxHeartbeats 3200000 in
theorem Simulate_i (sn sg so s : Option Addr) (cn cg co cap ni : Nat) (c : Cir) (rows : List (List Bool)) (w : World) (hi : c.inp = ni) (hC : CirV w (.agg #[.int .i64 ni, .slice sn c.next.length cn, .slice sg c.gates.length cg, .slice so c.outs.length co]) c) (hn : Sl w sn (ints c.next)) (hg : Sl w sg (gcells c.gates)) (ho : Sl w so (ints c.outs)) (hs : SlB w s rows) (hv : c.valid) (hl : rows.length ≤ 40) (hr : ∀ r ∈ rows, r.length = ni) :
    Calls Try.prog 27 #[.agg #[.int .i64 ni, .slice sn c.next.length cn, .slice sg c.gates.length cg, .slice so c.outs.length co], .slice s rows.length cap] w fun e w' => ∃ so' co' vs, e = .returned (.slice so' rows.length co') ∧ OwnSB w' w.heap.size (.slice so' rows.length co') vs (outS c (List.replicate c.next.length false) rows) ∧ Below w.heap.size w w' := by
  obtain ⟨i0, i1, l1, l2, l3⟩ := id hv.lim
  have n4 : ni ≤ 4 := by omega
  have hb0 := (Below.refl w.heap.size w).alloc (Nat.le_refl _) (.cells #[.int .i64 ni, .slice sn c.next.length cn, .slice sg c.gates.length cg, .slice so c.outs.length co] 26)
  have hk0 := blk_new w (.cells #[.int .i64 ni, .slice sn c.next.length cn, .slice sg c.gates.length cg, .slice so c.outs.length co] 26)
  obtain ⟨A, hA⟩ : ∃ A, A = w.heap.size := ⟨_, rfl⟩
  have HB : Hid (∀ W, Below w.heap.size w W → CirV W (.agg #[.int .i64 ni, .slice sn c.next.length cn, .slice sg c.gates.length cg, .slice so c.outs.length co]) c ∧ Sl W sn (ints c.next) ∧ Sl W sg (gcells c.gates) ∧ Sl W so (ints c.outs) ∧ SlB W s rows) := fun W hW => ⟨hC.mono hW, hn.mono hW, hg.mono hW, ho.mono hW, hs.mono hW⟩
  have HV := Lib.hid (And.intro hv (And.intro hi hr))
  have hvb := (Cir.validB_iff c).2 hv
  have HVB := Lib.hid hvb
  have hmk := fun W => mkBools W c.next.length (by omega)
  rw [← hA] at hk0
  clear hC hn hg ho hs hv hi hr hvb i0 i1
  obtain ⟨S0, hS0⟩ : ∃ S0, S0 = List.replicate c.next.length false := ⟨_, rfl⟩
  have hS0l : S0.length = c.next.length := by rw [hS0]; simp
  rw [← hS0]
  have HS0 := Lib.hid hS0
  clear hS0
  go_enter Try.func27, Try.ntmps27
  go_upto_region 1 with fail
  rw [← hA]
  clear hA
  revert hb0 hk0
  generalize w.alloc (.cells #[.int .i64 ni, .slice sn c.next.length cn, .slice sg c.gates.length cg, .slice so c.outs.length co] 26) = W1
  intro hb0 hk0
  have H1 := Lib.hid (And.intro hb0 hk0)
  clear hb0 hk0
  go_upto_region 4 with (go_at_call 80; ((with_reducible refine (rowsFit_any A sn sg so s cn cg co cap ni c rows _ H1.out.2 (HB.out _ H1.out.1).1 (HB.out _ H1.out.1).2.2.2.2 HVB.out n4 hl HV.out.2.2).mono ?_); rintro e w2 ⟨rfl, hq⟩; have H2 := Lib.hid (And.intro (H1.out.1.trans (hq.mono H1.out.1.size)) (blk_below hq (blk_lt H1.out.2) H1.out.2)); clear hq; have cb := (blk_all H2.out.2).1))
  have q1 := H2.out.1.alloc H2.out.1.size (.cells (bools (List.replicate c.next.length false)).toArray 4)
  have q2 : Sl (w2.alloc (.cells (bools (List.replicate c.next.length false)).toArray 4)) (some ⟨w2.heap.size, 0, none⟩) (bools (List.replicate c.next.length false)) := Sl.blk (blk_new _ _)
  have q3 := blk_old (o := .cells (bools (List.replicate c.next.length false)).toArray 4) H2.out.2
  have hS0 := HS0.out
  obtain ⟨G, hG⟩ : ∃ G, G = w2.heap.size := ⟨_, rfl⟩
  rw [← hS0] at q1 q2 q3 ⊢
  rw [← hG] at q2 ⊢
  clear hS0 hG hmk cb
  revert q1 q2 q3
  generalize w2.alloc (.cells (bools S0).toArray 4) = W3
  intro q1 q3 q2
  have H3 := Lib.hid (And.intro q1 (And.intro q2 q3))
  clear q1 q2 q3 H1 H2
  go_wp2_with fail
  go_loopw [19, 5, 6] (fun i x5 x6 wr => ∃ (k : Nat) (ss : Option Addr) (cs : Nat) (s' : Option Addr) (cc : Nat) (vs : List Value), k ≤ rows.length ∧ i = .int .i64 k ∧ x5 = .slice ss c.next.length cs ∧ Sl wr ss (bools (stS c S0 (rows.take k))) ∧ (stS c S0 (rows.take k)).length = c.next.length ∧ x6 = .slice s' k cc ∧ OwnSB wr w.heap.size (.slice s' k cc) vs (outS c S0 (rows.take k)) ∧ Below w.heap.size w wr ∧ wr.heap[A]? = some (.cells #[.int .i64 ni, .slice sn c.next.length cn, .slice sg c.gates.length cg, .slice so c.outs.length co] 26 (0, 0))) (fun i _ _ _ => rows.length - (intOf i).toNat)
  case atStart => exact ⟨0, _, _, _, _, [], Nat.zero_le _, rfl, rfl, by rw [List.take_zero]; exact H3.out.2.1, by rw [List.take_zero]; exact hS0l, rfl, by rw [List.take_zero]; exact OwnSB.nil _ _, H3.out.1, H3.out.2.2⟩
  case round =>
    obtain ⟨k, ss, cs, s', cc, vs, hk, rfl, rfl, hst, hsl, rfl, hO, hbl, hka⟩ := hrel
    have cb := (blk_all hka).1
    have hol : (outS c S0 (rows.take k)).length = k := by rw [outS_length]; simp; omega
    by_cases hlt : k < rows.length
    · obtain ⟨r, hr⟩ := get_of_lt hlt
      have hrl : r.length = ni := HV.out.2.2 r (List.mem_of_getElem? hr)
      have htk : rows.take (k + 1) = rows.take k ++ [r] := by rw [List.take_add_one, hr]; rfl
      obtain ⟨rb, ro, rs, rc, rfl, -, zr, hrs⟩ := (HB.out _ hbl).2.2.2.2.row (Below.refl _ _) hr
      rw [hrl] at zr
      have HST : Hid (Calls Try.prog 43 #[.agg #[.int .i64 ni, .slice sn c.next.length cn, .slice sg c.gates.length cg, .slice so c.outs.length co], .slice ss c.next.length cs, .slice rs ni rc] wr fun e w' => ∃ s1 c1 s2 c2, e = .returned (.agg #[.slice s1 c.outs.length c1, .slice s2 c.next.length c2]) ∧ w'.ownsRow wr.heap.size 4 1 (.slice s1 c.outs.length c1) c.outs.length (bools (simQ c (stS c S0 (rows.take k)) r)) ∧ w'.ownsRow wr.heap.size 4 1 (.slice s2 c.next.length c2) c.next.length (bools (simN c (stS c S0 (rows.take k)) r)) ∧ Below wr.heap.size wr w') := by
        obtain ⟨g1, g2, g3, g4, g5⟩ := HB.out _ hbl
        exact Step_own c sn sg so ss rs cn cg co cs rc (stS c S0 (rows.take k)) r wr ni HV.out.2.1 (by rw [HV.out.2.1]; exact g1) g2 g3 g4 HV.out.1 hst hrs hsl hrl (simV c (stS c S0 (rows.take k)) r) rfl (simV_length HV.out.2.1 hsl hrl)
      have hbz := hbl.size
      have HR := Lib.hid (And.intro hO (And.intro hbl (And.intro hka (And.intro hol htk))))
      clear hst hsl hO hbl hka hol htk hr hrs hrl
      go_upto_region 9 with (go_at_call 43; ((with_reducible refine HST.out.mono ?_); rintro e w4 ⟨s1, c1, s2, c2, rfl, h1, h2, hq⟩; have H4 := Lib.hid (And.intro h1 (And.intro h2 hq)); clear h1 h2 hq cb zr))
      have hka4 := blk_below H4.out.2.2 (blk_lt HR.out.2.2.1) HR.out.2.2.1
      have hO4 := HR.out.1.below H4.out.2.2
      have e4 := (Below.refl w4.heap.size w4).alloc (Nat.le_refl _) (.cells #[.slice s1 c.outs.length c1, .slice s2 c.next.length c2] 54)
      have hx4 := blk_new w4 (.cells #[.slice s1 c.outs.length c1, .slice s2 c.next.length c2] 54)
      obtain ⟨X, hX⟩ : ∃ X, X = w4.heap.size := ⟨_, rfl⟩
      have p1 := own_below H4.out.1 e4
      have p2 := own_below H4.out.2.1 e4
      have p3 := hO4.below e4
      have p4 := blk_below e4 (blk_lt hka4) hka4
      have p5 := (HR.out.2.1.trans (H4.out.2.2.mono hbz)).trans (e4.mono (Nat.le_trans hbz H4.out.2.2.size))
      have p6 : wr.heap.size ≤ X := by rw [hX]; exact H4.out.2.2.size
      rw [← hX] at hx4 ⊢
      clear hX e4 hka4 hO4 HST
      revert hx4 p1 p2 p3 p4 p5
      generalize w4.alloc (.cells #[.slice s1 c.outs.length c1, .slice s2 c.next.length c2] 54) = W5
      intro hx4 p1 p2 p3 p4 p5
      have H5 := Lib.hid (And.intro p1 (And.intro p2 (And.intro p3 (And.intro p4 (And.intro p5 hx4)))))
      clear p1 p2 p3 p4 p5 hx4 H4
      have cx := (blk_all H5.out.2.2.2.2.2).1
      have hOut : W5.ownsRow w.heap.size 39 1 (.slice s' k cc) k vs := by have h9 := H5.out.2.2.1.out; rwa [HR.out.2.2.2.1] at h9
      have HOut := Lib.hid hOut
      clear hOut
      have hz5 : w.heap.size ≤ W5.heap.size := H5.out.2.2.2.2.1.size
      go_wp2_with (at_builtin; refine wpl_app rfl _ _ rfl elem_bss2 (own_below HOut.out ((Below.refl _ _).alloc (Nat.le_refl _) _)) rfl rfl rfl (Sl.new _ _ _) (by simp [Value.oneCell']) (k + 1) rfl _ rfl (by unfold maxLen; omega) (by omega) (by simp; omega) ?_; intro s6 c6 w6 h6 hb6 hg6 _; have H6 := Lib.hid (And.intro h6 (And.intro hb6 hg6)); clear h6 hb6 hg6; clear cx; have hx6 : w6.heap[X]? = some (.cells #[.slice s1 c.outs.length c1, .slice s2 c.next.length c2] 54 (0, 0)) := (Chg.of_grown H6.out.2.2).blk (blk_old H5.out.2.2.2.2.2) (fun e => own_tyb HOut.out H5.out.2.2.2.2.2 (by decide) e); have cx : w6.cell? ⟨X, 1, none⟩ = some (.slice s2 c.next.length c2) := blk_cell hx6; clear hx6)
      go_roundw
      case rel =>
        have hq : (simQ c (stS c S0 (rows.take k)) r).length = c.outs.length := by simp [simQ]
        have hal := (Below.refl W5.heap.size W5).alloc (Nat.le_refl _) (.cells #[.slice s1 c.outs.length c1] 39)
        refine ⟨k + 1, s2, c2, s6, c6, vs ++ [.slice s1 c.outs.length c1], by omega, by go_num, rfl, ?_, ?_, rfl, ?_, ?_, ?_⟩
        · rw [HR.out.2.2.2.2, stS_snoc]
          exact own_sl ((Chg.of_grown H6.out.2.2).own (own_below H5.out.2.1 hal) (fun q hq => own_ty H5.out.2.1 HOut.out (by decide) hq))
        · rw [HR.out.2.2.2.2, stS_snoc]; exact simN_length _ _ _
        · rw [HR.out.2.2.2.2, outS_snoc]
          refine OwnSB.push (H5.out.2.2.1.below hal) (by rw [hq]; exact own_base (own_below H5.out.1 hal) hbz) (fun q u' hq hm e => ?_) H6.out.2.2 (by rw [HR.out.2.2.2.1]; exact H6.out.1)
          obtain ⟨i, hi⟩ := List.mem_iff_getElem?.1 hm
          obtain ⟨r', hr'⟩ := HR.out.1.rget hi
          have h1 := (own_blk (HR.out.1.row i u' r' hi hr') e).2
          have h2 := (own_blk H5.out.1 hq).1
          omega
        · exact (H5.out.2.2.2.2.1.alloc hz5 _).trans H6.out.2.1
        · exact (Chg.of_grown H6.out.2.2).blk (blk_old H5.out.2.2.2.1) (fun e => own_tyb HOut.out H5.out.2.2.2.1 (by decide) e)
      case measure => simp [intOf]; omega
    · obtain rfl : k = rows.length := by omega
      have HR := Lib.hid (And.intro hO hbl)
      clear hO hbl hka hst cb
      go_wp2_with fail
      go_ret
      exact ⟨s', cc, vs, rfl, by have h9 := HR.out.1; rw [List.take_length] at h9; exact h9, HR.out.2⟩

set_option maxHeartbeats 1600000 in
theorem rowsFitNo_any (b : Nat) (sn sg so s : Option Addr) (cn cg co cap ni n : Nat) (c : Cir) (w : World) (hb : w.heap[b]? = some (.cells #[.int .i64 ni, .slice sn c.next.length cn, .slice sg c.gates.length cg, .slice so c.outs.length co] 26 (0, 0))) (hC : CirV w (.agg #[.int .i64 ni, .slice sn c.next.length cn, .slice sg c.gates.length cg, .slice so c.outs.length co]) c) (hv : c.validB = true) (hl : 40 < n) :
    Calls Try.prog 80 #[.pointer (some ⟨b, 0, none⟩), .slice s n cap] w fun e w' => e = .returned (.bool false) ∧ Below w.heap.size w w' := by
  have HB : Hid (∀ W, Below w.heap.size w W → (∀ o, W.cell? ⟨b, o, none⟩ = #[Value.int .i64 ni, .slice sn c.next.length cn, .slice sg c.gates.length cg, .slice so c.outs.length co][o]?) ∧ CirV W (.agg #[.int .i64 ni, .slice sn c.next.length cn, .slice sg c.gates.length cg, .slice so c.outs.length co]) c) := fun W hW =>
    ⟨(blk_all (blk_below hW (blk_lt hb) hb)).1, hC.mono hW⟩
  have HV := Lib.hid hv
  clear hb hC hv
  have cb := (HB.out w (Below.refl _ _)).1
  have hlt40 : (40 : Int) < (n : Int) := by omega
  go_enter Try.func80, Try.ntmps80
  go_wp2_with (go_at_call 18; ((with_reducible refine (CircuitValid_i _ c _ (HB.out _ (Below.refl _ _)).2).mono ?_); rintro e w1 ⟨rfl, hq⟩; rw [HV.out]; have H1 := Lib.hid hq; clear hq cb))
  go_ret
  exact ⟨rfl, H1.out⟩

set_option maxRecDepth 100000 in
set_option maxHeartbeats 3200000 in
theorem SimulateMany_i (sn sg so s : Option Addr) (cn cg co cap ni n : Nat) (c : Cir) (w : World) (hC : CirV w (.agg #[.int .i64 ni, .slice sn c.next.length cn, .slice sg c.gates.length cg, .slice so c.outs.length co]) c) (hv : c.valid) (hl : 40 < n) :
    Calls Try.prog 27 #[.agg #[.int .i64 ni, .slice sn c.next.length cn, .slice sg c.gates.length cg, .slice so c.outs.length co], .slice s n cap] w fun e w' => e = .returned (.slice none 0 0) ∧ Below w.heap.size w w' := by
  have hb0 := (Below.refl w.heap.size w).alloc (Nat.le_refl _) (.cells #[.int .i64 ni, .slice sn c.next.length cn, .slice sg c.gates.length cg, .slice so c.outs.length co] 26)
  have hk0 := blk_new w (.cells #[.int .i64 ni, .slice sn c.next.length cn, .slice sg c.gates.length cg, .slice so c.outs.length co] 26)
  obtain ⟨A, hA⟩ : ∃ A, A = w.heap.size := ⟨_, rfl⟩
  have HB : Hid (∀ W, Below w.heap.size w W → CirV W (.agg #[.int .i64 ni, .slice sn c.next.length cn, .slice sg c.gates.length cg, .slice so c.outs.length co]) c) := fun W hW => hC.mono hW
  have hvb := (Cir.validB_iff c).2 hv
  have HVB := Lib.hid hvb
  rw [← hA] at hk0
  clear hC hv hvb
  go_enter Try.func27, Try.ntmps27
  go_upto_region 1 with fail
  rw [← hA]
  clear hA
  revert hb0 hk0
  generalize w.alloc (.cells #[.int .i64 ni, .slice sn c.next.length cn, .slice sg c.gates.length cg, .slice so c.outs.length co] 26) = W1
  intro hb0 hk0
  have H1 := Lib.hid (And.intro hb0 hk0)
  clear hb0 hk0
  go_wp2_with (go_at_call 80; ((with_reducible refine (rowsFitNo_any A sn sg so s cn cg co cap ni n c _ H1.out.2 (HB.out _ H1.out.1) HVB.out hl).mono ?_); rintro e w2 ⟨rfl, hq⟩; have H2 := Lib.hid (H1.out.1.trans (hq.mono H1.out.1.size)); clear hq))
  go_ret
  exact ⟨rfl, H2.out⟩

end Go.Proofs.Ytbcolcchchgldaa
