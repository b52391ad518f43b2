import Derived.Test.YtindndcdpnpcmaaZ2
import Derived.Test.YtindndcdpnpcmaaCC
import Derived.Test.YtindndcdpnpcmaaH2
import Derived.Test.YtindndcdpnpcmaaSF
import Derived.Lib.SliceRun
namespace Go.Proofs.Ytindndcdpnpcmaa
set_option linter.unusedVariables false
set_option linter.unusedSimpArgs false
open Go.RowKit

/-! Steps, circuits compared, faults detected: for the laws. -/

/-- Two blocks made at the start, kept. -/
structure Box2 (w W : World) (A C : Obj) : Prop where
  bl : Below w.heap.size w W
  a : W.heap[w.heap.size]? = some A
  c : W.heap[w.heap.size + 1]? = some C
theorem Box2.below {w W W' : World} {A C : Obj} (h : Box2 w W A C) (hb : Below W.heap.size W W') : Box2 w W' A C :=
  ⟨h.bl.trans (hb.mono h.bl.size), blk_below hb (blk_lt h.a) h.a, blk_below hb (blk_lt h.c) h.c⟩
theorem Box2.new (w : World) (A C : Obj) : Box2 w ((w.alloc A).alloc C) A C :=
  ⟨((Below.refl _ _).alloc (Nat.le_refl _) _).alloc (by simp) _, blk_old (blk_new w A), blk_at (by simp)⟩
theorem Sl.updB {W W2 : World} {R : Nat} {s s1 s2 : Option Addr} {xs : List Bool} {n1 n2 k1 k2 : Nat} {t : TypeId} (h : Sl W s (bools xs)) (hu : Upd R W W2) (hR : W.heap[R]? = some (.cells #[.slice s1 n1 k1, .slice s2 n2 k2] t (0, 0))) : Sl W2 s (bools xs) := by
  rcases h with h | ⟨b, off, rfl, hz⟩
  · exact .inl h
  · refine .inr ⟨b, off, rfl, fun j v hv => ?_⟩
    have z := hz j v hv
    by_cases e : b = R
    · exfalso
      subst e
      rw [blk_cell hR] at z
      obtain ⟨x, hx⟩ : ∃ x, v = .bool x := by
        simp only [bools, List.getElem?_map, Option.map_eq_some_iff] at hv
        obtain ⟨x, _, rfl⟩ := hv
        exact ⟨x, rfl⟩
      subst hx
      match h : off + j with
      | 0 => rw [h] at z; simp at z
      | 1 => rw [h] at z; simp at z
      | n + 2 => rw [h] at z; simp at z
    · rw [World.cell?_of_block (w := W) (hu.block b (World.block_lt_of_cell? W _ z) (by simp; exact fun h => e h))]
      exact z

/-! Circuits compared; interfaces; Detects. -/

set_option maxRecDepth 100000 in
set_option maxHeartbeats 1600000 in
theorem sameCircuit_any (c : Cir) (ni : Int) (sn sg so tn tg to_ : Option Addr) (cn cg co dn dg do_ : Nat) (w : World)
    (h1 : Sl w sn (ints c.next) ∧ Sl w sg (gcells c.gates) ∧ Sl w so (ints c.outs)) (h2 : Sl w tn (ints c.next) ∧ Sl w tg (gcells c.gates) ∧ Sl w to_ (ints c.outs)) (l1 : c.next.length ≤ 1000) (l2 : c.gates.length ≤ 1000) (l3 : c.outs.length ≤ 1000) :
    Calls Try.prog 25 #[.agg #[.int .i64 ni, .slice sn c.next.length cn, .slice sg c.gates.length cg, .slice so c.outs.length co], .agg #[.int .i64 ni, .slice tn c.next.length dn, .slice tg c.gates.length dg, .slice to_ c.outs.length do_]] w fun e w' => e = .returned (.bool true) ∧ Below w.heap.size w w' := by
  have HB := Lib.hid (Box2.new w (.cells #[.int .i64 ni, .slice sn c.next.length cn, .slice sg c.gates.length cg, .slice so c.outs.length co] 29) (.cells #[.int .i64 ni, .slice tn c.next.length dn, .slice tg c.gates.length dg, .slice to_ c.outs.length do_] 29))
  have HC : Hid (∀ W, Below w.heap.size w W → (Sl W sn (ints c.next) ∧ Sl W sg (gcells c.gates) ∧ Sl W so (ints c.outs)) ∧ Sl W tn (ints c.next) ∧ Sl W tg (gcells c.gates) ∧ Sl W to_ (ints c.outs)) := fun W hW => ⟨⟨h1.1.mono hW, h1.2.1.mono hW, h1.2.2.mono hW⟩, h2.1.mono hW, h2.2.1.mono hW, h2.2.2.mono hW⟩
  clear h1 h2
  go_enter Try.func25, Try.ntmps25
  go_upto_region 1 with fail
  revert HB
  generalize ((w.alloc (.cells #[.int .i64 ni, .slice sn c.next.length cn, .slice sg c.gates.length cg, .slice so c.outs.length co] 29)).alloc (.cells #[.int .i64 ni, .slice tn c.next.length dn, .slice tg c.gates.length dg, .slice to_ c.outs.length do_] 29)) = W0
  intro HB
  have ca := (blk_all HB.out.a).1
  have cb := (blk_all HB.out.c).1
  go_upto_region 4 with (first
    | (go_at_call 34; ((with_reducible refine (sameInts_any _ _ _ _ c.next c.next _ (HC.out _ HB.out.bl).1.1 (HC.out _ HB.out.bl).2.1 (by omega) (by omega) rfl).mono ?_); rintro e w1 ⟨rfl, hd⟩; have HB := Lib.hid (HB.out.below (hd.below _)); clear hd ca cb; have ca := (blk_all HB.out.a).1; have cb := (blk_all HB.out.c).1))
    | (go_at_call 34; ((with_reducible refine (sameInts_any _ _ _ _ c.outs c.outs _ (HC.out _ HB.out.bl).1.2.2 (HC.out _ HB.out.bl).2.2.2 (by omega) (by omega) rfl).mono ?_); rintro e w2 ⟨rfl, hd⟩; have HB := Lib.hid (HB.out.below (hd.below _)); clear hd ca cb; have ca := (blk_all HB.out.a).1; have cb := (blk_all HB.out.c).1)))
  clear ca cb
  go_loopw [5] (fun i wr => ∃ k : Nat, k ≤ c.gates.length ∧ i = .int .i64 k ∧ Box2 w wr (.cells #[.int .i64 ni, .slice sn c.next.length cn, .slice sg c.gates.length cg, .slice so c.outs.length co] 29) (.cells #[.int .i64 ni, .slice tn c.next.length dn, .slice tg c.gates.length dg, .slice to_ c.outs.length do_] 29)) (fun i _ => c.gates.length - (intOf i).toNat)
  case atStart => exact ⟨0, Nat.zero_le _, rfl, HB.out⟩
  case round =>
    clear HB
    obtain ⟨k, hk, rfl, hB⟩ := hrel
    by_cases hlt : k < c.gates.length
    · obtain ⟨g, hg⟩ := get_of_lt hlt
      obtain ⟨⟨-, hg1, -⟩, -, hg2, -⟩ := HC.out _ hB.bl
      obtain ⟨b1, o1, rfl, hb1, z1, z2⟩ := hg1.gate (Below.refl _ _) hg
      obtain ⟨b2, o2, rfl, hb2, z3, z4⟩ := hg2.gate (Below.refl _ _) hg
      have ca := (blk_all hB.a).1
      have cb := (blk_all hB.c).1
      have HB := Lib.hid hB
      clear hB hg hg1 hg2 hb1 hb2
      go_upto_region 6 with fail
      go_quiet (fail)
      go_wp2_with fail
      go_roundw
      case rel => exact ⟨k + 1, by omega, by go_num, HB.out.below (below_n (Below.refl _ _) _)⟩
      case measure => simp [intOf]; omega
    · obtain rfl : k = c.gates.length := by omega
      have ca := (blk_all hB.a).1
      have HB := Lib.hid hB
      clear hB
      go_wp2_with fail
      go_ret
      exact ⟨rfl, HB.out.bl⟩

set_option maxRecDepth 100000 in
set_option maxHeartbeats 1600000 in
theorem SameInterface_any (c x : Cir) (ni : Int) (sn sg so tn tg to_ : Option Addr) (cn cg co dn dg do_ : Nat) (w : World)
    (h1 : CirV w (.agg #[.int .i64 ni, .slice sn c.next.length cn, .slice sg c.gates.length cg, .slice so c.outs.length co]) c) (h2 : CirV w (.agg #[.int .i64 ni, .slice tn c.next.length dn, .slice tg c.gates.length dg, .slice to_ c.outs.length do_]) x) (hv : c.validB = true) (hx : x.validB = true) :
    Calls Try.prog 79 #[.agg #[.int .i64 ni, .slice sn c.next.length cn, .slice sg c.gates.length cg, .slice so c.outs.length co], .agg #[.int .i64 ni, .slice tn c.next.length dn, .slice tg c.gates.length dg, .slice to_ c.outs.length do_]] w fun e w' => e = .returned (.bool true) ∧ Below w.heap.size w w' := by
  have HB := Lib.hid (Box2.new w (.cells #[.int .i64 ni, .slice sn c.next.length cn, .slice sg c.gates.length cg, .slice so c.outs.length co] 29) (.cells #[.int .i64 ni, .slice tn c.next.length dn, .slice tg c.gates.length dg, .slice to_ c.outs.length do_] 29))
  have HC : Hid (∀ W, Below w.heap.size w W → CirV W (.agg #[.int .i64 ni, .slice sn c.next.length cn, .slice sg c.gates.length cg, .slice so c.outs.length co]) c ∧ CirV W (.agg #[.int .i64 ni, .slice tn c.next.length dn, .slice tg c.gates.length dg, .slice to_ c.outs.length do_]) x) := fun W hW => ⟨h1.mono hW, h2.mono hW⟩
  have HV := Lib.hid (And.intro hv hx)
  clear h1 h2 hv hx
  go_enter Try.func79, Try.ntmps79
  go_upto_region 1 with fail
  revert HB
  generalize ((w.alloc (.cells #[.int .i64 ni, .slice sn c.next.length cn, .slice sg c.gates.length cg, .slice so c.outs.length co] 29)).alloc (.cells #[.int .i64 ni, .slice tn c.next.length dn, .slice tg c.gates.length dg, .slice to_ c.outs.length do_] 29)) = W0
  intro HB
  have ca := (blk_all HB.out.a).1
  have cb := (blk_all HB.out.c).1
  go_wp2_with (first
    | (go_at_call 56; ((with_reducible refine (CircuitValid_i _ c _ (HC.out _ HB.out.bl).1).mono ?_); rintro e w1 ⟨rfl, hq⟩; rw [HV.out.1]; have HB := Lib.hid (HB.out.below hq); clear hq ca cb; have ca := (blk_all HB.out.a).1; have cb := (blk_all HB.out.c).1))
    | (go_at_call 56; ((with_reducible refine (CircuitValid_i _ x _ (HC.out _ HB.out.bl).2).mono ?_); rintro e w1 ⟨rfl, hq⟩; rw [HV.out.2]; have HB := Lib.hid (HB.out.below hq); clear hq ca cb; have ca := (blk_all HB.out.a).1; have cb := (blk_all HB.out.c).1)))
  go_ret
  exact ⟨by simp, HB.out.bl⟩

/-! Detects. -/

set_option maxRecDepth 100000 in
set_option maxHeartbeats 1600000 in
theorem Detects_any (c : Cir) (ni : Nat) (li : c.inp = ni) (sn sg so : Option Addr) (cn cg co : Nat) (p : Int) (val : Bool) (k : Nat) (w : World)
    (h : CirV w (.agg #[.int .i64 c.inp, .slice sn c.next.length cn, .slice sg c.gates.length cg, .slice so c.outs.length co]) c) (hn : Sl w sn (ints c.next)) (hg : Sl w sg (gcells c.gates)) (ho : Sl w so (ints c.outs)) (hv : c.valid) (hp1 : 1 ≤ p) (hp2 : p < c.vars) (hk : k < asgN c) :
    Calls Try.prog 44 #[.agg #[.int .i64 ni, .slice sn c.next.length cn, .slice sg c.gates.length cg, .slice so c.outs.length co], .agg #[.int .i64 p, .bool val], .int .i64 k] w fun e w' => e = .returned (.bool (detV c p val k)) ∧ Below w.heap.size w w' := by
  have HB := Lib.hid (Box2.new w (.cells #[.int .i64 ni, .slice sn c.next.length cn, .slice sg c.gates.length cg, .slice so c.outs.length co] 29) (.cells #[.int .i64 p, .bool val] 51))
  have HC : Hid (∀ W, Below w.heap.size w W → CirV W (.agg #[.int .i64 c.inp, .slice sn c.next.length cn, .slice sg c.gates.length cg, .slice so c.outs.length co]) c ∧ Sl W sn (ints c.next) ∧ Sl W sg (gcells c.gates) ∧ Sl W so (ints c.outs)) := fun W hW => ⟨h.mono hW, hn.mono hW, hg.mono hW, ho.mono hW⟩
  have hvB := c.validB_iff.2 hv
  obtain ⟨q1, q2, q3, q4, q5⟩ := id hv.lim
  obtain ⟨N1, N2⟩ := asgN_le2 hv
  obtain ⟨N, hN⟩ : ∃ N, N = 2 ^ (c.inp.toNat + c.next.length) := ⟨_, rfl⟩
  have hkN : k < N := by rw [hN]; exact hk
  obtain ⟨VV, hVV⟩ : ∃ VV, VV = 1 + c.inp + (c.next.length : Int) + c.gates.length := ⟨_, rfl⟩
  have hpV : p < VV := by rw [hVV]; unfold Cir.vars at hp2; exact hp2
  have hk1000 : k ≤ 1000 := by omega
  have hvar : ∀ W, CirAt W w.heap.size c.inp (.slice sn c.next.length cn) (.slice sg c.gates.length cg) (.slice so c.outs.length co) → Calls Try.prog 78 #[.pointer (some ⟨w.heap.size, 0, none⟩)] W fun e w' => e = .returned (.int .i64 VV) ∧ Drew W w' := fun W hW => by
    rw [hVV]; exact vars_any _ _ _ _ _ _ _ _ _ _ hW (by omega) (by omega) (by omega)
  have hasg : ∀ W, CirAt W w.heap.size c.inp (.slice sn c.next.length cn) (.slice sg c.gates.length cg) (.slice so c.outs.length co) → Calls Try.prog 91 #[.pointer (some ⟨w.heap.size, 0, none⟩)] W fun e w' => e = .returned (.int .i64 (N : Int)) ∧ Drew W w' := fun W hW => by
    rw [hN]; exact assignments_any _ _ _ _ _ _ _ _ hW ⟨q1, q2⟩ q3
  have HX := Lib.hid (And.intro hv (And.intro li (And.intro hvB (And.intro hvar (And.intro hasg hp2)))))
  have HCA : Hid (∀ W, Box2 w W (.cells #[.int .i64 ni, .slice sn c.next.length cn, .slice sg c.gates.length cg, .slice so c.outs.length co] 29) (.cells #[.int .i64 p, .bool val] 51) → CirAt W w.heap.size c.inp (.slice sn c.next.length cn) (.slice sg c.gates.length cg) (.slice so c.outs.length co)) := fun W hW => by
    have h := CirAt.of_blk hW.a; rw [← li] at h; exact h
  clear h hn hg ho hv li hvB hN hVV hvar hasg hp2 hk N1 N2 q1 q2
  go_enter Try.func44, Try.ntmps44
  go_upto_region 1 with fail
  revert HB
  generalize ((w.alloc (.cells #[.int .i64 ni, .slice sn c.next.length cn, .slice sg c.gates.length cg, .slice so c.outs.length co] 29)).alloc (.cells #[.int .i64 p, .bool val] 51)) = W0
  intro HB
  have d1 : decide (p < 1) = false := decide_eq_false (by omega)
  have d2 : decide (VV ≤ p) = false := decide_eq_false (by omega)
  have d3 : decide ((k : Int) < 0) = false := decide_eq_false (by omega)
  have d4 : decide ((N : Int) ≤ (k : Int)) = false := decide_eq_false (by omega)
  have d5 : decide (N ≤ k) = false := decide_eq_false (by omega)
  have hS : Hid (∀ W, Box2 w W (.cells #[.int .i64 ni, .slice sn c.next.length cn, .slice sg c.gates.length cg, .slice so c.outs.length co] 29) (.cells #[.int .i64 p, .bool val] 51) → (fun w' => (∀ o, w'.cell? ⟨w.heap.size, o, none⟩ = #[Value.int .i64 ni, .slice sn c.next.length cn, .slice sg c.gates.length cg, .slice so c.outs.length co][o]?) ∧ (∀ o, w'.cell? ⟨w.heap.size + 1, o, none⟩ = #[Value.int .i64 p, .bool val][o]?)) W) := fun W hW => ⟨(blk_all hW.a).1, (blk_all hW.c).1⟩
  refine wp_region_T (fun w' => (∀ o, w'.cell? ⟨w.heap.size, o, none⟩ = #[Value.int .i64 ni, .slice sn c.next.length cn, .slice sg c.gates.length cg, .slice so c.outs.length co][o]?) ∧ (∀ o, w'.cell? ⟨w.heap.size + 1, o, none⟩ = #[Value.int .i64 p, .bool val][o]?)) (.q 0 (.e 1 (.q 2 (.q 3 (.q 4 (.q 5 (.q 6 (.q 7 (.q 8 (.q 9 (.q 10 (.e 11 (.q 12 (.q 13 (.q 14 (.q 15 (.q 16 (.q 17 (.q 18 (.q 19 (.e 20 (.q 21 (.q 22 .nil))))))))))))))))))))))) (by kernel_rfl) (by kernel_rfl) (by kernel_rfl) (hS.out _ (HB.out.below ((Below.refl _ _).drew))) ?_
  repeat (first | (refine ordt_s (o := ?_) ?_ ?_ ?_; rotate_left 1; (focus ((simp only [List.getElem?_toArray, List.getElem?_cons_succ, List.getElem?_cons_zero]) <;> rfl)); (focus rfl); simp only [Act.put, List.setIfInBounds_toArray, List.set_cons_zero, List.set_cons_succ]) | (refine ordt_q (o := ?_) (v := ?_) ?_ ?_ ?_ ?_; rotate_left 2; (focus ((simp only [List.getElem?_toArray, List.getElem?_cons_succ, List.getElem?_cons_zero]) <;> rfl)); (focus rfl); (focus (intro w' hS; (try dsimp only at hS); go_split_ands; go_simp; (try (with_reducible rfl)))); simp only [Act.put, List.setIfInBounds_toArray, List.set_cons_zero, List.set_cons_succ]))
  refine ordt_e ?_
  (refine op_e (o := ?_) ?_ ?_ (fun K hK => ?_); rotate_left 1; (focus ((simp only [List.getElem?_toArray, List.getElem?_cons_succ, List.getElem?_cons_zero]) <;> rfl)); (focus rfl); go_simp)
  have hbx := HB.out.below ((Below.refl _ _).drew)
  refine (CircuitValid_i _ c _ (by have h := (HC.out _ hbx.bl).1; rw [HX.out.2.1] at h; exact h)).mono ?_
  rintro e w1 ⟨rfl, hq⟩
  rw [HX.out.2.2.1]
  have hb1 := hbx.below hq
  refine hK.out _ _ (hS.out _ hb1) ?_
  clear hK K hq hbx
  have HB1 := Lib.hid hb1
  clear hb1
  (try simp only [Act.put, List.setIfInBounds_toArray, List.set_cons_zero, List.set_cons_succ])
  repeat (first | (refine ordt_s (o := ?_) ?_ ?_ ?_; rotate_left 1; (focus ((simp only [List.getElem?_toArray, List.getElem?_cons_succ, List.getElem?_cons_zero]) <;> rfl)); (focus rfl); simp only [Act.put, List.setIfInBounds_toArray, List.set_cons_zero, List.set_cons_succ]) | (refine ordt_q (o := ?_) (v := ?_) ?_ ?_ ?_ ?_; rotate_left 2; (focus ((simp only [List.getElem?_toArray, List.getElem?_cons_succ, List.getElem?_cons_zero]) <;> rfl)); (focus rfl); (focus (intro w' hS; (try dsimp only at hS); go_split_ands; go_simp; (try (with_reducible rfl)))); simp only [Act.put, List.setIfInBounds_toArray, List.set_cons_zero, List.set_cons_succ]))
  refine ordt_e ?_
  (refine op_e (o := ?_) ?_ ?_ (fun K hK => ?_); rotate_left 1; (focus ((simp only [List.getElem?_toArray, List.getElem?_cons_succ, List.getElem?_cons_zero]) <;> rfl)); (focus rfl); go_simp)
  refine (HX.out.2.2.2.1 _ (HCA.out _ HB1.out)).mono ?_
  rintro e w2 ⟨rfl, hd⟩
  have hb2 := HB1.out.below (hd.below _)
  refine hK.out _ _ (hS.out _ hb2) ?_
  clear hK K hd
  have HB2 := Lib.hid hb2
  clear hb2
  (try simp only [Act.put, List.setIfInBounds_toArray, List.set_cons_zero, List.set_cons_succ])
  repeat (first | (refine ordt_s (o := ?_) ?_ ?_ ?_; rotate_left 1; (focus ((simp only [List.getElem?_toArray, List.getElem?_cons_succ, List.getElem?_cons_zero]) <;> rfl)); (focus rfl); simp only [Act.put, List.setIfInBounds_toArray, List.set_cons_zero, List.set_cons_succ]) | (refine ordt_q (o := ?_) (v := ?_) ?_ ?_ ?_ ?_; rotate_left 2; (focus ((simp only [List.getElem?_toArray, List.getElem?_cons_succ, List.getElem?_cons_zero]) <;> rfl)); (focus rfl); (focus (intro w' hS; (try dsimp only at hS); go_split_ands; go_simp; (try (with_reducible rfl)))); simp only [Act.put, List.setIfInBounds_toArray, List.set_cons_zero, List.set_cons_succ]))
  refine ordt_e ?_
  (refine op_e (o := ?_) ?_ ?_ (fun K hK => ?_); rotate_left 1; (focus ((simp only [List.getElem?_toArray, List.getElem?_cons_succ, List.getElem?_cons_zero]) <;> rfl)); (focus rfl); go_simp)
  refine (HX.out.2.2.2.2.1 _ (HCA.out _ HB2.out)).mono ?_
  rintro e w3 ⟨rfl, hd⟩
  have hb3 := HB2.out.below (hd.below _)
  refine hK.out _ _ (hS.out _ hb3) ?_
  clear hK K hd
  have HB3 := Lib.hid hb3
  clear hb3
  (try simp only [Act.put, List.setIfInBounds_toArray, List.set_cons_zero, List.set_cons_succ])
  repeat (first | (refine ordt_s (o := ?_) ?_ ?_ ?_; rotate_left 1; (focus ((simp only [List.getElem?_toArray, List.getElem?_cons_succ, List.getElem?_cons_zero]) <;> rfl)); (focus rfl); simp only [Act.put, List.setIfInBounds_toArray, List.set_cons_zero, List.set_cons_succ]) | (refine ordt_q (o := ?_) (v := ?_) ?_ ?_ ?_ ?_; rotate_left 2; (focus ((simp only [List.getElem?_toArray, List.getElem?_cons_succ, List.getElem?_cons_zero]) <;> rfl)); (focus rfl); (focus (intro w' hS; (try dsimp only at hS); go_split_ands; go_simp; (try (with_reducible rfl)))); simp only [Act.put, List.setIfInBounds_toArray, List.set_cons_zero, List.set_cons_succ]))
  refine ordt_nil ?_
  have cb := (blk_all HB3.out.a).1
  have cf := (blk_all HB3.out.c).1
  go_wp2_with (go_at_call 90; ((refine (detects_any _ sn sg so cn cg co c k p val _ (HCA.out _ HB3.out) (HC.out _ HB3.out.bl).2.1 (HC.out _ HB3.out.bl).2.2.1 (HC.out _ HB3.out.bl).2.2.2 HX.out.1 hk1000 (by omega) HX.out.2.2.2.2.2).mono ?_); rintro e w4 ⟨rfl, hq⟩; have HB4 := Lib.hid (HB3.out.below hq); clear hq))
  go_ret
  exact ⟨rfl, HB4.out.bl⟩

end Go.Proofs.Ytindndcdpnpcmaa
