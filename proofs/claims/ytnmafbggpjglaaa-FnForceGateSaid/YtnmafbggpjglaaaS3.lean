import Derived.Test.YtnmafbggpjglaaaS2
namespace Go.Proofs.Ytnmafbggpjglaaa
set_option linter.unusedVariables false
set_option linter.unusedSimpArgs false
open Go.RowKit

/-! Circuits compared; interfaces; Detects. -/

set_option maxRecDepth 100000 in
set_option maxHeartbeats 1600000 in
theorem sameCircuit_any (c : Cir) (ni : Int) (sn sg so tn tg to_ : Option Addr) (cn cg co dn dg do_ : Nat) (w : World)
    (h1 : Sl w sn (ints c.next) ∧ Sl w sg (gcells c.gates) ∧ Sl w so (ints c.outs)) (h2 : Sl w tn (ints c.next) ∧ Sl w tg (gcells c.gates) ∧ Sl w to_ (ints c.outs)) (l1 : c.next.length ≤ 1000) (l2 : c.gates.length ≤ 1000) (l3 : c.outs.length ≤ 1000) :
    Calls Try.prog 37 #[.agg #[.int .i64 ni, .slice sn c.next.length cn, .slice sg c.gates.length cg, .slice so c.outs.length co], .agg #[.int .i64 ni, .slice tn c.next.length dn, .slice tg c.gates.length dg, .slice to_ c.outs.length do_]] w fun e w' => e = .returned (.bool true) ∧ Below w.heap.size w w' := by
  have HB := Lib.hid (Box2.new w (.cells #[.int .i64 ni, .slice sn c.next.length cn, .slice sg c.gates.length cg, .slice so c.outs.length co] 26) (.cells #[.int .i64 ni, .slice tn c.next.length dn, .slice tg c.gates.length dg, .slice to_ c.outs.length do_] 26))
  have HC : Hid (∀ W, Below w.heap.size w W → (Sl W sn (ints c.next) ∧ Sl W sg (gcells c.gates) ∧ Sl W so (ints c.outs)) ∧ Sl W tn (ints c.next) ∧ Sl W tg (gcells c.gates) ∧ Sl W to_ (ints c.outs)) := fun W hW => ⟨⟨h1.1.mono hW, h1.2.1.mono hW, h1.2.2.mono hW⟩, h2.1.mono hW, h2.2.1.mono hW, h2.2.2.mono hW⟩
  clear h1 h2
  go_enter Try.func37, Try.ntmps37
  go_upto_region 1 with fail
  revert HB
  generalize ((w.alloc (.cells #[.int .i64 ni, .slice sn c.next.length cn, .slice sg c.gates.length cg, .slice so c.outs.length co] 26)).alloc (.cells #[.int .i64 ni, .slice tn c.next.length dn, .slice tg c.gates.length dg, .slice to_ c.outs.length do_] 26)) = W0
  intro HB
  have ca := (blk_all HB.out.a).1
  have cb := (blk_all HB.out.c).1
  go_upto_region 4 with (first
    | (go_at_call 15; ((with_reducible refine (sameInts_any _ _ _ _ c.next c.next _ (HC.out _ HB.out.bl).1.1 (HC.out _ HB.out.bl).2.1 (by omega) (by omega) rfl).mono ?_); rintro e w1 ⟨rfl, hd⟩; have HB := Lib.hid (HB.out.below (hd.below _)); clear hd ca cb; have ca := (blk_all HB.out.a).1; have cb := (blk_all HB.out.c).1))
    | (go_at_call 15; ((with_reducible refine (sameInts_any _ _ _ _ c.outs c.outs _ (HC.out _ HB.out.bl).1.2.2 (HC.out _ HB.out.bl).2.2.2 (by omega) (by omega) rfl).mono ?_); rintro e w2 ⟨rfl, hd⟩; have HB := Lib.hid (HB.out.below (hd.below _)); clear hd ca cb; have ca := (blk_all HB.out.a).1; have cb := (blk_all HB.out.c).1)))
  clear ca cb
  go_loopw [5] (fun i wr => ∃ k : Nat, k ≤ c.gates.length ∧ i = .int .i64 k ∧ Box2 w wr (.cells #[.int .i64 ni, .slice sn c.next.length cn, .slice sg c.gates.length cg, .slice so c.outs.length co] 26) (.cells #[.int .i64 ni, .slice tn c.next.length dn, .slice tg c.gates.length dg, .slice to_ c.outs.length do_] 26)) (fun i _ => c.gates.length - (intOf i).toNat)
  case atStart => exact ⟨0, Nat.zero_le _, rfl, HB.out⟩
  case round =>
    clear HB
    obtain ⟨k, hk, rfl, hB⟩ := hrel
    by_cases hlt : k < c.gates.length
    · obtain ⟨g, hg⟩ := get_of_lt hlt
      obtain ⟨⟨-, hg1, -⟩, -, hg2, -⟩ := HC.out _ hB.bl
      obtain ⟨b1, o1, rfl, hb1, z1, z2⟩ := hg1.gate (Below.refl _ _) hg
      obtain ⟨b2, o2, rfl, hb2, z3, z4⟩ := hg2.gate (Below.refl _ _) hg
      have ca := (blk_all hB.a).1
      have cb := (blk_all hB.c).1
      have HB := Lib.hid hB
      clear hB hg hg1 hg2 hb1 hb2
      go_upto_region 6 with fail
      go_quiet (fail)
      go_wp2_with fail
      go_roundw
      case rel => exact ⟨k + 1, by omega, by go_num, HB.out.below (below_n (Below.refl _ _) _)⟩
      case measure => simp [intOf]; omega
    · obtain rfl : k = c.gates.length := by omega
      have ca := (blk_all hB.a).1
      have HB := Lib.hid hB
      clear hB
      go_wp2_with fail
      go_ret
      exact ⟨rfl, HB.out.bl⟩

set_option maxRecDepth 100000 in
set_option maxHeartbeats 1600000 in
theorem SameInterface_any (c x : Cir) (ni : Int) (sn sg so tn tg to_ : Option Addr) (cn cg co dn dg do_ : Nat) (w : World)
    (h1 : CirV w (.agg #[.int .i64 ni, .slice sn c.next.length cn, .slice sg c.gates.length cg, .slice so c.outs.length co]) c) (h2 : CirV w (.agg #[.int .i64 ni, .slice tn c.next.length dn, .slice tg c.gates.length dg, .slice to_ c.outs.length do_]) x) (hv : c.validB = true) (hx : x.validB = true) :
    Calls Try.prog 41 #[.agg #[.int .i64 ni, .slice sn c.next.length cn, .slice sg c.gates.length cg, .slice so c.outs.length co], .agg #[.int .i64 ni, .slice tn c.next.length dn, .slice tg c.gates.length dg, .slice to_ c.outs.length do_]] w fun e w' => e = .returned (.bool true) ∧ Below w.heap.size w w' := by
  have HB := Lib.hid (Box2.new w (.cells #[.int .i64 ni, .slice sn c.next.length cn, .slice sg c.gates.length cg, .slice so c.outs.length co] 26) (.cells #[.int .i64 ni, .slice tn c.next.length dn, .slice tg c.gates.length dg, .slice to_ c.outs.length do_] 26))
  have HC : Hid (∀ W, Below w.heap.size w W → CirV W (.agg #[.int .i64 ni, .slice sn c.next.length cn, .slice sg c.gates.length cg, .slice so c.outs.length co]) c ∧ CirV W (.agg #[.int .i64 ni, .slice tn c.next.length dn, .slice tg c.gates.length dg, .slice to_ c.outs.length do_]) x) := fun W hW => ⟨h1.mono hW, h2.mono hW⟩
  have HV := Lib.hid (And.intro hv hx)
  clear h1 h2 hv hx
  go_enter Try.func41, Try.ntmps41
  go_upto_region 1 with fail
  revert HB
  generalize ((w.alloc (.cells #[.int .i64 ni, .slice sn c.next.length cn, .slice sg c.gates.length cg, .slice so c.outs.length co] 26)).alloc (.cells #[.int .i64 ni, .slice tn c.next.length dn, .slice tg c.gates.length dg, .slice to_ c.outs.length do_] 26)) = W0
  intro HB
  have ca := (blk_all HB.out.a).1
  have cb := (blk_all HB.out.c).1
  go_wp2_with (first
    | (go_at_call 45; ((with_reducible refine (CircuitValid_i _ c _ (HC.out _ HB.out.bl).1).mono ?_); rintro e w1 ⟨rfl, hq⟩; rw [HV.out.1]; have HB := Lib.hid (HB.out.below hq); clear hq ca cb; have ca := (blk_all HB.out.a).1; have cb := (blk_all HB.out.c).1))
    | (go_at_call 45; ((with_reducible refine (CircuitValid_i _ x _ (HC.out _ HB.out.bl).2).mono ?_); rintro e w1 ⟨rfl, hq⟩; rw [HV.out.2]; have HB := Lib.hid (HB.out.below hq); clear hq ca cb; have ca := (blk_all HB.out.a).1; have cb := (blk_all HB.out.c).1)))
  go_ret
  exact ⟨by simp, HB.out.bl⟩

end Go.Proofs.Ytnmafbggpjglaaa
