import Derived.Test.YtaboipnigeaopaaV3
import Derived.Test.YtaboipnigeaopaaOA
import Derived.Test.YtaboipnigeaopaaL4
namespace Go.Proofs.Ytaboipnigeaopaa
set_option linter.unusedVariables false
set_option linter.unusedSimpArgs false
open Go.RowKit

/-! Values of variables, for the laws. -/

set_option maxHeartbeats 800000 in
theorem bitsL_any (x : Int) (n : Nat) (w : World) (h0 : 0 ≤ x) (h1 : x ≤ 1000000) (hn : n ≤ 20) :
    Calls Try.prog 19 #[.int .i64 x, .int .i64 n] w fun e w' => ∃ s c, e = .returned (.slice s n c) ∧ Sl w' s (bools (bitsV x n)) ∧ Below w.heap.size w w' := by
  have HB : Hid ((w.alloc (.cells #[] 4)).heap[w.heap.size]? = some (.cells #[] 4 (0, 0)) ∧ Below w.heap.size w (w.alloc (.cells #[] 4))) := ⟨blk_new _ _, (Below.refl _ _).alloc (Nat.le_refl _) _⟩
  have hw : Hid ((w.alloc (.cells #[] 4)).heap.size = w.heap.size + 1) := by show _ = _; simp
  go_enter Try.func19, Try.ntmps19
  go_upto_region 3 with fail
  revert HB hw
  generalize w.alloc (.cells #[] 4) = W0
  intro HB hw
  go_loopw [6, 5] (fun i v5 wr => ∃ (k : Nat) (s : Option Addr) (cc : Nat), k ≤ n ∧ i = .int .i64 k ∧ v5 = .slice s k cc ∧ wr.ownsRow w.heap.size 4 1 v5 k (bools (bitsV x k)) ∧ Below w.heap.size W0 wr) (fun i _ _ => n - (intOf i).toNat)
  case atStart => exact ⟨0, _, _, Nat.zero_le _, rfl, rfl, own_of_blk (n := 0) (cur := #[]) HB.out.1 (Nat.le_refl _) (by simp) (by unfold maxLen; omega), Below.refl _ _⟩
  case round =>
    obtain ⟨k, s, cc, hk, rfl, rfl, ho, hbl⟩ := hrel
    have hsz : w.heap.size + 1 ≤ wr.heap.size := by have h1 := hbl.size; have h2 := hw.out; omega
    have HR := Lib.hid (And.intro ho hbl)
    clear ho hbl
    by_cases hlt : k < n
    · have hpw : (1 : Int) ≤ 2 ^ k := by have : (0 : Int) < 2 ^ k := Int.pow_pos (by decide); omega
      have q1 : 0 ≤ x / 2 ^ k := Int.ediv_nonneg h0 (by omega)
      have q2 : x / 2 ^ k ≤ 1000000 := Int.le_trans (Int.ediv_le_self _ h0) h1
      have HP := Lib.hid hpw
      clear hpw
      go_wp2_with (at_builtin; refine wpl_app rfl _ _ rfl elem_bool (own_below HR.out.1 ((Below.refl _ _).alloc (Nat.le_refl _) _)) rfl rfl rfl (Sl.new _ _ _) (by simp [Value.oneCell']) (k + 1) rfl (bools (bitsV x (k + 1))) (by rw [bitsV_snoc, ← bools_append]; rfl) (by unfold maxLen; omega) (by omega) (by simp; omega) ?_; intro s6 c6 w6 h6 hb6 _ _; have HA := Lib.hid (And.intro h6 ((HR.out.2.alloc (by omega) _).trans hb6)); clear h6 hb6)
      go_roundw
      case rel => exact ⟨k + 1, s6, c6, by omega, by go_num, rfl, HA.out.1, HA.out.2⟩
      case measure => simp [intOf]; omega
    · obtain rfl : n = k := by omega
      go_wp2_with fail
      go_ret
      exact ⟨s, cc, rfl, own_sl HR.out.1, HB.out.2.trans HR.out.2⟩

set_option maxHeartbeats 800000 in
theorem EvalVars_any (c : Cir) (sn sg so ss si : Option Addr) (cn cg co cs ci : Nat) (S I : List Bool) (w : World) (ni : Nat) (li : c.inp = ni)
    (h : CirV w (.agg #[.int .i64 c.inp, .slice sn c.next.length cn, .slice sg c.gates.length cg, .slice so c.outs.length co]) c) (hg : Sl w sg (gcells c.gates)) (hv : c.valid) (hS : Sl w ss (bools S)) (hI : Sl w si (bools I)) (lS : S.length = c.next.length) (lI : I.length = ni) (V : Nat) (hV : c.vars = V) :
    Calls Try.prog 51 #[.agg #[.int .i64 ni, .slice sn c.next.length cn, .slice sg c.gates.length cg, .slice so c.outs.length co], .slice ss c.next.length cs, .slice si ni ci] w fun e w' => ∃ g, e = .returned (.slice (some ⟨g, 0, none⟩) V V) ∧
      w'.heap[g]? = some (.cells (bools (valsV (-1) false (stuckB (-1) false (false :: (I ++ S))) c.gates)).toArray 4 (0, 0)) ∧ Below w.heap.size w w' := by
  rw [li] at h
  have hk := blk_new w (.cells #[.int .i64 ni, .slice sn c.next.length cn, .slice sg c.gates.length cg, .slice so c.outs.length co] 26)
  have hb : Below w.heap.size w (w.alloc (.cells #[.int .i64 ni, .slice sn c.next.length cn, .slice sg c.gates.length cg, .slice so c.outs.length co] 26)) := (Below.refl _ _).alloc (Nat.le_refl _) _
  have HC : Hid (∀ W, Below w.heap.size w W → CirV W (.agg #[.int .i64 ni, .slice sn c.next.length cn, .slice sg c.gates.length cg, .slice so c.outs.length co]) c ∧ Sl W sg (gcells c.gates) ∧ Sl W ss (bools S) ∧ Sl W si (bools I)) := fun W hW => ⟨h.mono hW, hg.mono hW, hS.mono hW, hI.mono hW⟩
  obtain ⟨q1, q2, q3, q4, q5⟩ := id hv.lim
  have n4 : ni ≤ 4 := by omega
  have hvt := c.validB_iff.2 hv
  have H := Lib.hid (And.intro hk (And.intro hb (And.intro hv (And.intro lS (And.intro lI (And.intro li (And.intro hV hvt)))))))
  have hvp : -1 < (V : Int) := by omega
  clear h hg hS hI hk hb hv lS lI li hV hvt q1 q2
  go_enter Try.func51, Try.ntmps51
  go_upto_region 1 with fail
  revert H
  generalize w.alloc (.cells #[.int .i64 ni, .slice sn c.next.length cn, .slice sg c.gates.length cg, .slice so c.outs.length co] 26) = W0
  intro H
  have cb := (blk_all H.out.1).1
  go_wp2_with (first
    | (go_at_call 10; ((with_reducible refine (CircuitValid_i _ c _ (HC.out _ H.out.2.1).1).mono ?_); rintro e w1 ⟨rfl, hq⟩; rw [H.out.2.2.2.2.2.2.2]; have H1 := Lib.hid (And.intro (blk_below hq (blk_lt H.out.1) H.out.1) (H.out.2.1.trans (hq.mono H.out.2.1.size))); clear hq cb; have cb := (blk_all H1.out.1).1))
    | (go_at_call 76; ((refine (evaluate_any w.heap.size sn sg cn cg (.slice so c.outs.length co) c ss si cs ci S I (-1) false w1 (by have h := CirAt.of_blk H1.out.1; rw [← H.out.2.2.2.2.2.1] at h; exact h) (HC.out _ H1.out.2).2.1 H.out.2.2.1 (HC.out _ H1.out.2).2.2.1 (HC.out _ H1.out.2).2.2.2 H.out.2.2.2.1 ni H.out.2.2.2.2.1 H.out.2.2.2.2.2.1 V H.out.2.2.2.2.2.2.1 (by omega) hvp).mono ?_); rintro e w2 ⟨g, rfl, hz, hq⟩; have H2 := Lib.hid (And.intro hz (H1.out.2.trans (hq.mono H1.out.2.size))); clear hz hq)))
  go_ret
  exact ⟨g, rfl, H2.out.1, H2.out.2⟩

/-! The value of a literal, for the laws; rows of ints compared. -/

theorem evalV_eq (c : Cir) (x : Int) (ni : Nat) (li : c.inp = ni) : valsV (-1) false (stuckB (-1) false (false :: (bitsV x ni ++ bitsV (x / 2 ^ ni) c.next.length))) c.gates = evalV c x (-1) false := by
  unfold evalV asgV
  rw [li, Int.toNat_natCast]

set_option maxHeartbeats 800000 in
theorem sameInts_any (sa sb : Option Addr) (ca cb : Nat) (xs ys : List Int) (w : World) (ha : Sl w sa (ints xs)) (hb : Sl w sb (ints ys)) (hl : xs.length ≤ 1000000) (hl2 : ys.length ≤ 1000000) (he : xs = ys) :
    Calls Try.prog 15 #[.slice sa xs.length ca, .slice sb ys.length cb] w fun e w' => e = .returned (.bool true) ∧ Drew w w' := by
  subst he
  have H := Lib.hid (And.intro ha hb)
  clear ha hb
  go_enter Try.func15, Try.ntmps15
  go_upto_region 4 with fail
  go_loopw [5] (fun i wr => ∃ k : Nat, k ≤ xs.length ∧ i = .int .i64 k ∧ Drew w wr) (fun i _ => xs.length - (intOf i).toNat)
  case atStart => exact ⟨0, Nat.zero_le _, rfl, 0, rfl⟩
  case round =>
    obtain ⟨k, hk, rfl, hd⟩ := hrel
    by_cases hlt : k < xs.length
    · obtain ⟨x, hx⟩ := get_of_lt hlt
      have hD := hd
      obtain ⟨b1, o1, rfl, hb1, z1⟩ := H.out.1.int (hd.below _) hx
      obtain ⟨b2, o2, rfl, hb2, z2⟩ := H.out.2.int (hd.below _) hx
      have HD := Lib.hid hd
      clear hd hD hx
      go_upto_region 6 with fail
      go_quiet (fail)
      go_wp2_with fail
      go_roundw
      case rel => exact ⟨k + 1, by omega, by go_num, HD.out.n _⟩
      case measure => simp [intOf]; omega
    · obtain rfl : k = xs.length := by omega
      have HD := Lib.hid hd
      clear hd
      go_wp2_with fail
      go_ret
      exact ⟨rfl, HD.out⟩

end Go.Proofs.Ytaboipnigeaopaa
