import Derived.Test.YtindndcdpnpcmaaY0
import Derived.Test.YtindndcdpnpcmaaOA
import Derived.Test.YtindndcdpnpcmaaA4
import Derived.Test.YtindndcdpnpcmaaV3
import Derived.Test.YtindndcdpnpcmaaR1
namespace Go.Proofs.Ytindndcdpnpcmaa
set_option linter.unusedVariables false
set_option linter.unusedSimpArgs false
open Go.RowKit

theorem OwnSS.base {w : World} {base base' : Nat} {v : Value} {rows : List (List Int)} (h : OwnSS w base v rows) (hb : base' ≤ base) : OwnSS w base' v rows := by
  obtain ⟨vs, h1, h2, h3⟩ := h
  exact ⟨vs, own_base h1 hb, fun i r hr => let ⟨u, hu, ho⟩ := h2 i r hr; ⟨u, hu, own_base ho hb⟩, h3⟩

/-- A formula that was drawn. -/
def DrawnF (w : World) (e : Ending) (w' : World) : Prop :=
  ∃ (s' : Option Addr) (c' : Nat) (rows : List (List Int)), e = .returned (.slice s' rows.length c') ∧ OwnSS w' w.heap.size (.slice s' rows.length c') rows ∧ rows.length ≤ 81 ∧ (∀ r ∈ rows, r.length ≤ 4) ∧ Below w.heap.size w w'

theorem alive_any (w : World) : Calls Try.prog 27 #[] w fun e w' => e = .returned (.bool true) ∧ Below w.heap.size w w' := by
  go_enter Try.func27, Try.ntmps27
  go_wp2_with (go_at_call 56; (refine (CircuitValid_i _ ⟨0, [], [], []⟩ _ ⟨none, 0, none, 0, none, 0, rfl, .inl rfl, .inl rfl, .inl rfl, by simp, by simp, by simp⟩).mono ?_); rintro e w' ⟨rfl, hq⟩; have HQ := Lib.hid hq; clear hq)
  go_ret
  exact ⟨by congr 1, HQ.out⟩

/-! A literal exists; how many variables there are. -/

theorem asgN_le2 {c : Cir} (h : c.valid) : 1 ≤ asgN c ∧ asgN c ≤ 128 := by
  obtain ⟨q1, q2, q3, q4, q5⟩ := h.lim
  unfold asgN
  exact ⟨Nat.pow_pos (by omega), Nat.le_trans (Nat.pow_le_pow_right (by omega) (show c.inp.toNat + c.next.length ≤ 7 by omega)) (by decide)⟩

theorem VarCount_any (v : Value) (c : Cir) (w : World) (h : CirV w v c) (hv : c.validB = true) :
    Calls Try.prog 28 #[v] w fun e w' => e = .returned (.int .i64 c.vars) ∧ Below w.heap.size w w' := by
  have HC : Hid (∀ w', Below w.heap.size w w' → CirV w' v c) := fun w' hb => h.mono hb
  obtain ⟨sn, cn, sg, cg, so, co, rfl, h1, h2, h3, hl1, hl2, hl3⟩ := h
  have hL : Below w.heap.size w (w.alloc (.cells #[.int .i64 c.inp, .slice sn c.next.length cn, .slice sg c.gates.length cg, .slice so c.outs.length co] 29)) := by go_grown
  have hN := blk_new w (.cells #[.int .i64 c.inp, .slice sn c.next.length cn, .slice sg c.gates.length cg, .slice so c.outs.length co] 29)
  obtain ⟨q1, q2, q3, q4, q5⟩ := (c.validB_iff.1 hv).lim
  have HL := Lib.hid (And.intro hL (And.intro hN hv))
  clear h1 h2 h3 hL hN hv
  go_enter Try.func28, Try.ntmps28
  go_upto_region 1 with fail
  revert HL
  generalize (w.alloc (.cells #[.int .i64 c.inp, .slice sn c.next.length cn, .slice sg c.gates.length cg, .slice so c.outs.length co] 29)) = W1
  intro HL
  have cb := (blk_all HL.out.2.1).1
  go_wp2_with (first
    | (go_at_call 56; ((with_reducible refine (CircuitValid_i _ c _ (HC.out _ HL.out.1)).mono ?_); rintro e w1 ⟨rfl, hq⟩; rw [HL.out.2.2]; have H1 := Lib.hid (And.intro (HL.out.1.trans (hq.mono HL.out.1.size)) (blk_below hq (blk_lt HL.out.2.1) HL.out.2.1)); clear hq cb; have cb := (blk_all H1.out.2).1))
    | (go_at_call 78; ((refine (vars_any _ _ _ _ _ _ _ _ _ _ (CirAt.of_blk H1.out.2) (by omega) (by omega) (by omega)).mono ?_); rintro e w2 ⟨rfl, hd⟩; have H2 := Lib.hid (H1.out.1.trans ((hd.below _).mono H1.out.1.size)); clear hd)))
  go_ret
  exact ⟨rfl, H2.out⟩

end Go.Proofs.Ytindndcdpnpcmaa
