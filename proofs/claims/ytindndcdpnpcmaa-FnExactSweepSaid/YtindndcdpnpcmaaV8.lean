import Derived.Test.YtindndcdpnpcmaaV7
import Derived.Test.YtindndcdpnpcmaaL3
namespace Go.Proofs.Ytindndcdpnpcmaa
set_option linter.unusedVariables false
set_option linter.unusedSimpArgs false
open Go.RowKit

/-! SameFunction, both. -/

def sfOk (c : Cir) (p q : Int) : Prop := c.validB = true ∧ (0 ≤ p ∧ p < c.vars) ∧ 0 ≤ q ∧ q < c.vars
instance (c : Cir) (p q : Int) : Decidable (sfOk c p q) := inferInstanceAs (Decidable (_ ∧ _))
def sfR (c : Cir) (p q : Int) : Int := if sfOk c p q then sameV c p.toNat q.toNat else 0
theorem sfR_no {c : Cir} {p q : Int} (h : ¬ sfOk c p q) : sfR c p q = 0 := by unfold sfR; rw [if_neg h]
theorem sfR_yes {c : Cir} {p q : Int} (h : sfOk c p q) : sfR c p q = sameV c p.toNat q.toNat := by unfold sfR; rw [if_pos h]
theorem Sl.two {w wr : World} {s : Option Addr} {cs : List Value} (h : Sl w s cs) (hbl : Below w.heap.size w wr) {j k : Nat} {x y : Value} (hx : cs[j]? = some x) (hy : cs[k]? = some y) :
    ∃ b off, s = some ⟨b, off, none⟩ ∧ b < w.heap.size ∧ wr.cell? ⟨b, off + j, none⟩ = some x ∧ wr.cell? ⟨b, off + k, none⟩ = some y := by
  obtain ⟨b, off, rfl, hbw, hcs⟩ := h.at (k := j) (List.getElem?_eq_some_iff.1 hx).1
  exact ⟨b, off, rfl, hbw, by rw [hbl.cell (by exact hbw)]; exact hcs _ _ hx, by rw [hbl.cell (by exact hbw)]; exact hcs _ _ hy⟩

theorem compareCols_any (c : Cir) (p q : Nat) (w : World) (hN : asgN c ≤ 1000) :
    Calls Try.prog 73 #[.string (bstr (colV c p) (asgN c)), .string (bstr (colV c q) (asgN c))] w fun e w' => e = .returned (.int .i64 (sameV c p q)) ∧ Drew w w' := compareColumns_any _ _ _ w hN

set_option maxHeartbeats 1600000 in
theorem SameFunction_i (v : Value) (c : Cir) (p q : Int) (w : World) (h : CirV w v c) :
    Calls Try.prog 29 #[v, .int .i64 p, .int .i64 q] w fun e w' => e = .returned (.int .i64 (sfR c p q)) ∧ Below w.heap.size w w' := by
  have HC : Hid (∀ w', Below w.heap.size w w' → CirV w' v c) := fun w' hb => h.mono hb
  obtain ⟨sn, cn, sg, cg, so, co, rfl, h1, h2, h3, hl1, hl2, hl3⟩ := h
  have hL : Below w.heap.size w (w.alloc (.cells #[.int .i64 c.inp, .slice sn c.next.length cn, .slice sg c.gates.length cg, .slice so c.outs.length co] 29)) := by go_grown
  have hN := blk_new w (.cells #[.int .i64 c.inp, .slice sn c.next.length cn, .slice sg c.gates.length cg, .slice so c.outs.length co] 29)
  have HL := Lib.hid (And.intro hL (And.intro hN (And.intro h1 (And.intro h2 h3))))
  clear hL hN h1 h2 h3
  cases hv : c.validB
  · have e : sfR c p q = 0 := sfR_no fun h => by rw [h.1] at hv; cases hv
    rw [e]
    have HE := Lib.hid hv
    clear hv e
    go_enter Try.func29, Try.ntmps29
    go_wp2_with (go_at_call 56; ((with_reducible refine (CircuitValid_i _ _ _ (HC.out _ HL.out.1)).mono ?_); rintro e w1 ⟨rfl, hq⟩; have HQ := Lib.hid hq; clear hq; rw [HE.out]))
    go_ret
    exact ⟨rfl, HL.out.1.trans (HQ.out.mono (by simp))⟩
  · have hval := c.validB_iff.1 hv
    obtain ⟨f1, f2, f3, f4⟩ := valid_first hval
    obtain ⟨q1, q2, q3, q4, q5⟩ := id hval.lim
    obtain ⟨V, hV⟩ : ∃ V : Nat, c.vars = V := ⟨c.vars.toNat, by omega⟩
    have e2 : 1 + c.inp + (c.next.length : Int) + (c.gates.length : Int) = (V : Int) := hV
    have v22 : V ≤ 22 := by omega
    obtain ⟨n1, n2⟩ := asgN_le hval
    have HH := Lib.hid (And.intro hv (And.intro hval (And.intro hV (And.intro e2 n2))))
    clear hv hval f1 f2 f3 f4 hV e2 n1 n2
    by_cases hok : (0 ≤ p ∧ p < (V : Int)) ∧ 0 ≤ q ∧ q < (V : Int)
    · obtain ⟨⟨o1, o2⟩, o3, o4⟩ := hok
      obtain ⟨p, rfl⟩ : ∃ P : Nat, p = P := ⟨p.toNat, by omega⟩
      obtain ⟨q, rfl⟩ : ∃ P : Nat, q = P := ⟨q.toNat, by omega⟩
      have e : sfR c p q = sameV c p q := sfR_yes ⟨HH.out.1, ⟨by omega, by rw [HH.out.2.2.1]; exact o2⟩, by omega, by rw [HH.out.2.2.1]; exact o4⟩
      have HE := Lib.hid e
      clear e
      go_enter Try.func29, Try.ntmps29
      go_wp2_with (first
        | (go_at_call 56; ((with_reducible refine (CircuitValid_i _ _ _ (HC.out _ HL.out.1)).mono ?_); rintro e w1 ⟨rfl, hq⟩; have HQ := Lib.hid (And.intro (blk_below hq (blk_lt HL.out.2.1) HL.out.2.1) (HL.out.1.trans (hq.mono (by simp)))); clear hq; rw [HH.out.1]))
        | (go_at_call 78; ((refine (vars_any _ _ _ _ _ _ _ _ _ _ (CirAt.of_blk HQ.out.1) (by omega) (by omega) (by omega)).mono ?_); rintro e w3 ⟨rfl, hd⟩; rw [HH.out.2.2.2.1]; have HQ := Lib.hid (And.intro (blk_below (hd.below _) (blk_lt HQ.out.1) HQ.out.1) (HQ.out.2.trans (hd.below _))); clear hd))
        | (go_at_call 70; ((refine (functions_any _ _ _ _ _ _ c _ (CirAt.of_blk HQ.out.1) (HL.out.2.2.2.1.mono HQ.out.2) HH.out.2.1 V HH.out.2.2.1).mono ?_); rintro e w4 ⟨s4, c4, rfl, hs4, hq⟩; have HF := Lib.hid (And.intro hs4 (HQ.out.2.trans (hq.mono HQ.out.2.size))); clear hs4 hq)))
      obtain ⟨fb, off, rfl, hfb, z1, z2⟩ := HF.out.1.two (Below.refl _ _) (j := p) (k := q) (x := .string (bstr (colV c p) (asgN c))) (y := .string (bstr (colV c q) (asgN c))) (by rw [List.getElem?_map, List.getElem?_range (by omega)]; rfl) (by rw [List.getElem?_map, List.getElem?_range (by omega)]; rfl)
      go_quiet ((go_at_call 73; exact Calls.quiet_of (compareCols_any c p q _ (by have := HH.out.2.2.2.2; omega))))
      go_wp2_with fail
      go_ret
      exact ⟨ret_int HE.out.symm, below_n HF.out.2 _⟩
    · have e : sfR c p q = 0 := sfR_no fun h => hok (by have h1 := h.2; rw [HH.out.2.2.1] at h1; exact h1)
      have HE := Lib.hid (And.intro e hok)
      clear e hok
      go_enter Try.func29, Try.ntmps29
      go_wp2_with (first
        | (go_at_call 56; ((with_reducible refine (CircuitValid_i _ _ _ (HC.out _ HL.out.1)).mono ?_); rintro e w1 ⟨rfl, hq⟩; have HQ := Lib.hid (And.intro (blk_below hq (blk_lt HL.out.2.1) HL.out.2.1) (HL.out.1.trans (hq.mono (by simp)))); clear hq; rw [HH.out.1]))
        | (go_at_call 78; ((refine (vars_any _ _ _ _ _ _ _ _ _ _ (CirAt.of_blk HQ.out.1) (by omega) (by omega) (by omega)).mono ?_); rintro e w3 ⟨rfl, hd⟩; rw [HH.out.2.2.2.1]; have HQ := Lib.hid (And.intro (blk_below (hd.below _) (blk_lt HQ.out.1) HQ.out.1) (HQ.out.2.trans (hd.below _))); clear hd))
        | (go_at_call 70; exfalso; apply HE.out.2; omega))
      all_goals first
        | (go_ret; exact ⟨ret_int HE.out.1.symm, HQ.out.2⟩)
        | (exfalso; apply HE.out.2; omega)

end Go.Proofs.Ytindndcdpnpcmaa
