import Derived.Test.YtnmafbggpjglaaaQ2
namespace Go.Proofs.Ytnmafbggpjglaaa
set_option linter.unusedVariables false
set_option linter.unusedSimpArgs false
open Go.RowKit

def lvOk (c : Cir) (x : Int) : Prop := c.validB = true ∧ c.first ≤ x ∧ x < c.vars
instance (c : Cir) (x : Int) : Decidable (lvOk c x) := inferInstanceAs (Decidable (_ ∧ _))
def leavesR (c : Cir) (x : Int) : List Int := if lvOk c x then Lv c (x - c.first).toNat else []
theorem leavesR_no {c : Cir} {x : Int} (h : ¬ lvOk c x) : leavesR c x = [] := by unfold leavesR; rw [if_neg h]
theorem leavesR_yes {c : Cir} {x : Int} (h : lvOk c x) : leavesR c x = Lv c (x - c.first).toNat := by unfold leavesR; rw [if_pos h]
theorem leavesR_len (c : Cir) (x : Int) : (leavesR c x).length ≤ 1000000 := by
  by_cases h : lvOk c x
  · rw [leavesR_yes h]
    have h1 := Lv_len c (x - c.first).toNat
    obtain ⟨f1, f2, f3, f4⟩ := valid_first (c.validB_iff.1 h.1)
    have h2 : 2 ^ ((x - c.first).toNat + 1) ≤ 2 ^ 15 := Nat.pow_le_pow_right (by omega) (by have := h.2; omega)
    omega
  · rw [leavesR_no h]; simp

set_option maxHeartbeats 800000 in
theorem Leaves_i (v : Value) (c : Cir) (x : Int) (w : World) (h : CirV w v c) (hx : -9223372036854775808 ≤ x ∧ x ≤ 9223372036854775807) :
    Calls Try.prog 23 #[v, .int .i64 x] w fun e w' => ∃ s cap, e = .returned (.slice s (leavesR c x).length cap) ∧ w'.ownsRow w.heap.size 3 1 (.slice s (leavesR c x).length cap) (leavesR c x).length (ints (leavesR c x)) ∧ Below w.heap.size w w' := by
  have HC : Hid (∀ w', Below w.heap.size w w' → CirV w' v c) := fun w' hb => h.mono hb
  obtain ⟨sn, cn, sg, cg, so, co, rfl, h1, h2, h3, hl1, hl2, hl3⟩ := h
  have hL : Below w.heap.size w (w.alloc (.cells #[.int .i64 c.inp, .slice sn c.next.length cn, .slice sg c.gates.length cg, .slice so c.outs.length co] 26)) := by go_grown
  have hN := blk_new w (.cells #[.int .i64 c.inp, .slice sn c.next.length cn, .slice sg c.gates.length cg, .slice so c.outs.length co] 26)
  have HL := Lib.hid (And.intro hL (And.intro hN (And.intro h1 (And.intro h2 h3))))
  clear hL hN h1 h2 h3
  obtain ⟨hx1, hx2⟩ := hx
  cases hv : c.validB
  · have e : leavesR c x = [] := leavesR_no fun h => by rw [h.1] at hv; cases hv
    rw [e]
    have HE := Lib.hid hv
    clear hv e
    go_enter Try.func23, Try.ntmps23
    go_wp2_with (go_at_call 45; ((with_reducible refine (CircuitValid_i _ _ _ (HC.out _ HL.out.1)).mono ?_); rintro e w1 ⟨rfl, hq⟩; have HQ := Lib.hid hq; clear hq; rw [HE.out]))
    go_ret
    exact ⟨none, 0, rfl, World.ownsRow_nil _ _ _ _, HL.out.1.trans (HQ.out.mono (by simp))⟩
  · have hval := c.validB_iff.1 hv
    obtain ⟨f1, f2, f3, f4⟩ := valid_first hval
    obtain ⟨q1, q2, q3, q4, q5⟩ := id hval.lim
    have eC : c.first = 1 + c.inp + c.next.length := rfl
    have eV : c.vars = 1 + c.inp + c.next.length + c.gates.length := rfl
    obtain ⟨F, hF⟩ : ∃ F : Nat, c.first = F := ⟨c.first.toNat, by omega⟩
    obtain ⟨V, hV⟩ : ∃ V : Nat, c.vars = V := ⟨c.vars.toNat, by omega⟩
    have HH := Lib.hid (And.intro hv (And.intro hval (And.intro hF (And.intro hV (And.intro eC (And.intro eV f3))))))
    have e1 : 1 + c.inp + (c.next.length : Int) = (F : Int) := by omega
    have e2 : 1 + c.inp + (c.next.length : Int) + (c.gates.length : Int) = (V : Int) := by omega
    have E1 := Lib.hid (And.intro e1 e2)
    clear hv hval f1 f2 f3 f4 eC eV hF hV e1 e2
    by_cases hok : (F : Int) ≤ x ∧ x < (V : Int)
    · have hlo : lvOk c x := ⟨HH.out.1, by rw [HH.out.2.2.1]; exact hok.1, by rw [HH.out.2.2.2.1]; exact hok.2⟩
      have er := leavesR_yes hlo
      obtain ⟨o1, o2⟩ := hok
      obtain ⟨i, hi⟩ : ∃ i : Nat, x = F + i := ⟨(x - F).toNat, by omega⟩
      have hin : (x - c.first).toNat = i := by rw [HH.out.2.2.1]; omega
      rw [hin] at er
      have hil : i < c.gates.length := by have := HH.out; omega
      have hlr := leavesR_len c x
      have hlv := Lv_len c i
      have hpw : 2 ^ (i + 1) ≤ 2 ^ 15 := Nat.pow_le_pow_right (by omega) (by omega)
      have HR := Lib.hid (And.intro er (And.intro hin (And.intro hil (And.intro hlr (And.intro hlv hpw)))))
      have HI := Lib.hid hi
      clear er hin hil hlr hlv hpw hlo hi
      go_enter Try.func23, Try.ntmps23
      go_wp2_with (first
        | (go_at_call 45; ((with_reducible refine (CircuitValid_i _ _ _ (HC.out _ HL.out.1)).mono ?_); rintro e w1 ⟨rfl, hq⟩; have HQ := Lib.hid (And.intro (blk_below hq (blk_lt HL.out.2.1) HL.out.2.1) (HL.out.1.trans (hq.mono (by simp)))); clear hq; rw [HH.out.1]))
        | (go_at_call 59; ((refine (firstGate_any _ _ _ _ _ _ _ _ (CirAt.of_blk HQ.out.1) (by omega) (by omega)).mono ?_); rintro e w2 ⟨rfl, hd⟩; rw [E1.out.1]; have HD := Lib.hid (And.intro (blk_below (hd.below _) (blk_lt HQ.out.1) HQ.out.1) (HQ.out.2.trans (hd.below _))); clear hd))
        | (go_at_call 60; ((refine (vars_any _ _ _ _ _ _ _ _ _ _ (CirAt.of_blk HD.out.1) (by omega) (by omega) (by omega)).mono ?_); rintro e w3 ⟨rfl, hd⟩; rw [E1.out.2]; have HD2 := Lib.hid (And.intro (blk_below (hd.below _) (blk_lt HD.out.1) HD.out.1) (HD.out.2.trans (hd.below _))); clear hd))
        | (go_at_call 62; ((refine (uses_any _ _ _ _ _ _ _ _ _ (CirAt.of_blk HD2.out.1) (HL.out.2.2.1.mono HD2.out.2) (HL.out.2.2.2.1.mono HD2.out.2) (HL.out.2.2.2.2.mono HD2.out.2) HH.out.2.1 V HH.out.2.2.2.1).mono ?_); rintro e w4 ⟨g, rfl, hg1, hg2, hq⟩; have HU := Lib.hid (And.intro hg2 (And.intro (blk_below hq (blk_lt HD2.out.1) HD2.out.1) (HD2.out.2.trans (hq.mono HD2.out.2.size)))); clear hq hg1 hg2)))
      have hcall := leaves_any w4 w.heap.size sn sg (some ⟨g, 0, none⟩) cn cg V (.slice so c.outs.length co) c V (CirAt.of_blk HU.out.2.1) (HL.out.2.2.2.1.mono HU.out.2.2) (by have := Sl.blk HU.out.1; simpa using this) HH.out.2.1 HH.out.2.2.2.1 i HR.out.2.2.1 w4 [] none 0 (Below.refl _ _) (World.ownsRow_nil _ _ _ _) (by have := HR.out.2.2.2.2.2; simp; omega)
      rw [HH.out.2.2.1, ← HI.out, List.nil_append, ← HR.out.1] at hcall
      refine hcall.mono ?_
      rintro e w5 ⟨s5, c5, rfl, ho5, hc5, -⟩
      have hs4 := HU.out.2.2.size
      have HF := Lib.hid (And.intro (own_base ho5 hs4) (HU.out.2.2.trans (hc5.below hs4 (fun k hk e => by cases e))))
      clear ho5 hc5 hs4 hcall
      go_wp2_with fail
      go_ret
      exact ⟨s5, c5, rfl, HF.out.1, HF.out.2⟩
    · have e : leavesR c x = [] := leavesR_no fun h => hok (by have h1 := h.2; rw [HH.out.2.2.1, HH.out.2.2.2.1] at h1; exact h1)
      rw [e]
      have HO := Lib.hid hok
      clear e hok
      go_enter Try.func23, Try.ntmps23
      go_wp2_with (first
        | (go_at_call 45; ((with_reducible refine (CircuitValid_i _ _ _ (HC.out _ HL.out.1)).mono ?_); rintro e w1 ⟨rfl, hq⟩; have HQ := Lib.hid (And.intro (blk_below hq (blk_lt HL.out.2.1) HL.out.2.1) (HL.out.1.trans (hq.mono (by simp)))); clear hq; rw [HH.out.1]))
        | (go_at_call 59; ((refine (firstGate_any _ _ _ _ _ _ _ _ (CirAt.of_blk HQ.out.1) (by omega) (by omega)).mono ?_); rintro e w2 ⟨rfl, hd⟩; rw [E1.out.1]; have HD := Lib.hid (And.intro (blk_below (hd.below _) (blk_lt HQ.out.1) HQ.out.1) (HQ.out.2.trans (hd.below _))); clear hd))
        | (go_at_call 60; ((refine (vars_any _ _ _ _ _ _ _ _ _ _ (CirAt.of_blk HD.out.1) (by omega) (by omega) (by omega)).mono ?_); rintro e w3 ⟨rfl, hd⟩; rw [E1.out.2]; have HD2 := Lib.hid (And.intro (blk_below (hd.below _) (blk_lt HD.out.1) HD.out.1) (HD.out.2.trans (hd.below _))); clear hd)))
      all_goals first
        | (go_ret; exact ⟨none, 0, rfl, World.ownsRow_nil _ _ _ _, by first | exact HD2.out.2 | exact HD.out.2⟩)
        | (exfalso; refine HO.out ⟨?_, ?_⟩ <;> omega)

end Go.Proofs.Ytnmafbggpjglaaa
