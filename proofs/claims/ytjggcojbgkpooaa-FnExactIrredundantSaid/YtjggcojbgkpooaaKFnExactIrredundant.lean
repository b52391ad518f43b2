import Derived.Test.YtjggcojbgkpooaaC0
import Derived.Test.YtjggcojbgkpooaaOH
namespace Go.Proofs.Ytjggcojbgkpooaa
set_option linter.unusedVariables false
set_option linter.unusedSimpArgs false
open Go.RowKit

set_option maxHeartbeats 800000 in
theorem FnExactIrredundant_any (v : Value) (c : Cir) (w : World) (h : CirA w v c) :
    Calls Try.prog 5 #[v] w fun e w' => e = .returned (.bool true) ∧ Below w.heap.size w w' := by
  have HA := Lib.hid h
  obtain ⟨sn, cn, sg, cg, so, co, rfl, -, -, -, k1, k2, k3⟩ := h
  have hL : Below w.heap.size w (w.alloc (.cells #[.int .i64 c.inp, .slice sn c.next.length cn, .slice sg c.gates.length cg, .slice so c.outs.length co] 44)) := by go_grown
  have HL := Lib.hid hL
  clear hL
  by_cases hc : c.size ≤ 1048576
  · have h1 : leftOf 1048576 (c.next.length + c.gates.length + c.outs.length) = 1048576 - c.size := by rw [← Cir.size_eq]; unfold leftOf; rw [if_pos hc]
    have HV : Hid (∀ w', Below w.heap.size w w' → CirV w' (.agg #[.int .i64 c.inp, .slice sn c.next.length cn, .slice sg c.gates.length cg, .slice so c.outs.length co]) c) := fun w' hb => (HA.out.v hc).mono hb
    have H1 := Lib.hid h1
    clear h1
    have hN := blk_new w (.cells #[.int .i64 c.inp, .slice sn c.next.length cn, .slice sg c.gates.length cg, .slice so c.outs.length co] 44)
    have HN := Lib.hid hN
    clear hN
    go_enter Try.func5, Try.ntmps5
    go_wp2_with (first
      | (go_at_call 23; ((with_reducible refine (szCircuit_any _ _ _ _ _ _ _ _ _ _ _ _ (by omega) (by omega) k1 k2 k3).mono ?_); rintro e w1 ⟨rfl, hq⟩; have W1 := Lib.hid (And.intro (blk_below hq (by simp) HN.out) (HL.out.trans (hq.mono (by simp)))); have ca1 := (blk_all W1.out.1).1; clear hq; rw [H1.out])))
    refine (toCircuit_c _ _ _ (HV.out _ W1.out.2)).mono ?_
    rintro e w2 ⟨b1, b2, b3, rfl, hv, hq⟩
    have W2 := Lib.hid (And.intro (blk_below hq (blk_lt W1.out.1) W1.out.1) (And.intro (W1.out.2.trans (hq.mono W1.out.2.size)) hv))
    have ca2 := (blk_all W2.out.1).1
    clear hq hv ca1
    go_wp2_with fail
    refine (Irredundant_s _ _ _ W2.out.2.2).mono ?_
    rintro e w3 ⟨rfl, hq⟩
    have W3 := Lib.hid (And.intro (blk_below hq (blk_lt W2.out.1) W2.out.1) (W2.out.2.1.trans (hq.mono W2.out.2.1.size)))
    have ca3 := (blk_all W3.out.1).1
    clear hq ca2
    go_wp2_with fail
    refine (toCircuit_c _ _ _ (HV.out _ W3.out.2)).mono ?_
    rintro e w4 ⟨d1, d2, d3, rfl, hv, hq⟩
    have W4 := Lib.hid (And.intro (blk_below hq (blk_lt W3.out.1) W3.out.1) (And.intro (W3.out.2.trans (hq.mono W3.out.2.size)) hv))
    have ca4 := (blk_all W4.out.1).1
    clear hq hv ca3
    go_wp2_with fail
    have hq := Below.refl w4.heap.size w4
    have hq' := hq.alloc (Nat.le_refl _) (.cells #[.int .i64 c.inp, .slice (some ⟨d1, 0, none⟩) c.next.length c.next.length, .slice (some ⟨d2, 0, none⟩) c.gates.length c.gates.length, .slice (some ⟨d3, 0, none⟩) c.outs.length c.outs.length] 26)
    have W5 := Lib.hid (And.intro (blk_below hq' (blk_lt W4.out.1) W4.out.1) (And.intro (W4.out.2.1.trans (hq'.mono W4.out.2.1.size)) (And.intro (W4.out.2.2.mono hq') (blk_new w4 (.cells #[.int .i64 c.inp, .slice (some ⟨d1, 0, none⟩) c.next.length c.next.length, .slice (some ⟨d2, 0, none⟩) c.gates.length c.gates.length, .slice (some ⟨d3, 0, none⟩) c.outs.length c.outs.length] 26)))))
    clear hq hq' ca4
    refine (Irredundant_i _ _ _ W5.out.2.2.1).mono ?_
    rintro e w6 ⟨rfl, hq⟩
    have W6 := Lib.hid (And.intro (blk_below hq (blk_lt W5.out.1) W5.out.1) (And.intro (W5.out.2.1.trans (hq.mono W5.out.2.1.size)) (And.intro (W5.out.2.2.1.mono hq) (blk_below hq (blk_lt W5.out.2.2.2) W5.out.2.2.2))))
    have ca6 := (blk_all W6.out.1).1
    have cx6 := (blk_all W6.out.2.2.2).1
    clear hq
    go_wp2_with fail
    go_region_held3 (fun w' => (∀ o, w'.cell? ⟨w.heap.size, o, none⟩ = #[Value.int .i64 c.inp, Value.slice sn c.next.length cn, Value.slice sg c.gates.length cg, Value.slice so c.outs.length co][o]?) ∧ ∀ o, w'.cell? ⟨w4.heap.size, o, none⟩ = #[Value.int .i64 c.inp, Value.slice (some ⟨d1, 0, none⟩) c.next.length c.next.length, Value.slice (some ⟨d2, 0, none⟩) c.gates.length c.gates.length, Value.slice (some ⟨d3, 0, none⟩) c.outs.length c.outs.length][o]?)
      (first
        | exact ⟨ca6, cx6⟩
        | exact ⟨(blk_all W7.out.1).1, (blk_all W7.out.2.1).1⟩
        | exact ⟨(blk_all W8.out.1).1, (blk_all W8.out.2.1).1⟩)
      ((first
        | (go_at_call 25; ((refine (toCircuit_c _ _ _ (HV.out _ W6.out.2.1.drew)).mono ?_); rintro e w7 ⟨f1, f2, f3, rfl, hv7, hq7⟩; have W7 := Lib.hid (And.intro (blk_below hq7 (blk_lt W6.out.1) W6.out.1) (And.intro (blk_below hq7 (blk_lt W6.out.2.2.2) W6.out.2.2.2) (And.intro (W6.out.2.1.drew.trans (hq7.mono W6.out.2.1.size)) (And.intro (W6.out.2.2.1.mono ((Below.refl _ _).drew.trans hq7)) hv7)))); clear hv7 hq7))
        | (go_at_call 27; ((refine (eqCircuit_any _ _ _ _ _ W7.out.2.2.2.1 W7.out.2.2.2.2).mono ?_); rintro e w8 ⟨rfl, hq8⟩; have W8 := Lib.hid (And.intro (blk_below hq8 (blk_lt W7.out.1) W7.out.1) (And.intro (blk_below hq8 (blk_lt W7.out.2.1) W7.out.2.1) (W7.out.2.2.1.trans (hq8.mono W7.out.2.2.1.size)))); clear hq8; rw [cirB_self]))))
    go_wp2
    go_ret
    exact ⟨rfl, W8.out.2.2⟩
  · have h1 : leftOf 1048576 (c.next.length + c.gates.length + c.outs.length) = -1 := by rw [← Cir.size_eq]; unfold leftOf; rw [if_neg hc]
    have H1 := Lib.hid h1
    clear h1 hc
    go_enter Try.func5, Try.ntmps5
    go_wp2_with (first
      | (go_at_call 23; ((with_reducible refine (szCircuit_any _ _ _ _ _ _ _ _ _ _ _ _ (by omega) (by omega) k1 k2 k3).mono ?_); rintro e w1 ⟨rfl, hq⟩; have HQ := Lib.hid hq; obtain ⟨hcc, hff⟩ := bcell hq; clear hq; rw [H1.out])))
    go_ret
    exact ⟨rfl, HL.out.trans (HQ.out.mono (by simp))⟩

end Go.Proofs.Ytjggcojbgkpooaa
