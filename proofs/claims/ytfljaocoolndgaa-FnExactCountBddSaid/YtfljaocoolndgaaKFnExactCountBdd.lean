import Derived.Test.YtfljaocoolndgaaN0
import Derived.Test.YtfljaocoolndgaaN5
namespace Go.Proofs.Ytfljaocoolndgaa
set_option linter.unusedVariables false
set_option linter.unusedSimpArgs false
open Go.RowKit

set_option maxHeartbeats 800000 in
theorem FnExactCountBdd_any (v : Value) (c : Bd) (x : Int) (w : World) (h : BdA w v c) (jx : (Lit.int .i64 x).wf = true) :
    Calls Try.prog 3 #[v, .int .i64 x] w fun e w' => e = .returned (.bool true) ∧ Below w.heap.size w w' := by
  have kx := wf_int64 jx
  obtain ⟨sn, cn, rfl, h1, k1⟩ := h
  have hL : Below w.heap.size w (w.alloc (.cells #[.slice sn c.nodes.length cn, .int .i64 c.root] 24)) := by go_grown
  have HL := Lib.hid hL
  clear hL
  by_cases hc : c.nodes.length ≤ 1048576
  · have hlo : leftOf 1048576 c.nodes.length = 1048576 - c.nodes.length := by unfold leftOf; rw [if_pos (by omega)]
    have HV : Hid (∀ w', Below w.heap.size w w' → Sl w' sn (ncells c.nodes)) := fun w' hb => h1.mono hb
    have H1 := Lib.hid hlo
    clear hlo h1
    have hN := blk_new w (.cells #[.slice sn c.nodes.length cn, .int .i64 c.root] 24)
    have HN := Lib.hid hN
    clear hN
    go_enter Try.func3, Try.ntmps3
    go_wp2_with (first
      | (go_at_call 9; ((with_reducible refine (szBdd_any _ _ _ _ _ _ (by omega) (by omega) k1).mono ?_); rintro e w1 ⟨rfl, hq⟩; have W1 := Lib.hid (And.intro (blk_below hq (by simp) HN.out) (HL.out.trans (hq.mono (by simp)))); have ca1 := (blk_all W1.out.1).1; clear hq; rw [H1.out])))
    refine (toBdd_any _ _ _ _ (HV.out _ W1.out.2) hc).mono ?_
    rintro e w2 ⟨b1, rfl, hv, hq⟩
    have W2 := Lib.hid (And.intro (blk_below hq (blk_lt W1.out.1) W1.out.1) (And.intro (W1.out.2.trans (hq.mono W1.out.2.size)) hv))
    have ca2 := (blk_all W2.out.1).1
    clear hq hv ca1
    go_wp2_with fail
    refine (CountBdd_s _ _ _ _ W2.out.2.2 kx).mono ?_
    rintro e w3 ⟨rfl, hq⟩
    have W3 := Lib.hid (And.intro (blk_below hq (blk_lt W2.out.1) W2.out.1) (W2.out.2.1.trans (hq.mono W2.out.2.1.size)))
    have ca3 := (blk_all W3.out.1).1
    clear hq ca2
    go_wp2_with fail
    refine (toBdd_any _ _ _ _ (HV.out _ W3.out.2) hc).mono ?_
    rintro e w4 ⟨d1, rfl, hv, hq⟩
    have W4 := Lib.hid (And.intro (blk_below hq (blk_lt W3.out.1) W3.out.1) (And.intro (W3.out.2.trans (hq.mono W3.out.2.size)) hv))
    have ca4 := (blk_all W4.out.1).1
    clear hq hv ca3
    go_wp2_with fail
    have hq := Below.refl w4.heap.size w4
    have hq' := hq.alloc (Nat.le_refl _) (.cells #[.slice (some ⟨d1, 0, none⟩) c.nodes.length c.nodes.length, .int .i64 c.root] 29)
    have W5 := Lib.hid (And.intro (blk_below hq' (blk_lt W4.out.1) W4.out.1) (And.intro (W4.out.2.1.trans (hq'.mono W4.out.2.1.size)) (And.intro (W4.out.2.2.mono hq') (blk_new w4 (.cells #[.slice (some ⟨d1, 0, none⟩) c.nodes.length c.nodes.length, .int .i64 c.root] 29)))))
    clear hq hq' ca4
    refine (CountBdd_i _ _ _ _ W5.out.2.2.1 kx).mono ?_
    rintro e w6 ⟨rfl, hq⟩
    have W6 := Lib.hid (And.intro (blk_below hq (blk_lt W5.out.1) W5.out.1) (And.intro (W5.out.2.1.trans (hq.mono W5.out.2.1.size)) (And.intro (W5.out.2.2.1.mono hq) (blk_below hq (blk_lt W5.out.2.2.2) W5.out.2.2.2))))
    have ca6 := (blk_all W6.out.1).1
    have cx6 := (blk_all W6.out.2.2.2).1
    clear hq
    go_wp2_with fail
    go_region_held3 (fun w' => (∀ o, w'.cell? ⟨w.heap.size, o, none⟩ = #[Value.slice sn c.nodes.length cn, Value.int .i64 c.root][o]?) ∧ ∀ o, w'.cell? ⟨w4.heap.size, o, none⟩ = #[Value.slice (some ⟨d1, 0, none⟩) c.nodes.length c.nodes.length, Value.int .i64 c.root][o]?)
      (first
        | exact ⟨ca6, cx6⟩
        | exact ⟨(blk_all W7.out.1).1, (blk_all W7.out.2.1).1⟩
        | exact ⟨(blk_all W8.out.1).1, (blk_all W8.out.2.1).1⟩)
      ((first
        | (go_at_call 11; ((refine (toBdd_any _ _ _ _ (HV.out _ W6.out.2.1.drew) hc).mono ?_); rintro e w7 ⟨f1, rfl, hv7, hq7⟩; have W7 := Lib.hid (And.intro (blk_below hq7 (blk_lt W6.out.1) W6.out.1) (And.intro (blk_below hq7 (blk_lt W6.out.2.2.2) W6.out.2.2.2) (And.intro (W6.out.2.1.drew.trans (hq7.mono W6.out.2.1.size)) (And.intro (W6.out.2.2.1.mono ((Below.refl _ _).drew.trans hq7)) hv7)))); clear hv7 hq7))
        | (go_at_call 13; ((refine (eqBdd_any _ _ _ _ _ W7.out.2.2.2.1 W7.out.2.2.2.2).mono ?_); rintro e w8 ⟨rfl, hq8⟩; have W8 := Lib.hid (And.intro (blk_below hq8 (blk_lt W7.out.1) W7.out.1) (And.intro (blk_below hq8 (blk_lt W7.out.2.1) W7.out.2.1) (W7.out.2.2.1.trans (hq8.mono W7.out.2.2.1.size)))); clear hq8; rw [bdB_self]))))
    go_wp2
    go_ret
    exact ⟨rfl, W8.out.2.2⟩
  · have hlo : leftOf 1048576 c.nodes.length = -1 := by unfold leftOf; rw [if_neg (by omega)]
    have H1 := Lib.hid hlo
    clear hlo hc h1
    go_enter Try.func3, Try.ntmps3
    go_wp2_with (first
      | (go_at_call 9; ((with_reducible refine (szBdd_any _ _ _ _ _ _ (by omega) (by omega) k1).mono ?_); rintro e w1 ⟨rfl, hq⟩; have HQ := Lib.hid hq; clear hq; rw [H1.out])))
    go_ret
    exact ⟨rfl, HL.out.trans (HQ.out.mono (by simp))⟩

end Go.Proofs.Ytfljaocoolndgaa
