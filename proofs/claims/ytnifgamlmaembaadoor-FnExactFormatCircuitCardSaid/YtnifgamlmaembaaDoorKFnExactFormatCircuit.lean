import Derived.Test.YtnifgamlmaembaaDoorC0
import Derived.Test.YtnifgamlmaembaaDoorQ1
import Derived.Test.YtnifgamlmaembaaDoorTE
namespace Go.Proofs.YtnifgamlmaembaaDoor
set_option linter.unusedVariables false
set_option linter.unusedSimpArgs false
open Go.RowKit

theorem fmtR_len (c : Cir) : (fmtR c).length ≤ 1000000 := by
  unfold fmtR
  cases hv : c.validB
  · simp
  · obtain ⟨q1, q2, q3, q4, q5⟩ := (c.validB_iff.1 hv).lim
    simp [fmtC, nxT, gtT, otT]; omega

/-- What stands through the law: the argument's block, the copy's, all older blocks. -/
structure ISFnExactFormatCircuit (w : World) (A : Array Value) (nX : Nat) (X : Array Value) (W3 : World) (s0 : Option Addr) (r : List Tx) (W : World) : Prop where
  arg : W.heap[w.heap.size]? = some (.cells A 25 (0, 0))
  x : W.heap[nX]? = some (.cells X 31 (0, 0))
  bel : Below w.heap.size w W
  b3 : Below W3.heap.size W3 W
  w0 : Sl W s0 (strs r)
theorem ISFnExactFormatCircuit.call {w W3 W W' : World} {A X : Array Value} {nX : Nat} {s0 : Option Addr} {r : List Tx} (h : ISFnExactFormatCircuit w A nX X W3 s0 r W) (hb : Below W.heap.size W W') : ISFnExactFormatCircuit w A nX X W3 s0 r W' :=
  ⟨blk_below hb (blk_lt h.arg) h.arg, blk_below hb (blk_lt h.x) h.x, h.bel.trans (hb.mono h.bel.size), h.b3.trans (hb.mono h.b3.size), h.w0.mono hb⟩
theorem ISFnExactFormatCircuit.n {w W3 W : World} {A X : Array Value} {nX : Nat} {s0 : Option Addr} {r : List Tx} (h : ISFnExactFormatCircuit w A nX X W3 s0 r W) (n : Nat) : ISFnExactFormatCircuit w A nX X W3 s0 r (W.drewN n) := h.call (below_n (Below.refl _ _) n)
theorem ISFnExactFormatCircuit.chg {w W3 W W' : World} {A X : Array Value} {nX : Nat} {s0 : Option Addr} {r : List Tx} {S : Nat → Prop} (h : ISFnExactFormatCircuit w A nX X W3 s0 r W) (h3 : Sl W3 s0 (strs r)) (hw : w.heap.size < W3.heap.size) (hc : Chg S W W') (hS : ∀ k, S k → W3.heap.size ≤ k) (hX : ¬ S nX) : ISFnExactFormatCircuit w A nX X W3 s0 r W' :=
  have hb : Below W3.heap.size W W' := hc.below h.b3.size (fun k hk hs => by have := hS k hs; omega)
  ⟨hc.blk h.arg (fun hs => by have := hS _ hs; omega), hc.blk h.x hX, h.bel.trans (hb.mono (by omega)), h.b3.trans hb, h3.mono (h.b3.trans hb)⟩

set_option maxHeartbeats 1600000 in
theorem FnExactFormatCircuit_any (v : Value) (c : Cir) (w : World) (h : CirA w v c) :
    Calls Tryd.prog 3 #[v] w fun e w' => e = .returned (.bool true) ∧ Below w.heap.size w w' := by
  have HA := Lib.hid h
  obtain ⟨sn, cn, sg, cg, so, co, rfl, -, -, -, k1, k2, k3⟩ := h
  have hL : Below w.heap.size w (w.alloc (.cells #[.int .i64 c.inp, .slice sn c.next.length cn, .slice sg c.gates.length cg, .slice so c.outs.length co] 25)) := by go_grown
  have HL := Lib.hid hL
  clear hL
  by_cases hc : c.size ≤ 1048576
  · have h1 : leftOf 1048576 (c.next.length + c.gates.length + c.outs.length) = 1048576 - c.size := by rw [← Cir.size_eq]; unfold leftOf; rw [if_pos hc]
    have HV : Hid (∀ w', Below w.heap.size w w' → CirV w' (.agg #[.int .i64 c.inp, .slice sn c.next.length cn, .slice sg c.gates.length cg, .slice so c.outs.length co]) c) := fun w' hb => (HA.out.v hc).mono hb
    have H1 := Lib.hid h1
    clear h1
    obtain ⟨l1, l2, l3⟩ : c.next.length ≤ 1048576 ∧ c.gates.length ≤ 1048576 ∧ c.outs.length ≤ 1048576 := by have hc' := hc; rw [Cir.size_eq] at hc'; omega
    have hN := blk_new w (.cells #[.int .i64 c.inp, .slice sn c.next.length cn, .slice sg c.gates.length cg, .slice so c.outs.length co] 25)
    have HN := Lib.hid hN
    clear hN
    obtain ⟨r, hr⟩ : ∃ r, r = fmtR c := ⟨_, rfl⟩
    have hlr : r.length ≤ 1000000 := by rw [hr]; exact (fmtR_len c)
    have HRR := Lib.hid hr
    clear hr
    go_enter Tryd.func3, Tryd.ntmps3
    go_wp2_with (first
      | (go_at_call 6; ((with_reducible refine (szCircuit_any _ _ _ _ _ _ _ _ _ _ _ _ (by omega) (by omega) k1 k2 k3).mono ?_); rintro e w1 ⟨rfl, hq⟩; have W1 := Lib.hid (And.intro (blk_below hq (by simp) HN.out) (HL.out.trans (hq.mono (by simp)))); have ca1 := (blk_all W1.out.1).1; clear hq; rw [H1.out])))
    refine (toCircuit_c _ _ _ (HV.out _ W1.out.2)).mono ?_
    rintro e w2 ⟨b1, b2, b3, rfl, hv, hq⟩
    have W2 := Lib.hid (And.intro (blk_below hq (blk_lt W1.out.1) W1.out.1) (And.intro (W1.out.2.trans (hq.mono W1.out.2.size)) hv))
    have ca2 := (blk_all W2.out.1).1
    clear hq hv ca1
    go_wp2_with fail
    refine (FormatCircuit_s _ _ _ W2.out.2.2).mono ?_
    rintro e w3 ⟨s0, cap0, rfl, ho0, hq⟩
    have hw0 := own_sl ho0
    clear ho0
    rw [← HRR.out] at hw0 ⊢
    have W3 := Lib.hid (And.intro (blk_below hq (blk_lt W2.out.1) W2.out.1) (And.intro (W2.out.2.1.trans (hq.mono W2.out.2.1.size)) hw0))
    have ca3 := (blk_all W3.out.1).1
    have hlt3 := blk_lt W3.out.1
    clear hq ca2 hw0
    go_wp2_with fail
    refine (toCircuit_any _ _ _ (HV.out _ W3.out.2.1)).mono ?_
    rintro e w4 ⟨d1, d2, d3, rfl, hd1, hd2, hd3, hx1, hx2, hx3, hq⟩
    have hlt1 := blk_lt hx1
    have hlt2 := blk_lt hx2
    have hlt4 := blk_lt hx3
    have ho : CirOwn w4 w3.heap.size c (.slice (some ⟨d1, 0, none⟩) c.next.length c.next.length) (.slice (some ⟨d2, 0, none⟩) c.gates.length c.gates.length) (.slice (some ⟨d3, 0, none⟩) c.outs.length c.outs.length) := by
      have o1 := own_of_blk (base := w3.heap.size) (size := 1) (n := c.next.length) hx1 hd1 (by simp) (by unfold maxLen; omega)
      have o2 := own_of_blk (base := w3.heap.size) (size := 2) (n := c.gates.length) hx2 (by omega) (by simp [gcells_length]; omega) (by unfold maxLen; omega)
      have o3 := own_of_blk (base := w3.heap.size) (size := 1) (n := c.outs.length) hx3 (by omega) (by simp) (by unfold maxLen; omega)
      exact ⟨by simpa using o1, by simpa using o2, by simpa using o3, fun k e1 e2 => by simp [Value.ownBlock] at e1 e2; omega, l1, l2, l3⟩
    have hv4 : CirV w4 (.agg #[.int .i64 c.inp, .slice (some ⟨d1, 0, none⟩) c.next.length c.next.length, .slice (some ⟨d2, 0, none⟩) c.gates.length c.gates.length, .slice (some ⟨d3, 0, none⟩) c.outs.length c.outs.length]) c := ⟨_, _, _, _, _, _, rfl, Sl.toA hx1, Sl.toA hx2, Sl.toA hx3, l1, l2, l3⟩
    have HD : Hid ((∀ k, inCir (.slice (some ⟨d1, 0, none⟩) c.next.length c.next.length) (.slice (some ⟨d2, 0, none⟩) c.gates.length c.gates.length) (.slice (some ⟨d3, 0, none⟩) c.outs.length c.outs.length) k → w3.heap.size ≤ k ∧ k < w4.heap.size)) := fun k hk => by
      unfold inCir at hk; simp [Value.ownBlock] at hk; omega
    have W4 := Lib.hid (And.intro (blk_below hq (blk_lt W3.out.1) W3.out.1) (And.intro (W3.out.2.1.trans (hq.mono W3.out.2.1.size)) (And.intro hq (And.intro hv4 ho))))
    have ca4 := (blk_all W4.out.1).1
    clear hq hv4 ho ca3 hx1 hx2 hx3 hlt1 hlt2 hlt4 hd1 hd2 hd3
    go_wp2_with fail
    have hq := (Below.refl w4.heap.size w4).alloc (Nat.le_refl _) (.cells #[.int .i64 c.inp, .slice (some ⟨d1, 0, none⟩) c.next.length c.next.length, .slice (some ⟨d2, 0, none⟩) c.gates.length c.gates.length, .slice (some ⟨d3, 0, none⟩) c.outs.length c.outs.length] 31)
    have hS : ISFnExactFormatCircuit w #[.int .i64 c.inp, .slice sn c.next.length cn, .slice sg c.gates.length cg, .slice so c.outs.length co] w4.heap.size #[.int .i64 c.inp, .slice (some ⟨d1, 0, none⟩) c.next.length c.next.length, .slice (some ⟨d2, 0, none⟩) c.gates.length c.gates.length, .slice (some ⟨d3, 0, none⟩) c.outs.length c.outs.length] w3 s0 r (w4.alloc (.cells #[.int .i64 c.inp, .slice (some ⟨d1, 0, none⟩) c.next.length c.next.length, .slice (some ⟨d2, 0, none⟩) c.gates.length c.gates.length, .slice (some ⟨d3, 0, none⟩) c.outs.length c.outs.length] 31)) :=
      ⟨blk_below hq (blk_lt W4.out.1) W4.out.1, blk_new _ _, W4.out.2.1.trans (hq.mono W4.out.2.1.size), W4.out.2.2.1.trans (hq.mono W4.out.2.2.1.size), W3.out.2.2.mono (W4.out.2.2.1.trans (hq.mono W4.out.2.2.1.size))⟩
    have W5 := Lib.hid (And.intro hS (And.intro (W4.out.2.2.2.1.mono hq) hq))
    clear hS hq ca4
    refine (FormatCircuit_i _ _ _ W5.out.2.1).mono ?_
    rintro e w6 ⟨s1, cap1, rfl, ho, hq⟩
    rw [← HRR.out] at ho ⊢
    have hb46 : Below w4.heap.size w4 w6 := W5.out.2.2.trans (hq.mono (by simp))
    have W6 := Lib.hid (And.intro (W5.out.1.call hq) (And.intro hb46 (And.intro ho (W5.out.2.1.mono hq))))
    clear hq ho hb46
    have ca6 := (blk_all W6.out.1.arg).1
    have cx6 := (blk_all W6.out.1.x).1
    go_wp2_with (go_at_call 10; ((with_reducible refine (eqStringS_any s1 s0 r r _ _ _ (own_sl W6.out.2.2.1) W6.out.1.w0 (by omega) (by omega)).mono ?_); rintro e w7 ⟨rfl, n7, rfl⟩; rw [decide_eq_true (rfl : r = r)]))
    go_region_held3 (fun w' => (∀ o, w'.cell? ⟨w.heap.size, o, none⟩ = #[Value.int .i64 c.inp, Value.slice sn c.next.length cn, Value.slice sg c.gates.length cg, Value.slice so c.outs.length co][o]?) ∧ ∀ o, w'.cell? ⟨w4.heap.size, o, none⟩ = #[Value.int .i64 c.inp, Value.slice (some ⟨d1, 0, none⟩) c.next.length c.next.length, Value.slice (some ⟨d2, 0, none⟩) c.gates.length c.gates.length, Value.slice (some ⟨d3, 0, none⟩) c.outs.length c.outs.length][o]?)
      (first
        | exact ⟨ca6, cx6⟩
        | exact ⟨(blk_all W7.out.1.arg).1, (blk_all W7.out.1.x).1⟩
        | exact ⟨(blk_all W8.out.1.arg).1, (blk_all W8.out.1.x).1⟩)
      ((first
        | (go_at_call 8; ((refine (toCircuit_c _ _ _ (HV.out _ (W6.out.1.n _).bel.drew)).mono ?_); rintro e w7 ⟨f1, f2, f3, rfl, hv7, hq7⟩; have hb7 := (below_n (Below.refl w6.heap.size w6) _).drew.trans hq7; have W7 := Lib.hid (And.intro (W6.out.1.call hb7) (And.intro hb7 (And.intro (W6.out.2.2.2.mono hb7) hv7))); clear hv7 hq7 hb7))
        | (go_at_call 11; ((refine (eqCircuit_any _ _ _ _ _ W7.out.2.2.1 W7.out.2.2.2).mono ?_); rintro e w8 ⟨rfl, hq8⟩; have W8 := Lib.hid (And.intro (W7.out.1.call hq8) (W7.out.2.1.trans (hq8.mono W7.out.2.1.size))); clear hq8; rw [cirB_self]))))
    have ca8 := (blk_all W8.out.1.arg).1
    have cx8 := (blk_all W8.out.1.x).1
    clear ca6 cx6
    go_wp2_with fail
    have hb48 := W6.out.2.1.trans (W8.out.2.mono W6.out.2.1.size)
    have ho8 : CirOwn w8 w3.heap.size c (.slice (some ⟨d1, 0, none⟩) c.next.length c.next.length) (.slice (some ⟨d2, 0, none⟩) c.gates.length c.gates.length) (.slice (some ⟨d3, 0, none⟩) c.outs.length c.outs.length) :=
      ⟨own_below W4.out.2.2.2.2.n hb48, own_below W4.out.2.2.2.2.g hb48, own_below W4.out.2.2.2.2.o hb48, W4.out.2.2.2.2.ne, l1, l2, l3⟩
    refine (markCircuit_any _ _ _ _ _ _ _ _ _ _ _ ho8 (by omega) (by omega)).mono ?_
    rintro e w9 ⟨rfl, -, hq⟩
    have W9 := Lib.hid (And.intro (W8.out.1.chg W3.out.2.2 hlt3 hq (fun k hk => (HD.out k hk).1) (fun hk => by have := (HD.out _ hk).2; omega)) (hq.own (own_below W6.out.2.2.1 W8.out.2) (fun k e hk => by have h1 := (own_blk W6.out.2.2.1 e).1; have h2 := (HD.out k hk).2; simp at h1; omega)))
    have ca9 := (blk_all W9.out.1.arg).1
    clear hq ho8 hb48 ca8 cx8
    have hk0 : decide (1 + (c.next.length : Int) + 2 * (c.gates.length : Int) + (c.outs.length : Int) < 0) = false := by simp; omega
    go_wp2_with (first
      | (go_at_call 10; ((with_reducible refine (eqStringS_any s1 s0 r r _ _ _ (own_sl W9.out.2) W9.out.1.w0 (by omega) (by omega)).mono ?_); rintro e w7 ⟨rfl, n9, rfl⟩; rw [decide_eq_true (rfl : r = r)])))
    refine (markStringS_any _ s1 _ _ _ 1 _ (own_below W9.out.2 (below_n (Below.refl _ _) n9)) (by omega) (by omega)).mono ?_
    rintro e w10 ⟨rfl, ho, hg⟩
    have W10 := Lib.hid (And.intro ((W9.out.1.n n9).chg W3.out.2.2 hlt3 (Chg.of_grown hg) (fun k e => by have h1 := (own_blk W9.out.2 e).1; have h2 := W4.out.2.2.1.size; simp at h1; omega) (fun e => by have h1 := (own_blk W9.out.2 e).1; simp at h1; omega)) ho)
    have ca10 := (blk_all W10.out.1.arg).1
    clear ho hg ca9
    go_wp2_with (first
      | (go_at_call 14; (refine (heldStringS_any s1 _ _ 1 _ (own_sl W10.out.2) (by omega) (by omega)).mono ?_); rintro e wh ⟨rfl, hbh⟩; have HH := Lib.hid hbh; clear hbh ca10; have ca10 := (blk_all (W10.out.1.call HH.out).arg).1))
    refine (toCircuit_c _ _ _ (HV.out _ (W10.out.1.call HH.out).bel)).mono ?_
    rintro e w11 ⟨g1, g2, g3, rfl, hv, hq⟩
    have hb := HH.out.trans (hq.mono HH.out.size)
    have W11 := Lib.hid (And.intro (W10.out.1.call hb) (And.intro hv (own_below W10.out.2 hb)))
    clear hv hq hb ca10
    go_wp2_with fail
    refine (FormatCircuit_i _ _ _ W11.out.2.1).mono ?_
    rintro e w12 ⟨s2, cap2, rfl, ho, hq⟩
    rw [← HRR.out] at ho ⊢
    have W12 := Lib.hid (And.intro (W11.out.1.call hq) (And.intro ho (own_below W11.out.2.2 hq)))
    clear ho hq
    go_wp2_with (first
      | (go_at_call 10; ((with_reducible refine (eqStringS_any s2 s0 r r _ _ _ (own_sl W12.out.2.1) W12.out.1.w0 (by omega) (by omega)).mono ?_); rintro e w7 ⟨rfl, n12, rfl⟩; rw [decide_eq_true (rfl : r = r)]))
      | (go_at_call 14; (refine (heldStringS_any s1 _ _ 1 _ (own_sl (own_below W12.out.2.2 (below_n (Below.refl _ _) n12))) (by omega) (by omega)).mono ?_); rintro e wi ⟨rfl, hbi⟩; have HI := Lib.hid hbi; clear hbi))
    go_ret
    exact ⟨rfl, (below_n W12.out.1.bel n12).trans (HI.out.mono (below_n W12.out.1.bel n12).size)⟩
  · have h1 : leftOf 1048576 (c.next.length + c.gates.length + c.outs.length) = -1 := by rw [← Cir.size_eq]; unfold leftOf; rw [if_neg hc]
    have H1 := Lib.hid h1
    clear h1 hc
    go_enter Tryd.func3, Tryd.ntmps3
    go_wp2_with (first
      | (go_at_call 6; ((with_reducible refine (szCircuit_any _ _ _ _ _ _ _ _ _ _ _ _ (by omega) (by omega) k1 k2 k3).mono ?_); rintro e w1 ⟨rfl, hq⟩; have HQ := Lib.hid hq; clear hq; rw [H1.out])))
    go_ret
    exact ⟨rfl, HL.out.trans (HQ.out.mono (by simp))⟩

end Go.Proofs.YtnifgamlmaembaaDoor
