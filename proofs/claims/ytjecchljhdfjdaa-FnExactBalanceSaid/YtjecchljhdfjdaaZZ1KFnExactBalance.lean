import Derived.Test.YtjecchljhdfjdaaZZ1Q1
import Derived.Test.YtjecchljhdfjdaaZZ1JQ
import Derived.Test.YtjecchljhdfjdaaZZ1JJ
import Derived.Test.YtjecchljhdfjdaaZZ1B5
import Derived.Deep.RegionHeld3
namespace Go.Proofs.Ytjecchljhdfjdaa
set_option linter.unusedVariables false
set_option linter.unusedSimpArgs false
open Go.RowKit

/-! Part of the proof of one law. -/

/-- A circuit that came in: whatever its lengths. -/
def CirA (w : World) (v : Value) (c : Cir) : Prop :=
  ∃ sn cn sg cg so co, v = .agg #[.int .i64 c.inp, .slice sn c.next.length cn, .slice sg c.gates.length cg, .slice so c.outs.length co] ∧
    Sl w sn (ints c.next) ∧ Sl w sg (gcells c.gates) ∧ Sl w so (ints c.outs) ∧ c.next.length ≤ 9223372036854775807 ∧ c.gates.length ≤ 9223372036854775807 ∧ c.outs.length ≤ 9223372036854775807

theorem CirA.v {w : World} {v : Value} {c : Cir} (h : CirA w v c) (hs : c.size ≤ 1048576) : CirV w v c := by
  obtain ⟨sn, cn, sg, cg, so, co, hv, h1, h2, h3, h4⟩ := h
  rw [Cir.size_eq] at hs
  exact ⟨sn, cn, sg, cg, so, co, hv, h1, h2, h3, by omega, by omega, by omega⟩

theorem toCircuit_c (v : Value) (c : Cir) (w : World) (h : CirV w v c) :
    Calls Try.prog 14 #[v] w fun e w' => ∃ b1 b2 b3, e = .returned (.agg #[.int .i64 c.inp, .slice (some ⟨b1, 0, none⟩) c.next.length c.next.length, .slice (some ⟨b2, 0, none⟩) c.gates.length c.gates.length, .slice (some ⟨b3, 0, none⟩) c.outs.length c.outs.length]) ∧
      CirV w' (.agg #[.int .i64 c.inp, .slice (some ⟨b1, 0, none⟩) c.next.length c.next.length, .slice (some ⟨b2, 0, none⟩) c.gates.length c.gates.length, .slice (some ⟨b3, 0, none⟩) c.outs.length c.outs.length]) c ∧ Below w.heap.size w w' := by
  obtain ⟨-, -, -, -, -, -, -, -, -, -, l1, l2, l3⟩ := id h
  refine (toCircuit_any v c w h).mono ?_
  rintro e w' ⟨b1, b2, b3, rfl, -, -, -, h1, h2, h3, hb⟩
  exact ⟨b1, b2, b3, rfl, ⟨_, _, _, _, _, _, rfl, Sl.toA h1, Sl.toA h2, Sl.toA h3, l1, l2, l3⟩, hb⟩

theorem Balance_s (v : Value) (c : Cir) (w : World) (h : CirV w v c) :
    Calls Try.prog 13 #[v] w fun e w' => ∃ vn vg vo, e = .returned (.agg #[.int .i64 (balR c).inp, vn, vg, vo]) ∧ CirOwn w' w.heap.size (balR c) vn vg vo ∧ Below w.heap.size w w' := by
  cases hv : c.validB
  · exact Balance_sn v c w h hv
  · exact Balance_sv v c w h hv

theorem balR_len (c : Cir) : (balR c).next.length ≤ 3 ∧ (balR c).gates.length ≤ 14 ∧ (balR c).outs.length ≤ 3 ∧ 0 ≤ (balR c).inp ∧ (balR c).inp ≤ 4 := by
  cases hv : c.validB
  · rw [balR_no hv]; simp
  · obtain ⟨q1, q2, q3, q4, q5⟩ := (balR_valid (c.validB_iff.1 hv)).lim
    exact ⟨by omega, by omega, by omega, by omega, by omega⟩

theorem CirOwn.v {w : World} {base : Nat} {r : Cir} {s1 s2 s3 : Option Addr} {c1 c2 c3 : Nat} (h : CirOwn w base r (.slice s1 r.next.length c1) (.slice s2 r.gates.length c2) (.slice s3 r.outs.length c3)) : CirV w (.agg #[.int .i64 r.inp, .slice s1 r.next.length c1, .slice s2 r.gates.length c2, .slice s3 r.outs.length c3]) r :=
  ⟨_, _, _, _, _, _, rfl, own_sl h.n, own_sl h.g, own_sl h.o, h.l1, h.l2, h.l3⟩

theorem CirOwn.below {w w' : World} {base : Nat} {r : Cir} {vn vg vo : Value} (h : CirOwn w base r vn vg vo) (hb : Below w.heap.size w w') : CirOwn w' base r vn vg vo :=
  ⟨own_below h.n hb, own_below h.g hb, own_below h.o hb, h.ne, h.l1, h.l2, h.l3⟩

theorem CirOwn.chg {S : Nat → Prop} {w w' : World} {base : Nat} {r : Cir} {vn vg vo : Value} (h : CirOwn w base r vn vg vo) (hc : Chg S w w') (hs : ∀ k, base ≤ k → ¬ S k) : CirOwn w' base r vn vg vo :=
  ⟨hc.own h.n (fun k hk => hs k (own_blk h.n hk).1), hc.own h.g (fun k hk => hs k (own_blk h.g hk).1), hc.own h.o (fun k hk => hs k (own_blk h.o hk).1), h.ne, h.l1, h.l2, h.l3⟩

theorem CirOwn.inb {w : World} {base : Nat} {r : Cir} {vn vg vo : Value} (h : CirOwn w base r vn vg vo) {k : Nat} (hk : inCir vn vg vo k) : base ≤ k ∧ k < w.heap.size := by
  rcases hk with hk | hk | hk
  · exact own_blk h.n hk
  · exact own_blk h.g hk
  · exact own_blk h.o hk

theorem Marked.below {w w' : World} {base : Nat} {r : Cir} {k : Int} {vn vg vo : Value} (h : Marked w base r k vn vg vo) (hb : Below w.heap.size w w') : Marked w' base r k vn vg vo :=
  ⟨own_below h.n hb, own_below h.g hb, own_below h.o hb⟩

set_option maxHeartbeats 3200000 in
theorem FnExactBalance_any (v : Value) (c : Cir) (w : World) (h : CirA w v c) :
    Calls Try.prog 4 #[v] w fun e w' => e = .returned (.bool true) ∧ Below w.heap.size w w' := by
  have HA := Lib.hid h
  obtain ⟨sn, cn, sg, cg, so, co, rfl, -, -, -, k1, k2, k3⟩ := h
  have hL : Below w.heap.size w (w.alloc (.cells #[.int .i64 c.inp, .slice sn c.next.length cn, .slice sg c.gates.length cg, .slice so c.outs.length co] 37)) := by go_grown
  have HL := Lib.hid hL
  clear hL
  by_cases hc : c.size ≤ 1048576
  · have h1 : leftOf 1048576 (c.next.length + c.gates.length + c.outs.length) = 1048576 - c.size := by rw [← Cir.size_eq]; unfold leftOf; rw [if_pos hc]
    have HV : Hid (∀ w', Below w.heap.size w w' → CirV w' (.agg #[.int .i64 c.inp, .slice sn c.next.length cn, .slice sg c.gates.length cg, .slice so c.outs.length co]) c) := fun w' hb => (HA.out.v hc).mono hb
    have H1 := Lib.hid h1
    clear h1
    obtain ⟨l1, l2, l3⟩ : c.next.length ≤ 1048576 ∧ c.gates.length ≤ 1048576 ∧ c.outs.length ≤ 1048576 := by have hc' := hc; rw [Cir.size_eq] at hc'; omega
    have hN := blk_new w (.cells #[.int .i64 c.inp, .slice sn c.next.length cn, .slice sg c.gates.length cg, .slice so c.outs.length co] 37)
    have HN := Lib.hid hN
    clear hN
    obtain ⟨r, hr⟩ : ∃ r, r = balR c := ⟨_, rfl⟩
    have hrb : r.next.length ≤ 3 ∧ r.gates.length ≤ 14 ∧ r.outs.length ≤ 3 := by rw [hr]; exact ⟨(balR_len c).1, (balR_len c).2.1, (balR_len c).2.2.1⟩
    obtain ⟨rb1, rb2, rb3⟩ := hrb
    have HRR := Lib.hid hr
    clear hr
    go_enter Try.func4, Try.ntmps4
    go_wp2_with (first
      | (go_at_call 12; ((with_reducible refine (szCircuit_any _ _ _ _ _ _ _ _ _ _ _ _ (by omega) (by omega) k1 k2 k3).mono ?_); rintro e w1 ⟨rfl, hq⟩; have W1 := Lib.hid (And.intro (blk_below hq (by simp) HN.out) (HL.out.trans (hq.mono (by simp)))); have ca1 := (blk_all W1.out.1).1; clear hq; rw [H1.out])))
    refine (toCircuit_c _ _ _ (HV.out _ W1.out.2)).mono ?_
    rintro e w2 ⟨b1, b2, b3, rfl, hv, hq⟩
    have W2 := Lib.hid (And.intro (blk_below hq (blk_lt W1.out.1) W1.out.1) (And.intro (W1.out.2.trans (hq.mono W1.out.2.size)) hv))
    have ca2 := (blk_all W2.out.1).1
    clear hq hv ca1
    go_wp2_with fail
    refine (Balance_s _ _ _ W2.out.2.2).mono ?_
    rintro e w3 ⟨vn, vg, vo, rfl, hR, hq⟩
    rw [← HRR.out] at hR ⊢
    obtain ⟨s01, c01, rfl⟩ := own_shape hR.n
    obtain ⟨s02, c02, rfl⟩ := own_shape hR.g
    obtain ⟨s03, c03, rfl⟩ := own_shape hR.o
    have W3 := Lib.hid (And.intro (blk_below hq (blk_lt W2.out.1) W2.out.1) (And.intro (W2.out.2.1.trans (hq.mono W2.out.2.1.size)) hR.v))
    have ca3 := (blk_all W3.out.1).1
    have hlt3 := blk_lt W3.out.1
    clear hq ca2 hR
    go_wp2_with fail
    -- the box of the reference's result
    have hb0 : Below w3.heap.size w3 (w3.alloc (.cells #[.int .i64 r.inp, .slice s01 r.next.length c01, .slice s02 r.gates.length c02, .slice s03 r.outs.length c03] 28)) := (Below.refl _ _).alloc (Nat.le_refl _) _
    have hn0 := blk_new w3 (.cells #[.int .i64 r.inp, .slice s01 r.next.length c01, .slice s02 r.gates.length c02, .slice s03 r.outs.length c03] 28)
    have hz0 : (w3.alloc (.cells #[.int .i64 r.inp, .slice s01 r.next.length c01, .slice s02 r.gates.length c02, .slice s03 r.outs.length c03] 28)).heap.size = w3.heap.size + 1 := by simp
    clear ca3
    revert hb0 hn0 hz0
    generalize (w3.alloc (.cells #[.int .i64 r.inp, .slice s01 r.next.length c01, .slice s02 r.gates.length c02, .slice s03 r.outs.length c03] 28)) = WA
    intro hb0 hn0 hz0
    have HS := Lib.hid (And.intro (blk_below hb0 hlt3 W3.out.1) (And.intro hn0 (And.intro (W3.out.2.2.mono hb0) (W3.out.2.1.trans (hb0.mono W3.out.2.1.size)))))
    have hltA : w.heap.size < WA.heap.size := by omega
    have hltW : w3.heap.size < WA.heap.size := by omega
    have ca := (blk_all HS.out.1).1
    clear hb0 hn0
    go_wp2_with fail
    refine (toCircuit_any _ _ _ (HV.out _ HS.out.2.2.2)).mono ?_
    rintro e w4 ⟨d1, d2, d3, rfl, hd1, hd2, hd3, hx1, hx2, hx3, hq⟩
    have hlt1 := blk_lt hx1
    have hlt2 := blk_lt hx2
    have hlt4 := blk_lt hx3
    have ho : CirOwn w4 WA.heap.size c (.slice (some ⟨d1, 0, none⟩) c.next.length c.next.length) (.slice (some ⟨d2, 0, none⟩) c.gates.length c.gates.length) (.slice (some ⟨d3, 0, none⟩) c.outs.length c.outs.length) := by
      have o1 := own_of_blk (base := WA.heap.size) (size := 1) (n := c.next.length) hx1 hd1 (by simp) (by unfold maxLen; omega)
      have o2 := own_of_blk (base := WA.heap.size) (size := 2) (n := c.gates.length) hx2 (by omega) (by simp [gcells_length]; omega) (by unfold maxLen; omega)
      have o3 := own_of_blk (base := WA.heap.size) (size := 1) (n := c.outs.length) hx3 (by omega) (by simp) (by unfold maxLen; omega)
      exact ⟨by simpa using o1, by simpa using o2, by simpa using o3, fun k e1 e2 => by simp [Value.ownBlock] at e1 e2; omega, l1, l2, l3⟩
    have W4 := Lib.hid (And.intro hq ho)
    have hs4 := hq.size
    have ca4 := (blk_all (blk_below hq hltA HS.out.1)).1
    clear hq ho ca hx1 hx2 hx3 hlt1 hlt2 hlt4 hd1 hd2 hd3
    go_wp2_with fail
    have hbX : Below w4.heap.size w4 (w4.alloc (.cells #[.int .i64 c.inp, .slice (some ⟨d1, 0, none⟩) c.next.length c.next.length, .slice (some ⟨d2, 0, none⟩) c.gates.length c.gates.length, .slice (some ⟨d3, 0, none⟩) c.outs.length c.outs.length] 28)) := (Below.refl _ _).alloc (Nat.le_refl _) _
    have hnX := blk_new w4 (.cells #[.int .i64 c.inp, .slice (some ⟨d1, 0, none⟩) c.next.length c.next.length, .slice (some ⟨d2, 0, none⟩) c.gates.length c.gates.length, .slice (some ⟨d3, 0, none⟩) c.outs.length c.outs.length] 28)
    have hzX : (w4.alloc (.cells #[.int .i64 c.inp, .slice (some ⟨d1, 0, none⟩) c.next.length c.next.length, .slice (some ⟨d2, 0, none⟩) c.gates.length c.gates.length, .slice (some ⟨d3, 0, none⟩) c.outs.length c.outs.length] 28)).heap.size = w4.heap.size + 1 := by simp
    clear ca4
    revert hbX hnX hzX
    generalize (w4.alloc (.cells #[.int .i64 c.inp, .slice (some ⟨d1, 0, none⟩) c.next.length c.next.length, .slice (some ⟨d2, 0, none⟩) c.gates.length c.gates.length, .slice (some ⟨d3, 0, none⟩) c.outs.length c.outs.length] 28)) = WX
    intro hbX hnX hzX
    have HX := Lib.hid (And.intro hnX (And.intro (W4.out.1.trans (hbX.mono hs4)) (W4.out.2.below hbX)))
    have hsX : WA.heap.size ≤ WX.heap.size := by omega
    clear hbX hnX
    refine (Balance_i _ _ _ HX.out.2.2.v).mono ?_
    rintro e w6 ⟨vn, vg, vo, rfl, hR, hq⟩
    rw [← HRR.out] at hR ⊢
    obtain ⟨s11, c11, rfl⟩ := own_shape hR.n
    obtain ⟨s12, c12, rfl⟩ := own_shape hR.g
    obtain ⟨s13, c13, rfl⟩ := own_shape hR.o
    have W6 := Lib.hid (And.intro hR hq)
    have hs6 := hq.size
    clear hR hq
    go_upto_region 8 with fail
    have hbG : Below w6.heap.size w6 (w6.alloc (.cells #[.int .i64 r.inp, .slice s11 r.next.length c11, .slice s12 r.gates.length c12, .slice s13 r.outs.length c13] 28)) := (Below.refl _ _).alloc (Nat.le_refl _) _
    have hnG := blk_new w6 (.cells #[.int .i64 r.inp, .slice s11 r.next.length c11, .slice s12 r.gates.length c12, .slice s13 r.outs.length c13] 28)
    have hzG : (w6.alloc (.cells #[.int .i64 r.inp, .slice s11 r.next.length c11, .slice s12 r.gates.length c12, .slice s13 r.outs.length c13] 28)).heap.size = w6.heap.size + 1 := by simp
    revert hbG hnG hzG
    generalize (w6.alloc (.cells #[.int .i64 r.inp, .slice s11 r.next.length c11, .slice s12 r.gates.length c12, .slice s13 r.outs.length c13] 28)) = WG
    intro hbG hnG hzG
    have hXG : Below WX.heap.size WX WG := W6.out.2.trans (hbG.mono hs6)
    have HG := Lib.hid (And.intro hnG (And.intro (W6.out.1.below hbG) (And.intro (HX.out.2.1.trans (hXG.mono hsX)) (And.intro (blk_below hXG (blk_lt HX.out.1) HX.out.1) (HX.out.2.2.below hXG)))))
    have hsG : WA.heap.size ≤ WG.heap.size := by omega
    clear hbG hnG hXG
    have cgg := (blk_all HG.out.1).1
    have cw := (blk_all (blk_below HG.out.2.2.1 hltW HS.out.2.1)).1
    go_wp2_with fail
    refine (eqCircuit_any _ _ _ _ _ HG.out.2.1.v (HS.out.2.2.1.mono HG.out.2.2.1)).mono ?_
    rintro e w7 ⟨rfl, hq⟩
    rw [cirB_self]
    have W7 := Lib.hid (And.intro (HG.out.2.2.1.trans (hq.mono hsG)) (And.intro (blk_below hq (blk_lt HG.out.2.2.2.1) HG.out.2.2.2.1) (And.intro (HG.out.2.2.2.2.below hq) (And.intro (blk_below hq (blk_lt HG.out.1) HG.out.1) (HG.out.2.1.below hq)))))
    have hs7 := hq.size
    clear hq cgg cw
    have ca := (blk_all (blk_below W7.out.1 hltA HS.out.1)).1
    have cx := (blk_all W7.out.2.1).1
    go_wp2_with fail
    go_region_held3 (fun w' => (∀ o, w'.cell? ⟨w.heap.size, o, none⟩ = #[Value.int .i64 c.inp, Value.slice sn c.next.length cn, Value.slice sg c.gates.length cg, Value.slice so c.outs.length co][o]?) ∧ ∀ o, w'.cell? ⟨w4.heap.size, o, none⟩ = #[Value.int .i64 c.inp, Value.slice (some ⟨d1, 0, none⟩) c.next.length c.next.length, Value.slice (some ⟨d2, 0, none⟩) c.gates.length c.gates.length, Value.slice (some ⟨d3, 0, none⟩) c.outs.length c.outs.length][o]?)
      (first
        | exact ⟨ca, cx⟩
        | exact ⟨(blk_all W8.out.1).1, (blk_all W8.out.2.1).1⟩
        | exact ⟨(blk_all W9.out.1).1, (blk_all W9.out.2.1).1⟩)
      ((first
        | (go_at_call 14; ((refine (toCircuit_c _ _ _ (HV.out _ (HS.out.2.2.2.trans (W7.out.1.mono HS.out.2.2.2.size)).drew)).mono ?_); rintro e w8 ⟨g1, g2, g3, rfl, hv8, hq8⟩; have hb8 : Below w7.heap.size w7 w8 := (Below.refl _ _).drew.trans hq8; have W8 := Lib.hid (And.intro (blk_below (W7.out.1.trans (hb8.mono (by omega))) hltA HS.out.1) (And.intro (blk_below hb8 (blk_lt W7.out.2.1) W7.out.2.1) (And.intro hb8 (And.intro hv8 hb8.size)))); clear hv8 hq8 hb8))
        | (go_at_call 15; ((refine (eqCircuit_any _ _ _ _ _ (W7.out.2.2.1.below W8.out.2.2.1).v W8.out.2.2.2.1).mono ?_); rintro e w9 ⟨rfl, hq9⟩; have hb9 := W8.out.2.2.1.trans (hq9.mono W8.out.2.2.2.2); have W9 := Lib.hid (And.intro (blk_below hq9 (blk_lt W8.out.1) W8.out.1) (And.intro (blk_below hq9 (blk_lt W8.out.2.1) W8.out.2.1) hb9)); clear hq9 hb9; rw [cirB_self]))))
    clear ca cx
    have cx := (blk_all W9.out.2.1).1
    have hs9 := W9.out.2.2.size
    go_wp2_with fail
    have ho9 := W7.out.2.2.1.below W9.out.2.2
    refine (markCircuit_any _ _ _ _ _ _ _ _ _ _ _ ho9 (by omega) (by omega)).mono ?_
    rintro e w10 ⟨rfl, -, hq⟩
    have hSx : ∀ k, inCir (.slice (some ⟨d1, 0, none⟩) c.next.length c.next.length) (.slice (some ⟨d2, 0, none⟩) c.gates.length c.gates.length) (.slice (some ⟨d3, 0, none⟩) c.outs.length c.outs.length) k → WA.heap.size ≤ k ∧ k < w4.heap.size := fun k hk => W4.out.2.inb hk
    have hg9 := blk_below W9.out.2.2 (blk_lt W7.out.2.2.2.1) W7.out.2.2.2.1
    have hA9 := W7.out.1.trans (W9.out.2.2.mono (by omega))
    have hbA : Below WA.heap.size w9 w10 := hq.below (by omega) (fun k hk hs => by have := (hSx k hs).1; omega)
    have W10 := Lib.hid (And.intro (hA9.trans hbA) (And.intro (hq.blk hg9 (fun hs => by have := (hSx _ hs).2; omega)) ((W7.out.2.2.2.2.below W9.out.2.2).chg hq (fun k hk hs => by have := (hSx k hs).2; omega))))
    have hs10 := hq.size
    clear hq ho9 hSx hg9 hA9 hbA cx
    have cgg := (blk_all W10.out.2.1).1
    have cw := (blk_all (blk_below W10.out.1 hltW HS.out.2.1)).1
    have hk0 : decide (1 + (c.next.length : Int) + 2 * (c.gates.length : Int) + (c.outs.length : Int) < 0) = false := by simp; omega
    go_wp2_with (go_at_call 15; ((refine (eqCircuit_any _ _ _ _ _ W10.out.2.2.v (HS.out.2.2.1.mono W10.out.1)).mono ?_); rintro e w11 ⟨rfl, hq⟩; rw [cirB_self]; have W11 := Lib.hid (And.intro (W10.out.1.trans (hq.mono (by omega))) (And.intro (blk_below hq (blk_lt W10.out.2.1) W10.out.2.1) (W10.out.2.2.below hq))); have hs11 := hq.size; clear hq cgg cw; have cgg := (blk_all W11.out.2.1).1))
    refine (markCircuit_any _ _ _ _ _ _ _ _ _ _ _ W11.out.2.2 (by omega) (by omega)).mono ?_
    rintro e w12 ⟨rfl, hM, hq⟩
    have hSg : ∀ k, inCir (.slice s11 r.next.length c11) (.slice s12 r.gates.length c12) (.slice s13 r.outs.length c13) k → WX.heap.size ≤ k ∧ k < w6.heap.size := fun k hk => W6.out.1.inb hk
    have hbA : Below WA.heap.size w11 w12 := hq.below (by omega) (fun k hk hs => by have := (hSg k hs).1; omega)
    have W12 := Lib.hid (And.intro (W11.out.1.trans hbA) (And.intro (hq.blk W11.out.2.1 (fun hs => by have := (hSg _ hs).2; omega)) hM))
    have hs12 := hq.size
    clear hq hM hSg hbA cgg
    have cgg := (blk_all W12.out.2.1).1
    go_wp2_with fail
    refine (heldCircuit_any _ _ _ _ _ _ _ _ _ _ _ W12.out.2.2 (by omega) (by omega) (by omega) (by omega) (by omega)).mono ?_
    rintro e w13 ⟨rfl, hq⟩
    have W13 := Lib.hid (And.intro (W12.out.1.trans (hq.mono (by omega))) (And.intro (blk_below hq (blk_lt W12.out.2.1) W12.out.2.1) (W12.out.2.2.below hq)))
    have hs13 := hq.size
    clear hq cgg
    have ca := (blk_all (blk_below W13.out.1 hltA HS.out.1)).1
    have hk1 : decide (1 + (r.next.length : Int) + 2 * (r.gates.length : Int) + (r.outs.length : Int) < 0) = false := by simp; omega
    go_wp2_with fail
    refine (toCircuit_c _ _ _ (HV.out _ (HS.out.2.2.2.trans (W13.out.1.mono HS.out.2.2.2.size)))).mono ?_
    rintro e w14 ⟨g1, g2, g3, rfl, hv, hq⟩
    have W14 := Lib.hid (And.intro (W13.out.1.trans (hq.mono (by omega))) (And.intro (blk_below hq (blk_lt W13.out.2.1) W13.out.2.1) (And.intro (W13.out.2.2.below hq) hv)))
    have hs14 := hq.size
    clear hq hv ca
    go_wp2_with fail
    refine (Balance_i _ _ _ W14.out.2.2.2).mono ?_
    rintro e w15 ⟨vn, vg, vo, rfl, hR, hq⟩
    rw [← HRR.out] at hR ⊢
    obtain ⟨s21, c21, rfl⟩ := own_shape hR.n
    obtain ⟨s22, c22, rfl⟩ := own_shape hR.g
    obtain ⟨s23, c23, rfl⟩ := own_shape hR.o
    have W15 := Lib.hid (And.intro (W14.out.1.trans (hq.mono (by omega))) (And.intro (blk_below hq (blk_lt W14.out.2.1) W14.out.2.1) (And.intro (W14.out.2.2.1.below hq) hR)))
    have hs15 := hq.size
    clear hq hR
    go_upto_region 25 with fail
    have hbH : Below w15.heap.size w15 (w15.alloc (.cells #[.int .i64 r.inp, .slice s21 r.next.length c21, .slice s22 r.gates.length c22, .slice s23 r.outs.length c23] 28)) := (Below.refl _ _).alloc (Nat.le_refl _) _
    have hnH := blk_new w15 (.cells #[.int .i64 r.inp, .slice s21 r.next.length c21, .slice s22 r.gates.length c22, .slice s23 r.outs.length c23] 28)
    have hzH : (w15.alloc (.cells #[.int .i64 r.inp, .slice s21 r.next.length c21, .slice s22 r.gates.length c22, .slice s23 r.outs.length c23] 28)).heap.size = w15.heap.size + 1 := by simp
    revert hbH hnH hzH
    generalize (w15.alloc (.cells #[.int .i64 r.inp, .slice s21 r.next.length c21, .slice s22 r.gates.length c22, .slice s23 r.outs.length c23] 28)) = WH
    intro hbH hnH hzH
    have HH := Lib.hid (And.intro (W15.out.1.trans (hbH.mono (by omega))) (And.intro (blk_below hbH (blk_lt W15.out.2.1) W15.out.2.1) (And.intro (W15.out.2.2.1.below hbH) (W15.out.2.2.2.below hbH))))
    have ch := (blk_all hnH).1
    have cw := (blk_all (blk_below HH.out.1 hltW HS.out.2.1)).1
    clear hbH hnH
    go_wp2_with fail
    refine (eqCircuit_any _ _ _ _ _ HH.out.2.2.2.v (HS.out.2.2.1.mono HH.out.1)).mono ?_
    rintro e w16 ⟨rfl, hq⟩
    rw [cirB_self]
    have W16 := Lib.hid (And.intro (HH.out.1.trans (hq.mono (by omega))) (And.intro (blk_below hq (blk_lt HH.out.2.1) HH.out.2.1) (HH.out.2.2.1.below hq)))
    have hs16 := hq.size
    clear hq ch cw
    have cgg := (blk_all W16.out.2.1).1
    go_wp2_with fail
    refine (heldCircuit_any _ _ _ _ _ _ _ _ _ _ _ W16.out.2.2 (by omega) (by omega) (by omega) (by omega) (by omega)).mono ?_
    rintro e w17 ⟨rfl, hq⟩
    have W17 := Lib.hid (W16.out.1.trans (hq.mono (by omega)))
    clear hq cgg
    go_wp2_with fail
    go_ret
    exact ⟨rfl, HS.out.2.2.2.trans (W17.out.mono HS.out.2.2.2.size)⟩
  · have h1 : leftOf 1048576 (c.next.length + c.gates.length + c.outs.length) = -1 := by rw [← Cir.size_eq]; unfold leftOf; rw [if_neg hc]
    have H1 := Lib.hid h1
    clear h1 hc
    go_enter Try.func4, Try.ntmps4
    go_wp2_with (first
      | (go_at_call 12; ((with_reducible refine (szCircuit_any _ _ _ _ _ _ _ _ _ _ _ _ (by omega) (by omega) k1 k2 k3).mono ?_); rintro e w1 ⟨rfl, hq⟩; have HQ := Lib.hid hq; clear hq; rw [H1.out])))
    go_ret
    exact ⟨rfl, HL.out.trans (HQ.out.mono (by simp))⟩

end Go.Proofs.Ytjecchljhdfjdaa
