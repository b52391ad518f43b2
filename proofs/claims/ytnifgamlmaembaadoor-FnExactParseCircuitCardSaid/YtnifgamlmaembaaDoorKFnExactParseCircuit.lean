import Derived.Test.YtnifgamlmaembaaDoorC0
import Derived.Test.YtnifgamlmaembaaDoorQ1
import Derived.Test.YtnifgamlmaembaaDoorTM
import Derived.Test.YtnifgamlmaembaaDoorTO
import Derived.Test.YtnifgamlmaembaaDoorTP
namespace Go.Proofs.YtnifgamlmaembaaDoor
set_option linter.unusedVariables false
set_option linter.unusedSimpArgs false
open Go.RowKit

theorem CirOwn.v {w : World} {base : Nat} {r : Cir} {s1 s2 s3 : Option Addr} {c1 c2 c3 : Nat} (h : CirOwn w base r (.slice s1 r.next.length c1) (.slice s2 r.gates.length c2) (.slice s3 r.outs.length c3)) : CirV w (.agg #[.int .i64 r.inp, .slice s1 r.next.length c1, .slice s2 r.gates.length c2, .slice s3 r.outs.length c3]) r :=
  ⟨_, _, _, _, _, _, rfl, own_sl h.n, own_sl h.g, own_sl h.o, h.l1, h.l2, h.l3⟩
theorem CirOwn.below {w w' : World} {base : Nat} {r : Cir} {vn vg vo : Value} (h : CirOwn w base r vn vg vo) (hb : Below w.heap.size w w') : CirOwn w' base r vn vg vo :=
  ⟨own_below h.n hb, own_below h.g hb, own_below h.o hb, h.ne, h.l1, h.l2, h.l3⟩
theorem CirOwn.chg {S : Nat → Prop} {w w' : World} {base : Nat} {r : Cir} {vn vg vo : Value} (h : CirOwn w base r vn vg vo) (hc : Chg S w w') (hs : ∀ k, base ≤ k → ¬ S k) : CirOwn w' base r vn vg vo :=
  ⟨hc.own h.n (fun k hk => hs k (own_blk h.n hk).1), hc.own h.g (fun k hk => hs k (own_blk h.g hk).1), hc.own h.o (fun k hk => hs k (own_blk h.o hk).1), h.ne, h.l1, h.l2, h.l3⟩
theorem CirOwn.inb {w : World} {base : Nat} {r : Cir} {vn vg vo : Value} (h : CirOwn w base r vn vg vo) {k : Nat} (hk : inCir vn vg vo k) : base ≤ k ∧ k < w.heap.size := by
  rcases hk with hk | hk | hk
  · exact own_blk h.n hk
  · exact own_blk h.g hk
  · exact own_blk h.o hk
theorem Marked.below {w w' : World} {base : Nat} {r : Cir} {k : Int} {vn vg vo : Value} (h : Marked w base r k vn vg vo) (hb : Below w.heap.size w w') : Marked w' base r k vn vg vo :=
  ⟨own_below h.n hb, own_below h.g hb, own_below h.o hb⟩

set_option maxRecDepth 100000 in
set_option maxHeartbeats 6400000 in
theorem FnExactParseCircuit_any (sA : Option Addr) (capA : Nat) (ls : List Tx) (w : World) (hs : Sl w sA (strs ls)) (hl : ls.length ≤ 9223372036854775807) (hx : ∀ x ∈ ls, x.length ≤ 9223372036854775807) (hg : Gl w) :
    Calls Tryd.prog 4 #[.slice sA ls.length capA] w fun e w' => e = .returned (.bool true) ∧ Below w.heap.size w w' := by
  have HA := Lib.hid (And.intro hs (And.intro hx hg))
  clear hs hx hg
  by_cases hc : (ls.length : Int) + lensS ls ≤ 1048576
  · have h1 : leftOf 1048576 (ls.length + lensS ls) = 1048576 - (ls.length + lensS ls) := by unfold leftOf; rw [if_pos hc]
    have hls : ls.length ≤ 1048576 := by have := lensS_nonneg ls; omega
    have hxs := Lib.hid (fun x h => by have := lensS_mem h; omega : ∀ x ∈ ls, x.length ≤ 1048576)
    obtain ⟨lf, hlf⟩ : ∃ lf, lf = 1048576 - ((ls.length : Int) + lensS ls) := ⟨_, rfl⟩
    rw [← hlf] at h1
    have hlf0 : 0 ≤ lf := by omega
    have H1 := Lib.hid h1
    clear h1 hlf hc
    go_enter Tryd.func4, Tryd.ntmps4
    go_wp2_with (go_at_call 15; (refine (szStringS_any _ ls _ _ _ (by omega) (by omega) HA.out.1 hl HA.out.2.1).mono ?_); rintro e w1 ⟨rfl, hd⟩; rw [H1.out]; have W1 := Lib.hid (hd.below w.heap.size); clear hd)
    refine (toStringS_any _ _ _ _ hls (HA.out.1.mono W1.out)).mono ?_
    rintro e w2 ⟨rfl, hb, hz, hq⟩
    have W2 := Lib.hid (And.intro (W1.out.trans (hq.mono W1.out.size)) (Sl.toA hb))
    clear hb hz hq
    go_wp2_with fail
    refine (ParseCircuit_s _ _ ls _ W2.out.2 hls hxs.out).mono ?_
    rintro e w3 ⟨D, n, vn, vg, vo, hpr, rfl, hR, hq⟩
    obtain ⟨rb1, rb2, rb3⟩ : D.next.length ≤ 1048576 ∧ D.gates.length ≤ 1048576 ∧ D.outs.length ≤ 1048576 := ⟨hR.l1, hR.l2, hR.l3⟩
    obtain ⟨s01, c01, rfl⟩ := own_shape hR.n
    obtain ⟨s02, c02, rfl⟩ := own_shape hR.g
    obtain ⟨s03, c03, rfl⟩ := own_shape hR.o
    have W3 := Lib.hid (And.intro (W2.out.1.trans (hq.mono W2.out.1.size)) (And.intro hR.v hpr))
    clear hq hR hpr
    go_wp2_with fail
    have hb0 : Below w3.heap.size w3 (w3.alloc (.cells #[.int .i64 D.inp, .slice s01 D.next.length c01, .slice s02 D.gates.length c02, .slice s03 D.outs.length c03] 31)) := (Below.refl _ _).alloc (Nat.le_refl _) _
    have hn0 := blk_new w3 (.cells #[.int .i64 D.inp, .slice s01 D.next.length c01, .slice s02 D.gates.length c02, .slice s03 D.outs.length c03] 31)
    have hz0 : w3.heap.size < (w3.alloc (.cells #[.int .i64 D.inp, .slice s01 D.next.length c01, .slice s02 D.gates.length c02, .slice s03 D.outs.length c03] 31)).heap.size := by simp
    revert hb0 hn0 hz0
    generalize (w3.alloc (.cells #[.int .i64 D.inp, .slice s01 D.next.length c01, .slice s02 D.gates.length c02, .slice s03 D.outs.length c03] 31)) = WA
    intro hb0 hn0 hz0
    have HS := Lib.hid (And.intro hn0 (And.intro (W3.out.2.1.mono hb0) (W3.out.1.trans (hb0.mono W3.out.1.size))))
    have hltW : w3.heap.size < WA.heap.size := by omega
    clear hb0 hn0
    go_wp2_with fail
    refine (toStringS_any _ _ _ _ hls (HA.out.1.mono HS.out.2.2)).mono ?_
    rintro e w4 ⟨rfl, hb, hz4, hq⟩
    have ho4 := own_of_blk (base := WA.heap.size) (size := 1) (n := ls.length) hb (Nat.le_refl _) (by simp [strs_len]) (by unfold maxLen; omega)
    have hbw4 := HS.out.2.2.trans (hq.mono HS.out.2.2.size)
    have W4 := Lib.hid (And.intro hq (And.intro ho4 (And.intro (Sl.toA hb) (HA.out.2.2.mono (B := w.heap.size) HA.out.2.2.sz hbw4))))
    have hz5 : WA.heap.size < w4.heap.size := by omega
    clear hb hq ho4 hbw4 hz4
    go_wp2_with fail
    refine (ParseCircuit_i _ _ ls _ W4.out.2.2.1 hls hxs.out W4.out.2.2.2).mono ?_
    rintro e w6 ⟨D', n', vn, vg, vo, hpr, rfl, hR, hq⟩
    obtain ⟨rfl, rfl⟩ := W3.out.2.2.uniq hpr
    obtain ⟨s11, c11, rfl⟩ := own_shape hR.n
    obtain ⟨s12, c12, rfl⟩ := own_shape hR.g
    obtain ⟨s13, c13, rfl⟩ := own_shape hR.o
    have W6 := Lib.hid (And.intro hR hq)
    have hs6 := hq.size
    clear hR hq hpr
    go_upto_region 8 with fail
    have hbG : Below w6.heap.size w6 (w6.alloc (.cells #[.int .i64 D.inp, .slice s11 D.next.length c11, .slice s12 D.gates.length c12, .slice s13 D.outs.length c13] 31)) := (Below.refl _ _).alloc (Nat.le_refl _) _
    have hnG := blk_new w6 (.cells #[.int .i64 D.inp, .slice s11 D.next.length c11, .slice s12 D.gates.length c12, .slice s13 D.outs.length c13] 31)
    have hzG : w6.heap.size < (w6.alloc (.cells #[.int .i64 D.inp, .slice s11 D.next.length c11, .slice s12 D.gates.length c12, .slice s13 D.outs.length c13] 31)).heap.size := by simp
    revert hbG hnG hzG
    generalize (w6.alloc (.cells #[.int .i64 D.inp, .slice s11 D.next.length c11, .slice s12 D.gates.length c12, .slice s13 D.outs.length c13] 31)) = WG
    intro hbG hnG hzG
    have h4G : Below w4.heap.size w4 WG := W6.out.2.trans (hbG.mono hs6)
    have HG := Lib.hid (And.intro hnG (And.intro (W6.out.1.below hbG) (And.intro (W4.out.1.trans (h4G.mono (by omega))) (own_below W4.out.2.1 h4G))))
    have hsG : WA.heap.size ≤ WG.heap.size := by omega
    clear hbG hnG h4G
    have cgg := (blk_all HG.out.1).1
    have cw := (blk_all (blk_below HG.out.2.2.1 hltW HS.out.1)).1
    go_wp2_with fail
    refine (eqCircuit_any _ _ _ _ _ HG.out.2.1.v (HS.out.2.1.mono HG.out.2.2.1)).mono ?_
    rintro e w7 ⟨rfl, hq⟩
    rw [cirB_self]
    have W7 := Lib.hid (And.intro (HG.out.2.2.1.trans (hq.mono hsG)) (And.intro (blk_below hq (blk_lt HG.out.1) HG.out.1) (And.intro (HG.out.2.1.below hq) (own_below HG.out.2.2.2 hq))))
    have hs7 := hq.size
    clear hq cgg cw
    go_wp2_with fail
    refine (toStringS_any _ _ _ _ hls (HA.out.1.mono (HS.out.2.2.trans (W7.out.1.mono HS.out.2.2.size)))).mono ?_
    rintro e w8 ⟨rfl, hb, hz, hq⟩
    have W8 := Lib.hid (And.intro (W7.out.1.trans (hq.mono (by omega))) (And.intro (blk_below hq (blk_lt W7.out.2.1) W7.out.2.1) (And.intro (W7.out.2.2.1.below hq) (And.intro (own_below W7.out.2.2.2 hq) (Sl.toA hb)))))
    have hs8 := hq.size
    clear hb hz hq
    go_wp2_with fail
    refine (eqStringS_any _ _ ls ls _ _ _ (own_sl W8.out.2.2.2.1) W8.out.2.2.2.2 hls hls).mono ?_
    rintro e w9 ⟨rfl, hd⟩
    rw [decide_eq_true (rfl : ls = ls)]
    have hq := hd.below w8.heap.size
    have W9 := Lib.hid (And.intro (W8.out.1.trans (hq.mono (by omega))) (And.intro (blk_below hq (blk_lt W8.out.2.1) W8.out.2.1) (And.intro (W8.out.2.2.1.below hq) (own_below W8.out.2.2.2.1 hq))))
    have hs9 := hq.size
    clear hd hq
    go_wp2_with fail
    refine (markStringS_any _ _ _ _ _ 1 _ W9.out.2.2.2 hls (by omega)).mono ?_
    rintro e w10 ⟨rfl, -, hg⟩
    have hgc := Chg.of_grown hg
    have hbA : Below WA.heap.size w9 w10 := hgc.below (by omega) (fun k hk hs => by simp [Value.ownBlock] at hs; omega)
    have W10 := Lib.hid (And.intro (W9.out.1.trans hbA) (And.intro (hgc.blk W9.out.2.1 (fun hs => by simp [Value.ownBlock] at hs; omega)) (W9.out.2.2.1.chg hgc (fun k hk hs => by simp [Value.ownBlock] at hs; omega))))
    have hs10 := hgc.size
    clear hg hgc hbA
    have cgg := (blk_all W10.out.2.1).1
    have cw := (blk_all (blk_below W10.out.1 hltW HS.out.1)).1
    go_wp2_with (go_at_call 11; ((refine (eqCircuit_any _ _ _ _ _ W10.out.2.2.v (HS.out.2.1.mono W10.out.1)).mono ?_); rintro e w11 ⟨rfl, hq⟩; rw [cirB_self]; have W11 := Lib.hid (And.intro (W10.out.1.trans (hq.mono (by omega))) (And.intro (blk_below hq (blk_lt W10.out.2.1) W10.out.2.1) (W10.out.2.2.below hq))); have hs11 := hq.size; clear hq cgg cw; have cgg := (blk_all W11.out.2.1).1))
    refine (markCircuit_any _ _ _ _ _ _ _ _ _ _ _ W11.out.2.2 (by omega) (by omega)).mono ?_
    rintro e w12 ⟨rfl, hM, hq⟩
    have hSg : ∀ k, inCir (.slice s11 D.next.length c11) (.slice s12 D.gates.length c12) (.slice s13 D.outs.length c13) k → w4.heap.size ≤ k ∧ k < w6.heap.size := fun k hk => W6.out.1.inb hk
    have hbA : Below WA.heap.size w11 w12 := hq.below (by omega) (fun k hk hs => by have := (hSg k hs).1; omega)
    have W12 := Lib.hid (And.intro (W11.out.1.trans hbA) (And.intro (hq.blk W11.out.2.1 (fun hs => by have := (hSg _ hs).2; omega)) hM))
    have hs12 := hq.size
    clear hq hM hSg hbA cgg
    have cgg := (blk_all W12.out.2.1).1
    go_wp2_with fail
    refine (heldCircuit_any _ _ _ _ _ _ _ _ _ _ _ W12.out.2.2 (by omega) (by omega) (by omega) (by omega) (by omega)).mono ?_
    rintro e w13 ⟨rfl, hq⟩
    have W13 := Lib.hid (And.intro (W12.out.1.trans (hq.mono (by omega))) (And.intro (blk_below hq (blk_lt W12.out.2.1) W12.out.2.1) (W12.out.2.2.below hq)))
    have hs13 := hq.size
    clear hq cgg
    have hk1 : decide (1 + (D.next.length : Int) + 2 * (D.gates.length : Int) + (D.outs.length : Int) < 0) = false := by simp; omega
    go_wp2_with fail
    refine (toStringS_any _ _ _ _ hls (HA.out.1.mono (HS.out.2.2.trans (W13.out.1.mono HS.out.2.2.size)))).mono ?_
    rintro e w14 ⟨rfl, hb, hz, hq⟩
    have W14 := Lib.hid (And.intro (W13.out.1.trans (hq.mono (by omega))) (And.intro (blk_below hq (blk_lt W13.out.2.1) W13.out.2.1) (And.intro (W13.out.2.2.below hq) (Sl.toA hb))))
    have hs14 := hq.size
    clear hb hz hq
    go_wp2_with fail
    have hbw14 := HS.out.2.2.trans (W14.out.1.mono HS.out.2.2.size)
    refine (ParseCircuit_i _ _ ls _ W14.out.2.2.2 hls hxs.out (HA.out.2.2.mono (B := w.heap.size) HA.out.2.2.sz hbw14)).mono ?_
    rintro e w15 ⟨D', n', vn, vg, vo, hpr, rfl, hR, hq⟩
    clear hbw14
    obtain ⟨rfl, rfl⟩ := W3.out.2.2.uniq hpr
    clear hpr
    obtain ⟨s21, c21, rfl⟩ := own_shape hR.n
    obtain ⟨s22, c22, rfl⟩ := own_shape hR.g
    obtain ⟨s23, c23, rfl⟩ := own_shape hR.o
    have W15 := Lib.hid (And.intro (W14.out.1.trans (hq.mono (by omega))) (And.intro (blk_below hq (blk_lt W14.out.2.1) W14.out.2.1) (And.intro (W14.out.2.2.1.below hq) hR)))
    have hs15 := hq.size
    clear hq hR
    go_upto_region 25 with fail
    have hbH : Below w15.heap.size w15 (w15.alloc (.cells #[.int .i64 D.inp, .slice s21 D.next.length c21, .slice s22 D.gates.length c22, .slice s23 D.outs.length c23] 31)) := (Below.refl _ _).alloc (Nat.le_refl _) _
    have hnH := blk_new w15 (.cells #[.int .i64 D.inp, .slice s21 D.next.length c21, .slice s22 D.gates.length c22, .slice s23 D.outs.length c23] 31)
    have hzH : w15.heap.size < (w15.alloc (.cells #[.int .i64 D.inp, .slice s21 D.next.length c21, .slice s22 D.gates.length c22, .slice s23 D.outs.length c23] 31)).heap.size := by simp
    revert hbH hnH hzH
    generalize (w15.alloc (.cells #[.int .i64 D.inp, .slice s21 D.next.length c21, .slice s22 D.gates.length c22, .slice s23 D.outs.length c23] 31)) = WH
    intro hbH hnH hzH
    have HH := Lib.hid (And.intro (W15.out.1.trans (hbH.mono (by omega))) (And.intro (blk_below hbH (blk_lt W15.out.2.1) W15.out.2.1) (And.intro (W15.out.2.2.1.below hbH) (W15.out.2.2.2.below hbH))))
    have ch := (blk_all hnH).1
    have cw := (blk_all (blk_below HH.out.1 hltW HS.out.1)).1
    clear hbH hnH
    go_wp2_with fail
    refine (eqCircuit_any _ _ _ _ _ HH.out.2.2.2.v (HS.out.2.1.mono HH.out.1)).mono ?_
    rintro e w16 ⟨rfl, hq⟩
    rw [cirB_self]
    have W16 := Lib.hid (And.intro (HH.out.1.trans (hq.mono (by omega))) (And.intro (blk_below hq (blk_lt HH.out.2.1) HH.out.2.1) (HH.out.2.2.1.below hq)))
    have hs16 := hq.size
    clear hq ch cw
    have cgg := (blk_all W16.out.2.1).1
    go_wp2_with fail
    refine (heldCircuit_any _ _ _ _ _ _ _ _ _ _ _ W16.out.2.2 (by omega) (by omega) (by omega) (by omega) (by omega)).mono ?_
    rintro e w17 ⟨rfl, hq⟩
    have W17 := Lib.hid (W16.out.1.trans (hq.mono (by omega)))
    clear hq cgg
    go_wp2_with fail
    go_ret
    exact ⟨rfl, HS.out.2.2.trans (W17.out.mono HS.out.2.2.size)⟩
  · have h1 : leftOf 1048576 (ls.length + lensS ls) = -1 := by unfold leftOf; rw [if_neg hc]
    have H1 := Lib.hid h1
    clear h1 hc
    go_enter Tryd.func4, Tryd.ntmps4
    go_wp2_with (go_at_call 15; (refine (szStringS_any _ ls _ _ _ (by omega) (by omega) HA.out.1 hl HA.out.2.1).mono ?_); rintro e w1 ⟨rfl, hd⟩; rw [H1.out]; have W1 := Lib.hid (hd.below w.heap.size); clear hd)
    go_ret
    exact ⟨rfl, W1.out⟩

end Go.Proofs.YtnifgamlmaembaaDoor
