import Derived.Test.YtnifgamlmaembaaDoorRI
import Derived.Test.YtnifgamlmaembaaDoorUA
import Derived.Test.YtnifgamlmaembaaDoorUB
import Derived.Test.YtnifgamlmaembaaDoorTE
import Derived.Test.YtnifgamlmaembaaDoorTM
import Derived.Test.YtnifgamlmaembaaDoorTO
import Derived.Test.YtnifgamlmaembaaDoorTB
namespace Go.Proofs.YtnifgamlmaembaaDoor
set_option linter.unusedVariables false
set_option linter.unusedSimpArgs false
open Go.RowKit

/-! FnFormat. -/

/-- The world once all is drawn, formatted and parsed. -/
structure FfW (w : World) (ls : List Tx) (s6 s7 : Option Addr) (C D : Cir) (B5 B8 B10 : Nat) (vC vX vS : Array Value) (V : World) : Prop where
  bel : Below w.heap.size w V
  ls : Sl V s6 (strs ls)
  out : Sl V s7 (strs (fmtR C))
  k5 : V.heap[B5]? = some (.cells vC 31 (0, 0))
  c : CirV V (.agg vC) C
  k8 : V.heap[B8]? = some (.cells vX 31 (0, 0))
  x : CirV V (.agg vX) D
  k10 : V.heap[B10]? = some (.cells vS 31 (0, 0))
  s : CirV V (.agg vS) D
theorem FfW.below {w V V' : World} {ls : List Tx} {s6 s7 : Option Addr} {C D : Cir} {B5 B8 B10 : Nat} {vC vX vS : Array Value} (h : FfW w ls s6 s7 C D B5 B8 B10 vC vX vS V) (hb : Below V.heap.size V V') : FfW w ls s6 s7 C D B5 B8 B10 vC vX vS V' :=
  ⟨h.bel.trans (hb.mono h.bel.size), h.ls.mono hb, h.out.mono hb, blk_below hb (blk_lt h.k5) h.k5, h.c.mono hb, blk_below hb (blk_lt h.k8) h.k8, h.x.mono hb, blk_below hb (blk_lt h.k10) h.k10, h.s.mono hb⟩
theorem c0_v (w : World) : CirV w (.agg #[.int .i64 0, .slice none 0 0, .slice none 0 0, .slice none 0 0]) c0 := ⟨none, 0, none, 0, none, 0, rfl, .inl rfl, .inl rfl, .inl rfl, by simp [c0], by simp [c0], by simp [c0]⟩
theorem fmtR_le (C : Cir) : (fmtR C).length ≤ 1048576 := by
  cases hv : C.validB
  · unfold fmtR; rw [hv]; exact Nat.zero_le _
  · exact Nat.le_trans (fmtR_bd (C.validB_iff.1 hv)).2.1 (by decide)

set_option maxRecDepth 100000 in
set_option maxHeartbeats 6400000 in
theorem FnFormat_small (s : Option Addr) (cap : Nat) (xs : List Int) (t : Option Addr) (cat : Nat) (ys : List Int) (w : World)
    (hs : Sl w s (u8s xs)) (hl : xs.length ≤ 1048576) (hcap : xs.length ≤ cap) (hcap2 : cap ≤ 9223372036854775807) (hr : ∀ x ∈ xs, 0 ≤ x ∧ x ≤ 255)
    (ht : Sl w t (u8s ys)) (hl' : ys.length ≤ 1048576) (hcat : ys.length ≤ cat) (hcat2 : cat ≤ 9223372036854775807) (hr' : ∀ x ∈ ys, 0 ≤ x ∧ x ≤ 255) (hg : Gl w) :
    Calls Tryd.prog 5 #[.slice s xs.length cap, .slice t ys.length cat] w fun e w' => e = .returned (.bool true) ∧ Below w.heap.size w w' := by
  have HD := Lib.hid (DrawFormatCircuit_any s cap xs w hs hl hcap hcap2 hr)
  have HL : Hid (∀ W, Below w.heap.size w W → Calls Tryd.prog 21 #[.slice t ys.length cat] W (DlPost W)) := fun W hW => DrawParseCircuit_any t cat ys W (ht.mono hW) hl' hcat hcat2 hr'
  have HG := Lib.hid hg
  clear hs hr ht hr' hg
  go_enter Tryd.func5, Tryd.ntmps5
  go_upto_region 4 with (go_at_call 20; (with_reducible refine HD.out.mono ?_); rintro e w1 ⟨C, vn, vg, vo, rfl, h1, h2, hq⟩; obtain ⟨scn, ccn, rfl⟩ := own_shape h1.n; obtain ⟨scg, ccg, rfl⟩ := own_shape h1.g; obtain ⟨sco, cco, rfl⟩ := own_shape h1.o; have H1 := Lib.hid (And.intro (own_cv h1) hq); clear h1 h2 hq)
  clear HD
  obtain ⟨BC, hBC⟩ : ∃ BC, BC = w1.heap.size := ⟨_, rfl⟩
  have kk := blk_new w1 (.cells #[.int .i64 C.inp, .slice scn C.next.length ccn, .slice scg C.gates.length ccg, .slice sco C.outs.length cco] 31)
  have kb := below_al w1 (.cells #[.int .i64 C.inp, .slice scn C.next.length ccn, .slice scg C.gates.length ccg, .slice sco C.outs.length cco] 31)
  rw [← hBC] at kk
  rw [← hBC]
  revert kk kb
  generalize w1.alloc (.cells #[.int .i64 C.inp, .slice scn C.next.length ccn, .slice scg C.gates.length ccg, .slice sco C.outs.length cco] 31) = WC
  intro kk kb
  clear hBC
  have H5 := Lib.hid (And.intro (H1.out.2.trans (kb.mono H1.out.2.size)) (And.intro (H1.out.1.mono kb) kk))
  clear H1 kk kb
  have hfl := fmtR_le C
  go_upto_region 5 with (go_at_call 21; (with_reducible refine (HL.out _ H5.out.1).mono ?_); rintro e w2 ⟨ls, s6, c6, rfl, h1, h2, h3, hq⟩; have H6 := Lib.hid (And.intro h1 (And.intro h3 (And.intro (H5.out.1.trans (hq.mono H5.out.1.size)) (And.intro (H5.out.2.1.mono hq) (blk_below hq (blk_lt H5.out.2.2) H5.out.2.2))))); clear h1 h3 hq)
  clear HL
  have hll : ls.length ≤ 1048576 := by omega
  have hlx := Lib.hid (fun x h => Nat.le_trans (H6.out.2.1 x h) (by decide) : ∀ x ∈ ls, x.length ≤ 1048576)
  have c5 := (blk_all H6.out.2.2.2.2).1
  go_upto_region 6 with (go_at_call 9; (refine (FormatCircuit_i _ C _ H6.out.2.2.2.1).mono ?_); rintro e w3 ⟨s7, c7, rfl, ho, hq⟩; have H7 := Lib.hid (And.intro (own_sl ho) (And.intro (H6.out.1.mono hq) (And.intro (H6.out.2.2.1.trans (hq.mono H6.out.2.2.1.size)) (And.intro (H6.out.2.2.2.1.mono hq) (blk_below hq (blk_lt H6.out.2.2.2.2) H6.out.2.2.2.2))))); clear ho hq c5)
  go_upto_region 7 with (go_at_call 18; go_loud ((refine (ParseCircuit_i _ _ ls _ H7.out.2.1 hll hlx.out (HG.out.mono HG.out.sz H7.out.2.2.1)).mono ?_); rintro e w4 ⟨D, n, vn, vg, vo, hpr, rfl, hR, hq⟩; obtain ⟨sxn, cxn, rfl⟩ := own_shape hR.n; obtain ⟨sxg, cxg, rfl⟩ := own_shape hR.g; obtain ⟨sxo, cxo, rfl⟩ := own_shape hR.o; have H8 := Lib.hid (And.intro hpr (And.intro (own_cv hR) hq)); clear hpr hR hq))
  obtain ⟨BX, hBX⟩ : ∃ BX, BX = w4.heap.size := ⟨_, rfl⟩
  have kk := blk_new w4 (.cells #[.int .i64 D.inp, .slice sxn D.next.length cxn, .slice sxg D.gates.length cxg, .slice sxo D.outs.length cxo] 31)
  have kb := below_al w4 (.cells #[.int .i64 D.inp, .slice sxn D.next.length cxn, .slice sxg D.gates.length cxg, .slice sxo D.outs.length cxo] 31)
  rw [← hBX] at kk
  rw [← hBX]
  revert kk kb
  generalize w4.alloc (.cells #[.int .i64 D.inp, .slice sxn D.next.length cxn, .slice sxg D.gates.length cxg, .slice sxo D.outs.length cxo] 31) = WX
  intro kk kb
  clear hBX
  have hq8 := H8.out.2.2.trans (kb.mono H8.out.2.2.size)
  have H9 := Lib.hid (And.intro hq8 (And.intro (H8.out.2.1.mono kb) kk))
  have HPR := Lib.hid H8.out.1
  clear H8 kk kb hq8
  go_upto_region 8 with (go_at_call 16; ((refine (ParseCircuit_s _ _ ls _ (H7.out.2.1.mono H9.out.1) hll hlx.out).mono ?_); rintro e w5 ⟨D', n', vn, vg, vo, hpr, rfl, hR, hq⟩; obtain ⟨rfl, rfl⟩ := HPR.out.uniq hpr; obtain ⟨swn, cwn, rfl⟩ := own_shape hR.n; obtain ⟨swg, cwg, rfl⟩ := own_shape hR.g; obtain ⟨swo, cwo, rfl⟩ := own_shape hR.o; have H10 := Lib.hid (And.intro (own_cv hR) hq); clear hpr hR hq))
  obtain ⟨BW, hBW⟩ : ∃ BW, BW = w5.heap.size := ⟨_, rfl⟩
  have kk := blk_new w5 (.cells #[.int .i64 D.inp, .slice swn D.next.length cwn, .slice swg D.gates.length cwg, .slice swo D.outs.length cwo] 31)
  have kb := below_al w5 (.cells #[.int .i64 D.inp, .slice swn D.next.length cwn, .slice swg D.gates.length cwg, .slice swo D.outs.length cwo] 31)
  rw [← hBW] at kk
  rw [← hBW]
  revert kk kb
  generalize w5.alloc (.cells #[.int .i64 D.inp, .slice swn D.next.length cwn, .slice swg D.gates.length cwg, .slice swo D.outs.length cwo] 31) = WW
  intro kk kb
  clear hBW
  have hv0 : FfW w ls s6 s7 C D BC BX BW #[.int .i64 C.inp, .slice scn C.next.length ccn, .slice scg C.gates.length ccg, .slice sco C.outs.length cco] #[.int .i64 D.inp, .slice sxn D.next.length cxn, .slice sxg D.gates.length cxg, .slice sxo D.outs.length cxo] #[.int .i64 D.inp, .slice swn D.next.length cwn, .slice swg D.gates.length cwg, .slice swo D.outs.length cwo] WW := by
    have hq := H10.out.2.trans (kb.mono H10.out.2.size)
    have hq3 := H9.out.1.trans (hq.mono H9.out.1.size)
    exact ⟨H7.out.2.2.1.trans (hq3.mono H7.out.2.2.1.size), H7.out.2.1.mono hq3, H7.out.1.mono hq3, blk_below hq3 (blk_lt H7.out.2.2.2.2) H7.out.2.2.2.2, H7.out.2.2.2.1.mono hq3, blk_below hq (blk_lt H9.out.2.2) H9.out.2.2, H9.out.2.1.mono hq, kk, H10.out.1.mono kb⟩
  have HV := Lib.hid hv0
  clear hv0 kk kb H5 H6 H7 H9 H10
  (try clear c5 c8 c10); have c5 := (blk_all HV.out.k5).1; have c8 := (blk_all HV.out.k8).1; have c10 := (blk_all HV.out.k10).1
  go_upto_region 10 with (first
    | (go_at_call 7; go_loud ((refine (FormatCircuit_s _ C _ HV.out.c).mono ?_); rintro e wq ⟨sa, ca, rfl, ho, hq⟩; have HO := Lib.hid (own_sl ho); have HV := Lib.hid (HV.out.below hq); clear hq; clear ho; (try clear c5 c8 c10); have c5 := (blk_all HV.out.k5).1; have c8 := (blk_all HV.out.k8).1; have c10 := (blk_all HV.out.k10).1))
    | (go_at_call 22; go_loud ((refine (sameStrings_any _ _ (fmtR C) (fmtR C) _ _ _ HV.out.out HO.out (by omega) (by omega)).mono ?_); rintro e wq ⟨rfl, hd⟩; rw [decide_eq_true (rfl : fmtR C = fmtR C)]; have HV := Lib.hid (HV.out.below (hd.below _)); clear hd; (try clear c5 c8 c10); have c5 := (blk_all HV.out.k5).1; have c8 := (blk_all HV.out.k8).1; have c10 := (blk_all HV.out.k10).1))
    | (go_at_call 23; go_loud ((refine (sameCircuitG_any _ _ D D _ HV.out.x HV.out.s).mono ?_); rintro e wq ⟨rfl, hq⟩; rw [cirB_self]; have HV := Lib.hid (HV.out.below hq); clear hq; (try clear c5 c8 c10); have c5 := (blk_all HV.out.k5).1; have c8 := (blk_all HV.out.k8).1; have c10 := (blk_all HV.out.k10).1)))

  by_cases hn : n = 0
  · subst hn
    have HP := Lib.hid HPR.out.accepted
    go_upto_region 14 with (first
      | (go_at_call 24; go_loud ((refine (CircuitValid_i _ D _ HV.out.x).mono ?_); rintro e wq ⟨rfl, hq⟩; rw [HP.out.1]; have HV := Lib.hid (HV.out.below hq); clear hq; (try clear c5 c8 c10); have c5 := (blk_all HV.out.k5).1; have c8 := (blk_all HV.out.k8).1; have c10 := (blk_all HV.out.k10).1))
      | (go_at_call 9; go_loud ((refine (FormatCircuit_i _ D _ HV.out.x).mono ?_); rintro e wq ⟨sa, ca, rfl, ho, hq⟩; rw [HP.out.2] at ho ⊢; have HO := Lib.hid (own_sl ho); have HV := Lib.hid (HV.out.below hq); clear hq; clear ho; (try clear c5 c8 c10); have c5 := (blk_all HV.out.k5).1; have c8 := (blk_all HV.out.k8).1; have c10 := (blk_all HV.out.k10).1))
      | (go_at_call 22; go_loud ((refine (sameStrings_any _ _ ls ls _ _ _ HO.out HV.out.ls (by omega) (by omega)).mono ?_); rintro e wq ⟨rfl, hd⟩; rw [decide_eq_true (rfl : ls = ls)]; have HV := Lib.hid (HV.out.below (hd.below _)); clear hd; (try clear c5 c8 c10); have c5 := (blk_all HV.out.k5).1; have c8 := (blk_all HV.out.k8).1; have c10 := (blk_all HV.out.k10).1)))
    cases hvC : C.validB
    · have HVC := Lib.hid hvC
      have h0 : (fmtR C).length = 0 := by unfold fmtR; rw [hvC]; rfl
      have h1 : (((fmtR C).length : Int) == 0) = true := by rw [h0]; rfl
      clear hvC h0
      go_wp2_with (first
        | (go_at_call 25; go_loud ((refine (CircuitValid_s _ C _ HV.out.c).mono ?_); rintro e wq ⟨rfl, hq⟩; rw [HVC.out]; have HV := Lib.hid (HV.out.below hq); clear hq; (try clear c5 c8 c10); have c5 := (blk_all HV.out.k5).1; have c8 := (blk_all HV.out.k8).1; have c10 := (blk_all HV.out.k10).1))
        | (go_at_call 26; go_loud ((refine (aliveR_any _).mono ?_); rintro e wq ⟨rfl, hq⟩; have HV := Lib.hid (HV.out.below hq); clear hq; (try clear c5 c8 c10); have c5 := (blk_all HV.out.k5).1; have c8 := (blk_all HV.out.k8).1; have c10 := (blk_all HV.out.k10).1)))
      go_ret
      exact ⟨rfl, HV.out.bel⟩
    · have HVC := Lib.hid hvC
      have hbd := fmtR_bd (C.validB_iff.1 hvC)
      have hfx := Lib.hid (fun x h => Nat.le_trans (hbd.2.2 x h) (by decide) : ∀ x ∈ fmtR C, x.length ≤ 1048576)
      clear hvC hbd
      go_upto_region 16 with (go_at_call 25; go_loud ((refine (CircuitValid_s _ C _ HV.out.c).mono ?_); rintro e wq ⟨rfl, hq⟩; rw [HVC.out]; have HV := Lib.hid (HV.out.below hq); clear hq; (try clear c5 c8 c10); have c5 := (blk_all HV.out.k5).1; have c8 := (blk_all HV.out.k8).1; have c10 := (blk_all HV.out.k10).1))
      go_upto_region 17 with (go_at_call 18; ((refine (ParseCircuit_i _ _ (fmtR C) _ HV.out.out (by omega) hfx.out (HG.out.mono HG.out.sz HV.out.bel)).mono ?_); rintro e wq ⟨D', n', vn, vg, vo, hpr, rfl, hR, hq⟩; obtain ⟨rfl, rfl⟩ := (PR.format HVC.out).uniq hpr; obtain ⟨syn, cyn, rfl⟩ := own_shape hR.n; obtain ⟨syg, cyg, rfl⟩ := own_shape hR.g; obtain ⟨syo, cyo, rfl⟩ := own_shape hR.o; have HY := Lib.hid (own_cv hR); have HV := Lib.hid (HV.out.below hq); clear hpr hR hq; (try clear c5 c8 c10); have c5 := (blk_all HV.out.k5).1; have c8 := (blk_all HV.out.k8).1; have c10 := (blk_all HV.out.k10).1))
      clear c5 c8 c10
      obtain ⟨BY, hBY⟩ : ∃ BY, BY = wq.heap.size := ⟨_, rfl⟩
      have kk := blk_new wq (.cells #[.int .i64 C.inp, .slice syn C.next.length cyn, .slice syg C.gates.length cyg, .slice syo C.outs.length cyo] 31)
      have kb := below_al wq (.cells #[.int .i64 C.inp, .slice syn C.next.length cyn, .slice syg C.gates.length cyg, .slice syo C.outs.length cyo] 31)
      rw [← hBY] at kk
      rw [← hBY]
      revert kk kb
      generalize wq.alloc (.cells #[.int .i64 C.inp, .slice syn C.next.length cyn, .slice syg C.gates.length cyg, .slice syo C.outs.length cyo] 31) = WY
      intro kk kb
      clear hBY
      have HV := Lib.hid (HV.out.below kb)
      have HY := Lib.hid (And.intro (HY.out.mono kb) kk)
      clear kk kb
      have c12 := (blk_all HY.out.2).1
      have c5 := (blk_all HV.out.k5).1
      go_wp2_with (go_at_call 23; ((refine (sameCircuitG_any _ _ C C _ HY.out.1 HV.out.c).mono ?_); rintro e wz ⟨rfl, hq⟩; rw [cirB_self]; have HV := Lib.hid (HV.out.below hq); clear hq c12 c5))
      go_ret
      exact ⟨rfl, HV.out.bel⟩
  · have HP := Lib.hid (HPR.out.rejected hn)
    have n1 := HP.out.1
    have n2 := HP.out.2.1
    have e1 : (n == 0) = false := beq_eq_false_iff_ne.2 hn
    have e2 : (n != 0) = true := bne_iff_ne.2 hn
    clear hn
    go_upto_region 14 with (first
      | (go_at_call 23; go_loud ((refine (sameCircuitG_any _ _ D c0 _ HV.out.x (c0_v _)).mono ?_); rintro e wq ⟨rfl, hq⟩; rw [HP.out.2.2, cirB_self, ← HP.out.2.2]; have HV := Lib.hid (HV.out.below hq); clear hq; (try clear c5 c8 c10); have c5 := (blk_all HV.out.k5).1; have c8 := (blk_all HV.out.k8).1; have c10 := (blk_all HV.out.k10).1)))
    cases hvC : C.validB
    · have HVC := Lib.hid hvC
      have h0 : (fmtR C).length = 0 := by unfold fmtR; rw [hvC]; rfl
      have h1 : (((fmtR C).length : Int) == 0) = true := by rw [h0]; rfl
      clear hvC h0
      go_wp2_with (first
        | (go_at_call 25; go_loud ((refine (CircuitValid_s _ C _ HV.out.c).mono ?_); rintro e wq ⟨rfl, hq⟩; rw [HVC.out]; have HV := Lib.hid (HV.out.below hq); clear hq; (try clear c5 c8 c10); have c5 := (blk_all HV.out.k5).1; have c8 := (blk_all HV.out.k8).1; have c10 := (blk_all HV.out.k10).1))
        | (go_at_call 26; go_loud ((refine (aliveR_any _).mono ?_); rintro e wq ⟨rfl, hq⟩; have HV := Lib.hid (HV.out.below hq); clear hq; (try clear c5 c8 c10); have c5 := (blk_all HV.out.k5).1; have c8 := (blk_all HV.out.k8).1; have c10 := (blk_all HV.out.k10).1)))
      go_ret
      exact ⟨rfl, HV.out.bel⟩
    · have HVC := Lib.hid hvC
      have hbd := fmtR_bd (C.validB_iff.1 hvC)
      have hfx := Lib.hid (fun x h => Nat.le_trans (hbd.2.2 x h) (by decide) : ∀ x ∈ fmtR C, x.length ≤ 1048576)
      clear hvC hbd
      go_upto_region 16 with (go_at_call 25; go_loud ((refine (CircuitValid_s _ C _ HV.out.c).mono ?_); rintro e wq ⟨rfl, hq⟩; rw [HVC.out]; have HV := Lib.hid (HV.out.below hq); clear hq; (try clear c5 c8 c10); have c5 := (blk_all HV.out.k5).1; have c8 := (blk_all HV.out.k8).1; have c10 := (blk_all HV.out.k10).1))
      go_upto_region 17 with (go_at_call 18; ((refine (ParseCircuit_i _ _ (fmtR C) _ HV.out.out (by omega) hfx.out (HG.out.mono HG.out.sz HV.out.bel)).mono ?_); rintro e wq ⟨D', n', vn, vg, vo, hpr, rfl, hR, hq⟩; obtain ⟨rfl, rfl⟩ := (PR.format HVC.out).uniq hpr; obtain ⟨syn, cyn, rfl⟩ := own_shape hR.n; obtain ⟨syg, cyg, rfl⟩ := own_shape hR.g; obtain ⟨syo, cyo, rfl⟩ := own_shape hR.o; have HY := Lib.hid (own_cv hR); have HV := Lib.hid (HV.out.below hq); clear hpr hR hq; (try clear c5 c8 c10); have c5 := (blk_all HV.out.k5).1; have c8 := (blk_all HV.out.k8).1; have c10 := (blk_all HV.out.k10).1))
      clear c5 c8 c10
      obtain ⟨BY, hBY⟩ : ∃ BY, BY = wq.heap.size := ⟨_, rfl⟩
      have kk := blk_new wq (.cells #[.int .i64 C.inp, .slice syn C.next.length cyn, .slice syg C.gates.length cyg, .slice syo C.outs.length cyo] 31)
      have kb := below_al wq (.cells #[.int .i64 C.inp, .slice syn C.next.length cyn, .slice syg C.gates.length cyg, .slice syo C.outs.length cyo] 31)
      rw [← hBY] at kk
      rw [← hBY]
      revert kk kb
      generalize wq.alloc (.cells #[.int .i64 C.inp, .slice syn C.next.length cyn, .slice syg C.gates.length cyg, .slice syo C.outs.length cyo] 31) = WY
      intro kk kb
      clear hBY
      have HV := Lib.hid (HV.out.below kb)
      have HY := Lib.hid (And.intro (HY.out.mono kb) kk)
      clear kk kb
      have c12 := (blk_all HY.out.2).1
      have c5 := (blk_all HV.out.k5).1
      go_wp2_with (go_at_call 23; ((refine (sameCircuitG_any _ _ C C _ HY.out.1 HV.out.c).mono ?_); rintro e wz ⟨rfl, hq⟩; rw [cirB_self]; have HV := Lib.hid (HV.out.below hq); clear hq c12 c5))
      go_ret
      exact ⟨rfl, HV.out.bel⟩

set_option maxRecDepth 100000 in
set_option maxHeartbeats 6400000 in
theorem FnFormat_any (s : Option Addr) (cap : Nat) (xs : List Int) (t : Option Addr) (cat : Nat) (ys : List Int) (w : World)
    (hs : Sl w s (u8s xs)) (hl : xs.length ≤ 9223372036854775807) (hcap : xs.length ≤ cap) (hcap2 : cap ≤ 9223372036854775807) (hr : ∀ x ∈ xs, 0 ≤ x ∧ x ≤ 255)
    (ht : Sl w t (u8s ys)) (hl' : ys.length ≤ 9223372036854775807) (hcat : ys.length ≤ cat) (hcat2 : cat ≤ 9223372036854775807) (hr' : ∀ x ∈ ys, 0 ≤ x ∧ x ≤ 255) (hg : Gl w) :
    Calls Tryd.prog 5 #[.slice s xs.length cap, .slice t ys.length cat] w fun e w' => e = .returned (.bool true) ∧ Below w.heap.size w w' := by
  by_cases hc : xs.length ≤ 1048576 ∧ ys.length ≤ 1048576
  · obtain ⟨hc, hc'⟩ := hc
    exact FnFormat_small s cap xs t cat ys w hs hc hcap hcap2 hr ht hc' hcat hcat2 hr' hg
  · clear hs hr ht hr' hg
    by_cases h1 : xs.length ≤ 1048576
    · have h2 : ¬ ys.length ≤ 1048576 := fun h => hc ⟨h1, h⟩
      clear hc
      go_enter Tryd.func5, Tryd.ntmps5
      go_wp2_with fail
      go_ret
      exact ⟨rfl, Below.refl _ _⟩
    · clear hc
      go_enter Tryd.func5, Tryd.ntmps5
      go_wp2_with fail
      go_ret
      exact ⟨rfl, Below.refl _ _⟩

end Go.Proofs.YtnifgamlmaembaaDoor
