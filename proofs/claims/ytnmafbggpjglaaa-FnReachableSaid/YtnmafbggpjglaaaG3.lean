import Derived.Test.YtnmafbggpjglaaaG1
namespace Go.Proofs.Ytnmafbggpjglaaa
set_option linter.unusedVariables false
set_option linter.unusedSimpArgs false
open Go.RowKit

/-! force and ForceGate of the program. -/

theorem own_sets4' {w : World} {base base' r : Nat} {e : TypeId} {size : Nat} {v : Value} {n : Nat} {xs : List Value} (h : w.ownsRow base' e size v n xs) (hr : r < base') (hb : base ≤ base') {a b c d : Value} : ((((w.setCell ⟨r, 0, none⟩ a).setCell ⟨r, 1, none⟩ b).setCell ⟨r, 2, none⟩ c).setCell ⟨r, 3, none⟩ d).ownsRow base e size v n xs :=
  have hne : v.ownBlock ≠ some r := fun he => by have := (own_blk h he).1; omega
  own_set_ne (own_set_ne (own_set_ne (own_set_ne (own_base h hb) hne _) hne _) hne _) hne _
theorem CirOwn.sets4 {w : World} {base base' r : Nat} {c : Cir} {vn vg vo : Value} (h : CirOwn w base' c vn vg vo) (hr : r < base') (hb : base ≤ base') {a b' c' d : Value} : CirOwn ((((w.setCell ⟨r, 0, none⟩ a).setCell ⟨r, 1, none⟩ b').setCell ⟨r, 2, none⟩ c').setCell ⟨r, 3, none⟩ d) base c vn vg vo :=
  ⟨own_sets4' h.n hr hb, own_sets4' h.g hr hb, own_sets4' h.o hr hb, h.ne, h.l1, h.l2, h.l3⟩

set_option maxHeartbeats 1600000 in
theorem force_any (b : Nat) (c : Cir) (sn sg so : Option Addr) (cn cg co : Nat) (p : Int) (val : Bool) (w : World) (h : CirAt w b c.inp (.slice sn c.next.length cn) (.slice sg c.gates.length cg) (.slice so c.outs.length co))
    (hn : Sl w sn (ints c.next)) (hg : Sl w sg (gcells c.gates)) (ho : Sl w so (ints c.outs)) (hv : c.valid) :
    Calls Try.prog 70 #[.pointer (some ⟨b, 0, none⟩), .int .i64 p, .bool val] w fun e w' => ∃ vn vg vo, e = .returned (.agg #[.int .i64 c.inp, vn, vg, vo]) ∧ CirOwn w' w.heap.size (c.mapC (forceL p val)) vn vg vo ∧ Below w.heap.size w w' := by
  have HB : Hid (b < w.heap.size) := World.block_lt_of_cell? w _ h.h0
  have hb0 : Below w.heap.size w (((w.alloc (.cells #[.int .i64 p] 3)).alloc (.cells #[.bool val] 4)).alloc (.cells #[.int .i64 0, .slice none 0 0, .slice none 0 0, .slice none 0 0] 26)) := by go_grown
  have hk := blk3 w (.cells #[.int .i64 p] 3) (.cells #[.bool val] 4) (.cells #[.int .i64 0, .slice none 0 0, .slice none 0 0, .slice none 0 0] 26)
  have hv22 : c.vars ≤ 22 := by have := valid_first hv; omega
  have H := Lib.hid (And.intro h (And.intro hn (And.intro hg (And.intro ho (And.intro hv hv22)))))
  have H0 := Lib.hid (And.intro hb0 hk)
  clear h hn hg ho hv hb0 hk hv22
  go_enter Try.func70, Try.ntmps70
  go_wp2_with fail
  revert H0
  generalize (((w.alloc (.cells #[.int .i64 p] 3)).alloc (.cells #[.bool val] 4)).alloc (.cells #[.int .i64 0, .slice none 0 0, .slice none 0 0, .slice none 0 0] 26)) = W0
  intro H0
  refine (replaced_any b w.heap.size (w.heap.size + 1) c (forceL p val) sn sg so cn cg co W0 ⟨(H0.out.1.cell (p := ⟨b, 0, none⟩) HB.out).trans H.out.1.h0, (H0.out.1.cell (p := ⟨b, 1, none⟩) HB.out).trans H.out.1.h1, (H0.out.1.cell (p := ⟨b, 2, none⟩) HB.out).trans H.out.1.h2, (H0.out.1.cell (p := ⟨b, 3, none⟩) HB.out).trans H.out.1.h3⟩ (H.out.2.1.mono H0.out.1) (H.out.2.2.1.mono H0.out.1) (H.out.2.2.2.1.mono H0.out.1) H.out.2.2.2.2.1 (fun W l hW h0 h1 => force1_any w.heap.size (w.heap.size + 1) l p val W (blk_cell (blk_below hW (by have := H0.out.2.2.2.2; omega) H0.out.2.1)) (blk_cell (blk_below hW (by have := H0.out.2.2.2.2; omega) H0.out.2.2.1)) h0 (by have := H.out.2.2.2.2.2; omega))).mono ?_
  rintro e w1 ⟨vn, vg, vo, rfl, hR, hq⟩
  obtain ⟨s1, c1, rfl⟩ := own_shape hR.n
  obtain ⟨s2, c2, rfl⟩ := own_shape hR.g
  obtain ⟨s3, c3, rfl⟩ := own_shape hR.o
  have hz := H0.out.2.2.2.2
  have hres := blk_below hq (by omega) H0.out.2.2.2.1
  obtain ⟨rc, rf⟩ := blk_all hres
  have HF := Lib.hid (And.intro hR (And.intro (H0.out.1.trans (hq.mono (by omega))) hres))
  rw [hz] at hR
  have HF2 := Lib.hid hR
  clear hR hq hres
  go_wp2_with fail
  have hZ : ((((w1.setCell ⟨w.heap.size + 2, 0, none⟩ (.int .i64 c.inp)).setCell ⟨w.heap.size + 2, 1, none⟩ (.slice s1 (c.mapC (forceL p val)).next.length c1)).setCell ⟨w.heap.size + 2, 2, none⟩ (.slice s2 (c.mapC (forceL p val)).gates.length c2)).setCell ⟨w.heap.size + 2, 3, none⟩ (.slice s3 (c.mapC (forceL p val)).outs.length c3)).heap[w.heap.size + 2]? = some (.cells #[.int .i64 c.inp, .slice s1 (c.mapC (forceL p val)).next.length c1, .slice s2 (c.mapC (forceL p val)).gates.length c2, .slice s3 (c.mapC (forceL p val)).outs.length c3] 26 (0, 0)) := by
    simpa using blk_set (o := 3) (v := .slice s3 (c.mapC (forceL p val)).outs.length c3) (blk_set (o := 2) (v := .slice s2 (c.mapC (forceL p val)).gates.length c2) (blk_set (o := 1) (v := .slice s1 (c.mapC (forceL p val)).next.length c1) (blk_set (o := 0) (v := .int .i64 c.inp) HF.out.2.2)))
  have hR := (HF2.out).sets4 (r := w.heap.size + 2) (by omega) (base := w.heap.size) (by omega) (a := .int .i64 c.inp) (b' := .slice s1 (c.mapC (forceL p val)).next.length c1) (c' := .slice s2 (c.mapC (forceL p val)).gates.length c2) (d := .slice s3 (c.mapC (forceL p val)).outs.length c3)
  have hB := ((((HF.out.2.1).setCell (p := ⟨w.heap.size + 2, 0, none⟩) (by simp) (.int .i64 c.inp)).setCell (p := ⟨w.heap.size + 2, 1, none⟩) (by simp) (.slice s1 (c.mapC (forceL p val)).next.length c1)).setCell (p := ⟨w.heap.size + 2, 2, none⟩) (by simp) (.slice s2 (c.mapC (forceL p val)).gates.length c2)).setCell (p := ⟨w.heap.size + 2, 3, none⟩) (by simp) (.slice s3 (c.mapC (forceL p val)).outs.length c3)
  revert hZ hR hB
  generalize ((((w1.setCell ⟨w.heap.size + 2, 0, none⟩ (.int .i64 c.inp)).setCell ⟨w.heap.size + 2, 1, none⟩ (.slice s1 (c.mapC (forceL p val)).next.length c1)).setCell ⟨w.heap.size + 2, 2, none⟩ (.slice s2 (c.mapC (forceL p val)).gates.length c2)).setCell ⟨w.heap.size + 2, 3, none⟩ (.slice s3 (c.mapC (forceL p val)).outs.length c3)) = WZ
  intro hZ hR hB
  have cr := (blk_all hZ).1
  exact bodyPost_ret (v := .agg #[.int .i64 c.inp, .slice s1 (c.mapC (forceL p val)).next.length c1, .slice s2 (c.mapC (forceL p val)).gates.length c2, .slice s3 (c.mapC (forceL p val)).outs.length c3]) (by simp [results, Try.results70, go_sem, cr]) rfl ⟨_, _, _, rfl, hR, hB⟩

def fgOk (c : Cir) (p : Int) : Prop := c.validB = true ∧ c.first ≤ p ∧ p < c.vars
instance (c : Cir) (p : Int) : Decidable (fgOk c p) := inferInstanceAs (Decidable (_ ∧ _))
def fgR (c : Cir) (p : Int) (val : Bool) : Cir := if fgOk c p then c.mapC (forceL p val) else ⟨0, [], [], []⟩
theorem fgR_no {c : Cir} {p : Int} {val : Bool} (h : ¬ fgOk c p) : fgR c p val = ⟨0, [], [], []⟩ := by unfold fgR; rw [if_neg h]
theorem fgR_yes {c : Cir} {p : Int} {val : Bool} (h : fgOk c p) : fgR c p val = c.mapC (forceL p val) := by unfold fgR; rw [if_pos h]

set_option maxHeartbeats 1600000 in
theorem ForceGate_i (v : Value) (c : Cir) (p : Int) (val : Bool) (w : World) (h : CirV w v c) :
    Calls Try.prog 36 #[v, .int .i64 p, .bool val] w fun e w' => ∃ vn vg vo, e = .returned (.agg #[.int .i64 (fgR c p val).inp, vn, vg, vo]) ∧ CirOwn w' w.heap.size (fgR c p val) vn vg vo ∧ Below w.heap.size w w' := by
  have HC : Hid (∀ w', Below w.heap.size w w' → CirV w' v c) := fun w' hb => h.mono hb
  obtain ⟨sn, cn, sg, cg, so, co, rfl, h1, h2, h3, hl1, hl2, hl3⟩ := h
  have hL : Below w.heap.size w ((w.alloc (.cells #[.int .i64 c.inp, .slice sn c.next.length cn, .slice sg c.gates.length cg, .slice so c.outs.length co] 26)).alloc (.cells #[.int .i64 0, .slice none 0 0, .slice none 0 0, .slice none 0 0] 26)) := by go_grown
  have hN := blk_old (o := .cells #[.int .i64 0, .slice none 0 0, .slice none 0 0, .slice none 0 0] 26) (blk_new w (.cells #[.int .i64 c.inp, .slice sn c.next.length cn, .slice sg c.gates.length cg, .slice so c.outs.length co] 26))
  have hM : ((w.alloc (.cells #[.int .i64 c.inp, .slice sn c.next.length cn, .slice sg c.gates.length cg, .slice so c.outs.length co] 26)).alloc (.cells #[.int .i64 0, .slice none 0 0, .slice none 0 0, .slice none 0 0] 26)).heap[w.heap.size + 1]? = some (.cells #[.int .i64 0, .slice none 0 0, .slice none 0 0, .slice none 0 0] 26 (0, 0)) := blk_at (by simp)
  have hZ : ((w.alloc (.cells #[.int .i64 c.inp, .slice sn c.next.length cn, .slice sg c.gates.length cg, .slice so c.outs.length co] 26)).alloc (.cells #[.int .i64 0, .slice none 0 0, .slice none 0 0, .slice none 0 0] 26)).heap.size = w.heap.size + 2 := by simp
  have hNl : w.heap.size < w.heap.size + 2 := by omega
  have HL := Lib.hid (And.intro hL (And.intro hN (And.intro hM (And.intro hZ (And.intro h1 (And.intro h2 h3))))))
  clear hL hN hM hZ h1 h2 h3
  have hbad : ∀ (W : World), Below w.heap.size w W → W.heap[w.heap.size + 1]? = some (.cells #[.int .i64 0, .slice none 0 0, .slice none 0 0, .slice none 0 0] 26 (0, 0)) → CirOwn W (w.heap.size + 2) ⟨0, [], [], []⟩ (.slice none 0 0) (.slice none 0 0) (.slice none 0 0) := fun W _ _ =>
    ⟨World.ownsRow_nil _ _ _ _, World.ownsRow_nil _ _ _ _, World.ownsRow_nil _ _ _ _, (fun k hk => by cases hk), by simp, by simp, by simp⟩
  have HBad := Lib.hid hbad
  clear hbad
  cases hv : c.validB
  · have e : fgR c p val = ⟨0, [], [], []⟩ := fgR_no fun h => by rw [h.1] at hv; cases hv
    rw [e]
    have HE := Lib.hid hv
    clear hv e
    go_enter Try.func36, Try.ntmps36
    go_wp2_with (go_at_call 45; ((with_reducible refine (CircuitValid_i _ _ _ (HC.out _ HL.out.1)).mono ?_); rintro e w1 ⟨rfl, hq⟩; have hm := blk_below hq (by have := HL.out.2.2.2.1; omega) HL.out.2.2.1; obtain ⟨rc, rf⟩ := blk_all hm; have HQ := Lib.hid (And.intro (HL.out.1.trans (hq.mono (by have := HL.out.2.2.2.1; omega))) hm); clear hq hm; rw [HE.out]))
    have hZ : ((((w1.setCell ⟨w.heap.size + 1, 0, none⟩ (.int .i64 0)).setCell ⟨w.heap.size + 1, 1, none⟩ (.slice none 0 0)).setCell ⟨w.heap.size + 1, 2, none⟩ (.slice none 0 0)).setCell ⟨w.heap.size + 1, 3, none⟩ (.slice none 0 0)).heap[w.heap.size + 1]? = some (.cells #[.int .i64 0, .slice none 0 0, .slice none 0 0, .slice none 0 0] 26 (0, 0)) := by
      simpa using blk_set (o := 3) (v := .slice none 0 0) (blk_set (o := 2) (v := .slice none 0 0) (blk_set (o := 1) (v := .slice none 0 0) (blk_set (o := 0) (v := .int .i64 0) HQ.out.2)))
    have hR := (HBad.out _ HQ.out.1 HQ.out.2).sets4 (r := w.heap.size + 1) (by omega) (base := w.heap.size) (by omega) (a := .int .i64 0) (b' := .slice none 0 0) (c' := .slice none 0 0) (d := .slice none 0 0)
    have hB := ((((HQ.out.1).setCell (p := ⟨w.heap.size + 1, 0, none⟩) (by simp) (.int .i64 0)).setCell (p := ⟨w.heap.size + 1, 1, none⟩) (by simp) (.slice none 0 0)).setCell (p := ⟨w.heap.size + 1, 2, none⟩) (by simp) (.slice none 0 0)).setCell (p := ⟨w.heap.size + 1, 3, none⟩) (by simp) (.slice none 0 0)
    revert hZ hR hB
    generalize ((((w1.setCell ⟨w.heap.size + 1, 0, none⟩ (.int .i64 0)).setCell ⟨w.heap.size + 1, 1, none⟩ (.slice none 0 0)).setCell ⟨w.heap.size + 1, 2, none⟩ (.slice none 0 0)).setCell ⟨w.heap.size + 1, 3, none⟩ (.slice none 0 0)) = WZ
    intro hZ hR hB
    have cr := (blk_all hZ).1
    exact bodyPost_ret (v := .agg #[.int .i64 0, .slice none 0 0, .slice none 0 0, .slice none 0 0]) (by simp [results, Try.results36, go_sem, cr]) rfl ⟨_, _, _, rfl, hR, hB⟩
  · have hval := c.validB_iff.1 hv
    obtain ⟨f1, f2, f3, f4⟩ := valid_first hval
    obtain ⟨q1, q2, q3, q4, q5⟩ := id hval.lim
    have eC : c.first = 1 + c.inp + c.next.length := rfl
    obtain ⟨F, hF⟩ : ∃ F : Nat, c.first = F := ⟨c.first.toNat, by omega⟩
    obtain ⟨V, hV⟩ : ∃ V : Nat, c.vars = V := ⟨c.vars.toNat, by omega⟩
    have e1 : 1 + c.inp + (c.next.length : Int) = (F : Int) := by omega
    have e2 : 1 + c.inp + (c.next.length : Int) + (c.gates.length : Int) = (V : Int) := hV
    have v22 : V ≤ 22 := by omega
    have HH := Lib.hid (And.intro hv (And.intro hval (And.intro hF (And.intro hV (And.intro e1 e2)))))
    clear hv hval f1 f2 f3 f4 eC hF hV e1 e2
    by_cases hok : (F : Int) ≤ p ∧ p < (V : Int)
    · have e : fgR c p val = c.mapC (forceL p val) := fgR_yes ⟨HH.out.1, by rw [HH.out.2.2.1]; exact hok.1, by rw [HH.out.2.2.2.1]; exact hok.2⟩
      rw [e]
      obtain ⟨o1, o2⟩ := hok
      clear e
      go_enter Try.func36, Try.ntmps36
      go_wp2_with (first
        | (go_at_call 45; ((with_reducible refine (CircuitValid_i _ _ _ (HC.out _ HL.out.1)).mono ?_); rintro e w1 ⟨rfl, hq⟩; have hm := blk_below hq (by have := HL.out.2.2.2.1; omega) HL.out.2.2.1; have HQ := Lib.hid (And.intro (HL.out.1.trans (hq.mono (by have := HL.out.2.2.2.1; omega))) (And.intro hm (blk_below hq (blk_lt HL.out.2.1) HL.out.2.1))); clear hq hm; rw [HH.out.1]))
        | (go_at_call 59; ((refine (firstGate_any _ _ _ _ _ _ _ _ (CirAt.of_blk HQ.out.2.2) (by omega) (by omega)).mono ?_); rintro e w2 ⟨rfl, hd⟩; rw [HH.out.2.2.2.2.1]; have HQ := Lib.hid (And.intro (HQ.out.1.trans (hd.below _)) (And.intro (blk_below (hd.below _) (blk_lt HQ.out.2.1) HQ.out.2.1) (blk_below (hd.below _) (blk_lt HQ.out.2.2) HQ.out.2.2))); clear hd))
        | (go_at_call 60; ((refine (vars_any _ _ _ _ _ _ _ _ _ _ (CirAt.of_blk HQ.out.2.2) (by omega) (by omega) (by omega)).mono ?_); rintro e w3 ⟨rfl, hd⟩; rw [HH.out.2.2.2.2.2]; have HQ := Lib.hid (And.intro (HQ.out.1.trans (hd.below _)) (And.intro (blk_below (hd.below _) (blk_lt HQ.out.2.1) HQ.out.2.1) (blk_below (hd.below _) (blk_lt HQ.out.2.2) HQ.out.2.2))); clear hd))
        | (go_at_call 70; ((refine (force_any _ c _ _ _ _ _ _ _ _ _ (CirAt.of_blk HQ.out.2.2) (HL.out.2.2.2.2.1.mono HQ.out.1) (HL.out.2.2.2.2.2.1.mono HQ.out.1) (HL.out.2.2.2.2.2.2.mono HQ.out.1) HH.out.2.1).mono ?_); rintro e w4 ⟨vn, vg, vo, rfl, hR, hq⟩; obtain ⟨s1, c1, rfl⟩ := own_shape hR.n; obtain ⟨s2, c2, rfl⟩ := own_shape hR.g; obtain ⟨s3, c3, rfl⟩ := own_shape hR.o; have hlt := blk_lt HQ.out.2.1; have hm := blk_below hq hlt HQ.out.2.1; obtain ⟨rc, rf⟩ := blk_all hm; have HF := Lib.hid (And.intro hR (And.intro (HQ.out.1.trans (hq.mono HQ.out.1.size)) hm)); clear hq hm hR)))
      have hZ : ((((w4.setCell ⟨w.heap.size + 1, 0, none⟩ (.int .i64 c.inp)).setCell ⟨w.heap.size + 1, 1, none⟩ (.slice s1 (c.mapC (forceL p val)).next.length c1)).setCell ⟨w.heap.size + 1, 2, none⟩ (.slice s2 (c.mapC (forceL p val)).gates.length c2)).setCell ⟨w.heap.size + 1, 3, none⟩ (.slice s3 (c.mapC (forceL p val)).outs.length c3)).heap[w.heap.size + 1]? = some (.cells #[.int .i64 c.inp, .slice s1 (c.mapC (forceL p val)).next.length c1, .slice s2 (c.mapC (forceL p val)).gates.length c2, .slice s3 (c.mapC (forceL p val)).outs.length c3] 26 (0, 0)) := by
        simpa using blk_set (o := 3) (v := .slice s3 (c.mapC (forceL p val)).outs.length c3) (blk_set (o := 2) (v := .slice s2 (c.mapC (forceL p val)).gates.length c2) (blk_set (o := 1) (v := .slice s1 (c.mapC (forceL p val)).next.length c1) (blk_set (o := 0) (v := .int .i64 c.inp) HF.out.2.2)))
      have hR := (HF.out.1).sets4 (r := w.heap.size + 1) (by omega) (base := w.heap.size) (by omega) (a := .int .i64 c.inp) (b' := .slice s1 (c.mapC (forceL p val)).next.length c1) (c' := .slice s2 (c.mapC (forceL p val)).gates.length c2) (d := .slice s3 (c.mapC (forceL p val)).outs.length c3)
      have hB := ((((HF.out.2.1).setCell (p := ⟨w.heap.size + 1, 0, none⟩) (by simp) (.int .i64 c.inp)).setCell (p := ⟨w.heap.size + 1, 1, none⟩) (by simp) (.slice s1 (c.mapC (forceL p val)).next.length c1)).setCell (p := ⟨w.heap.size + 1, 2, none⟩) (by simp) (.slice s2 (c.mapC (forceL p val)).gates.length c2)).setCell (p := ⟨w.heap.size + 1, 3, none⟩) (by simp) (.slice s3 (c.mapC (forceL p val)).outs.length c3)
      revert hZ hR hB
      generalize ((((w4.setCell ⟨w.heap.size + 1, 0, none⟩ (.int .i64 c.inp)).setCell ⟨w.heap.size + 1, 1, none⟩ (.slice s1 (c.mapC (forceL p val)).next.length c1)).setCell ⟨w.heap.size + 1, 2, none⟩ (.slice s2 (c.mapC (forceL p val)).gates.length c2)).setCell ⟨w.heap.size + 1, 3, none⟩ (.slice s3 (c.mapC (forceL p val)).outs.length c3)) = WZ
      intro hZ hR hB
      have cr := (blk_all hZ).1
      exact bodyPost_ret (v := .agg #[.int .i64 c.inp, .slice s1 (c.mapC (forceL p val)).next.length c1, .slice s2 (c.mapC (forceL p val)).gates.length c2, .slice s3 (c.mapC (forceL p val)).outs.length c3]) (by simp [results, Try.results36, go_sem, cr]) rfl ⟨_, _, _, rfl, hR, hB⟩
    · have e : fgR c p val = ⟨0, [], [], []⟩ := fgR_no fun h => hok ⟨by have := h.2.1; rw [HH.out.2.2.1] at this; exact this, by have := h.2.2; rw [HH.out.2.2.2.1] at this; exact this⟩
      rw [e]
      have HE := Lib.hid hok
      clear e hok
      by_cases hf : (F : Int) ≤ p
      all_goals
        go_enter Try.func36, Try.ntmps36
        go_wp2_with (first
          | (go_at_call 45; ((with_reducible refine (CircuitValid_i _ _ _ (HC.out _ HL.out.1)).mono ?_); rintro e w1 ⟨rfl, hq⟩; have hm := blk_below hq (by have := HL.out.2.2.2.1; omega) HL.out.2.2.1; have HQ := Lib.hid (And.intro (HL.out.1.trans (hq.mono (by have := HL.out.2.2.2.1; omega))) (And.intro hm (blk_below hq (blk_lt HL.out.2.1) HL.out.2.1))); clear hq hm; rw [HH.out.1]))
          | (go_at_call 59; ((refine (firstGate_any _ _ _ _ _ _ _ _ (CirAt.of_blk HQ.out.2.2) (by omega) (by omega)).mono ?_); rintro e w3 ⟨rfl, hd⟩; rw [HH.out.2.2.2.2.1]; have HQ := Lib.hid (And.intro (HQ.out.1.trans (hd.below _)) (And.intro (blk_below (hd.below _) (blk_lt HQ.out.2.1) HQ.out.2.1) (blk_below (hd.below _) (blk_lt HQ.out.2.2) HQ.out.2.2))); obtain ⟨rc, rf⟩ := blk_all HQ.out.2.1; clear hd))
          | (go_at_call 60; ((refine (vars_any _ _ _ _ _ _ _ _ _ _ (CirAt.of_blk HQ.out.2.2) (by omega) (by omega) (by omega)).mono ?_); rintro e w3 ⟨rfl, hd⟩; rw [HH.out.2.2.2.2.2]; have hd2 := hd; have HQ := Lib.hid (And.intro (HQ.out.1.trans (hd.below _)) (And.intro (blk_below (hd.below _) (blk_lt HQ.out.2.1) HQ.out.2.1) (blk_below (hd.below _) (blk_lt HQ.out.2.2) HQ.out.2.2))); clear rc rf; obtain ⟨rc, rf⟩ := blk_all HQ.out.2.1; clear hd hd2)))
      all_goals first
        | (exfalso; apply HE.out; omega)
        | skip
      all_goals
       have hZ : ((((w3.setCell ⟨w.heap.size + 1, 0, none⟩ (.int .i64 0)).setCell ⟨w.heap.size + 1, 1, none⟩ (.slice none 0 0)).setCell ⟨w.heap.size + 1, 2, none⟩ (.slice none 0 0)).setCell ⟨w.heap.size + 1, 3, none⟩ (.slice none 0 0)).heap[w.heap.size + 1]? = some (.cells #[.int .i64 0, .slice none 0 0, .slice none 0 0, .slice none 0 0] 26 (0, 0)) := by
         simpa using blk_set (o := 3) (v := .slice none 0 0) (blk_set (o := 2) (v := .slice none 0 0) (blk_set (o := 1) (v := .slice none 0 0) (blk_set (o := 0) (v := .int .i64 0) HQ.out.2.1)))
       have hR := (HBad.out _ HQ.out.1 HQ.out.2.1).sets4 (r := w.heap.size + 1) (by omega) (base := w.heap.size) (by omega) (a := .int .i64 0) (b' := .slice none 0 0) (c' := .slice none 0 0) (d := .slice none 0 0)
       have hB := ((((HQ.out.1).setCell (p := ⟨w.heap.size + 1, 0, none⟩) (by simp) (.int .i64 0)).setCell (p := ⟨w.heap.size + 1, 1, none⟩) (by simp) (.slice none 0 0)).setCell (p := ⟨w.heap.size + 1, 2, none⟩) (by simp) (.slice none 0 0)).setCell (p := ⟨w.heap.size + 1, 3, none⟩) (by simp) (.slice none 0 0)
       revert hZ hR hB
       generalize ((((w3.setCell ⟨w.heap.size + 1, 0, none⟩ (.int .i64 0)).setCell ⟨w.heap.size + 1, 1, none⟩ (.slice none 0 0)).setCell ⟨w.heap.size + 1, 2, none⟩ (.slice none 0 0)).setCell ⟨w.heap.size + 1, 3, none⟩ (.slice none 0 0)) = WZ
       intro hZ hR hB
       have cr := (blk_all hZ).1
       exact bodyPost_ret (v := .agg #[.int .i64 0, .slice none 0 0, .slice none 0 0, .slice none 0 0]) (by simp [results, Try.results36, go_sem, cr]) rfl ⟨_, _, _, rfl, hR, hB⟩

end Go.Proofs.Ytnmafbggpjglaaa
