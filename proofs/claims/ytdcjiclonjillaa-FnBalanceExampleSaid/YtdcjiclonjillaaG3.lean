import Derived.Test.YtdcjiclonjillaaG1
namespace Go.Proofs.Ytdcjiclonjillaa
set_option linter.unusedVariables false
set_option linter.unusedSimpArgs false
open Go.RowKit

/-! force and ForceGate of the program. -/

theorem own_sets4' {w : World} {base base' r : Nat} {e : TypeId} {size : Nat} {v : Value} {n : Nat} {xs : List Value} (h : w.ownsRow base' e size v n xs) (hr : r < base') (hb : base ≤ base') {a b c d : Value} : ((((w.setCell ⟨r, 0, none⟩ a).setCell ⟨r, 1, none⟩ b).setCell ⟨r, 2, none⟩ c).setCell ⟨r, 3, none⟩ d).ownsRow base e size v n xs :=
  have hne : v.ownBlock ≠ some r := fun he => by have := (own_blk h he).1; omega
  own_set_ne (own_set_ne (own_set_ne (own_set_ne (own_base h hb) hne _) hne _) hne _) hne _
theorem CirOwn.sets4 {w : World} {base base' r : Nat} {c : Cir} {vn vg vo : Value} (h : CirOwn w base' c vn vg vo) (hr : r < base') (hb : base ≤ base') {a b' c' d : Value} : CirOwn ((((w.setCell ⟨r, 0, none⟩ a).setCell ⟨r, 1, none⟩ b').setCell ⟨r, 2, none⟩ c').setCell ⟨r, 3, none⟩ d) base c vn vg vo :=
  ⟨own_sets4' h.n hr hb, own_sets4' h.g hr hb, own_sets4' h.o hr hb, h.ne, h.l1, h.l2, h.l3⟩

set_option maxHeartbeats 1600000 in
theorem force_any (b : Nat) (c : Cir) (sn sg so : Option Addr) (cn cg co : Nat) (p : Int) (val : Bool) (w : World) (h : CirAt w b c.inp (.slice sn c.next.length cn) (.slice sg c.gates.length cg) (.slice so c.outs.length co))
    (hn : Sl w sn (ints c.next)) (hg : Sl w sg (gcells c.gates)) (ho : Sl w so (ints c.outs)) (hv : c.valid) :
    Calls Try.prog 69 #[.pointer (some ⟨b, 0, none⟩), .int .i64 p, .bool val] w fun e w' => ∃ vn vg vo, e = .returned (.agg #[.int .i64 c.inp, vn, vg, vo]) ∧ CirOwn w' w.heap.size (c.mapC (forceL p val)) vn vg vo ∧ Below w.heap.size w w' := by
  have HB : Hid (b < w.heap.size) := World.block_lt_of_cell? w _ h.h0
  have hb0 : Below w.heap.size w (((w.alloc (.cells #[.int .i64 p] 3)).alloc (.cells #[.bool val] 4)).alloc (.cells #[.int .i64 0, .slice none 0 0, .slice none 0 0, .slice none 0 0] 28)) := by go_grown
  have hk := blk3 w (.cells #[.int .i64 p] 3) (.cells #[.bool val] 4) (.cells #[.int .i64 0, .slice none 0 0, .slice none 0 0, .slice none 0 0] 28)
  have hv22 : c.vars ≤ 22 := by have := valid_first hv; omega
  have H := Lib.hid (And.intro h (And.intro hn (And.intro hg (And.intro ho (And.intro hv hv22)))))
  have H0 := Lib.hid (And.intro hb0 hk)
  clear h hn hg ho hv hb0 hk hv22
  go_enter Try.func69, Try.ntmps69
  go_wp2_with fail
  revert H0
  generalize (((w.alloc (.cells #[.int .i64 p] 3)).alloc (.cells #[.bool val] 4)).alloc (.cells #[.int .i64 0, .slice none 0 0, .slice none 0 0, .slice none 0 0] 28)) = W0
  intro H0
  refine (replaced_any b w.heap.size (w.heap.size + 1) c (forceL p val) sn sg so cn cg co W0 ⟨(H0.out.1.cell (p := ⟨b, 0, none⟩) HB.out).trans H.out.1.h0, (H0.out.1.cell (p := ⟨b, 1, none⟩) HB.out).trans H.out.1.h1, (H0.out.1.cell (p := ⟨b, 2, none⟩) HB.out).trans H.out.1.h2, (H0.out.1.cell (p := ⟨b, 3, none⟩) HB.out).trans H.out.1.h3⟩ (H.out.2.1.mono H0.out.1) (H.out.2.2.1.mono H0.out.1) (H.out.2.2.2.1.mono H0.out.1) H.out.2.2.2.2.1 (fun W l hW h0 h1 => force1_any w.heap.size (w.heap.size + 1) l p val W (blk_cell (blk_below hW (by have := H0.out.2.2.2.2; omega) H0.out.2.1)) (blk_cell (blk_below hW (by have := H0.out.2.2.2.2; omega) H0.out.2.2.1)) h0 (by have := H.out.2.2.2.2.2; omega))).mono ?_
  rintro e w1 ⟨vn, vg, vo, rfl, hR, hq⟩
  obtain ⟨s1, c1, rfl⟩ := own_shape hR.n
  obtain ⟨s2, c2, rfl⟩ := own_shape hR.g
  obtain ⟨s3, c3, rfl⟩ := own_shape hR.o
  have hz := H0.out.2.2.2.2
  have hres := blk_below hq (by omega) H0.out.2.2.2.1
  obtain ⟨rc, rf⟩ := blk_all hres
  have HF := Lib.hid (And.intro hR (And.intro (H0.out.1.trans (hq.mono (by omega))) hres))
  rw [hz] at hR
  have HF2 := Lib.hid hR
  clear hR hq hres
  go_wp2_with fail
  have hZ : ((((w1.setCell ⟨w.heap.size + 2, 0, none⟩ (.int .i64 c.inp)).setCell ⟨w.heap.size + 2, 1, none⟩ (.slice s1 (c.mapC (forceL p val)).next.length c1)).setCell ⟨w.heap.size + 2, 2, none⟩ (.slice s2 (c.mapC (forceL p val)).gates.length c2)).setCell ⟨w.heap.size + 2, 3, none⟩ (.slice s3 (c.mapC (forceL p val)).outs.length c3)).heap[w.heap.size + 2]? = some (.cells #[.int .i64 c.inp, .slice s1 (c.mapC (forceL p val)).next.length c1, .slice s2 (c.mapC (forceL p val)).gates.length c2, .slice s3 (c.mapC (forceL p val)).outs.length c3] 28 (0, 0)) := by
    simpa using blk_set (o := 3) (v := .slice s3 (c.mapC (forceL p val)).outs.length c3) (blk_set (o := 2) (v := .slice s2 (c.mapC (forceL p val)).gates.length c2) (blk_set (o := 1) (v := .slice s1 (c.mapC (forceL p val)).next.length c1) (blk_set (o := 0) (v := .int .i64 c.inp) HF.out.2.2)))
  have hR := (HF2.out).sets4 (r := w.heap.size + 2) (by omega) (base := w.heap.size) (by omega) (a := .int .i64 c.inp) (b' := .slice s1 (c.mapC (forceL p val)).next.length c1) (c' := .slice s2 (c.mapC (forceL p val)).gates.length c2) (d := .slice s3 (c.mapC (forceL p val)).outs.length c3)
  have hB := ((((HF.out.2.1).setCell (p := ⟨w.heap.size + 2, 0, none⟩) (by simp) (.int .i64 c.inp)).setCell (p := ⟨w.heap.size + 2, 1, none⟩) (by simp) (.slice s1 (c.mapC (forceL p val)).next.length c1)).setCell (p := ⟨w.heap.size + 2, 2, none⟩) (by simp) (.slice s2 (c.mapC (forceL p val)).gates.length c2)).setCell (p := ⟨w.heap.size + 2, 3, none⟩) (by simp) (.slice s3 (c.mapC (forceL p val)).outs.length c3)
  revert hZ hR hB
  generalize ((((w1.setCell ⟨w.heap.size + 2, 0, none⟩ (.int .i64 c.inp)).setCell ⟨w.heap.size + 2, 1, none⟩ (.slice s1 (c.mapC (forceL p val)).next.length c1)).setCell ⟨w.heap.size + 2, 2, none⟩ (.slice s2 (c.mapC (forceL p val)).gates.length c2)).setCell ⟨w.heap.size + 2, 3, none⟩ (.slice s3 (c.mapC (forceL p val)).outs.length c3)) = WZ
  intro hZ hR hB
  have cr := (blk_all hZ).1
  exact bodyPost_ret (v := .agg #[.int .i64 c.inp, .slice s1 (c.mapC (forceL p val)).next.length c1, .slice s2 (c.mapC (forceL p val)).gates.length c2, .slice s3 (c.mapC (forceL p val)).outs.length c3]) (by simp [results, Try.results69, go_sem, cr]) rfl ⟨_, _, _, rfl, hR, hB⟩

def fgOk (c : Cir) (p : Int) : Prop := c.validB = true ∧ c.first ≤ p ∧ p < c.vars
instance (c : Cir) (p : Int) : Decidable (fgOk c p) := inferInstanceAs (Decidable (_ ∧ _))
def fgR (c : Cir) (p : Int) (val : Bool) : Cir := if fgOk c p then c.mapC (forceL p val) else ⟨0, [], [], []⟩
theorem fgR_no {c : Cir} {p : Int} {val : Bool} (h : ¬ fgOk c p) : fgR c p val = ⟨0, [], [], []⟩ := by unfold fgR; rw [if_neg h]
theorem fgR_yes {c : Cir} {p : Int} {val : Bool} (h : fgOk c p) : fgR c p val = c.mapC (forceL p val) := by unfold fgR; rw [if_pos h]

theorem own_cv {w : World} {base : Nat} {r : Cir} {vn vg vo : Value} (h : CirOwn w base r vn vg vo) : CirV w (.agg #[.int .i64 r.inp, vn, vg, vo]) r := by
  obtain ⟨sn, cn, rfl⟩ := own_shape h.n
  obtain ⟨sg, cg, rfl⟩ := own_shape h.g
  obtain ⟨so, co, rfl⟩ := own_shape h.o
  exact ⟨_, _, _, _, _, _, rfl, own_sl h.n, own_sl h.g, own_sl h.o, h.l1, h.l2, h.l3⟩
theorem own_cbelow {w w' : World} {base : Nat} {r : Cir} {vn vg vo : Value} (h : CirOwn w base r vn vg vo) (hb : Below w.heap.size w w') : CirOwn w' base r vn vg vo :=
  ⟨own_below h.n hb, own_below h.g hb, own_below h.o hb, h.ne, h.l1, h.l2, h.l3⟩
theorem zeroV (w : World) : CirV w (.agg #[.int .i64 0, .slice none 0 0, .slice none 0 0, .slice none 0 0]) ⟨0, [], [], []⟩ :=
  ⟨none, 0, none, 0, none, 0, rfl, .inl rfl, .inl rfl, .inl rfl, by simp, by simp, by simp⟩
theorem below_al (w : World) (o : Obj) : Below w.heap.size w (w.alloc o) := (Below.refl _ _).alloc (Nat.le_refl _) _

end Go.Proofs.Ytdcjiclonjillaa
