import Derived.Test.YtbcolcchchgldaaW7
namespace Go.Proofs.Ytbcolcchchgldaa
set_option linter.unusedVariables false
set_option linter.unusedSimpArgs false
open Go.RowKit

/-! Retime of the program. -/

/-- Three blocks made at the start, kept. -/
structure Box3 (w W : World) (A B C : Obj) : Prop where
  bl : Below w.heap.size w W
  a : W.heap[w.heap.size]? = some A
  b : W.heap[w.heap.size + 1]? = some B
  c : W.heap[w.heap.size + 2]? = some C
theorem Box3.below {w W W' : World} {A B C : Obj} (h : Box3 w W A B C) (hb : Below W.heap.size W W') : Box3 w W' A B C :=
  ⟨h.bl.trans (hb.mono h.bl.size), blk_below hb (blk_lt h.a) h.a, blk_below hb (blk_lt h.b) h.b, blk_below hb (blk_lt h.c) h.c⟩
theorem Box3.new (w : World) (A B C : Obj) : Box3 w (((w.alloc A).alloc B).alloc C) A B C :=
  ⟨(((Below.refl _ _).alloc (Nat.le_refl _) _).alloc (by simp) _).alloc (by simp; omega) _, (blk3 w A B C).1, (blk3 w A B C).2.1, (blk3 w A B C).2.2.1⟩
theorem below_alloc (w : World) (o : Obj) : Below w.heap.size w (w.alloc o) := (Below.refl _ _).alloc (Nat.le_refl _) _

theorem zero_own (W : World) (b : Nat) : CirOwn W b ⟨0, [], [], []⟩ (.slice none 0 0) (.slice none 0 0) (.slice none 0 0) :=
  ⟨World.ownsRow_nil _ _ _ _, World.ownsRow_nil _ _ _ _, World.ownsRow_nil _ _ _ _, (fun k hk => by cases hk), by simp, by simp, by simp⟩

theorem retR_eq {c : Cir} {k : Nat} {g : Gt} {F : Nat} {ya yb : Int} (h : canRetimeB c k = true) (hg : c.gates[k]? = some g) (hF : c.first = F) (ha : c.next[(g.a / 2 - 1 - c.inp).toNat]? = some ya) (hb : c.next[(g.b / 2 - 1 - c.inp).toNat]? = some yb) {f : Int → Int} {t : Int} (ht : t = g.a % 2 * (g.b % 2)) (hf : f = retF F k t) :
    retR c k = ⟨c.inp, c.next.map f ++ [2 * ((F : Int) + 1 + c.gates.length) + t], mapG f c.gates ++ [⟨f (xr ya (g.a % 2)), f (xr yb (g.b % 2))⟩], c.outs.map f⟩ := by
  rw [retR_yes h hg]
  unfold retG
  dsimp only
  rw [ha, hb, hF, hf, ht]
  rfl

set_option maxRecDepth 100000 in
set_option maxHeartbeats 3200000 in
theorem Retime_i (v : Value) (c : Cir) (i : Int) (w : World) (h : CirV w v c) :
    Calls Try.prog 22 #[v, .int .i64 i] w fun e w' => ∃ vn vg vo, e = .returned (.agg #[.int .i64 (retR c i).inp, vn, vg, vo]) ∧ CirOwn w' w.heap.size (retR c i) vn vg vo ∧ Below w.heap.size w w' := by
  have HC : Hid (∀ w', Below w.heap.size w w' → CirV w' v c) := fun w' hb => h.mono hb
  obtain ⟨sn, cn, sg, cg, so, co, rfl, h1, h2, h3, hl1, hl2, hl3⟩ := h
  have HS := Lib.hid (And.intro h1 (And.intro h2 h3))
  have HB := Lib.hid (Box3.new w (.cells #[.int .i64 c.inp, .slice sn c.next.length cn, .slice sg c.gates.length cg, .slice so c.outs.length co] 26) (.cells #[.int .i64 i] 3) (.cells #[.int .i64 0, .slice none 0 0, .slice none 0 0, .slice none 0 0] 26))
  clear h1 h2 h3
  cases hc : canRetimeB c i
  · rw [retR_no hc]
    have HE := Lib.hid hc
    clear hc
    go_enter Try.func22, Try.ntmps22
    go_upto_region 1 with fail
    revert HB
    generalize (((w.alloc (.cells #[.int .i64 c.inp, .slice sn c.next.length cn, .slice sg c.gates.length cg, .slice so c.outs.length co] 26)).alloc (.cells #[.int .i64 i] 3)).alloc (.cells #[.int .i64 0, .slice none 0 0, .slice none 0 0, .slice none 0 0] 26)) = W0
    intro HB
    have cb := (blk_all HB.out.a).1
    have ci := (blk_all HB.out.b).1
    go_wp2_with (go_at_call 28; ((refine (CanRetime_i _ _ _ _ (HC.out _ HB.out.bl)).mono ?_); rintro e w1 ⟨rfl, hq⟩; have HQ := Lib.hid (HB.out.below hq); obtain ⟨rc, rf⟩ := blk_all HQ.out.c; clear hq cb ci; rw [HE.out]))
    have hZ : ((((w1.setCell ⟨w.heap.size + 2, 0, none⟩ (.int .i64 0)).setCell ⟨w.heap.size + 2, 1, none⟩ (.slice none 0 0)).setCell ⟨w.heap.size + 2, 2, none⟩ (.slice none 0 0)).setCell ⟨w.heap.size + 2, 3, none⟩ (.slice none 0 0)).heap[w.heap.size + 2]? = some (.cells #[.int .i64 0, .slice none 0 0, .slice none 0 0, .slice none 0 0] 26 (0, 0)) := by
      simpa using blk_set (o := 3) (v := .slice none 0 0) (blk_set (o := 2) (v := .slice none 0 0) (blk_set (o := 1) (v := .slice none 0 0) (blk_set (o := 0) (v := .int .i64 0) HQ.out.c)))
    have hR := ((zero_own w1 (w.heap.size + 3))).sets4 (r := w.heap.size + 2) (by omega) (base := w.heap.size) (by omega) (a := .int .i64 0) (b' := .slice none 0 0) (c' := .slice none 0 0) (d := .slice none 0 0)
    have hB := ((((HQ.out.bl).setCell (p := ⟨w.heap.size + 2, 0, none⟩) (by simp) (.int .i64 0)).setCell (p := ⟨w.heap.size + 2, 1, none⟩) (by simp) (.slice none 0 0)).setCell (p := ⟨w.heap.size + 2, 2, none⟩) (by simp) (.slice none 0 0)).setCell (p := ⟨w.heap.size + 2, 3, none⟩) (by simp) (.slice none 0 0)
    revert hZ hR hB
    generalize ((((w1.setCell ⟨w.heap.size + 2, 0, none⟩ (.int .i64 0)).setCell ⟨w.heap.size + 2, 1, none⟩ (.slice none 0 0)).setCell ⟨w.heap.size + 2, 2, none⟩ (.slice none 0 0)).setCell ⟨w.heap.size + 2, 3, none⟩ (.slice none 0 0)) = WZ
    intro hZ hR hB
    have cr := (blk_all hZ).1
    exact bodyPost_ret (v := .agg #[.int .i64 0, .slice none 0 0, .slice none 0 0, .slice none 0 0]) (by simp [results, Try.results22, go_sem, cr]) rfl ⟨_, _, _, rfl, hR, hB⟩
  · obtain ⟨k, g, rfl, hg, hvB, hn3, hg14, la, lb⟩ := canRetime_yes hc
    have hval := c.validB_iff.1 hvB
    obtain ⟨f1, f2, f3, f4⟩ := valid_first hval
    obtain ⟨q1, q2, q3, q4, q5⟩ := id hval.lim
    obtain ⟨⟨a0, a1⟩, b0, b1'⟩ := valid_gate hval hg
    have hkl : k < c.gates.length := (List.getElem?_eq_some_iff.1 hg).1
    have eC : c.first = 1 + c.inp + c.next.length := rfl
    obtain ⟨F, hF⟩ : ∃ F : Nat, c.first = F := ⟨c.first.toNat, by omega⟩
    have e1 : 1 + c.inp + (c.next.length : Int) = (F : Int) := by omega
    obtain ⟨la1, la2⟩ := la
    obtain ⟨lb1, lb2⟩ := lb
    obtain ⟨ja, hja⟩ : ∃ j : Nat, g.a / 2 - 1 - c.inp = j := ⟨(g.a / 2 - 1 - c.inp).toNat, by omega⟩
    obtain ⟨jb, hjb⟩ : ∃ j : Nat, g.b / 2 - 1 - c.inp = j := ⟨(g.b / 2 - 1 - c.inp).toNat, by omega⟩
    obtain ⟨ya, hya⟩ := get_of_lt (l := c.next) (k := ja) (by omega)
    obtain ⟨yb, hyb⟩ := get_of_lt (l := c.next) (k := jb) (by omega)
    obtain ⟨ya0, ya1⟩ := hval.next ya (List.mem_of_getElem? hya)
    obtain ⟨yb0, yb1⟩ := hval.next yb (List.mem_of_getElem? hyb)
    obtain ⟨t, ht⟩ : ∃ t, t = g.a % 2 * (g.b % 2) := ⟨_, rfl⟩
    have ht01 : t = 0 ∨ t = 1 := by
      rcases (show g.a % 2 = 0 ∨ g.a % 2 = 1 by omega) with e | e <;> rcases (show g.b % 2 = 0 ∨ g.b % 2 = 1 by omega) with e' | e' <;> rw [e, e'] at ht <;> simp [ht]
    have ht0 : 0 ≤ t := by omega
    have ht1 : t ≤ 1 := by omega
    obtain ⟨f, hf⟩ : ∃ f, f = retF F k t := ⟨_, rfl⟩
    have HR := Lib.hid (retR_eq hc hg hF (by rw [hja]; exact hya) (by rw [hjb]; exact hyb) ht hf)
    have hbit : bits .and .i64 (bits .and .i64 g.a g.b) 1 = t := by rw [ht]; exact bits_and1 _ _ a0 (by omega) b0 (by omega)
    have HX := Lib.hid (And.intro hc (And.intro hg (And.intro hval (And.intro hF e1))))
    have HJ := Lib.hid (And.intro (And.intro hja hya) (And.intro hjb hyb))
    have HF := Lib.hid (And.intro hf (And.intro ht01 ht))
    have hxa : 0 ≤ xr ya (g.a % 2) ∧ xr ya (g.a % 2) / 2 < c.vars := by unfold xr; omega
    have hxb : 0 ≤ xr yb (g.b % 2) ∧ xr yb (g.b % 2) / 2 < c.vars := by unfold xr; omega
    have HXX := Lib.hid (And.intro hxa hxb)
    have ya2 : ya ≤ 60 := by omega
    have yb2 : yb ≤ 60 := by omega
    have ga2 : g.a ≤ 60 := by omega
    have gb2 : g.b ≤ 60 := by omega
    have F8 : F ≤ 8 := by omega
    have v22 : Hid (c.vars ≤ 22) := (show c.vars ≤ 22 by omega)
    clear hxa hxb hc hg hvB hval hF e1 hja hya hjb hyb hf ht01 ht eC f1 f2 f3 f4 ya1 yb1 a1 b1' la1 la2 lb1 lb2
    obtain ⟨gb, gf, rfl, hgb, zx, zy⟩ := HS.out.2.1.gate (Below.refl _ _) HX.out.2.1
    have HG := Lib.hid (And.intro hgb (And.intro zx zy))
    clear hgb zx zy
    go_enter Try.func22, Try.ntmps22
    go_upto_region 1 with fail
    revert HB
    generalize (((w.alloc (.cells #[.int .i64 c.inp, .slice sn c.next.length cn, .slice (some ⟨gb, gf, none⟩) c.gates.length cg, .slice so c.outs.length co] 26)).alloc (.cells #[.int .i64 (k : Int)] 3)).alloc (.cells #[.int .i64 0, .slice none 0 0, .slice none 0 0, .slice none 0 0] 26)) = W0
    intro HB
    have cb := (blk_all HB.out.a).1
    have ci := (blk_all HB.out.b).1
    go_upto_region 4 with (first
      | (go_at_call 28; ((refine (CanRetime_i _ _ _ _ (HC.out _ HB.out.bl)).mono ?_); rintro e w1 ⟨rfl, hq⟩; have HB1 := Lib.hid (HB.out.below hq); clear hq cb ci; rw [HX.out.1]))
      | (go_at_call 73; ((refine (firstGate_any _ _ _ _ _ _ _ _ (CirAt.of_blk HB1.out.a) (by omega) (by omega)).mono ?_); rintro e w2 ⟨rfl, hd⟩; rw [HX.out.2.2.2.2]; have HB2 := Lib.hid (HB1.out.below (hd.below _)); clear hd)))
    obtain ⟨b1, hb1⟩ : ∃ b, b = w2.heap.size := ⟨_, rfl⟩
    have hk1 := blk_new w2 (.cells #[.int .i64 (F : Int)] 3)
    have hB3 := HB2.out.below (below_alloc w2 (.cells #[.int .i64 (F : Int)] 3))
    rw [← hb1] at hk1
    rw [← hb1]
    have hlt1 : w.heap.size + 2 < b1 := by rw [hb1]; exact blk_lt HB2.out.c
    revert hk1 hB3
    generalize w2.alloc (.cells #[.int .i64 (F : Int)] 3) = W1
    intro hk1 hB3
    have cb := (blk_all hB3.a).1
    have ci := (blk_all hB3.b).1
    have zx : W1.cell? ⟨gb, gf + k * 2, none⟩ = some (.int .i64 g.a) := (hB3.bl.cell HG.out.1).trans HG.out.2.1
    have zy : W1.cell? ⟨gb, gf + k * 2 + 1, none⟩ = some (.int .i64 g.b) := (hB3.bl.cell HG.out.1).trans HG.out.2.2
    have K1 := Lib.hid (And.intro hk1 hB3)
    clear hk1 hB3 hb1
    go_upto_region 5 with fail
    clear cb ci zx zy
    obtain ⟨b2, hb2⟩ : ∃ b, b = W1.heap.size := ⟨_, rfl⟩
    have hk2 := blk_new W1 (.cells #[.int .i64 g.a, .int .i64 g.b] 38)
    have hbb := below_alloc W1 (.cells #[.int .i64 g.a, .int .i64 g.b] 38)
    have hk1 := blk_below hbb (blk_lt K1.out.1) K1.out.1
    have hB3 := K1.out.2.below hbb
    rw [← hb2] at hk2
    rw [← hb2]
    have hlt2 : b1 < b2 := by rw [hb2]; exact blk_lt K1.out.1
    clear hbb K1
    revert hk1 hk2 hB3
    generalize W1.alloc (.cells #[.int .i64 g.a, .int .i64 g.b] 38) = W2
    intro hk2 hk1 hB3
    have c2 := (blk_all hk2).1
    have K2 := Lib.hid (And.intro hk1 (And.intro hk2 hB3))
    clear hk1 hk2 hB3 hb2
    go_upto_region 6 with fail
    clear c2
    obtain ⟨b3, hb3⟩ : ∃ b, b = W2.heap.size := ⟨_, rfl⟩
    have hk3 := blk_new W2 (.cells #[.int .i64 t] 3)
    have hbb := below_alloc W2 (.cells #[.int .i64 t] 3)
    have hk1 := blk_below hbb (blk_lt K2.out.1) K2.out.1
    have hk2 := blk_below hbb (blk_lt K2.out.2.1) K2.out.2.1
    have hB3 := K2.out.2.2.below hbb
    rw [← hb3] at hk3
    rw [← hb3]
    have hlt3 : b2 < b3 := by rw [hb3]; exact blk_lt K2.out.2.1
    clear hbb K2
    revert hk1 hk2 hk3 hB3
    generalize W2.alloc (.cells #[.int .i64 t] 3) = W3
    intro hk3 hk1 hk2 hB3
    have hlt4 := blk_lt hk3
    obtain ⟨N, hN⟩ : ∃ N, N = W3.heap.size := ⟨_, rfl⟩
    have K3 := Lib.hid (And.intro hk1 (And.intro hk2 (And.intro hk3 (And.intro hB3 hN))))
    have HU : Hid (∀ W (l : Int), Below N W3 W → 0 ≤ l → l / 2 < c.vars → Calls Try.prog 74 #[.int .i64 l, .pointer (some ⟨b1, 0, none⟩), .pointer (some ⟨w.heap.size + 1, 0, none⟩), .pointer (some ⟨b3, 0, none⟩)] W fun e w' => e = .returned (.int .i64 (f l)) ∧ W = w') := fun W l hW h0 h1 => by
      have hW' : Below W3.heap.size W3 W := by rw [← K3.out.2.2.2.2]; exact hW
      have hv := v22.out
      rw [HF.out.1]
      exact use_any b1 (w.heap.size + 1) b3 F k t l W (blk_cell (blk_below hW' (blk_lt K3.out.1) K3.out.1)) (blk_cell (blk_below hW' (blk_lt K3.out.2.2.2.1.b) K3.out.2.2.2.1.b)) (blk_cell (blk_below hW' (blk_lt K3.out.2.2.1) K3.out.2.2.1)) (by omega) (by omega) (by omega) (by omega) HF.out.2.1 h0 (by omega)
    have hNlt : b3 < N := by rw [hN]; exact hlt4
    have HP : Hid (∀ W, Below N W3 W → Box3 w W (.cells #[.int .i64 c.inp, .slice sn c.next.length cn, .slice (some ⟨gb, gf, none⟩) c.gates.length cg, .slice so c.outs.length co] 26) (.cells #[.int .i64 (k : Int)] 3) (.cells #[.int .i64 0, .slice none 0 0, .slice none 0 0, .slice none 0 0] 26) ∧ W.heap[b1]? = some (.cells #[.int .i64 (F : Int)] 3) ∧ W.heap[b2]? = some (.cells #[.int .i64 g.a, .int .i64 g.b] 38) ∧ W.heap[b3]? = some (.cells #[.int .i64 t] 3)) := fun W hW => by
      have hW' : Below W3.heap.size W3 W := by rw [← K3.out.2.2.2.2]; exact hW
      exact ⟨K3.out.2.2.2.1.below hW', blk_below hW' (blk_lt K3.out.1) K3.out.1, blk_below hW' (blk_lt K3.out.2.1) K3.out.2.1, blk_below hW' (blk_lt K3.out.2.2.1) K3.out.2.2.1⟩
    clear hk1 hk2 hk3 hB3 hN hlt4 hb3
    have HRP : Hid (Calls Try.prog 70 #[.pointer (some ⟨w.heap.size, 0, none⟩), .func (.func (74)) #[] #[.pointer (some ⟨b1, 0, none⟩), .pointer (some ⟨w.heap.size + 1, 0, none⟩), .pointer (some ⟨b3, 0, none⟩)]] W3 fun e w' => ∃ vn vg vo, e = .returned (.agg #[.int .i64 c.inp, vn, vg, vo]) ∧ CirOwn w' N (c.mapC f) vn vg vo ∧ Below N W3 w') := by
      have hC3 := CirAt.of_blk K3.out.2.2.2.1.a
      have hn3 := HS.out.1.mono K3.out.2.2.2.1.bl
      have hg3 := HS.out.2.1.mono K3.out.2.2.2.1.bl
      have ho3 := HS.out.2.2.mono K3.out.2.2.2.1.bl
      have hu3 := HU.out
      have hv3 := HX.out.2.2.1
      rw [K3.out.2.2.2.2] at hu3 ⊢
      exact replacedR_any w.heap.size b1 (w.heap.size + 1) b3 c f sn (some ⟨gb, gf, none⟩) so cn cg co W3 hC3 hn3 hg3 ho3 hv3 hu3
    go_wp2_with fail
    with_reducible refine HRP.out.mono ?_
    rintro e w4 ⟨vn, vg, vo, rfl, hR, hq⟩
    obtain ⟨s1, c1, rfl⟩ := own_shape hR.n
    obtain ⟨s2, c2, rfl⟩ := own_shape hR.g
    obtain ⟨s3, c3, rfl⟩ := own_shape hR.o
    have HR4 := Lib.hid (And.intro hR hq)
    clear hR hq
    go_upto_region 9 with fail
    obtain ⟨b4, hb4⟩ : ∃ b, b = w4.heap.size := ⟨_, rfl⟩
    have hk4 := blk_new w4 (.cells #[.int .i64 c.inp, .slice s1 (c.mapC f).next.length c1, .slice s2 (c.mapC f).gates.length c2, .slice s3 (c.mapC f).outs.length c3] 26)
    have hbb := below_alloc w4 (.cells #[.int .i64 c.inp, .slice s1 (c.mapC f).next.length c1, .slice s2 (c.mapC f).gates.length c2, .slice s3 (c.mapC f).outs.length c3] 26)
    have hNb4 : N ≤ b4 := by rw [hb4]; have h1 := HR4.out.2.size; have h2 := K3.out.2.2.2.2; omega
    have hbl5 := HR4.out.2.trans (hbb.mono (by rw [← hb4]; exact hNb4))
    rw [← hb4] at hk4
    rw [← hb4]
    have hO5 : OutC (w4.alloc (.cells #[.int .i64 c.inp, .slice s1 (c.mapC f).next.length c1, .slice s2 (c.mapC f).gates.length c2, .slice s3 (c.mapC f).outs.length c3] 26)) N b4 c.inp (c.mapC f).next (c.mapC f).gates (c.mapC f).outs (.slice s1 (c.mapC f).next.length c1) (.slice s2 (c.mapC f).gates.length c2) (.slice s3 (c.mapC f).outs.length c3) :=
      ⟨hk4, own_below HR4.out.1.n hbb, own_below HR4.out.1.g hbb, own_below HR4.out.1.o hbb, HR4.out.1.ne⟩
    clear hbb hk4 hb4 HR4
    revert hbl5 hO5
    generalize w4.alloc (.cells #[.int .i64 c.inp, .slice s1 (c.mapC f).next.length c1, .slice s2 (c.mapC f).gates.length c2, .slice s3 (c.mapC f).outs.length c3] 26) = W5
    intro hbl5 hO5
    have hl1 : (c.mapC f).next.length = c.next.length := by simp [Cir.mapC]
    have hl2 : (c.mapC f).gates.length = c.gates.length := by simp [Cir.mapC, mapG]
    have hl3 : (c.mapC f).outs.length = c.outs.length := by simp [Cir.mapC]
    obtain ⟨xn, hxn⟩ : ∃ x, x = (c.mapC f).next := ⟨_, rfl⟩
    obtain ⟨xg, hxg⟩ : ∃ x, x = (c.mapC f).gates := ⟨_, rfl⟩
    obtain ⟨xo, hxo⟩ : ∃ x, x = (c.mapC f).outs := ⟨_, rfl⟩
    rw [← hxn] at hO5 hl1 ⊢
    rw [← hxg] at hO5 hl2 ⊢
    rw [← hxo] at hO5 hl3 ⊢
    have xn4 : xn.length ≤ 3 := by omega
    have xg4 : xg.length ≤ 14 := by omega
    have xo4 : xo.length ≤ 3 := by omega
    have HXN := Lib.hid (And.intro hxn (And.intro hxg hxo))
    have hSz : N ≤ W5.heap.size := Nat.le_trans hNb4 (Nat.le_of_lt (blk_lt hO5.blk))
    have H5 := Lib.hid (And.intro hbl5 hO5)
    clear hl1 hl2 hl3 hxn hxg hxo hbl5 hO5
    refine wp_region_E (fun w' => (∀ o, w'.cell? ⟨b4, o, none⟩ = #[Value.int .i64 c.inp, .slice s1 xn.length c1, .slice s2 xg.length c2, .slice s3 xo.length c3][o]?) ∧ (∀ o, w'.cell? ⟨b2, o, none⟩ = #[Value.int .i64 g.a, .int .i64 g.b][o]?)) 18 (.q 0 (.q 1 (.q 2 (.q 3 (.q 4 (.q 5 (.q 8 (.q 9 (.q 10 (.q 11 (.e 6 (.e 7 (.e 12 (.e 13 (.q 14 (.e 15 (.e 16 (.q 17 (.z 18))))))))))))))))))) (by kernel_rfl) (by kernel_rfl) (by kernel_rfl) (by kernel_rfl) (by kernel_rfl) (by kernel_rfl) ⟨(blk_all (H5.out.2.below ((Below.refl _ _).drew)).blk).1, (blk_all (HP.out _ H5.out.1.drew).2.2.1).1⟩ ?_
    have hO6 := H5.out.2.below ((Below.refl _ _).drew)
    have hb6 := H5.out.1.drew
    have hS6 : N ≤ W5.drew.heap.size := hSz
    revert hO6 hb6 hS6
    generalize W5.drew = W6
    intro hO6 hb6 hS6
    have hQ := HP.out _ hb6
    have H6 := Lib.hid (And.intro hb6 (And.intro hO6 (And.intro hQ (And.intro (blk_all hO6.blk).1 (blk_all hQ.2.2.1).1))))
    clear hb6 hO6 hQ H5 hSz
    repeat (first | (refine orde_s (o := ?_) ?_ ?_ ?_; rotate_left 1; (focus ((simp only [List.getElem?_toArray, List.getElem?_cons_succ, List.getElem?_cons_zero]) <;> rfl)); (focus rfl); simp only [Act.put, List.setIfInBounds_toArray, List.set_cons_zero, List.set_cons_succ]) | (refine orde_q (o := ?_) (v := ?_) ?_ ?_ ?_ ?_; rotate_left 2; (focus ((simp only [List.getElem?_toArray, List.getElem?_cons_succ, List.getElem?_cons_zero]) <;> rfl)); (focus rfl); (focus (intro w' hS; (try dsimp only at hS); go_split_ands; go_simp; (try (with_reducible rfl)))); simp only [Act.put, List.setIfInBounds_toArray, List.set_cons_zero, List.set_cons_succ]))
    refine orde_e ?_
    (refine ope_e (o := ?_) ?_ ?_ (fun K hK => ?_); rotate_left 1; (focus ((simp only [List.getElem?_toArray, List.getElem?_cons_succ, List.getElem?_cons_zero]) <;> rfl)); (focus rfl); go_simp)
    refine (next_any w.heap.size c.inp c.next _ _ sn cn ja g.a ya W6 (CirAt.of_blk H6.out.2.2.1.1.a) (HS.out.1.mono H6.out.2.2.1.1.bl) HJ.out.1.1 HJ.out.1.2 (by omega) (by omega) (by omega) (by omega) (by omega) (by omega)).mono ?_
    rintro e wa ⟨rfl, rfl⟩
    refine hK.out _ _ H6.out.2.2.2 ?_
    clear hK K
    (try simp only [Act.put, List.setIfInBounds_toArray, List.set_cons_zero, List.set_cons_succ])
    refine orde_e ?_
    (refine ope_e (o := ?_) ?_ ?_ (fun K hK => ?_); rotate_left 1; (focus ((simp only [List.getElem?_toArray, List.getElem?_cons_succ, List.getElem?_cons_zero]) <;> rfl)); (focus rfl); go_simp)
    refine (HU.out W6 (xr ya (g.a % 2)) H6.out.1 HXX.out.1.1 HXX.out.1.2).mono ?_
    rintro e wa ⟨rfl, rfl⟩
    refine hK.out _ _ H6.out.2.2.2 ?_
    clear hK K
    (try simp only [Act.put, List.setIfInBounds_toArray, List.set_cons_zero, List.set_cons_succ])
    refine orde_e ?_
    (refine ope_e (o := ?_) ?_ ?_ (fun K hK => ?_); rotate_left 1; (focus ((simp only [List.getElem?_toArray, List.getElem?_cons_succ, List.getElem?_cons_zero]) <;> rfl)); (focus rfl); go_simp)
    refine (next_any w.heap.size c.inp c.next _ _ sn cn jb g.b yb W6 (CirAt.of_blk H6.out.2.2.1.1.a) (HS.out.1.mono H6.out.2.2.1.1.bl) HJ.out.2.1 HJ.out.2.2 (by omega) (by omega) (by omega) (by omega) (by omega) (by omega)).mono ?_
    rintro e wa ⟨rfl, rfl⟩
    refine hK.out _ _ H6.out.2.2.2 ?_
    clear hK K
    (try simp only [Act.put, List.setIfInBounds_toArray, List.set_cons_zero, List.set_cons_succ])
    refine orde_e ?_
    (refine ope_e (o := ?_) ?_ ?_ (fun K hK => ?_); rotate_left 1; (focus ((simp only [List.getElem?_toArray, List.getElem?_cons_succ, List.getElem?_cons_zero]) <;> rfl)); (focus rfl); go_simp)
    refine (HU.out W6 (xr yb (g.b % 2)) H6.out.1 HXX.out.2.1 HXX.out.2.2).mono ?_
    rintro e wa ⟨rfl, rfl⟩
    refine hK.out _ _ H6.out.2.2.2 ?_
    clear hK K
    (try simp only [Act.put, List.setIfInBounds_toArray, List.set_cons_zero, List.set_cons_succ])
    repeat (first | (refine orde_s (o := ?_) ?_ ?_ ?_; rotate_left 1; (focus ((simp only [List.getElem?_toArray, List.getElem?_cons_succ, List.getElem?_cons_zero]) <;> rfl)); (focus rfl); simp only [Act.put, List.setIfInBounds_toArray, List.set_cons_zero, List.set_cons_succ]) | (refine orde_q (o := ?_) (v := ?_) ?_ ?_ ?_ ?_; rotate_left 2; (focus ((simp only [List.getElem?_toArray, List.getElem?_cons_succ, List.getElem?_cons_zero]) <;> rfl)); (focus rfl); (focus (intro w' hS; (try dsimp only at hS); go_split_ands; go_simp; (try (with_reducible rfl)))); simp only [Act.put, List.setIfInBounds_toArray, List.set_cons_zero, List.set_cons_succ]))
    refine orde_e ?_
    (refine ope_e (o := ?_) ?_ ?_ (fun K hK => ?_); rotate_left 1; (focus ((simp only [List.getElem?_toArray, List.getElem?_cons_succ, List.getElem?_cons_zero]) <;> rfl)); (focus rfl); go_simp)
    have hbb := below_alloc W6 (.cells #[.int .i64 (f (xr ya (g.a % 2))), .int .i64 (f (xr yb (g.b % 2)))] 38)
    have hs1 := Sl.new W6 #[.int .i64 (f (xr ya (g.a % 2))), .int .i64 (f (xr yb (g.b % 2)))] 38
    revert hbb hs1
    generalize W6.alloc (.cells #[.int .i64 (f (xr ya (g.a % 2))), .int .i64 (f (xr yb (g.b % 2)))] 38) = W7
    intro hbb hs1
    have hO7 := H6.out.2.1.below hbb
    have hb7 := H6.out.1.trans (hbb.mono hS6)
    have hS7 : N ≤ W7.heap.size := Nat.le_trans hS6 hbb.size
    have hQ := HP.out _ hb7
    refine hK.out _ _ ⟨(blk_all hO7.blk).1, (blk_all hQ.2.2.1).1⟩ ?_
    clear hK K
    have H7 := Lib.hid (And.intro hb7 (And.intro hO7 hs1))
    clear hb7 hO7 hs1 hbb hQ
    (try simp only [Act.put, List.setIfInBounds_toArray, List.set_cons_zero, List.set_cons_succ])
    refine orde_e ?_
    (refine ope_e (o := ?_) ?_ ?_ (fun K hK => ?_); rotate_left 1; (focus ((simp only [List.getElem?_toArray, List.getElem?_cons_succ, List.getElem?_cons_zero]) <;> rfl)); (focus rfl))
    refine wp_app (.tmp 33) (.tmp 47) rfl elem_gate H7.out.2.1.g rfl rfl (by simp) H7.out.2.2 (by simp [Value.oneCell']) (xg.length + 1) rfl (gcells (xg ++ [⟨f (xr ya (g.a % 2)), f (xr yb (g.b % 2))⟩])) (by rw [← gcells_append]; rfl) (by unfold maxLen; omega) (by omega) hS7 ?_
    intro s8 c8 W8 ho8 hb8 hg8 _
    obtain ⟨hB8, hO8⟩ := H7.out.2.1.pushG hg8 (xg' := xg ++ [⟨f (xr ya (g.a % 2)), f (xr yb (g.b % 2))⟩]) (by rw [List.length_append]; exact ho8)
    have hbl8 := H7.out.1.trans hb8
    refine hK.out _ _ ⟨(blk_all hB8).1, (blk_all (HP.out _ hbl8).2.2.1).1⟩ ?_
    clear hK K
    have y1 : W8.cell? ⟨b4, 2, none⟩ = some (.slice s2 xg.length c2) := blk_cell hB8
    have y2 : W8.frozen? ⟨b4, 2, none⟩ = false := blk_free hB8
    have hbl9 := hbl8.setCell (p := ⟨b4, 2, none⟩) hNb4 (.slice s8 (xg.length + 1) c8)
    have H8 := Lib.hid (And.intro hO8 hbl9)
    clear hB8 hO8 ho8 hb8 hg8 hbl8 hbl9
    (try simp only [Act.put, List.setIfInBounds_toArray, List.set_cons_zero, List.set_cons_succ])
    repeat (first | (refine orde_s (o := ?_) ?_ ?_ ?_; rotate_left 1; (focus ((simp only [List.getElem?_toArray, List.getElem?_cons_succ, List.getElem?_cons_zero]) <;> rfl)); (focus rfl); simp only [Act.put, List.setIfInBounds_toArray, List.set_cons_zero, List.set_cons_succ]) | (refine orde_q (o := ?_) (v := ?_) ?_ ?_ ?_ ?_; rotate_left 2; (focus ((simp only [List.getElem?_toArray, List.getElem?_cons_succ, List.getElem?_cons_zero]) <;> rfl)); (focus rfl); (focus (intro w' hS; (try dsimp only at hS); go_split_ands; go_simp; (try (with_reducible rfl)))); simp only [Act.put, List.setIfInBounds_toArray, List.set_cons_zero, List.set_cons_succ]))
    (refine orde_z (o := ?_) ?_ ?_ (fun K hK => ?_); rotate_left 1; (focus ((simp only [List.getElem?_toArray, List.getElem?_cons_succ, List.getElem?_cons_zero]) <;> rfl)); (focus rfl); go_simp)
    refine hK.out _ _ ?_
    clear hK K y1 y2 hS6 hS7 H6 H7
    revert H8
    generalize W8.setCell ⟨b4, 2, none⟩ (.slice s8 (xg.length + 1) c8) = W9
    intro H8
    have hQ := HP.out _ H8.out.2
    have cb := (blk_all hQ.1.a).1
    have k1 := (blk_all hQ.2.1).1
    have k3 := (blk_all hQ.2.2.2).1
    have k4 := (blk_all H8.out.1.blk).1
    clear hQ
    go_upto_region 11 with (at_builtin; refine wpl_app rfl _ _ rfl elem_int (H8.out.1.below (below_alloc _ _)).n rfl rfl rfl (Sl.new _ _ _) (by simp [Value.oneCell']) (xn.length + 1) rfl (ints (xn ++ [2 * ((F : Int) + 1 + c.gates.length) + t])) (by rw [← ints_append]; rfl) (by unfold maxLen; omega) (by omega) (by have h1 := blk_lt H8.out.1.blk; simp; omega) ?_; intro s6 c6 wA h6 hb6 hg6 hob6; obtain ⟨hBA, hOA⟩ := (H8.out.1.below (below_alloc _ _)).pushN hg6 (xn' := xn ++ [2 * ((F : Int) + 1 + c.gates.length) + t]) (by rw [List.length_append]; exact h6) hob6; have hblA := ((H8.out.2.alloc (by have h1 := blk_lt H8.out.1.blk; omega) _).trans hb6).setCell (p := ⟨b4, 1, none⟩) hNb4 (.slice s6 (xn.length + 1) c6); have y1 : wA.cell? ⟨b4, 1, none⟩ = some (.slice s1 xn.length c1) := blk_cell hBA; have y2 : wA.frozen? ⟨b4, 1, none⟩ = false := blk_free hBA; have HA := Lib.hid (And.intro hOA hblA); clear cb k1 k3 k4 h6 hb6 hg6 hob6 hBA hOA hblA)
    clear y1 y2 H8
    revert HA
    generalize wA.setCell ⟨b4, 1, none⟩ (.slice s6 (xn.length + 1) c6) = WB
    intro HA
    have hQ := HP.out _ HA.out.2
    have k4 := (blk_all HA.out.1.blk).1
    obtain ⟨rc, rf⟩ := blk_all hQ.1.c
    have HQ := Lib.hid hQ.1
    clear hQ
    go_wp2_with fail
    have hO := HA.out.1
    rw [HXN.out.1, HXN.out.2.1, HXN.out.2.2] at hO
    have hown : CirOwn WB N (retR c k) (.slice s6 (xn.length + 1) c6) (.slice s8 (xg.length + 1) c8) (.slice s3 xo.length c3) := by
      rw [HR.out, HXN.out.1, HXN.out.2.1, HXN.out.2.2]
      refine ⟨hO.n, hO.g, hO.o, hO.ne, ?_, ?_, ?_⟩
      · simp; omega
      · simp [mapG]; omega
      · simp; omega
    have hinp : (retR c k).inp = c.inp := by rw [HR.out]
    rw [hinp]
    have HF2 := Lib.hid hown
    clear hown hO hinp
    have hZ : ((((WB.setCell ⟨w.heap.size + 2, 0, none⟩ (.int .i64 c.inp)).setCell ⟨w.heap.size + 2, 1, none⟩ (.slice s6 (xn.length + 1) c6)).setCell ⟨w.heap.size + 2, 2, none⟩ (.slice s8 (xg.length + 1) c8)).setCell ⟨w.heap.size + 2, 3, none⟩ (.slice s3 xo.length c3)).heap[w.heap.size + 2]? = some (.cells #[.int .i64 c.inp, .slice s6 (xn.length + 1) c6, .slice s8 (xg.length + 1) c8, .slice s3 xo.length c3] 26 (0, 0)) := by
      simpa using blk_set (o := 3) (v := .slice s3 xo.length c3) (blk_set (o := 2) (v := .slice s8 (xg.length + 1) c8) (blk_set (o := 1) (v := .slice s6 (xn.length + 1) c6) (blk_set (o := 0) (v := .int .i64 c.inp) HQ.out.c)))
    have hR := (HF2.out).sets4 (r := w.heap.size + 2) (by omega) (base := w.heap.size) (by omega) (a := .int .i64 c.inp) (b' := .slice s6 (xn.length + 1) c6) (c' := .slice s8 (xg.length + 1) c8) (d := .slice s3 xo.length c3)
    have hB := ((((HQ.out.bl).setCell (p := ⟨w.heap.size + 2, 0, none⟩) (by simp) (.int .i64 c.inp)).setCell (p := ⟨w.heap.size + 2, 1, none⟩) (by simp) (.slice s6 (xn.length + 1) c6)).setCell (p := ⟨w.heap.size + 2, 2, none⟩) (by simp) (.slice s8 (xg.length + 1) c8)).setCell (p := ⟨w.heap.size + 2, 3, none⟩) (by simp) (.slice s3 xo.length c3)
    revert hZ hR hB
    generalize ((((WB.setCell ⟨w.heap.size + 2, 0, none⟩ (.int .i64 c.inp)).setCell ⟨w.heap.size + 2, 1, none⟩ (.slice s6 (xn.length + 1) c6)).setCell ⟨w.heap.size + 2, 2, none⟩ (.slice s8 (xg.length + 1) c8)).setCell ⟨w.heap.size + 2, 3, none⟩ (.slice s3 xo.length c3)) = WZ
    intro hZ hR hB
    have cr := (blk_all hZ).1
    exact bodyPost_ret (v := .agg #[.int .i64 c.inp, .slice s6 (xn.length + 1) c6, .slice s8 (xg.length + 1) c8, .slice s3 xo.length c3]) (by simp [results, Try.results22, go_sem, cr]) rfl ⟨_, _, _, rfl, hR, hB⟩

end Go.Proofs.Ytbcolcchchgldaa
