import Derived.Test.YtbcolcchchgldaaY1
import Derived.Test.YtbcolcchchgldaaA4
import Derived.Test.YtbcolcchchgldaaL4
import Derived.Laws.OwnMore
namespace Go.Proofs.Ytbcolcchchgldaa
set_option linter.unusedVariables false
set_option linter.unusedSimpArgs false
open Go.RowKit

/-! A circuit and the number of a gate are drawn. -/

theorem gcells_set (xg : List Gt) (k : Nat) (a b : Int) (h : k < xg.length) : ((gcells xg).set (k * 2) (.int .i64 a)).set (k * 2 + 1) (.int .i64 b) = gcells (xg.set k ⟨a, b⟩) := by
  induction xg generalizing k with
  | nil => cases h
  | cons g gs ih =>
    cases k with
    | zero => rfl
    | succ k =>
      have e := ih k (by simpa using h)
      have e1 : (k + 1) * 2 = k * 2 + 2 := by omega
      have e2 : gcells (g :: gs) = .int .i64 g.a :: .int .i64 g.b :: gcells gs := rfl
      rw [e1, e2, show k * 2 + 2 + 1 = (k * 2 + 1) + 2 by omega]
      simp only [List.set_cons_succ]
      rw [e]
      rfl

theorem below_alloc (w : World) (o : Obj) : Below w.heap.size w (w.alloc o) := (Below.refl _ _).alloc (Nat.le_refl _) _

theorem KT.cirV {R : Nat} {s : Option Addr} {c : Nat} {xs : List Int} {w0 : World} {B : Nat} {C : Cir} {sn sg so : Option Addr} {cn cg co : Nat} {p : Nat} {w1 : World} (h : KT R s c xs w0 B C.inp C.next C.gates C.outs (.slice sn C.next.length cn) (.slice sg C.gates.length cg) (.slice so C.outs.length co) p w1)
    (hl : C.next.length ≤ 8 := by omega) (hl2 : C.gates.length ≤ 40 := by omega) (hl3 : C.outs.length ≤ 16 := by omega) : CirV w1 (.agg #[.int .i64 C.inp, .slice sn C.next.length cn, .slice sg C.gates.length cg, .slice so C.outs.length co]) C :=
  ⟨_, _, _, _, _, _, rfl, own_sl h.out.n, own_sl h.out.g, own_sl h.out.o, by omega, by omega, by omega⟩

theorem KT.setG {R : Nat} {s : Option Addr} {c : Nat} {xs : List Int} {w0 : World} {B : Nat} {inp : Int} {xn : List Int} {xg : List Gt} {xo : List Int} {vn vg vo : Value} {p : Nat} {w1 : World} (h : KT R s c xs w0 B inp xn xg xo vn vg vo p w1) {G cg k : Nat} (e : vg = .slice (some ⟨G, 0, none⟩) xg.length cg) (hk : k < xg.length) (a b : Int) :
    KT R s c xs w0 B inp xn (xg.set k ⟨a, b⟩) xo vn vg vo p ((w1.setCell ⟨G, k * 2, none⟩ (.int .i64 a)).setCell ⟨G, k * 2 + 1, none⟩ (.int .i64 b)) := by
  have hg0 := h.out.g
  rw [e] at hg0
  obtain ⟨h1, g1⟩ := hg0.stored (k * 2) (.int .i64 a)
  obtain ⟨h2, g2⟩ := h1.stored (k * 2 + 1) (.int .i64 b)
  have hg := g1.trans g2
  rw [gcells_set xg k a b hk] at h2
  have ho : ((w1.setCell ⟨G, k * 2, none⟩ (.int .i64 a)).setCell ⟨G, k * 2 + 1, none⟩ (.int .i64 b)).ownsRow w0.heap.size 38 2 vg (xg.set k ⟨a, b⟩).length (gcells (xg.set k ⟨a, b⟩)) := by
    rw [List.length_set, e]; exact h2
  have hgo : vg.ownBlock = some G := by rw [e]; rfl
  rw [← hgo] at hg
  have hc := Chg.of_grown hg
  have hb2 : Below w0.heap.size w1 _ := (Below.refl _ _).grown hg h.sz (fun q e => (own_blk h.out.g e).1)
  obtain ⟨r, k'⟩ := h.kpG hb2
  exact ⟨⟨by rw [hg.block B (blk_lt h.out.blk) (fun e => own_tyb h.out.g h.out.blk (by decide) e.symm)]; exact h.out.blk, hc.own h.out.n (fun k hk hs => own_ty h.out.n h.out.g (by decide) hk hs), ho, hc.own h.out.o (fun k hk hs => own_ty h.out.o h.out.g (by decide) hk hs), h.out.ne⟩, r, k', h.hR, h.hB⟩

/-- What l20Ring leaves. -/
def RgPost (R : Nat) (s : Option Addr) (c : Nat) (xs : List Int) (p : Nat) (w : World) (e : Ending) (w' : World) : Prop :=
  ∃ (C : Cir) (i : Int) (vn vg vo : Value) (p' : Nat), e = .returned (.tuple #[.agg #[.int .i64 C.inp, vn, vg, vo], .int .i64 i]) ∧ CirOwn w' w.heap.size C vn vg vo ∧ (-10 ≤ C.inp ∧ C.inp ≤ 10 ∧ C.next.length ≤ 8 ∧ C.gates.length ≤ 40 ∧ C.outs.length ≤ 16) ∧ (-1 ≤ i ∧ i ≤ 100) ∧ Rd w' R s c xs p' ∧ p' ≤ p + 1010 ∧ Kp R w.heap.size w w'

theorem KT.retR {R : Nat} {s : Option Addr} {c : Nat} {xs : List Int} {w W0 : World} {B : Nat} {inp : Int} {xn : List Int} {xg : List Gt} {xo : List Int} {vn vg vo : Value} {p p0 : Nat} {w1 : World} {a : Act} {i : Int} (h : KT R s c xs W0 B inp xn xg xo vn vg vo p w1) (hW : W0 = w.alloc (.cells #[.int .i64 0, .slice none 0 0, .slice none 0 0, .slice none 0 0] 26))
    (hR : R < w.heap.size) (hl : -10 ≤ inp ∧ inp ≤ 10 ∧ xn.length ≤ 8 ∧ xg.length ≤ 40 ∧ xo.length ≤ 16) (hp : p ≤ p0 + 1010) (hi : -1 ≤ i ∧ i ≤ 100) (ha : a.tmps.getD 4 undef = .pointer (some ⟨w.heap.size, 0, none⟩)) (ha5 : a.tmps.getD 5 undef = .int .i64 i) (hd : a.defers = []) :
    bodyPost Try.prog Try.f72 (RgPost R s c xs p0 w) .ret a ((((w1.setCell ⟨w.heap.size, 0, none⟩ (.int .i64 inp)).setCell ⟨w.heap.size, 1, none⟩ vn).setCell ⟨w.heap.size, 2, none⟩ vg).setCell ⟨w.heap.size, 3, none⟩ vo) := by
  subst hW
  have hs0 : (w.alloc (.cells #[.int .i64 0, .slice none 0 0, .slice none 0 0, .slice none 0 0] 26)).heap.size = w.heap.size + 1 := by simp
  have hRB : w1.heap[w.heap.size]? = some (.cells #[.int .i64 0, .slice none 0 0, .slice none 0 0, .slice none 0 0] 26 (0, 0)) := by
    rw [h.kp.block _ (by simp) (by omega)]; exact blk_new _ _
  have ho : CirOwn w1 (w.heap.size + 1) ⟨inp, xn, xg, xo⟩ vn vg vo := ⟨by have := h.out.n; rwa [hs0] at this, by have := h.out.g; rwa [hs0] at this, by have := h.out.o; rwa [hs0] at this, h.out.ne, Nat.le_trans hl.2.2.1 (by omega), Nat.le_trans hl.2.2.2.1 (by omega), Nat.le_trans hl.2.2.2.2 (by omega)⟩
  have hZ : ((((w1.setCell ⟨w.heap.size, 0, none⟩ (.int .i64 inp)).setCell ⟨w.heap.size, 1, none⟩ vn).setCell ⟨w.heap.size, 2, none⟩ vg).setCell ⟨w.heap.size, 3, none⟩ vo).heap[w.heap.size]? = some (.cells #[.int .i64 inp, vn, vg, vo] 26 (0, 0)) := by
    simpa using blk_set (o := 3) (v := vo) (blk_set (o := 2) (v := vg) (blk_set (o := 1) (v := vn) (blk_set (o := 0) (v := .int .i64 inp) hRB)))
  have hown := ho.sets4 (r := w.heap.size) (by omega) (base := w.heap.size) (by omega) (a := .int .i64 inp) (b' := vn) (c' := vg) (d := vo)
  have hB := (((((Below.refl w.heap.size w1).setCell (p := ⟨w.heap.size, 0, none⟩) (by simp) (.int .i64 inp)).setCell (p := ⟨w.heap.size, 1, none⟩) (by simp) vn).setCell (p := ⟨w.heap.size, 2, none⟩) (by simp) vg).setCell (p := ⟨w.heap.size, 3, none⟩) (by simp) vo)
  have hk0 : Kp R w.heap.size w w1 := (Kp.of_below ((Below.refl _ _).alloc (Nat.le_refl _) _)).trans (h.kp.mono (by omega))
  have hrd := h.rd.grown hB hR
  have hk := hk0.trans (Kp.of_below hB)
  revert hZ hown hrd hk
  generalize ((((w1.setCell ⟨w.heap.size, 0, none⟩ (.int .i64 inp)).setCell ⟨w.heap.size, 1, none⟩ vn).setCell ⟨w.heap.size, 2, none⟩ vg).setCell ⟨w.heap.size, 3, none⟩ vo) = WZ
  intro hZ hown hrd hk
  have cr := (blk_all hZ).1
  have ha' : a.tmps[4]?.getD undef = .pointer (some ⟨w.heap.size, 0, none⟩) := by simpa using ha
  have ha5' : a.tmps[5]?.getD undef = .int .i64 i := by simpa using ha5
  exact bodyPost_ret (v := .tuple #[.agg #[.int .i64 inp, vn, vg, vo], .int .i64 i]) (by simp [results, Try.results72, go_sem, cr, ha', ha5']) hd ⟨⟨inp, xn, xg, xo⟩, i, vn, vg, vo, p, rfl, hown, hl, hi, hrd, hp, hk⟩

set_option maxRecDepth 100000 in
set_option maxHeartbeats 3200000 in
theorem l20Ring_any (R : Nat) (s : Option Addr) (c : Nat) (xs : List Int) (p : Nat) (n : Int) (w : World) (h : Rd w R s c xs p) (hp : p ≤ 1000) (hn : 0 ≤ n) (hn2 : n ≤ 1000) :
    Calls Try.prog 72 #[.pointer (some ⟨R, 0, none⟩), .int .i64 n] w (RgPost R s c xs p w) := by
  have hR : R < w.heap.size := blk_lt h.blk
  obtain ⟨W0, hW0⟩ : ∃ W0, W0 = w.alloc (.cells #[.int .i64 0, .slice none 0 0, .slice none 0 0, .slice none 0 0] 26) := ⟨_, rfl⟩
  have hrd : Rd W0 R s c xs p := by rw [hW0]; exact h.mono ((Below.refl _ _).alloc (Nat.le_refl _) _)
  have hz : R < W0.heap.size := by rw [hW0]; simp; omega
  have hR0 := Lib.hid hz
  clear hz
  have HW0 := Lib.hid hW0
  have HRD := Lib.hid hrd
  clear h hrd hW0
  go_enter Try.func72, Try.ntmps72
  go_upto_region 1 with fail
  rw [← HW0.out]
  go_upto_region 2 with (go_at_call 96; ((with_reducible refine (l20Circuit_any _ _ _ _ _ _ _ HRD.out (by omega) (by omega) (by omega)).mono ?_); rintro e w1 ⟨C, vn, vg, vo, p1, rfl, h1, h2, h3, h4, h5⟩; obtain ⟨sn, cn, rfl⟩ := own_shape h1.n; obtain ⟨sg, cg, rfl⟩ := own_shape h1.g; obtain ⟨so, co, rfl⟩ := own_shape h1.o; have HI := Lib.hid (And.intro h1 (And.intro h3 h5)); obtain ⟨l1, l2, l3, l4, l5⟩ := h2; clear h1 h3 h5))
  obtain ⟨B, hB⟩ : ∃ B, B = w1.heap.size := ⟨_, rfl⟩
  have hk0 : KT R s c xs W0 B C.inp C.next C.gates C.outs (.slice sn C.next.length cn) (.slice sg C.gates.length cg) (.slice so C.outs.length co) p1 (w1.alloc (.cells #[.int .i64 C.inp, .slice sn C.next.length cn, .slice sg C.gates.length cg, .slice so C.outs.length co] 26)) :=
    ⟨⟨by rw [hB]; exact blk_new _ _, own_below HI.out.1.n (below_alloc _ _), own_below HI.out.1.g (below_alloc _ _), own_below HI.out.1.o (below_alloc _ _), HI.out.1.ne⟩, HI.out.2.1.mono (below_alloc _ _), HI.out.2.2.alloc (Nat.le_refl _) _, hR0.out, by rw [hB]; exact HI.out.2.2.size⟩
  have HK := Lib.hid hk0
  clear hk0 HI HRD
  rw [← hB]
  revert HK
  generalize w1.alloc (.cells #[.int .i64 C.inp, .slice sn C.next.length cn, .slice sg C.gates.length cg, .slice so C.outs.length co] 26) = W1
  intro HK
  clear hB
  have cb := HK.out.cells.1
  go_upto_region 3 with (go_at_call 120; ((with_reducible refine (pick_kt _ _ _ _ _ _ _ _ _ _ _ _ _ _ _ _ HK.out (by omega) (by omega)).mono ?_); rintro e w' ⟨k0, rfl, hk1, hk2, -, -⟩; have HK := Lib.hid hk2; have HPk0 := Lib.hid hk1; have hbk0 : k0 ≤ 41 := (by have := hk1.2; omega); clear hk1 hk2; (try clear cb); have cb := HK.out.cells.1))
  clear HPk0
  cases hv : C.validB
  · have HV := Lib.hid hv
    clear hv
    go_upto_region 8 with (go_at_call 42; ((with_reducible refine (CircuitValid_s _ C _ HK.out.cirV).mono ?_)); rintro e w2 ⟨rfl, hq⟩; have HK := Lib.hid (HK.out.below hq); clear hq; (try clear cb); have cb := HK.out.cells.1; rw [HV.out])
    obtain ⟨rc, rf⟩ := KT.res HK.out HW0.out hR
    go_wp2_with fail
    refine KT.retR (p0 := p) (i := (k0 : Int) - 1) HK.out HW0.out hR ?_ ?_ ?_ rfl rfl rfl
    · exact ⟨by omega, by omega, by omega, by omega, by omega⟩
    · omega
    · omega
  · have hlim := (C.validB_iff.1 hv).lim
    have HV := Lib.hid hv
    clear hv
    rcases Nat.lt_or_ge 0 C.next.length with n1 | n0
    rotate_left
    · go_upto_region 8 with (go_at_call 42; ((with_reducible refine (CircuitValid_s _ C _ HK.out.cirV).mono ?_)); rintro e w2 ⟨rfl, hq⟩; have HK := Lib.hid (HK.out.below hq); clear hq; (try clear cb); have cb := HK.out.cells.1; rw [HV.out])
      obtain ⟨rc, rf⟩ := KT.res HK.out HW0.out hR
      go_wp2_with fail
      refine KT.retR (p0 := p) (i := (k0 : Int) - 1) HK.out HW0.out hR ?_ ?_ ?_ rfl rfl rfl
      · exact ⟨by omega, by omega, by omega, by omega, by omega⟩
      · omega
      · omega
    · rcases Nat.lt_or_ge 0 C.gates.length with g1 | g0
      rotate_left
      · go_upto_region 8 with (go_at_call 42; ((with_reducible refine (CircuitValid_s _ C _ HK.out.cirV).mono ?_)); rintro e w2 ⟨rfl, hq⟩; have HK := Lib.hid (HK.out.below hq); clear hq; (try clear cb); have cb := HK.out.cells.1; rw [HV.out])
        obtain ⟨rc, rf⟩ := KT.res HK.out HW0.out hR
        go_wp2_with fail
        refine KT.retR (p0 := p) (i := (k0 : Int) - 1) HK.out HW0.out hR ?_ ?_ ?_ rfl rfl rfl
        · exact ⟨by omega, by omega, by omega, by omega, by omega⟩
        · omega
        · omega
      · obtain ⟨G, rfl⟩ : ∃ q, sg = some ⟨q, 0, none⟩ := by
          rcases own_some HK.out.out.g with ⟨_, e, _⟩ | ⟨q, e⟩
          · omega
          · exact ⟨q, e⟩
        go_upto_region 4 with (first | (go_at_call 42; ((with_reducible refine (CircuitValid_s _ C _ HK.out.cirV).mono ?_)); rintro e w2 ⟨rfl, hq⟩; have HK := Lib.hid (HK.out.below hq); clear hq; (try clear cb); have cb := HK.out.cells.1; rw [HV.out]) | ((go_at_call 120; ((with_reducible refine (pick_kt _ _ _ _ _ _ _ _ _ _ _ _ _ _ _ _ HK.out (by omega) (by omega)).mono ?_); rintro e w' ⟨q, rfl, hk1, hk2, -, -⟩; have HK := Lib.hid hk2; have HPq := Lib.hid hk1; have hbq : q ≤ 41 := (by have := hk1.2; omega); clear hk1 hk2; (try clear cb); have cb := HK.out.cells.1)); obtain ⟨rc, rf⟩ := KT.res HK.out HW0.out hR))
        · clear rc rf HPq
          go_upto_region 5 with (go_at_call 120; ((with_reducible refine (pick_kt _ _ _ _ _ _ _ _ _ _ _ _ _ _ _ _ HK.out (by omega) (by omega)).mono ?_); rintro e w' ⟨m, rfl, hk1, hk2, -, -⟩; have HK := Lib.hid hk2; have HPm := Lib.hid hk1; have hbm : m ≤ 41 := (by have := hk1.2; omega); clear hk1 hk2; (try clear cb); have cb := HK.out.cells.1))
          have hm : m < C.gates.length := by have := HPm.out.2; omega
          clear HPm
          go_cut [8] from 44 to 56 (fun s8 wx => ∃ Z : Int, s8 = .int .i64 Z ∧ KT R s c xs W0 B C.inp C.next C.gates C.outs (.slice sn C.next.length cn) (.slice (some ⟨G, 0, none⟩) C.gates.length cg) (.slice so C.outs.length co) (p1 + 3 + 2) wx)
          case first =>
            refine wp_region_T (fun w' => ∀ o, w'.cell? ⟨B, o, none⟩ = #[Value.int .i64 C.inp, .slice sn C.next.length cn, .slice (some ⟨G, 0, none⟩) C.gates.length cg, .slice so C.outs.length co][o]?) (.q 0 (.q 1 (.q 2 (.q 3 (.q 4 (.q 5 (.q 6 (.q 10 (.e 7 (.q 8 (.q 9 (.e 11 (.q 12 (.q 13 .nil)))))))))))))) (by kernel_rfl) (by kernel_rfl) (by kernel_rfl) HK.out.drew.cells.1 ?_
            repeat (first | (refine ordt_s (o := ?_) ?_ ?_ ?_; rotate_left 1; (focus ((simp only [List.getElem?_toArray, List.getElem?_cons_succ, List.getElem?_cons_zero]) <;> rfl)); (focus rfl); simp only [Act.put, List.setIfInBounds_toArray, List.set_cons_zero, List.set_cons_succ]) | (refine ordt_q (o := ?_) (v := ?_) ?_ ?_ ?_ ?_; rotate_left 2; (focus ((simp only [List.getElem?_toArray, List.getElem?_cons_succ, List.getElem?_cons_zero]) <;> rfl)); (focus rfl); (focus (intro w' hS; (try dsimp only at hS); go_split_ands; go_simp; (try (with_reducible rfl)))); simp only [Act.put, List.setIfInBounds_toArray, List.set_cons_zero, List.set_cons_succ]))
            refine ordt_e ?_
            (refine op_e (o := ?_) ?_ ?_ (fun K hK => ?_); rotate_left 1; (focus ((simp only [List.getElem?_toArray, List.getElem?_cons_succ, List.getElem?_cons_zero]) <;> rfl)); (focus rfl); go_simp)
            refine (pick_kt _ _ _ _ _ _ _ _ _ _ _ _ _ _ _ _ HK.out.drew (by omega) (by omega)).mono ?_
            rintro e wa ⟨q1, rfl, -, hk2, -, -⟩
            refine hK.out _ _ hk2.cells.1 ?_
            clear hK K
            have HKa := Lib.hid hk2
            clear hk2
            (try simp only [Act.put, List.setIfInBounds_toArray, List.set_cons_zero, List.set_cons_succ])
            repeat (first | (refine ordt_s (o := ?_) ?_ ?_ ?_; rotate_left 1; (focus ((simp only [List.getElem?_toArray, List.getElem?_cons_succ, List.getElem?_cons_zero]) <;> rfl)); (focus rfl); simp only [Act.put, List.setIfInBounds_toArray, List.set_cons_zero, List.set_cons_succ]) | (refine ordt_q (o := ?_) (v := ?_) ?_ ?_ ?_ ?_; rotate_left 2; (focus ((simp only [List.getElem?_toArray, List.getElem?_cons_succ, List.getElem?_cons_zero]) <;> rfl)); (focus rfl); (focus (intro w' hS; (try dsimp only at hS); go_split_ands; go_simp; (try (with_reducible rfl)))); simp only [Act.put, List.setIfInBounds_toArray, List.set_cons_zero, List.set_cons_succ]))
            refine ordt_e ?_
            (refine op_e (o := ?_) ?_ ?_ (fun K hK => ?_); rotate_left 1; (focus ((simp only [List.getElem?_toArray, List.getElem?_cons_succ, List.getElem?_cons_zero]) <;> rfl)); (focus rfl); go_simp)
            refine (pick_kt _ _ _ _ _ _ _ _ _ _ _ _ _ _ _ _ HKa.out (by omega) (by omega)).mono ?_
            rintro e wb ⟨q2, rfl, -, hk2, -, -⟩
            refine hK.out _ _ hk2.cells.1 ?_
            clear hK K
            have HKb := Lib.hid hk2
            clear hk2
            (try simp only [Act.put, List.setIfInBounds_toArray, List.set_cons_zero, List.set_cons_succ])
            repeat (first | (refine ordt_s (o := ?_) ?_ ?_ ?_; rotate_left 1; (focus ((simp only [List.getElem?_toArray, List.getElem?_cons_succ, List.getElem?_cons_zero]) <;> rfl)); (focus rfl); simp only [Act.put, List.setIfInBounds_toArray, List.set_cons_zero, List.set_cons_succ]) | (refine ordt_q (o := ?_) (v := ?_) ?_ ?_ ?_ ?_; rotate_left 2; (focus ((simp only [List.getElem?_toArray, List.getElem?_cons_succ, List.getElem?_cons_zero]) <;> rfl)); (focus rfl); (focus (intro w' hS; (try dsimp only at hS); go_split_ands; go_simp; (try (with_reducible rfl)))); simp only [Act.put, List.setIfInBounds_toArray, List.set_cons_zero, List.set_cons_succ]))
            refine ordt_nil ?_
            go_wp2_with fail
            go_meet
            exact ⟨_, rfl, HKb.out⟩
          case rest =>
            obtain ⟨Z8, rfl, hk⟩ := hcut
            clear HK cb
            have HK := Lib.hid hk
            clear hk
            have cb := HK.out.cells.1
            go_upto_region 6 with fail
            go_cut [9] from 57 to 69 (fun s9 wx => ∃ Z : Int, s9 = .int .i64 Z ∧ KT R s c xs W0 B C.inp C.next C.gates C.outs (.slice sn C.next.length cn) (.slice (some ⟨G, 0, none⟩) C.gates.length cg) (.slice so C.outs.length co) (p1 + 5 + 2) wx)
            case first =>
              refine wp_region_T (fun w' => ∀ o, w'.cell? ⟨B, o, none⟩ = #[Value.int .i64 C.inp, .slice sn C.next.length cn, .slice (some ⟨G, 0, none⟩) C.gates.length cg, .slice so C.outs.length co][o]?) (.q 0 (.q 1 (.q 2 (.q 3 (.q 4 (.q 5 (.q 6 (.q 10 (.e 7 (.q 8 (.q 9 (.e 11 (.q 12 (.q 13 .nil)))))))))))))) (by kernel_rfl) (by kernel_rfl) (by kernel_rfl) HK.out.drew.cells.1 ?_
              repeat (first | (refine ordt_s (o := ?_) ?_ ?_ ?_; rotate_left 1; (focus ((simp only [List.getElem?_toArray, List.getElem?_cons_succ, List.getElem?_cons_zero]) <;> rfl)); (focus rfl); simp only [Act.put, List.setIfInBounds_toArray, List.set_cons_zero, List.set_cons_succ]) | (refine ordt_q (o := ?_) (v := ?_) ?_ ?_ ?_ ?_; rotate_left 2; (focus ((simp only [List.getElem?_toArray, List.getElem?_cons_succ, List.getElem?_cons_zero]) <;> rfl)); (focus rfl); (focus (intro w' hS; (try dsimp only at hS); go_split_ands; go_simp; (try (with_reducible rfl)))); simp only [Act.put, List.setIfInBounds_toArray, List.set_cons_zero, List.set_cons_succ]))
              refine ordt_e ?_
              (refine op_e (o := ?_) ?_ ?_ (fun K hK => ?_); rotate_left 1; (focus ((simp only [List.getElem?_toArray, List.getElem?_cons_succ, List.getElem?_cons_zero]) <;> rfl)); (focus rfl); go_simp)
              refine (pick_kt _ _ _ _ _ _ _ _ _ _ _ _ _ _ _ _ HK.out.drew (by omega) (by omega)).mono ?_
              rintro e wa ⟨q1, rfl, -, hk2, -, -⟩
              refine hK.out _ _ hk2.cells.1 ?_
              clear hK K
              have HKa := Lib.hid hk2
              clear hk2
              (try simp only [Act.put, List.setIfInBounds_toArray, List.set_cons_zero, List.set_cons_succ])
              repeat (first | (refine ordt_s (o := ?_) ?_ ?_ ?_; rotate_left 1; (focus ((simp only [List.getElem?_toArray, List.getElem?_cons_succ, List.getElem?_cons_zero]) <;> rfl)); (focus rfl); simp only [Act.put, List.setIfInBounds_toArray, List.set_cons_zero, List.set_cons_succ]) | (refine ordt_q (o := ?_) (v := ?_) ?_ ?_ ?_ ?_; rotate_left 2; (focus ((simp only [List.getElem?_toArray, List.getElem?_cons_succ, List.getElem?_cons_zero]) <;> rfl)); (focus rfl); (focus (intro w' hS; (try dsimp only at hS); go_split_ands; go_simp; (try (with_reducible rfl)))); simp only [Act.put, List.setIfInBounds_toArray, List.set_cons_zero, List.set_cons_succ]))
              refine ordt_e ?_
              (refine op_e (o := ?_) ?_ ?_ (fun K hK => ?_); rotate_left 1; (focus ((simp only [List.getElem?_toArray, List.getElem?_cons_succ, List.getElem?_cons_zero]) <;> rfl)); (focus rfl); go_simp)
              refine (pick_kt _ _ _ _ _ _ _ _ _ _ _ _ _ _ _ _ HKa.out (by omega) (by omega)).mono ?_
              rintro e wb ⟨q2, rfl, -, hk2, -, -⟩
              refine hK.out _ _ hk2.cells.1 ?_
              clear hK K
              have HKb := Lib.hid hk2
              clear hk2
              (try simp only [Act.put, List.setIfInBounds_toArray, List.set_cons_zero, List.set_cons_succ])
              repeat (first | (refine ordt_s (o := ?_) ?_ ?_ ?_; rotate_left 1; (focus ((simp only [List.getElem?_toArray, List.getElem?_cons_succ, List.getElem?_cons_zero]) <;> rfl)); (focus rfl); simp only [Act.put, List.setIfInBounds_toArray, List.set_cons_zero, List.set_cons_succ]) | (refine ordt_q (o := ?_) (v := ?_) ?_ ?_ ?_ ?_; rotate_left 2; (focus ((simp only [List.getElem?_toArray, List.getElem?_cons_succ, List.getElem?_cons_zero]) <;> rfl)); (focus rfl); (focus (intro w' hS; (try dsimp only at hS); go_split_ands; go_simp; (try (with_reducible rfl)))); simp only [Act.put, List.setIfInBounds_toArray, List.set_cons_zero, List.set_cons_succ]))
              refine ordt_nil ?_
              go_wp2_with fail
              go_meet
              exact ⟨_, rfl, HKb.out⟩
            case rest =>
              obtain ⟨Z9, rfl, hk⟩ := hcut
              clear HK cb
              have HK := Lib.hid hk
              clear hk
              have cb := HK.out.cells.1
              obtain ⟨gq, hgq⟩ := get_of_lt hm
              have e1 : wc.cell? ⟨G, m * 2, none⟩ = some (.int .i64 gq.a) := (HK.out.out.g.cellAt (m * 2) (by omega)).trans (by rw [Nat.mul_comm]; exact (gcells_get hgq).1)
              have e2 : wc.cell? ⟨G, m * 2 + 1, none⟩ = some (.int .i64 gq.b) := (HK.out.out.g.cellAt (m * 2 + 1) (by omega)).trans (by rw [Nat.mul_comm]; exact (gcells_get hgq).2)
              have r1 := HK.out.out.g.frozenAt (m * 2)
              have r2 := HK.out.out.g.frozenAt (m * 2 + 1)
              have hk := HK.out.setG rfl hm Z8 Z9
              have HQ := Lib.hid hgq
              clear hgq
              go_upto_region 8 with fail
              clear HK cb e1 e2 r1 r2
              revert hk
              generalize (wc.setCell ⟨G, m * 2, none⟩ (.int .i64 Z8)).setCell ⟨G, m * 2 + 1, none⟩ (.int .i64 Z9) = W9
              intro hk
              have HK := Lib.hid hk
              clear hk
              have cb := HK.out.cells.1
              obtain ⟨rc, rf⟩ := KT.res HK.out HW0.out hR
              go_wp2_with fail
              refine KT.retR (p0 := p) (i := (m : Int)) HK.out HW0.out hR ?_ ?_ ?_ rfl rfl rfl
              · exact ⟨by omega, by omega, by omega, by rw [List.length_set]; omega, by omega⟩
              · omega
              · omega
        · refine KT.retR (p0 := p) (i := (k0 : Int) - 1) HK.out HW0.out hR ?_ ?_ ?_ rfl rfl rfl
          · exact ⟨by omega, by omega, by omega, by omega, by omega⟩
          · omega
          · omega
end Go.Proofs.Ytbcolcchchgldaa
