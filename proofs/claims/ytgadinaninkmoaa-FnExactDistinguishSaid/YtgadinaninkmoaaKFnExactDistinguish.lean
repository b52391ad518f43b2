import Derived.Test.YtgadinaninkmoaaC0
import Derived.Test.YtgadinaninkmoaaDM
import Derived.Test.YtgadinaninkmoaaET
import Derived.Deep.DeepCutAuto
import Derived.Deep.RegionHeld3
namespace Go.Proofs.Ytgadinaninkmoaa
set_option linter.unusedVariables false
set_option linter.unusedSimpArgs false
open Go.RowKit

/-! The exact law of Distinguish. -/

theorem Dis_s (u v : Value) (a b : Cir) (Q : Bool) (m : Nat) (RR : List (List Bool)) (w : World) (ha : CirV w u a) (hb : CirV w v b) (hR : Q = (disR a b).isSome ∧ RR = rowsR a b ∧ RR.length = m) :
    Calls Try.prog 5 #[u, v] w fun e w' => ∃ s cap, e = .returned (.agg #[.bool Q, .slice s m cap]) ∧ SlBA w' w.heap.size s RR ∧ Below w.heap.size w w' := by
  obtain ⟨rfl, rfl, rfl⟩ := hR
  refine (Distinguish_sA u v a b w ha hb).mono ?_
  rintro e w' ⟨s, cap, rfl, h1, h2⟩
  exact ⟨s, cap, rfl, h1, h2⟩
theorem Dis_i (u v : Value) (a b : Cir) (Q : Bool) (m : Nat) (RR : List (List Bool)) (w : World) (ha : CirV w u a) (hb : CirV w v b) (hR : Q = (disR a b).isSome ∧ RR = rowsR a b ∧ RR.length = m) :
    Calls Try.prog 7 #[u, v] w fun e w' => ∃ s cap vs, e = .returned (.agg #[.bool Q, .slice s m cap]) ∧ OwnSB w' w.heap.size (.slice s m cap) vs RR ∧ Below w.heap.size w w' := by
  obtain ⟨rfl, rfl, rfl⟩ := hR
  refine (Distinguish_i u v a b w ha hb).mono ?_
  rintro e w' ⟨s, cap, vs, rfl, h1, h2⟩
  exact ⟨s, cap, vs, rfl, h1, h2⟩
theorem OwnSB.a {w : World} {base n : Nat} {s : Option Addr} {c : Nat} {vs : List Value} {rows : List (List Bool)} (h : OwnSB w base (.slice s n c) vs rows) (hl : rows.length = n) : SlBA w base s rows := by
  subst hl
  refine ⟨vs, h.len, own_sl h.out, own_from h.out, fun u hu => ?_, fun i r hr => ?_⟩
  · obtain ⟨j, hj⟩ := List.getElem?_of_mem hu
    obtain ⟨r, hr⟩ := h.rget hj
    obtain ⟨si, ci, rfl⟩ := own_shape (h.row j u r hj hr)
    rfl
  · obtain ⟨u, hu⟩ := h.get hr
    have ho := h.row i u r hu hr
    obtain ⟨si, ci, rfl⟩ := own_shape ho
    exact ⟨si, ci, hu, own_sl ho, own_from ho⟩
theorem markK (K K2 : Int) (base : Nat) (c : Cir) (inp : Int) (sn sg so : Option Addr) (cn cg co : Nat) (w : World) (h : CirOwn w base c (.slice sn c.next.length cn) (.slice sg c.gates.length cg) (.slice so c.outs.length co)) (hk : 0 ≤ K) (hk2 : K ≤ 10000000) (hK : K2 = K + c.next.length + 2 * c.gates.length + c.outs.length) :
    Calls Try.prog 10 #[.agg #[.int .i64 inp, .slice sn c.next.length cn, .slice sg c.gates.length cg, .slice so c.outs.length co], .int .i64 K] w fun e w' => e = .returned (.int .i64 K2) ∧ Chg (inCir (.slice sn c.next.length cn) (.slice sg c.gates.length cg) (.slice so c.outs.length co)) w w' := by
  subst hK
  refine (markCircuitK_any base c K inp sn sg so cn cg co w h hk hk2).mono ?_
  rintro e w' ⟨rfl, -, h⟩
  exact ⟨rfl, h⟩
theorem own_cir {w : World} {base : Nat} {c : Cir} {d1 d2 d3 : Nat} (hd1 : base ≤ d1) (hd2 : d1 < d2) (hd3 : d2 < d3) (hx1 : w.heap[d1]? = some (.cells (ints c.next).toArray 3 (0, 0))) (hx2 : w.heap[d2]? = some (.cells (gcells c.gates).toArray 66 (0, 0))) (hx3 : w.heap[d3]? = some (.cells (ints c.outs).toArray 3 (0, 0))) (l1 : c.next.length ≤ 1048576) (l2 : c.gates.length ≤ 1048576) (l3 : c.outs.length ≤ 1048576) :
    CirOwn w base c (.slice (some ⟨d1, 0, none⟩) c.next.length c.next.length) (.slice (some ⟨d2, 0, none⟩) c.gates.length c.gates.length) (.slice (some ⟨d3, 0, none⟩) c.outs.length c.outs.length) ∧ ∀ k, inCir (.slice (some ⟨d1, 0, none⟩) c.next.length c.next.length) (.slice (some ⟨d2, 0, none⟩) c.gates.length c.gates.length) (.slice (some ⟨d3, 0, none⟩) c.outs.length c.outs.length) k → base ≤ k ∧ k < w.heap.size := by
  have hlt1 := blk_lt hx1
  have hlt2 := blk_lt hx2
  have hlt3 := blk_lt hx3
  have o1 := own_of_blk (base := base) (size := 1) (n := c.next.length) hx1 hd1 (by simp) (by unfold maxLen; omega)
  have o2 := own_of_blk (base := base) (size := 2) (n := c.gates.length) hx2 (by omega) (by simp [gcells_length]; omega) (by unfold maxLen; omega)
  have o3 := own_of_blk (base := base) (size := 1) (n := c.outs.length) hx3 (by omega) (by simp) (by unfold maxLen; omega)
  exact ⟨⟨by simpa using o1, by simpa using o2, by simpa using o3, fun k e1 e2 => by simp [Value.ownBlock] at e1 e2; omega, l1, l2, l3⟩, fun k hk => by unfold inCir at hk; simp [Value.ownBlock] at hk; omega⟩
theorem CirOwn.v {w : World} {base : Nat} {r : Cir} {s1 s2 s3 : Option Addr} {c1 c2 c3 : Nat} (h : CirOwn w base r (.slice s1 r.next.length c1) (.slice s2 r.gates.length c2) (.slice s3 r.outs.length c3)) : CirV w (.agg #[.int .i64 r.inp, .slice s1 r.next.length c1, .slice s2 r.gates.length c2, .slice s3 r.outs.length c3]) r :=
  ⟨_, _, _, _, _, _, rfl, own_sl h.n, own_sl h.g, own_sl h.o, h.l1, h.l2, h.l3⟩
theorem CirOwn.below {w w' : World} {base : Nat} {r : Cir} {vn vg vo : Value} (h : CirOwn w base r vn vg vo) (hb : Below w.heap.size w w') : CirOwn w' base r vn vg vo :=
  ⟨own_below h.n hb, own_below h.g hb, own_below h.o hb, h.ne, h.l1, h.l2, h.l3⟩
theorem CirOwn.chg {S : Nat → Prop} {w w' : World} {base : Nat} {r : Cir} {vn vg vo : Value} (h : CirOwn w base r vn vg vo) (hc : Chg S w w') (hs : ∀ k, base ≤ k → ¬ S k) : CirOwn w' base r vn vg vo :=
  ⟨hc.own h.n (fun k hk => hs k (own_blk h.n hk).1), hc.own h.g (fun k hk => hs k (own_blk h.g hk).1), hc.own h.o (fun k hk => hs k (own_blk h.o hk).1), h.ne, h.l1, h.l2, h.l3⟩
theorem chgS1 {S : Nat → Prop} (w : World) {b : Nat} (o : Nat) (v : Value) (h : S b) : Chg S w (w.setCell ⟨b, o, none⟩ v) :=
  ⟨rfl, rfl, rfl, by simp, fun k _ hn => blk_set_ne (fun e => hn (e ▸ h)) rfl⟩
/-- The boxed result of the reference stands in block D. -/
structure DisS (W0 : World) (A D : Nat) (X Y Z : Array Value) (s0 : Option Addr) (RR : List (List Bool)) (W : World) : Prop where
  bel : Below W0.heap.size W0 W
  ca : ∀ o, W.cell? ⟨A, o, none⟩ = X[o]?
  cb : ∀ o, W.cell? ⟨A + 1, o, none⟩ = Y[o]?
  d : W.heap[D]? = some (.cells Z 29 (0, 0))
  sl : SlB W s0 RR

set_option maxRecDepth 100000 in
set_option maxHeartbeats 6400000 in
theorem FnExactDistinguish_any (u : Value) (a : Cir) (v : Value) (b : Cir) (w : World) (ha : CirA w u a) (hb : CirA w v b) :
    Calls Try.prog 3 #[u, v] w fun e w' => e = .returned (.bool true) ∧ Below w.heap.size w w' := by
  have HG := Lib.hid (And.intro ha hb)
  obtain ⟨sn, cn, sg, cg, so, co, rfl, -, -, -, ka1, ka2, ka3⟩ := ha
  obtain ⟨tn, dn, tg, dg, to_, do_, rfl, -, -, -, kb1, kb2, kb3⟩ := hb
  obtain ⟨W0, hW0⟩ : ∃ W0, W0 = ((w.alloc (.cells #[.int .i64 a.inp, .slice sn a.next.length cn, .slice sg a.gates.length cg, .slice so a.outs.length co] 25)).alloc (.cells #[.int .i64 b.inp, .slice tn b.next.length dn, .slice tg b.gates.length dg, .slice to_ b.outs.length do_] 25)) := ⟨_, rfl⟩
  obtain ⟨A, hA⟩ : ∃ A, A = w.heap.size := ⟨_, rfl⟩
  have z1 : W0.heap.size = A + 2 := by rw [hW0, hA]; simp
  have z2 : W0.heap[A]? = some (.cells #[.int .i64 a.inp, .slice sn a.next.length cn, .slice sg a.gates.length cg, .slice so a.outs.length co] 25 (0, 0)) := by rw [hW0, hA]; exact blk_old (blk_new w _)
  have z3 : W0.heap[A + 1]? = some (.cells #[.int .i64 b.inp, .slice tn b.next.length dn, .slice tg b.gates.length dg, .slice to_ b.outs.length do_] 25 (0, 0)) := by rw [hW0, hA]; exact blk_at (by simp)
  have z4 : Below w.heap.size w W0 := by rw [hW0]; go_grown
  have HW := Lib.hid (And.intro hW0 (And.intro hA z1))
  have HB : Hid (∀ W, Below W0.heap.size W0 W → ((∀ o, W.cell? ⟨A, o, none⟩ = #[.int .i64 a.inp, .slice sn a.next.length cn, .slice sg a.gates.length cg, .slice so a.outs.length co][o]?) ∧ ∀ o, W.cell? ⟨A + 1, o, none⟩ = #[.int .i64 b.inp, .slice tn b.next.length dn, .slice tg b.gates.length dg, .slice to_ b.outs.length do_][o]?) ∧ Below w.heap.size w W) := fun W hW => ⟨⟨(blk_all (blk_below hW (by omega) z2)).1, (blk_all (blk_below hW (by omega) z3)).1⟩, z4.trans (hW.mono z4.size)⟩
  clear hW0 hA z1 z2 z3 z4
  have sa0 : 0 ≤ a.size := by rw [Cir.size_eq]; omega
  have sb0 : 0 ≤ b.size := by rw [Cir.size_eq]; omega
  by_cases hc : a.size ≤ 1048576
  · obtain ⟨L, hL⟩ : ∃ L : Int, L = 1048576 - a.size := ⟨_, rfl⟩
    have h1 : leftOf 1048576 (a.next.length + a.gates.length + a.outs.length) = L := by rw [hL, ← Cir.size_eq]; unfold leftOf; rw [if_pos (by omega)]
    have L0 : 0 ≤ L := by omega
    have L1 : L ≤ 1048576 := by omega
    by_cases hd : b.size ≤ L
    · have h2 : leftOf L (b.next.length + b.gates.length + b.outs.length) = L - b.size := by rw [← Cir.size_eq]; unfold leftOf; rw [if_pos hd]
      obtain ⟨L2, hL2⟩ : ∃ L2 : Int, L2 = L - b.size := ⟨_, rfl⟩
      rw [← hL2] at h2
      have L20 : 0 ≤ L2 := by omega
      have hb2 : b.size ≤ 1048576 := by omega
      have HV : Hid (∀ W, Below W0.heap.size W0 W → CirV W (.agg #[.int .i64 a.inp, .slice sn a.next.length cn, .slice sg a.gates.length cg, .slice so a.outs.length co]) a ∧ CirV W (.agg #[.int .i64 b.inp, .slice tn b.next.length dn, .slice tg b.gates.length dg, .slice to_ b.outs.length do_]) b) := fun W hW => ⟨(HG.out.1.v hc).mono (HB.out W hW).2, (HG.out.2.v hb2).mono (HB.out W hW).2⟩
      have HL := Lib.hid (And.intro h1 h2)
      obtain ⟨Q, hQ⟩ : ∃ Q, Q = (disR a b).isSome := ⟨_, rfl⟩
      obtain ⟨RR, hRR⟩ : ∃ RR, RR = rowsR a b := ⟨_, rfl⟩
      obtain ⟨m, hm⟩ : ∃ m, RR.length = m := ⟨_, rfl⟩
      have hm1 : m ≤ 1000 := by rw [← hm, hRR]; exact (rowsR_small a b).1
      have HR := Lib.hid (show Q = (disR a b).isSome ∧ RR = rowsR a b ∧ RR.length = m from ⟨hQ, hRR, hm⟩)
      have HRL := Lib.hid (show ∀ r ∈ RR, r.length ≤ 4 by rw [hRR]; exact (rowsR_small a b).2)
      obtain ⟨la1, la2, la3⟩ : a.next.length ≤ 1048576 ∧ a.gates.length ≤ 1048576 ∧ a.outs.length ≤ 1048576 := by have hc' := hc; rw [Cir.size_eq] at hc'; omega
      obtain ⟨lb1, lb2, lb3⟩ : b.next.length ≤ 1048576 ∧ b.gates.length ≤ 1048576 ∧ b.outs.length ≤ 1048576 := by have hc' := hb2; rw [Cir.size_eq] at hc'; omega
      clear hL h1 h2 hL2 hc hd hQ hRR hm hb2
      go_enter Try.func3, Try.ntmps3
      go_upto_region 1 with fail
      rw [← HW.out.1]
      try rw [← HW.out.2.1]
      have ca := (HB.out _ (Below.refl _ _)).1.1
      have cb := (HB.out _ (Below.refl _ _)).1.2
      go_upto_region 3 with (go_at_call 4; ((with_reducible refine (szCircuit_any _ _ _ _ _ _ _ _ _ _ _ _ (by omega) (by omega) ka1 ka2 ka3).mono ?_); rintro e w1 ⟨rfl, hq⟩; have H1 := Lib.hid hq; rw [HL.out.1]; clear hq ca cb; obtain ⟨ca, cb⟩ := (HB.out _ H1.out).1))
      go_upto_region 8 with (go_at_call 4; ((with_reducible refine (szCircuit_any _ _ _ _ _ _ _ _ _ _ L _ L0 L1 kb1 kb2 kb3).mono ?_); rintro e w2 ⟨rfl, hq⟩; have H2 := Lib.hid (H1.out.trans (hq.mono H1.out.size)); rw [HL.out.2]; clear hq ca cb; obtain ⟨ca, cb⟩ := (HB.out _ H2.out).1))
      clear ca cb
      obtain ⟨Z8, hZ8⟩ : ∃ Z, Z = w2.heap.size := ⟨_, rfl⟩
      have hstep8 : ∀ {p q : World}, (Z8 ≤ p.heap.size ∧ Below W0.heap.size W0 p ∧ Below Z8 w2 p) → Below p.heap.size p q → (Z8 ≤ q.heap.size ∧ Below W0.heap.size W0 q ∧ Below Z8 w2 q) := fun h hq => ⟨by have := hq.size; have := h.1; omega, h.2.1.trans (hq.mono h.2.1.size), h.2.2.trans (hq.mono h.1)⟩
      have hstepc8 : ∀ {p q : World} {D : Nat}, (Z8 ≤ p.heap.size ∧ Below W0.heap.size W0 p ∧ Below Z8 w2 p) → Chg (fun k => k = D) p q → (∀ k, k < Z8 → k = D → False) → (Z8 ≤ q.heap.size ∧ Below W0.heap.size W0 q ∧ Below Z8 w2 q) := fun h hc hd => by
        have h0 : W0.heap.size ≤ Z8 := by rw [hZ8]; exact (H2.out).size
        exact ⟨by have := hc.size; have := h.1; omega, h.2.1.trans (hc.below h.2.1.size (fun k hk => hd k (by omega))), h.2.2.trans (hc.below h.1 hd)⟩
      go_cut [6] from 24 to 28 (fun sD wx => ∃ D s1 c1, sD = .pointer (some ⟨D, 0, none⟩) ∧ wx.heap[D]? = some (.cells #[.bool Q, .slice s1 m c1] 29 (0, 0)) ∧ SlB wx s1 RR ∧ Below W0.heap.size W0 wx ∧ Below Z8 w2 wx ∧ Z8 ≤ D)
      case first =>
        refine wp_region_T (fun w' => (∀ o, w'.cell? ⟨A, o, none⟩ = #[.int .i64 a.inp, .slice sn a.next.length cn, .slice sg a.gates.length cg, .slice so a.outs.length co][o]?) ∧ ∀ o, w'.cell? ⟨A + 1, o, none⟩ = #[.int .i64 b.inp, .slice tn b.next.length dn, .slice tg b.gates.length dg, .slice to_ b.outs.length do_][o]?) (.q 0 (.q 2 (.two 1 (.two 3 (.two 4 (.e 5 (.e 6 .nil)) 5 (.e 4 (.e 6 .nil))) 5 (.e 3 (.e 4 (.e 6 .nil)))) 5 (.e 1 (.e 3 (.e 4 (.e 6 .nil))))))) (by kernel_rfl) (by kernel_rfl) (by kernel_rfl) (HB.out _ (H2.out).drew).1 ?_
        have hzs : Z8 ≤ w2.drew.heap.size ∧ Below W0.heap.size W0 w2.drew ∧ Below Z8 w2 w2.drew := ⟨by rw [hZ8]; exact Nat.le_refl _, (H2.out).drew, (Below.refl _ _).drew⟩
        revert hzs
        generalize w2.drew = w8_0
        intro hzs
        repeat (first | (refine ordt_s (o := ?_) ?_ ?_ ?_; rotate_left 1; (focus ((simp only [List.getElem?_toArray, List.getElem?_cons_succ, List.getElem?_cons_zero]) <;> rfl)); (focus rfl); simp only [Act.put, List.setIfInBounds_toArray, List.set_cons_zero, List.set_cons_succ]) | (refine ordt_q (o := ?_) (v := ?_) ?_ ?_ ?_ ?_; rotate_left 2; (focus ((simp only [List.getElem?_toArray, List.getElem?_cons_succ, List.getElem?_cons_zero]) <;> rfl)); (focus rfl); (focus (intro w' hS; (try dsimp only at hS); go_split_ands; go_simp; (try (with_reducible rfl)))); simp only [Act.put, List.setIfInBounds_toArray, List.set_cons_zero, List.set_cons_succ]))
        refine ordt_two ?_ ?_
        · (refine op_e (o := ?_) ?_ ?_ (fun K hK => ?_); rotate_left 1; (focus ((simp only [List.getElem?_toArray, List.getElem?_cons_succ, List.getElem?_cons_zero]) <;> rfl)); (focus rfl); go_simp)
          refine (toCircuit_c _ _ _ (HV.out _ hzs.2.1).1).mono ?_
          rintro e w8_1 ⟨x1, x2, x3, rfl, h1, hq⟩
          have hzs := hstep8 hzs hq
          refine hK.out _ _ (HB.out _ hzs.2.1).1 ?_
          clear hK K hq
          have HH := Lib.hid (And.intro hzs h1)
          clear hzs h1
          (try simp only [Act.put, List.setIfInBounds_toArray, List.set_cons_zero, List.set_cons_succ])
          obtain ⟨hzs, h1⟩ := HH.out
          clear HH
          refine ordt_two ?_ ?_
          · (refine op_e (o := ?_) ?_ ?_ (fun K hK => ?_); rotate_left 1; (focus ((simp only [List.getElem?_toArray, List.getElem?_cons_succ, List.getElem?_cons_zero]) <;> rfl)); (focus rfl); go_simp)
            refine (toCircuit_c _ _ _ (HV.out _ hzs.2.1).2).mono ?_
            rintro e w8_2 ⟨y1, y2, y3, rfl, h2, hq⟩
            have h1 := h1.mono hq
            have hzs := hstep8 hzs hq
            refine hK.out _ _ (HB.out _ hzs.2.1).1 ?_
            clear hK K hq
            have HH := Lib.hid (And.intro hzs (And.intro h1 h2))
            clear hzs h1 h2
            (try simp only [Act.put, List.setIfInBounds_toArray, List.set_cons_zero, List.set_cons_succ])
            obtain ⟨hzs, h1, h2⟩ := HH.out
            clear HH
            refine ordt_two ?_ ?_
            · (refine op_e (o := ?_) ?_ ?_ (fun K hK => ?_); rotate_left 1; (focus ((simp only [List.getElem?_toArray, List.getElem?_cons_succ, List.getElem?_cons_zero]) <;> rfl)); (focus rfl); go_simp)
              refine (Dis_s _ _ a b Q m RR _ h1 h2 HR.out).mono ?_
              rintro e w8_3 ⟨s1, c1, rfl, h3, hq⟩
              have hzs := hstep8 hzs hq
              refine hK.out _ _ (HB.out _ hzs.2.1).1 ?_
              clear hK K hq
              have HH := Lib.hid (And.intro hzs h3)
              clear hzs h3
              (try simp only [Act.put, List.setIfInBounds_toArray, List.set_cons_zero, List.set_cons_succ])
              obtain ⟨hzs, h3⟩ := HH.out
              clear HH
              refine ordt_e ?_
              (refine op_e (o := ?_) ?_ ?_ (fun K hK => ?_); rotate_left 1; (focus ((simp only [List.getElem?_toArray, List.getElem?_cons_succ, List.getElem?_cons_zero]) <;> rfl)); (focus rfl); go_simp)
              obtain ⟨D, hbq⟩ : ∃ b, b = w8_3.heap.size := ⟨_, rfl⟩
              have hge : Z8 ≤ D := by rw [hbq]; exact hzs.1
              have hDW : w8_3.heap.size ≤ D := by rw [hbq]; exact Nat.le_refl _
              have hq := (Below.refl w8_3.heap.size w8_3).alloc (Nat.le_refl _) (.cells #[.bool false, .slice none 0 0] 29)
              have hk0 := blk_new w8_3 (.cells #[.bool false, .slice none 0 0] 29)
              rw [← hbq] at hk0
              rw [← hbq]
              clear hbq
              revert hq hk0
              generalize w8_3.alloc (.cells #[.bool false, .slice none 0 0] 29) = w8_4
              intro hq hk0
              have h3 : SlB ((w8_4.setCell ⟨D, 0, none⟩ (.bool Q)).setCell ⟨D, 1, none⟩ (.slice s1 m c1)) s1 RR := h3.slb.mono ((hq.setCell (p := ⟨D, 0, none⟩) hDW (.bool Q)).setCell (p := ⟨D, 1, none⟩) hDW (.slice s1 m c1))
              clear hDW
              have hzs := hstep8 hzs hq
              refine hK.out _ _ (HB.out _ hzs.2.1).1 ?_
              clear hK K hq
              have HH := Lib.hid (And.intro hzs (And.intro h3 (And.intro hge hk0)))
              clear hzs h3 hge hk0
              (try simp only [Act.put, List.setIfInBounds_toArray, List.set_cons_zero, List.set_cons_succ])
              obtain ⟨hzs, h3, hge, hk0⟩ := HH.out
              clear HH
              obtain ⟨rc, rf⟩ := blk_all hk0
              refine ordt_e ?_
              (refine op_e (o := ?_) ?_ ?_ (fun K hK => ?_); rotate_left 1; (focus ((simp only [List.getElem?_toArray, List.getElem?_cons_succ, List.getElem?_cons_zero]) <;> rfl)); (focus rfl); go_simp)
              have hZ : ((w8_4.setCell ⟨D, 0, none⟩ (.bool Q)).setCell ⟨D, 1, none⟩ (.slice s1 m c1)).heap[D]? = some (.cells #[.bool Q, .slice s1 m c1] 29 (0, 0)) := by
                simpa using blk_set (o := 1) (v := .slice s1 m c1) (blk_set (o := 0) (v := .bool Q) hk0)
              have hC : Chg (fun k => k = D) w8_4 ((w8_4.setCell ⟨D, 0, none⟩ (.bool Q)).setCell ⟨D, 1, none⟩ (.slice s1 m c1)) := (chgS1 (S := fun k => k = D) _ 0 _ rfl).trans (chgS1 _ 1 _ rfl)
              have hzs := hstepc8 hzs hC (fun k hk e => by omega)
              have h4 := h3
              refine hK.out _ _ (HB.out _ hzs.2.1).1 ?_
              clear hK K
              (try simp only [Act.put, List.setIfInBounds_toArray, List.set_cons_zero, List.set_cons_succ])
              refine ordt_nil ?_
              have HF := Lib.hid (And.intro hZ (And.intro h4 (And.intro hzs hge)))
              clear hZ h3 h4 hC rc rf hk0 hzs hge
              go_wp2_with fail
              go_meet
              exact ⟨D, s1, c1, rfl, HF.out.1, HF.out.2.1, HF.out.2.2.1.2.1, HF.out.2.2.1.2.2, HF.out.2.2.2⟩
            · (refine op_e (o := ?_) ?_ ?_ (fun K hK => ?_); rotate_left 1; (focus ((simp only [List.getElem?_toArray, List.getElem?_cons_succ, List.getElem?_cons_zero]) <;> rfl)); (focus rfl); go_simp)
              obtain ⟨D, hbq⟩ : ∃ b, b = w8_2.heap.size := ⟨_, rfl⟩
              have hge : Z8 ≤ D := by rw [hbq]; exact hzs.1
              have hDW : w8_2.heap.size ≤ D := by rw [hbq]; exact Nat.le_refl _
              have hq := (Below.refl w8_2.heap.size w8_2).alloc (Nat.le_refl _) (.cells #[.bool false, .slice none 0 0] 29)
              have hk0 := blk_new w8_2 (.cells #[.bool false, .slice none 0 0] 29)
              rw [← hbq] at hk0
              rw [← hbq]
              clear hbq
              revert hq hk0
              generalize w8_2.alloc (.cells #[.bool false, .slice none 0 0] 29) = w8_3
              intro hq hk0
              have h1 := h1.mono hq
              have h2 := h2.mono hq
              clear hDW
              have hzs := hstep8 hzs hq
              refine hK.out _ _ (HB.out _ hzs.2.1).1 ?_
              clear hK K hq
              have HH := Lib.hid (And.intro hzs (And.intro h1 (And.intro h2 (And.intro hge hk0))))
              clear hzs h1 h2 hge hk0
              (try simp only [Act.put, List.setIfInBounds_toArray, List.set_cons_zero, List.set_cons_succ])
              obtain ⟨hzs, h1, h2, hge, hk0⟩ := HH.out
              clear HH
              refine ordt_e ?_
              (refine op_e (o := ?_) ?_ ?_ (fun K hK => ?_); rotate_left 1; (focus ((simp only [List.getElem?_toArray, List.getElem?_cons_succ, List.getElem?_cons_zero]) <;> rfl)); (focus rfl); go_simp)
              refine (Dis_s _ _ a b Q m RR _ h1 h2 HR.out).mono ?_
              rintro e w8_4 ⟨s1, c1, rfl, h3, hq⟩
              have h3 : SlB ((w8_4.setCell ⟨D, 0, none⟩ (.bool Q)).setCell ⟨D, 1, none⟩ (.slice s1 m c1)) s1 RR := (SlBA.setlow (r := D) (o := 1) (v := .slice s1 m c1) (SlBA.setlow (r := D) (o := 0) (v := .bool Q) h3 (blk_lt hk0)) (blk_lt hk0)).slb
              have hk0 := blk_below hq (blk_lt hk0) hk0
              have hzs := hstep8 hzs hq
              refine hK.out _ _ (HB.out _ hzs.2.1).1 ?_
              clear hK K hq
              have HH := Lib.hid (And.intro hzs (And.intro hge (And.intro hk0 h3)))
              clear hzs hge hk0 h3
              (try simp only [Act.put, List.setIfInBounds_toArray, List.set_cons_zero, List.set_cons_succ])
              obtain ⟨hzs, hge, hk0, h3⟩ := HH.out
              clear HH
              obtain ⟨rc, rf⟩ := blk_all hk0
              refine ordt_e ?_
              (refine op_e (o := ?_) ?_ ?_ (fun K hK => ?_); rotate_left 1; (focus ((simp only [List.getElem?_toArray, List.getElem?_cons_succ, List.getElem?_cons_zero]) <;> rfl)); (focus rfl); go_simp)
              have hZ : ((w8_4.setCell ⟨D, 0, none⟩ (.bool Q)).setCell ⟨D, 1, none⟩ (.slice s1 m c1)).heap[D]? = some (.cells #[.bool Q, .slice s1 m c1] 29 (0, 0)) := by
                simpa using blk_set (o := 1) (v := .slice s1 m c1) (blk_set (o := 0) (v := .bool Q) hk0)
              have hC : Chg (fun k => k = D) w8_4 ((w8_4.setCell ⟨D, 0, none⟩ (.bool Q)).setCell ⟨D, 1, none⟩ (.slice s1 m c1)) := (chgS1 (S := fun k => k = D) _ 0 _ rfl).trans (chgS1 _ 1 _ rfl)
              have hzs := hstepc8 hzs hC (fun k hk e => by omega)
              have h4 := h3
              refine hK.out _ _ (HB.out _ hzs.2.1).1 ?_
              clear hK K
              (try simp only [Act.put, List.setIfInBounds_toArray, List.set_cons_zero, List.set_cons_succ])
              refine ordt_nil ?_
              have HF := Lib.hid (And.intro hZ (And.intro h4 (And.intro hzs hge)))
              clear hZ h3 h4 hC rc rf hk0 hzs hge
              go_wp2_with fail
              go_meet
              exact ⟨D, s1, c1, rfl, HF.out.1, HF.out.2.1, HF.out.2.2.1.2.1, HF.out.2.2.1.2.2, HF.out.2.2.2⟩
          · (refine op_e (o := ?_) ?_ ?_ (fun K hK => ?_); rotate_left 1; (focus ((simp only [List.getElem?_toArray, List.getElem?_cons_succ, List.getElem?_cons_zero]) <;> rfl)); (focus rfl); go_simp)
            obtain ⟨D, hbq⟩ : ∃ b, b = w8_1.heap.size := ⟨_, rfl⟩
            have hge : Z8 ≤ D := by rw [hbq]; exact hzs.1
            have hDW : w8_1.heap.size ≤ D := by rw [hbq]; exact Nat.le_refl _
            have hq := (Below.refl w8_1.heap.size w8_1).alloc (Nat.le_refl _) (.cells #[.bool false, .slice none 0 0] 29)
            have hk0 := blk_new w8_1 (.cells #[.bool false, .slice none 0 0] 29)
            rw [← hbq] at hk0
            rw [← hbq]
            clear hbq
            revert hq hk0
            generalize w8_1.alloc (.cells #[.bool false, .slice none 0 0] 29) = w8_2
            intro hq hk0
            have h1 := h1.mono hq
            clear hDW
            have hzs := hstep8 hzs hq
            refine hK.out _ _ (HB.out _ hzs.2.1).1 ?_
            clear hK K hq
            have HH := Lib.hid (And.intro hzs (And.intro h1 (And.intro hge hk0)))
            clear hzs h1 hge hk0
            (try simp only [Act.put, List.setIfInBounds_toArray, List.set_cons_zero, List.set_cons_succ])
            obtain ⟨hzs, h1, hge, hk0⟩ := HH.out
            clear HH
            refine ordt_e ?_
            (refine op_e (o := ?_) ?_ ?_ (fun K hK => ?_); rotate_left 1; (focus ((simp only [List.getElem?_toArray, List.getElem?_cons_succ, List.getElem?_cons_zero]) <;> rfl)); (focus rfl); go_simp)
            refine (toCircuit_c _ _ _ (HV.out _ hzs.2.1).2).mono ?_
            rintro e w8_3 ⟨y1, y2, y3, rfl, h2, hq⟩
            have h1 := h1.mono hq
            have hk0 := blk_below hq (blk_lt hk0) hk0
            have hzs := hstep8 hzs hq
            refine hK.out _ _ (HB.out _ hzs.2.1).1 ?_
            clear hK K hq
            have HH := Lib.hid (And.intro hzs (And.intro h1 (And.intro hge (And.intro hk0 h2))))
            clear hzs h1 hge hk0 h2
            (try simp only [Act.put, List.setIfInBounds_toArray, List.set_cons_zero, List.set_cons_succ])
            obtain ⟨hzs, h1, hge, hk0, h2⟩ := HH.out
            clear HH
            refine ordt_e ?_
            (refine op_e (o := ?_) ?_ ?_ (fun K hK => ?_); rotate_left 1; (focus ((simp only [List.getElem?_toArray, List.getElem?_cons_succ, List.getElem?_cons_zero]) <;> rfl)); (focus rfl); go_simp)
            refine (Dis_s _ _ a b Q m RR _ h1 h2 HR.out).mono ?_
            rintro e w8_4 ⟨s1, c1, rfl, h3, hq⟩
            have h3 : SlB ((w8_4.setCell ⟨D, 0, none⟩ (.bool Q)).setCell ⟨D, 1, none⟩ (.slice s1 m c1)) s1 RR := (SlBA.setlow (r := D) (o := 1) (v := .slice s1 m c1) (SlBA.setlow (r := D) (o := 0) (v := .bool Q) h3 (blk_lt hk0)) (blk_lt hk0)).slb
            have hk0 := blk_below hq (blk_lt hk0) hk0
            have hzs := hstep8 hzs hq
            refine hK.out _ _ (HB.out _ hzs.2.1).1 ?_
            clear hK K hq
            have HH := Lib.hid (And.intro hzs (And.intro hge (And.intro hk0 h3)))
            clear hzs hge hk0 h3
            (try simp only [Act.put, List.setIfInBounds_toArray, List.set_cons_zero, List.set_cons_succ])
            obtain ⟨hzs, hge, hk0, h3⟩ := HH.out
            clear HH
            obtain ⟨rc, rf⟩ := blk_all hk0
            refine ordt_e ?_
            (refine op_e (o := ?_) ?_ ?_ (fun K hK => ?_); rotate_left 1; (focus ((simp only [List.getElem?_toArray, List.getElem?_cons_succ, List.getElem?_cons_zero]) <;> rfl)); (focus rfl); go_simp)
            have hZ : ((w8_4.setCell ⟨D, 0, none⟩ (.bool Q)).setCell ⟨D, 1, none⟩ (.slice s1 m c1)).heap[D]? = some (.cells #[.bool Q, .slice s1 m c1] 29 (0, 0)) := by
              simpa using blk_set (o := 1) (v := .slice s1 m c1) (blk_set (o := 0) (v := .bool Q) hk0)
            have hC : Chg (fun k => k = D) w8_4 ((w8_4.setCell ⟨D, 0, none⟩ (.bool Q)).setCell ⟨D, 1, none⟩ (.slice s1 m c1)) := (chgS1 (S := fun k => k = D) _ 0 _ rfl).trans (chgS1 _ 1 _ rfl)
            have hzs := hstepc8 hzs hC (fun k hk e => by omega)
            have h4 := h3
            refine hK.out _ _ (HB.out _ hzs.2.1).1 ?_
            clear hK K
            (try simp only [Act.put, List.setIfInBounds_toArray, List.set_cons_zero, List.set_cons_succ])
            refine ordt_nil ?_
            have HF := Lib.hid (And.intro hZ (And.intro h4 (And.intro hzs hge)))
            clear hZ h3 h4 hC rc rf hk0 hzs hge
            go_wp2_with fail
            go_meet
            exact ⟨D, s1, c1, rfl, HF.out.1, HF.out.2.1, HF.out.2.2.1.2.1, HF.out.2.2.1.2.2, HF.out.2.2.2⟩
        · (refine op_e (o := ?_) ?_ ?_ (fun K hK => ?_); rotate_left 1; (focus ((simp only [List.getElem?_toArray, List.getElem?_cons_succ, List.getElem?_cons_zero]) <;> rfl)); (focus rfl); go_simp)
          obtain ⟨D, hbq⟩ : ∃ b, b = w8_0.heap.size := ⟨_, rfl⟩
          have hge : Z8 ≤ D := by rw [hbq]; exact hzs.1
          have hDW : w8_0.heap.size ≤ D := by rw [hbq]; exact Nat.le_refl _
          have hq := (Below.refl w8_0.heap.size w8_0).alloc (Nat.le_refl _) (.cells #[.bool false, .slice none 0 0] 29)
          have hk0 := blk_new w8_0 (.cells #[.bool false, .slice none 0 0] 29)
          rw [← hbq] at hk0
          rw [← hbq]
          clear hbq
          revert hq hk0
          generalize w8_0.alloc (.cells #[.bool false, .slice none 0 0] 29) = w8_1
          intro hq hk0
          clear hDW
          have hzs := hstep8 hzs hq
          refine hK.out _ _ (HB.out _ hzs.2.1).1 ?_
          clear hK K hq
          have HH := Lib.hid (And.intro hzs (And.intro hge hk0))
          clear hzs hge hk0
          (try simp only [Act.put, List.setIfInBounds_toArray, List.set_cons_zero, List.set_cons_succ])
          obtain ⟨hzs, hge, hk0⟩ := HH.out
          clear HH
          refine ordt_e ?_
          (refine op_e (o := ?_) ?_ ?_ (fun K hK => ?_); rotate_left 1; (focus ((simp only [List.getElem?_toArray, List.getElem?_cons_succ, List.getElem?_cons_zero]) <;> rfl)); (focus rfl); go_simp)
          refine (toCircuit_c _ _ _ (HV.out _ hzs.2.1).1).mono ?_
          rintro e w8_2 ⟨x1, x2, x3, rfl, h1, hq⟩
          have hk0 := blk_below hq (blk_lt hk0) hk0
          have hzs := hstep8 hzs hq
          refine hK.out _ _ (HB.out _ hzs.2.1).1 ?_
          clear hK K hq
          have HH := Lib.hid (And.intro hzs (And.intro hge (And.intro hk0 h1)))
          clear hzs hge hk0 h1
          (try simp only [Act.put, List.setIfInBounds_toArray, List.set_cons_zero, List.set_cons_succ])
          obtain ⟨hzs, hge, hk0, h1⟩ := HH.out
          clear HH
          refine ordt_e ?_
          (refine op_e (o := ?_) ?_ ?_ (fun K hK => ?_); rotate_left 1; (focus ((simp only [List.getElem?_toArray, List.getElem?_cons_succ, List.getElem?_cons_zero]) <;> rfl)); (focus rfl); go_simp)
          refine (toCircuit_c _ _ _ (HV.out _ hzs.2.1).2).mono ?_
          rintro e w8_3 ⟨y1, y2, y3, rfl, h2, hq⟩
          have hk0 := blk_below hq (blk_lt hk0) hk0
          have h1 := h1.mono hq
          have hzs := hstep8 hzs hq
          refine hK.out _ _ (HB.out _ hzs.2.1).1 ?_
          clear hK K hq
          have HH := Lib.hid (And.intro hzs (And.intro hge (And.intro hk0 (And.intro h1 h2))))
          clear hzs hge hk0 h1 h2
          (try simp only [Act.put, List.setIfInBounds_toArray, List.set_cons_zero, List.set_cons_succ])
          obtain ⟨hzs, hge, hk0, h1, h2⟩ := HH.out
          clear HH
          refine ordt_e ?_
          (refine op_e (o := ?_) ?_ ?_ (fun K hK => ?_); rotate_left 1; (focus ((simp only [List.getElem?_toArray, List.getElem?_cons_succ, List.getElem?_cons_zero]) <;> rfl)); (focus rfl); go_simp)
          refine (Dis_s _ _ a b Q m RR _ h1 h2 HR.out).mono ?_
          rintro e w8_4 ⟨s1, c1, rfl, h3, hq⟩
          have h3 : SlB ((w8_4.setCell ⟨D, 0, none⟩ (.bool Q)).setCell ⟨D, 1, none⟩ (.slice s1 m c1)) s1 RR := (SlBA.setlow (r := D) (o := 1) (v := .slice s1 m c1) (SlBA.setlow (r := D) (o := 0) (v := .bool Q) h3 (blk_lt hk0)) (blk_lt hk0)).slb
          have hk0 := blk_below hq (blk_lt hk0) hk0
          have hzs := hstep8 hzs hq
          refine hK.out _ _ (HB.out _ hzs.2.1).1 ?_
          clear hK K hq
          have HH := Lib.hid (And.intro hzs (And.intro hge (And.intro hk0 h3)))
          clear hzs hge hk0 h3
          (try simp only [Act.put, List.setIfInBounds_toArray, List.set_cons_zero, List.set_cons_succ])
          obtain ⟨hzs, hge, hk0, h3⟩ := HH.out
          clear HH
          obtain ⟨rc, rf⟩ := blk_all hk0
          refine ordt_e ?_
          (refine op_e (o := ?_) ?_ ?_ (fun K hK => ?_); rotate_left 1; (focus ((simp only [List.getElem?_toArray, List.getElem?_cons_succ, List.getElem?_cons_zero]) <;> rfl)); (focus rfl); go_simp)
          have hZ : ((w8_4.setCell ⟨D, 0, none⟩ (.bool Q)).setCell ⟨D, 1, none⟩ (.slice s1 m c1)).heap[D]? = some (.cells #[.bool Q, .slice s1 m c1] 29 (0, 0)) := by
            simpa using blk_set (o := 1) (v := .slice s1 m c1) (blk_set (o := 0) (v := .bool Q) hk0)
          have hC : Chg (fun k => k = D) w8_4 ((w8_4.setCell ⟨D, 0, none⟩ (.bool Q)).setCell ⟨D, 1, none⟩ (.slice s1 m c1)) := (chgS1 (S := fun k => k = D) _ 0 _ rfl).trans (chgS1 _ 1 _ rfl)
          have hzs := hstepc8 hzs hC (fun k hk e => by omega)
          have h4 := h3
          refine hK.out _ _ (HB.out _ hzs.2.1).1 ?_
          clear hK K
          (try simp only [Act.put, List.setIfInBounds_toArray, List.set_cons_zero, List.set_cons_succ])
          refine ordt_nil ?_
          have HF := Lib.hid (And.intro hZ (And.intro h4 (And.intro hzs hge)))
          clear hZ h3 h4 hC rc rf hk0 hzs hge
          go_wp2_with fail
          go_meet
          exact ⟨D, s1, c1, rfl, HF.out.1, HF.out.2.1, HF.out.2.2.1.2.1, HF.out.2.2.1.2.2, HF.out.2.2.2⟩
      case rest =>
        obtain ⟨D, s0, c0, rfl, hD, hsl, hb0, hz0, hZD⟩ := hcut
        clear hz0 hZD hZ8 hstep8 hstepc8
        obtain ⟨W5, hW5⟩ : ∃ W5, W5 = wc := ⟨_, rfl⟩
        rw [← hW5] at hD hsl hb0
        rw [← hW5]
        clear hW5
        have HS : Hid (∀ W, Below W5.heap.size W5 W → DisS W0 A D #[.int .i64 a.inp, .slice sn a.next.length cn, .slice sg a.gates.length cg, .slice so a.outs.length co] #[.int .i64 b.inp, .slice tn b.next.length dn, .slice tg b.gates.length dg, .slice to_ b.outs.length do_] #[.bool Q, .slice s0 m c0] s0 RR W) := fun W hW => ⟨hb0.trans (hW.mono hb0.size), (HB.out _ (hb0.trans (hW.mono hb0.size))).1.1, (HB.out _ (hb0.trans (hW.mono hb0.size))).1.2, blk_below hW (blk_lt hD) hD, hsl.mono hW⟩
        have hD5 := blk_lt hD
        clear hD hsl hb0
        have ca := (HS.out _ (Below.refl _ _)).ca
        have cb := (HS.out _ (Below.refl _ _)).cb
        go_upto_region 10 with (go_at_call 6; ((with_reducible refine (toCircuit_any _ _ _ (HV.out _ (HS.out _ (Below.refl _ _)).bel).1).mono ?_); rintro e w6 ⟨d1, d2, d3, rfl, hd1, hd2, hd3, hx1, hx2, hx3, hq⟩; have H6 := Lib.hid (And.intro hq (own_cir hd1 hd2 hd3 hx1 hx2 hx3 la1 la2 la3)); clear hq hd1 hd2 hd3 hx1 hx2 hx3 ca cb))
        have k6 := blk_new w6 (.cells #[.int .i64 a.inp, .slice (some ⟨d1, 0, none⟩) a.next.length a.next.length, .slice (some ⟨d2, 0, none⟩) a.gates.length a.gates.length, .slice (some ⟨d3, 0, none⟩) a.outs.length a.outs.length] 33)
        have b6 := (Below.refl w6.heap.size w6).alloc (Nat.le_refl _) (.cells #[.int .i64 a.inp, .slice (some ⟨d1, 0, none⟩) a.next.length a.next.length, .slice (some ⟨d2, 0, none⟩) a.gates.length a.gates.length, .slice (some ⟨d3, 0, none⟩) a.outs.length a.outs.length] 33)
        have h6 := H6.out.1.trans (b6.mono H6.out.1.size)
        have o6 := H6.out.2.1.below b6
        have hs6 := H6.out.1.size
        have ha6 : (w6.alloc (.cells #[.int .i64 a.inp, .slice (some ⟨d1, 0, none⟩) a.next.length a.next.length, .slice (some ⟨d2, 0, none⟩) a.gates.length a.gates.length, .slice (some ⟨d3, 0, none⟩) a.outs.length a.outs.length] 33)).heap.size = w6.heap.size + 1 := by simp
        obtain ⟨X, hX⟩ : ∃ X, X = w6.heap.size := ⟨_, rfl⟩
        have HX6 : Hid (∀ k, inCir (.slice (some ⟨d1, 0, none⟩) a.next.length a.next.length) (.slice (some ⟨d2, 0, none⟩) a.gates.length a.gates.length) (.slice (some ⟨d3, 0, none⟩) a.outs.length a.outs.length) k → W5.heap.size ≤ k ∧ k < X) := fun k hk => by rw [hX]; exact H6.out.2.2 k hk
        rw [← hX] at k6 ha6 hs6
        rw [← hX]
        clear b6 hX
        revert h6 o6 k6 ha6
        generalize w6.alloc (.cells #[.int .i64 a.inp, .slice (some ⟨d1, 0, none⟩) a.next.length a.next.length, .slice (some ⟨d2, 0, none⟩) a.gates.length a.gates.length, .slice (some ⟨d3, 0, none⟩) a.outs.length a.outs.length] 33) = W6
        intro h6 o6 ha6 k6
        have H7 := Lib.hid (And.intro h6 (And.intro o6 k6))
        clear o6 h6 k6 H6
        have ca := (HS.out _ H7.out.1).ca
        have cb := (HS.out _ H7.out.1).cb
        go_upto_region 11 with (go_at_call 6; ((with_reducible refine (toCircuit_any _ _ _ (HV.out _ (HS.out _ H7.out.1).bel).2).mono ?_); rintro e w8 ⟨f1, f2, f3, rfl, hd1, hd2, hd3, hx1, hx2, hx3, hq⟩; have H8 := Lib.hid (And.intro hq (own_cir hd1 hd2 hd3 hx1 hx2 hx3 lb1 lb2 lb3)); clear hq hd1 hd2 hd3 hx1 hx2 hx3 ca cb))
        have k8 := blk_new w8 (.cells #[.int .i64 b.inp, .slice (some ⟨f1, 0, none⟩) b.next.length b.next.length, .slice (some ⟨f2, 0, none⟩) b.gates.length b.gates.length, .slice (some ⟨f3, 0, none⟩) b.outs.length b.outs.length] 33)
        have b8 := (Below.refl w8.heap.size w8).alloc (Nat.le_refl _) (.cells #[.int .i64 b.inp, .slice (some ⟨f1, 0, none⟩) b.next.length b.next.length, .slice (some ⟨f2, 0, none⟩) b.gates.length b.gates.length, .slice (some ⟨f3, 0, none⟩) b.outs.length b.outs.length] 33)
        have h8 := H8.out.1.trans (b8.mono H8.out.1.size)
        have o8 := H8.out.2.1.below b8
        have hs8 := H8.out.1.size
        have ha8 : (w8.alloc (.cells #[.int .i64 b.inp, .slice (some ⟨f1, 0, none⟩) b.next.length b.next.length, .slice (some ⟨f2, 0, none⟩) b.gates.length b.gates.length, .slice (some ⟨f3, 0, none⟩) b.outs.length b.outs.length] 33)).heap.size = w8.heap.size + 1 := by simp
        obtain ⟨Y, hY⟩ : ∃ Y, Y = w8.heap.size := ⟨_, rfl⟩
        have HX8 : Hid (∀ k, inCir (.slice (some ⟨f1, 0, none⟩) b.next.length b.next.length) (.slice (some ⟨f2, 0, none⟩) b.gates.length b.gates.length) (.slice (some ⟨f3, 0, none⟩) b.outs.length b.outs.length) k → X < k ∧ k < Y) := fun k hk => by rw [hY]; have h := H8.out.2.2 k hk; omega
        rw [← hY] at k8 ha8 hs8
        rw [← hY]
        clear b8 hY
        revert h8 o8 k8 ha8
        generalize w8.alloc (.cells #[.int .i64 b.inp, .slice (some ⟨f1, 0, none⟩) b.next.length b.next.length, .slice (some ⟨f2, 0, none⟩) b.gates.length b.gates.length, .slice (some ⟨f3, 0, none⟩) b.outs.length b.outs.length] 33) = W8
        intro h8 o8 ha8 k8
        have HC : Hid (∀ W, Below W8.heap.size W8 W → DisS W0 A D #[.int .i64 a.inp, .slice sn a.next.length cn, .slice sg a.gates.length cg, .slice so a.outs.length co] #[.int .i64 b.inp, .slice tn b.next.length dn, .slice tg b.gates.length dg, .slice to_ b.outs.length do_] #[.bool Q, .slice s0 m c0] s0 RR W ∧ (CirOwn W W5.heap.size a (.slice (some ⟨d1, 0, none⟩) a.next.length a.next.length) (.slice (some ⟨d2, 0, none⟩) a.gates.length a.gates.length) (.slice (some ⟨d3, 0, none⟩) a.outs.length a.outs.length) ∧ CirOwn W W6.heap.size b (.slice (some ⟨f1, 0, none⟩) b.next.length b.next.length) (.slice (some ⟨f2, 0, none⟩) b.gates.length b.gates.length) (.slice (some ⟨f3, 0, none⟩) b.outs.length b.outs.length)) ∧ W.heap[X]? = some (.cells #[.int .i64 a.inp, .slice (some ⟨d1, 0, none⟩) a.next.length a.next.length, .slice (some ⟨d2, 0, none⟩) a.gates.length a.gates.length, .slice (some ⟨d3, 0, none⟩) a.outs.length a.outs.length] 33 (0, 0)) ∧ W.heap[Y]? = some (.cells #[.int .i64 b.inp, .slice (some ⟨f1, 0, none⟩) b.next.length b.next.length, .slice (some ⟨f2, 0, none⟩) b.gates.length b.gates.length, .slice (some ⟨f3, 0, none⟩) b.outs.length b.outs.length] 33 (0, 0)) ∧ Below W5.heap.size W5 W) := fun W hW => by
          have q1 : Below W6.heap.size W6 W := h8.trans (hW.mono h8.size)
          have q2 : Below W5.heap.size W5 W := H7.out.1.trans (q1.mono (by omega))
          exact ⟨HS.out _ q2, ⟨H7.out.2.1.below q1, o8.below hW⟩, blk_below q1 (blk_lt H7.out.2.2) H7.out.2.2, blk_below hW (blk_lt k8) k8, q2⟩
        clear o8 h8 k8 H8 H7
        obtain ⟨cx, -⟩ := blk_all (HC.out _ (Below.refl _ _)).2.2.1
        obtain ⟨cy, -⟩ := blk_all (HC.out _ (Below.refl _ _)).2.2.2.1
        go_upto_region 12 with (go_at_call 7; ((with_reducible refine (Dis_i _ _ a b Q m RR _ (HC.out _ (Below.refl _ _)).2.1.1.v (HC.out _ (Below.refl _ _)).2.1.2.v HR.out).mono ?_); rintro e w9 ⟨s1, c1, vs, rfl, ho, hq⟩; have H9 := Lib.hid (And.intro hq ho); clear hq ho cx cy))
        have k9 := blk_new w9 (.cells #[.bool Q, .slice s1 m c1] 29)
        have b9 := (Below.refl w9.heap.size w9).alloc (Nat.le_refl _) (.cells #[.bool Q, .slice s1 m c1] 29)
        have h9 := H9.out.1.trans (b9.mono H9.out.1.size)
        have o9 := H9.out.2.below b9
        have hs9 := H9.out.1.size
        have ha9 : (w9.alloc (.cells #[.bool Q, .slice s1 m c1] 29)).heap.size = w9.heap.size + 1 := by simp
        obtain ⟨G, hG⟩ : ∃ G, G = w9.heap.size := ⟨_, rfl⟩
        have HG9 : Hid (∀ k, (∃ u ∈ vs, u.ownBlock = some k) → W8.heap.size ≤ k ∧ k < G) := fun k ⟨u, hu, hk⟩ => by
          obtain ⟨j, hj⟩ := List.getElem?_of_mem hu
          obtain ⟨r, hr⟩ := H9.out.2.rget hj
          rw [hG]
          exact own_blk (H9.out.2.row j u r hj hr) hk
        rw [← hG] at k9 ha9 hs9
        rw [← hG]
        clear b9 hG
        revert h9 o9 k9 ha9
        generalize w9.alloc (.cells #[.bool Q, .slice s1 m c1] 29) = W9
        intro h9 o9 ha9 k9
        have HD : Hid (∀ W, Below W9.heap.size W9 W → Below W8.heap.size W8 W ∧ OwnSB W W8.heap.size (.slice s1 m c1) vs RR ∧ W.heap[G]? = some (.cells #[.bool Q, .slice s1 m c1] 29 (0, 0))) := fun W hW => ⟨h9.trans (hW.mono h9.size), o9.below hW, blk_below hW (blk_lt k9) k9⟩
        clear o9 h9 k9 H9
        have cg := (blk_all (HD.out _ (Below.refl _ _)).2.2).1
        have cd := (blk_all (HC.out _ (HD.out _ (Below.refl _ _)).1).1.d).1
        go_upto_region 14 with (go_at_call 8; ((with_reducible refine (eqDistinction_any Q s1 s0 m c1 c0 RR _ ((HD.out _ (Below.refl _ _)).2.1.slb' HR.out.2.2) (HC.out _ (HD.out _ (Below.refl _ _)).1).1.sl HR.out.2.2 hm1 HRL.out).mono ?_); rintro e w10 ⟨rfl, hq⟩; have H10 := Lib.hid hq; clear hq cg cd))
        refine wp_region_T (fun w' => (∀ o, w'.cell? ⟨A, o, none⟩ = #[.int .i64 a.inp, .slice sn a.next.length cn, .slice sg a.gates.length cg, .slice so a.outs.length co][o]?) ∧ ∀ o, w'.cell? ⟨X, o, none⟩ = #[.int .i64 a.inp, .slice (some ⟨d1, 0, none⟩) a.next.length a.next.length, .slice (some ⟨d2, 0, none⟩) a.gates.length a.gates.length, .slice (some ⟨d3, 0, none⟩) a.outs.length a.outs.length][o]?) (.q 0 (.q 1 (.e 2 (.e 3 (.q 4 .nil))))) (by kernel_rfl) (by kernel_rfl) (by kernel_rfl) ⟨(HC.out _ (HD.out _ H10.out.drew).1).1.ca, (blk_all (HC.out _ (HD.out _ H10.out.drew).1).2.2.1).1⟩ ?_
        repeat (first | (refine ordt_s (o := ?_) ?_ ?_ ?_; rotate_left 1; (focus ((simp only [List.getElem?_toArray, List.getElem?_cons_succ, List.getElem?_cons_zero]) <;> rfl)); (focus rfl); simp only [Act.put, List.setIfInBounds_toArray, List.set_cons_zero, List.set_cons_succ]) | (refine ordt_q (o := ?_) (v := ?_) ?_ ?_ ?_ ?_; rotate_left 2; (focus ((simp only [List.getElem?_toArray, List.getElem?_cons_succ, List.getElem?_cons_zero]) <;> rfl)); (focus rfl); (focus (intro w' hS; (try dsimp only at hS); go_split_ands; go_simp; (try (with_reducible rfl)))); simp only [Act.put, List.setIfInBounds_toArray, List.set_cons_zero, List.set_cons_succ]))
        refine ordt_e ?_
        (refine op_e (o := ?_) ?_ ?_ (fun K hK => ?_); rotate_left 1; (focus ((simp only [List.getElem?_toArray, List.getElem?_cons_succ, List.getElem?_cons_zero]) <;> rfl)); (focus rfl); go_simp)
        refine (toCircuit_c _ _ _ (HV.out _ (HC.out _ (HD.out _ H10.out.drew).1).1.bel).1).mono ?_
        rintro e w11 ⟨g1, g2, g3, rfl, hv, hq⟩
        have hb : Below W9.heap.size W9 w11 := H10.out.drew.trans (hq.mono H10.out.drew.size)
        refine hK.out _ _ ⟨(HC.out _ (HD.out _ hb).1).1.ca, (blk_all (HC.out _ (HD.out _ hb).1).2.2.1).1⟩ ?_
        clear hK K hq
        have H11 := Lib.hid (And.intro hb hv)
        clear hb hv
        (try simp only [Act.put, List.setIfInBounds_toArray, List.set_cons_zero, List.set_cons_succ])
        repeat (first | (refine ordt_s (o := ?_) ?_ ?_ ?_; rotate_left 1; (focus ((simp only [List.getElem?_toArray, List.getElem?_cons_succ, List.getElem?_cons_zero]) <;> rfl)); (focus rfl); simp only [Act.put, List.setIfInBounds_toArray, List.set_cons_zero, List.set_cons_succ]) | (refine ordt_q (o := ?_) (v := ?_) ?_ ?_ ?_ ?_; rotate_left 2; (focus ((simp only [List.getElem?_toArray, List.getElem?_cons_succ, List.getElem?_cons_zero]) <;> rfl)); (focus rfl); (focus (intro w' hS; (try dsimp only at hS); go_split_ands; go_simp; (try (with_reducible rfl)))); simp only [Act.put, List.setIfInBounds_toArray, List.set_cons_zero, List.set_cons_succ]))
        refine ordt_e ?_
        (refine op_e (o := ?_) ?_ ?_ (fun K hK => ?_); rotate_left 1; (focus ((simp only [List.getElem?_toArray, List.getElem?_cons_succ, List.getElem?_cons_zero]) <;> rfl)); (focus rfl); go_simp)
        refine (eqCircuit_any _ _ a a _ (HC.out _ (HD.out _ H11.out.1).1).2.1.1.v H11.out.2).mono ?_
        rintro e w12 ⟨rfl, hq⟩
        rw [cirB_self]
        have hb : Below W9.heap.size W9 w12 := H11.out.1.trans (hq.mono H11.out.1.size)
        refine hK.out _ _ ⟨(HC.out _ (HD.out _ hb).1).1.ca, (blk_all (HC.out _ (HD.out _ hb).1).2.2.1).1⟩ ?_
        clear hK K hq
        have H12 := Lib.hid hb
        clear hb H11
        (try simp only [Act.put, List.setIfInBounds_toArray, List.set_cons_zero, List.set_cons_succ])
        repeat (first | (refine ordt_s (o := ?_) ?_ ?_ ?_; rotate_left 1; (focus ((simp only [List.getElem?_toArray, List.getElem?_cons_succ, List.getElem?_cons_zero]) <;> rfl)); (focus rfl); simp only [Act.put, List.setIfInBounds_toArray, List.set_cons_zero, List.set_cons_succ]) | (refine ordt_q (o := ?_) (v := ?_) ?_ ?_ ?_ ?_; rotate_left 2; (focus ((simp only [List.getElem?_toArray, List.getElem?_cons_succ, List.getElem?_cons_zero]) <;> rfl)); (focus rfl); (focus (intro w' hS; (try dsimp only at hS); go_split_ands; go_simp; (try (with_reducible rfl)))); simp only [Act.put, List.setIfInBounds_toArray, List.set_cons_zero, List.set_cons_succ]))
        refine ordt_nil ?_
        go_upto_region 16 with fail
        refine wp_region_T (fun w' => (∀ o, w'.cell? ⟨A + 1, o, none⟩ = #[.int .i64 b.inp, .slice tn b.next.length dn, .slice tg b.gates.length dg, .slice to_ b.outs.length do_][o]?) ∧ ∀ o, w'.cell? ⟨Y, o, none⟩ = #[.int .i64 b.inp, .slice (some ⟨f1, 0, none⟩) b.next.length b.next.length, .slice (some ⟨f2, 0, none⟩) b.gates.length b.gates.length, .slice (some ⟨f3, 0, none⟩) b.outs.length b.outs.length][o]?) (.q 0 (.q 1 (.e 2 (.e 3 (.q 4 .nil))))) (by kernel_rfl) (by kernel_rfl) (by kernel_rfl) ⟨(HC.out _ (HD.out _ H12.out.drew).1).1.cb, (blk_all (HC.out _ (HD.out _ H12.out.drew).1).2.2.2.1).1⟩ ?_
        repeat (first | (refine ordt_s (o := ?_) ?_ ?_ ?_; rotate_left 1; (focus ((simp only [List.getElem?_toArray, List.getElem?_cons_succ, List.getElem?_cons_zero]) <;> rfl)); (focus rfl); simp only [Act.put, List.setIfInBounds_toArray, List.set_cons_zero, List.set_cons_succ]) | (refine ordt_q (o := ?_) (v := ?_) ?_ ?_ ?_ ?_; rotate_left 2; (focus ((simp only [List.getElem?_toArray, List.getElem?_cons_succ, List.getElem?_cons_zero]) <;> rfl)); (focus rfl); (focus (intro w' hS; (try dsimp only at hS); go_split_ands; go_simp; (try (with_reducible rfl)))); simp only [Act.put, List.setIfInBounds_toArray, List.set_cons_zero, List.set_cons_succ]))
        refine ordt_e ?_
        (refine op_e (o := ?_) ?_ ?_ (fun K hK => ?_); rotate_left 1; (focus ((simp only [List.getElem?_toArray, List.getElem?_cons_succ, List.getElem?_cons_zero]) <;> rfl)); (focus rfl); go_simp)
        refine (toCircuit_c _ _ _ (HV.out _ (HC.out _ (HD.out _ H12.out.drew).1).1.bel).2).mono ?_
        rintro e w13 ⟨g1, g2, g3, rfl, hv, hq⟩
        have hb : Below W9.heap.size W9 w13 := H12.out.drew.trans (hq.mono H12.out.drew.size)
        refine hK.out _ _ ⟨(HC.out _ (HD.out _ hb).1).1.cb, (blk_all (HC.out _ (HD.out _ hb).1).2.2.2.1).1⟩ ?_
        clear hK K hq
        have H13 := Lib.hid (And.intro hb hv)
        clear hb hv
        (try simp only [Act.put, List.setIfInBounds_toArray, List.set_cons_zero, List.set_cons_succ])
        repeat (first | (refine ordt_s (o := ?_) ?_ ?_ ?_; rotate_left 1; (focus ((simp only [List.getElem?_toArray, List.getElem?_cons_succ, List.getElem?_cons_zero]) <;> rfl)); (focus rfl); simp only [Act.put, List.setIfInBounds_toArray, List.set_cons_zero, List.set_cons_succ]) | (refine ordt_q (o := ?_) (v := ?_) ?_ ?_ ?_ ?_; rotate_left 2; (focus ((simp only [List.getElem?_toArray, List.getElem?_cons_succ, List.getElem?_cons_zero]) <;> rfl)); (focus rfl); (focus (intro w' hS; (try dsimp only at hS); go_split_ands; go_simp; (try (with_reducible rfl)))); simp only [Act.put, List.setIfInBounds_toArray, List.set_cons_zero, List.set_cons_succ]))
        refine ordt_e ?_
        (refine op_e (o := ?_) ?_ ?_ (fun K hK => ?_); rotate_left 1; (focus ((simp only [List.getElem?_toArray, List.getElem?_cons_succ, List.getElem?_cons_zero]) <;> rfl)); (focus rfl); go_simp)
        refine (eqCircuit_any _ _ b b _ (HC.out _ (HD.out _ H13.out.1).1).2.1.2.v H13.out.2).mono ?_
        rintro e w14 ⟨rfl, hq⟩
        rw [cirB_self]
        have hb : Below W9.heap.size W9 w14 := H13.out.1.trans (hq.mono H13.out.1.size)
        refine hK.out _ _ ⟨(HC.out _ (HD.out _ hb).1).1.cb, (blk_all (HC.out _ (HD.out _ hb).1).2.2.2.1).1⟩ ?_
        clear hK K hq
        have H14 := Lib.hid hb
        clear hb H13
        (try simp only [Act.put, List.setIfInBounds_toArray, List.set_cons_zero, List.set_cons_succ])
        repeat (first | (refine ordt_s (o := ?_) ?_ ?_ ?_; rotate_left 1; (focus ((simp only [List.getElem?_toArray, List.getElem?_cons_succ, List.getElem?_cons_zero]) <;> rfl)); (focus rfl); simp only [Act.put, List.setIfInBounds_toArray, List.set_cons_zero, List.set_cons_succ]) | (refine ordt_q (o := ?_) (v := ?_) ?_ ?_ ?_ ?_; rotate_left 2; (focus ((simp only [List.getElem?_toArray, List.getElem?_cons_succ, List.getElem?_cons_zero]) <;> rfl)); (focus rfl); (focus (intro w' hS; (try dsimp only at hS); go_split_ands; go_simp; (try (with_reducible rfl)))); simp only [Act.put, List.setIfInBounds_toArray, List.set_cons_zero, List.set_cons_succ]))
        refine ordt_nil ?_
        obtain ⟨K1, hK1⟩ : ∃ K1 : Int, K1 = 1 + a.next.length + 2 * a.gates.length + a.outs.length := ⟨_, rfl⟩
        obtain ⟨K2, hK2⟩ : ∃ K2 : Int, K2 = K1 + b.next.length + 2 * b.gates.length + b.outs.length := ⟨_, rfl⟩
        have k10 : 0 ≤ K1 := by omega
        have k11 : K1 ≤ 10000000 := by omega
        have k20 : 0 ≤ K2 := by omega
        have k21 : K2 ≤ 20000000 := by omega
        have hk0 : decide (K2 < 0) = false := by simp; omega
        have HK := Lib.hid (And.intro hK1 hK2)
        clear hK1 hK2
        have hz8 : W5.heap.size ≤ W8.heap.size := by omega
        have hz68 : X < W8.heap.size := by omega
        have hzY8 : Y < W8.heap.size := by omega
        have cx := (blk_all (HC.out _ (HD.out _ H14.out).1).2.2.1).1
        go_upto_region 20 with (go_at_call 10; ((with_reducible refine (markK 1 K1 _ a _ _ _ _ _ _ _ _ (HC.out _ (HD.out _ H14.out).1).2.1.1 (by omega) (by omega) HK.out.1).mono ?_); rintro e w15 ⟨rfl, hq⟩; have H15 := Lib.hid hq; clear hq cx))
        have f1 := H15.out.blk (HC.out _ (HD.out _ H14.out).1).2.2.2.1 (fun hk => by have := (HX6.out _ hk).2; omega)
        have f2 := (HC.out _ (HD.out _ H14.out).1).2.1.2.chg H15.out (fun k hk hs => by have := (HX6.out _ hs).2; omega)
        have f3 := (HD.out _ H14.out).2.1.chg H15.out (fun k hk hs => by have := (HX6.out _ hs).2; omega)
        have f4 := H15.out.blk (HD.out _ H14.out).2.2 (fun hk => by have := (HX6.out _ hk).2; omega)
        have f5 : Below W5.heap.size W5 w15 := (HC.out _ (HD.out _ H14.out).1).2.2.2.2.trans (H15.out.below (HC.out _ (HD.out _ H14.out).1).2.2.2.2.size (fun k hk hs => by have := (HX6.out _ hs).1; omega))
        have H16 := Lib.hid (And.intro f1 (And.intro f2 (And.intro f3 (And.intro f4 f5))))
        clear f1 f2 f3 f4 f5 H15 H14
        have cy := (blk_all H16.out.1).1
        go_upto_region 21 with (go_at_call 10; ((with_reducible refine (markK K1 K2 _ b _ _ _ _ _ _ _ _ H16.out.2.1 k10 k11 HK.out.2).mono ?_); rintro e w17 ⟨rfl, hq⟩; have H17 := Lib.hid hq; clear hq cy))
        have f3 := H16.out.2.2.1.chg H17.out (fun k hk hs => by have := (HX8.out _ hs).2; omega)
        have f4 := H17.out.blk H16.out.2.2.2.1 (fun hk => by have := (HX8.out _ hk).2; omega)
        have f5 : Below W5.heap.size W5 w17 := H16.out.2.2.2.2.trans (H17.out.below H16.out.2.2.2.2.size (fun k hk hs => by have := (HX8.out _ hs).1; omega))
        have hz17 : G < w17.heap.size := blk_lt f4
        have H18 := Lib.hid (And.intro f3 (And.intro f4 f5))
        clear f3 f4 f5 H17 H16
        have cg := (blk_all H18.out.2.1).1
        have cd := (blk_all (HS.out _ H18.out.2.2).d).1
        go_upto_region 24 with (go_at_call 8; ((with_reducible refine (eqDistinction_any Q s1 s0 m c1 c0 RR _ (H18.out.1.slb' HR.out.2.2) (HS.out _ H18.out.2.2).sl HR.out.2.2 hm1 HRL.out).mono ?_); rintro e w19 ⟨rfl, hq⟩; have H19 := Lib.hid (And.intro (H18.out.1.below hq) (And.intro (blk_below hq (blk_lt H18.out.2.1) H18.out.2.1) (And.intro (H18.out.2.2.trans (hq.mono H18.out.2.2.size)) (show w17.heap.size ≤ w19.heap.size from hq.size)))); clear hq cg cd))
        have cg := (blk_all H19.out.2.1).1
        obtain ⟨M, hM⟩ : ∃ M : Int, M = 1 + lenB RR := ⟨_, rfl⟩
        have hM0 : 0 ≤ M := by have := lenB_nonneg RR; omega
        have hM1 : decide (M < 0) = false := by simp; omega
        have HM := Lib.hid hM
        clear hM
        go_upto_region 25 with (go_at_call 11; ((with_reducible refine (markDistinction_any Q W8.heap.size s1 m c1 vs RR 1 _ H19.out.1 HR.out.2.2 (by have := H19.out.2.2.2; omega) hm1 HRL.out (by omega) (by omega)).mono ?_); rintro e w20 ⟨rfl, ho, hq⟩; rw [← HM.out]; have H20 := Lib.hid (And.intro ho hq); clear ho hq cg))
        have f3 := H20.out.2.blk H19.out.2.1 (fun hk => by have := (HG9.out _ hk).2; omega)
        have f5 : Below W5.heap.size W5 w20 := H19.out.2.2.1.trans (H20.out.2.below H19.out.2.2.1.size (fun k hk hs => by have := (HG9.out _ hs).1; omega))
        have f6 : SlB w20 s1 (markB 1 RR) := by
          have h := H20.out.1
          exact h.slb' (by rw [markB_length]; exact HR.out.2.2)
        have H21 : Hid (∀ W, Below w20.heap.size w20 W → SlB W s1 (markB 1 RR) ∧ W.heap[G]? = some (.cells #[.bool Q, .slice s1 m c1] 29 (0, 0)) ∧ DisS W0 A D #[.int .i64 a.inp, .slice sn a.next.length cn, .slice sg a.gates.length cg, .slice so a.outs.length co] #[.int .i64 b.inp, .slice tn b.next.length dn, .slice tg b.gates.length dg, .slice to_ b.outs.length do_] #[.bool Q, .slice s0 m c0] s0 RR W) := fun W hW => ⟨f6.mono hW, blk_below hW (blk_lt f3) f3, HS.out _ (f5.trans (hW.mono f5.size))⟩
        clear f3 f5 f6 H20 H19 H18
        have cg := (blk_all (H21.out _ (Below.refl _ _)).2.1).1
        go_upto_region 31 with (go_at_call 12; ((with_reducible refine (heldDistinction_any Q s1 m c1 RR 1 _ (H21.out _ (Below.refl _ _)).1 HR.out.2.2 hm1 HRL.out (by omega) (by omega)).mono ?_); rintro e w22 ⟨rfl, hq⟩; rw [← HM.out]; have H22 := Lib.hid hq; clear hq cg))
        have hbz : Below W0.heap.size W0 w22 := (H21.out _ H22.out).2.2.bel
        have HZ := Lib.hid hbz
        clear hbz
        obtain ⟨Z31, hZ31⟩ : ∃ Z, Z = w22.heap.size := ⟨_, rfl⟩
        have hstep31 : ∀ {p q : World}, (Z31 ≤ p.heap.size ∧ Below W0.heap.size W0 p ∧ Below Z31 w22 p) → Below p.heap.size p q → (Z31 ≤ q.heap.size ∧ Below W0.heap.size W0 q ∧ Below Z31 w22 q) := fun h hq => ⟨by have := hq.size; have := h.1; omega, h.2.1.trans (hq.mono h.2.1.size), h.2.2.trans (hq.mono h.1)⟩
        have hstepc31 : ∀ {p q : World} {D : Nat}, (Z31 ≤ p.heap.size ∧ Below W0.heap.size W0 p ∧ Below Z31 w22 p) → Chg (fun k => k = D) p q → (∀ k, k < Z31 → k = D → False) → (Z31 ≤ q.heap.size ∧ Below W0.heap.size W0 q ∧ Below Z31 w22 q) := fun h hc hd => by
          have h0 : W0.heap.size ≤ Z31 := by rw [hZ31]; exact (HZ.out).size
          exact ⟨by have := hc.size; have := h.1; omega, h.2.1.trans (hc.below h.2.1.size (fun k hk => hd k (by omega))), h.2.2.trans (hc.below h.1 hd)⟩
        go_cut [13] from 75 to 79 (fun sD wx => ∃ D s1 c1, sD = .pointer (some ⟨D, 0, none⟩) ∧ wx.heap[D]? = some (.cells #[.bool Q, .slice s1 m c1] 29 (0, 0)) ∧ SlB wx s1 RR ∧ Below W0.heap.size W0 wx ∧ Below Z31 w22 wx ∧ Z31 ≤ D)
        case first =>
          refine wp_region_T (fun w' => (∀ o, w'.cell? ⟨A, o, none⟩ = #[.int .i64 a.inp, .slice sn a.next.length cn, .slice sg a.gates.length cg, .slice so a.outs.length co][o]?) ∧ ∀ o, w'.cell? ⟨A + 1, o, none⟩ = #[.int .i64 b.inp, .slice tn b.next.length dn, .slice tg b.gates.length dg, .slice to_ b.outs.length do_][o]?) (.q 0 (.q 2 (.two 1 (.two 3 (.two 4 (.e 5 (.e 6 .nil)) 5 (.e 4 (.e 6 .nil))) 5 (.e 3 (.e 4 (.e 6 .nil)))) 5 (.e 1 (.e 3 (.e 4 (.e 6 .nil))))))) (by kernel_rfl) (by kernel_rfl) (by kernel_rfl) (HB.out _ (HZ.out).drew).1 ?_
          have hzs : Z31 ≤ w22.drew.heap.size ∧ Below W0.heap.size W0 w22.drew ∧ Below Z31 w22 w22.drew := ⟨by rw [hZ31]; exact Nat.le_refl _, (HZ.out).drew, (Below.refl _ _).drew⟩
          revert hzs
          generalize w22.drew = w31_0
          intro hzs
          repeat (first | (refine ordt_s (o := ?_) ?_ ?_ ?_; rotate_left 1; (focus ((simp only [List.getElem?_toArray, List.getElem?_cons_succ, List.getElem?_cons_zero]) <;> rfl)); (focus rfl); simp only [Act.put, List.setIfInBounds_toArray, List.set_cons_zero, List.set_cons_succ]) | (refine ordt_q (o := ?_) (v := ?_) ?_ ?_ ?_ ?_; rotate_left 2; (focus ((simp only [List.getElem?_toArray, List.getElem?_cons_succ, List.getElem?_cons_zero]) <;> rfl)); (focus rfl); (focus (intro w' hS; (try dsimp only at hS); go_split_ands; go_simp; (try (with_reducible rfl)))); simp only [Act.put, List.setIfInBounds_toArray, List.set_cons_zero, List.set_cons_succ]))
          refine ordt_two ?_ ?_
          · (refine op_e (o := ?_) ?_ ?_ (fun K hK => ?_); rotate_left 1; (focus ((simp only [List.getElem?_toArray, List.getElem?_cons_succ, List.getElem?_cons_zero]) <;> rfl)); (focus rfl); go_simp)
            refine (toCircuit_c _ _ _ (HV.out _ hzs.2.1).1).mono ?_
            rintro e w31_1 ⟨x1, x2, x3, rfl, h1, hq⟩
            have hzs := hstep31 hzs hq
            refine hK.out _ _ (HB.out _ hzs.2.1).1 ?_
            clear hK K hq
            have HH := Lib.hid (And.intro hzs h1)
            clear hzs h1
            (try simp only [Act.put, List.setIfInBounds_toArray, List.set_cons_zero, List.set_cons_succ])
            obtain ⟨hzs, h1⟩ := HH.out
            clear HH
            refine ordt_two ?_ ?_
            · (refine op_e (o := ?_) ?_ ?_ (fun K hK => ?_); rotate_left 1; (focus ((simp only [List.getElem?_toArray, List.getElem?_cons_succ, List.getElem?_cons_zero]) <;> rfl)); (focus rfl); go_simp)
              refine (toCircuit_c _ _ _ (HV.out _ hzs.2.1).2).mono ?_
              rintro e w31_2 ⟨y1, y2, y3, rfl, h2, hq⟩
              have h1 := h1.mono hq
              have hzs := hstep31 hzs hq
              refine hK.out _ _ (HB.out _ hzs.2.1).1 ?_
              clear hK K hq
              have HH := Lib.hid (And.intro hzs (And.intro h1 h2))
              clear hzs h1 h2
              (try simp only [Act.put, List.setIfInBounds_toArray, List.set_cons_zero, List.set_cons_succ])
              obtain ⟨hzs, h1, h2⟩ := HH.out
              clear HH
              refine ordt_two ?_ ?_
              · (refine op_e (o := ?_) ?_ ?_ (fun K hK => ?_); rotate_left 1; (focus ((simp only [List.getElem?_toArray, List.getElem?_cons_succ, List.getElem?_cons_zero]) <;> rfl)); (focus rfl); go_simp)
                refine (Dis_i _ _ a b Q m RR _ h1 h2 HR.out).mono ?_
                rintro e w31_3 ⟨s1, c1, vs1, rfl, h3, hq⟩
                have h3 := h3.a HR.out.2.2
                have hzs := hstep31 hzs hq
                refine hK.out _ _ (HB.out _ hzs.2.1).1 ?_
                clear hK K hq
                have HH := Lib.hid (And.intro hzs h3)
                clear hzs h3
                (try simp only [Act.put, List.setIfInBounds_toArray, List.set_cons_zero, List.set_cons_succ])
                obtain ⟨hzs, h3⟩ := HH.out
                clear HH
                refine ordt_e ?_
                (refine op_e (o := ?_) ?_ ?_ (fun K hK => ?_); rotate_left 1; (focus ((simp only [List.getElem?_toArray, List.getElem?_cons_succ, List.getElem?_cons_zero]) <;> rfl)); (focus rfl); go_simp)
                obtain ⟨D, hbq⟩ : ∃ b, b = w31_3.heap.size := ⟨_, rfl⟩
                have hge : Z31 ≤ D := by rw [hbq]; exact hzs.1
                have hDW : w31_3.heap.size ≤ D := by rw [hbq]; exact Nat.le_refl _
                have hq := (Below.refl w31_3.heap.size w31_3).alloc (Nat.le_refl _) (.cells #[.bool false, .slice none 0 0] 29)
                have hk0 := blk_new w31_3 (.cells #[.bool false, .slice none 0 0] 29)
                rw [← hbq] at hk0
                rw [← hbq]
                clear hbq
                revert hq hk0
                generalize w31_3.alloc (.cells #[.bool false, .slice none 0 0] 29) = w31_4
                intro hq hk0
                have h3 : SlB ((w31_4.setCell ⟨D, 0, none⟩ (.bool Q)).setCell ⟨D, 1, none⟩ (.slice s1 m c1)) s1 RR := h3.slb.mono ((hq.setCell (p := ⟨D, 0, none⟩) hDW (.bool Q)).setCell (p := ⟨D, 1, none⟩) hDW (.slice s1 m c1))
                clear hDW
                have hzs := hstep31 hzs hq
                refine hK.out _ _ (HB.out _ hzs.2.1).1 ?_
                clear hK K hq
                have HH := Lib.hid (And.intro hzs (And.intro h3 (And.intro hge hk0)))
                clear hzs h3 hge hk0
                (try simp only [Act.put, List.setIfInBounds_toArray, List.set_cons_zero, List.set_cons_succ])
                obtain ⟨hzs, h3, hge, hk0⟩ := HH.out
                clear HH
                obtain ⟨rc, rf⟩ := blk_all hk0
                refine ordt_e ?_
                (refine op_e (o := ?_) ?_ ?_ (fun K hK => ?_); rotate_left 1; (focus ((simp only [List.getElem?_toArray, List.getElem?_cons_succ, List.getElem?_cons_zero]) <;> rfl)); (focus rfl); go_simp)
                have hZ : ((w31_4.setCell ⟨D, 0, none⟩ (.bool Q)).setCell ⟨D, 1, none⟩ (.slice s1 m c1)).heap[D]? = some (.cells #[.bool Q, .slice s1 m c1] 29 (0, 0)) := by
                  simpa using blk_set (o := 1) (v := .slice s1 m c1) (blk_set (o := 0) (v := .bool Q) hk0)
                have hC : Chg (fun k => k = D) w31_4 ((w31_4.setCell ⟨D, 0, none⟩ (.bool Q)).setCell ⟨D, 1, none⟩ (.slice s1 m c1)) := (chgS1 (S := fun k => k = D) _ 0 _ rfl).trans (chgS1 _ 1 _ rfl)
                have hzs := hstepc31 hzs hC (fun k hk e => by omega)
                have h4 := h3
                refine hK.out _ _ (HB.out _ hzs.2.1).1 ?_
                clear hK K
                (try simp only [Act.put, List.setIfInBounds_toArray, List.set_cons_zero, List.set_cons_succ])
                refine ordt_nil ?_
                have HF := Lib.hid (And.intro hZ (And.intro h4 (And.intro hzs hge)))
                clear hZ h3 h4 hC rc rf hk0 hzs hge
                go_wp2_with fail
                go_meet
                exact ⟨D, s1, c1, rfl, HF.out.1, HF.out.2.1, HF.out.2.2.1.2.1, HF.out.2.2.1.2.2, HF.out.2.2.2⟩
              · (refine op_e (o := ?_) ?_ ?_ (fun K hK => ?_); rotate_left 1; (focus ((simp only [List.getElem?_toArray, List.getElem?_cons_succ, List.getElem?_cons_zero]) <;> rfl)); (focus rfl); go_simp)
                obtain ⟨D, hbq⟩ : ∃ b, b = w31_2.heap.size := ⟨_, rfl⟩
                have hge : Z31 ≤ D := by rw [hbq]; exact hzs.1
                have hDW : w31_2.heap.size ≤ D := by rw [hbq]; exact Nat.le_refl _
                have hq := (Below.refl w31_2.heap.size w31_2).alloc (Nat.le_refl _) (.cells #[.bool false, .slice none 0 0] 29)
                have hk0 := blk_new w31_2 (.cells #[.bool false, .slice none 0 0] 29)
                rw [← hbq] at hk0
                rw [← hbq]
                clear hbq
                revert hq hk0
                generalize w31_2.alloc (.cells #[.bool false, .slice none 0 0] 29) = w31_3
                intro hq hk0
                have h1 := h1.mono hq
                have h2 := h2.mono hq
                clear hDW
                have hzs := hstep31 hzs hq
                refine hK.out _ _ (HB.out _ hzs.2.1).1 ?_
                clear hK K hq
                have HH := Lib.hid (And.intro hzs (And.intro h1 (And.intro h2 (And.intro hge hk0))))
                clear hzs h1 h2 hge hk0
                (try simp only [Act.put, List.setIfInBounds_toArray, List.set_cons_zero, List.set_cons_succ])
                obtain ⟨hzs, h1, h2, hge, hk0⟩ := HH.out
                clear HH
                refine ordt_e ?_
                (refine op_e (o := ?_) ?_ ?_ (fun K hK => ?_); rotate_left 1; (focus ((simp only [List.getElem?_toArray, List.getElem?_cons_succ, List.getElem?_cons_zero]) <;> rfl)); (focus rfl); go_simp)
                refine (Dis_i _ _ a b Q m RR _ h1 h2 HR.out).mono ?_
                rintro e w31_4 ⟨s1, c1, vs1, rfl, h3, hq⟩
                have h3 := h3.a HR.out.2.2
                have h3 : SlB ((w31_4.setCell ⟨D, 0, none⟩ (.bool Q)).setCell ⟨D, 1, none⟩ (.slice s1 m c1)) s1 RR := (SlBA.setlow (r := D) (o := 1) (v := .slice s1 m c1) (SlBA.setlow (r := D) (o := 0) (v := .bool Q) h3 (blk_lt hk0)) (blk_lt hk0)).slb
                have hk0 := blk_below hq (blk_lt hk0) hk0
                have hzs := hstep31 hzs hq
                refine hK.out _ _ (HB.out _ hzs.2.1).1 ?_
                clear hK K hq
                have HH := Lib.hid (And.intro hzs (And.intro hge (And.intro hk0 h3)))
                clear hzs hge hk0 h3
                (try simp only [Act.put, List.setIfInBounds_toArray, List.set_cons_zero, List.set_cons_succ])
                obtain ⟨hzs, hge, hk0, h3⟩ := HH.out
                clear HH
                obtain ⟨rc, rf⟩ := blk_all hk0
                refine ordt_e ?_
                (refine op_e (o := ?_) ?_ ?_ (fun K hK => ?_); rotate_left 1; (focus ((simp only [List.getElem?_toArray, List.getElem?_cons_succ, List.getElem?_cons_zero]) <;> rfl)); (focus rfl); go_simp)
                have hZ : ((w31_4.setCell ⟨D, 0, none⟩ (.bool Q)).setCell ⟨D, 1, none⟩ (.slice s1 m c1)).heap[D]? = some (.cells #[.bool Q, .slice s1 m c1] 29 (0, 0)) := by
                  simpa using blk_set (o := 1) (v := .slice s1 m c1) (blk_set (o := 0) (v := .bool Q) hk0)
                have hC : Chg (fun k => k = D) w31_4 ((w31_4.setCell ⟨D, 0, none⟩ (.bool Q)).setCell ⟨D, 1, none⟩ (.slice s1 m c1)) := (chgS1 (S := fun k => k = D) _ 0 _ rfl).trans (chgS1 _ 1 _ rfl)
                have hzs := hstepc31 hzs hC (fun k hk e => by omega)
                have h4 := h3
                refine hK.out _ _ (HB.out _ hzs.2.1).1 ?_
                clear hK K
                (try simp only [Act.put, List.setIfInBounds_toArray, List.set_cons_zero, List.set_cons_succ])
                refine ordt_nil ?_
                have HF := Lib.hid (And.intro hZ (And.intro h4 (And.intro hzs hge)))
                clear hZ h3 h4 hC rc rf hk0 hzs hge
                go_wp2_with fail
                go_meet
                exact ⟨D, s1, c1, rfl, HF.out.1, HF.out.2.1, HF.out.2.2.1.2.1, HF.out.2.2.1.2.2, HF.out.2.2.2⟩
            · (refine op_e (o := ?_) ?_ ?_ (fun K hK => ?_); rotate_left 1; (focus ((simp only [List.getElem?_toArray, List.getElem?_cons_succ, List.getElem?_cons_zero]) <;> rfl)); (focus rfl); go_simp)
              obtain ⟨D, hbq⟩ : ∃ b, b = w31_1.heap.size := ⟨_, rfl⟩
              have hge : Z31 ≤ D := by rw [hbq]; exact hzs.1
              have hDW : w31_1.heap.size ≤ D := by rw [hbq]; exact Nat.le_refl _
              have hq := (Below.refl w31_1.heap.size w31_1).alloc (Nat.le_refl _) (.cells #[.bool false, .slice none 0 0] 29)
              have hk0 := blk_new w31_1 (.cells #[.bool false, .slice none 0 0] 29)
              rw [← hbq] at hk0
              rw [← hbq]
              clear hbq
              revert hq hk0
              generalize w31_1.alloc (.cells #[.bool false, .slice none 0 0] 29) = w31_2
              intro hq hk0
              have h1 := h1.mono hq
              clear hDW
              have hzs := hstep31 hzs hq
              refine hK.out _ _ (HB.out _ hzs.2.1).1 ?_
              clear hK K hq
              have HH := Lib.hid (And.intro hzs (And.intro h1 (And.intro hge hk0)))
              clear hzs h1 hge hk0
              (try simp only [Act.put, List.setIfInBounds_toArray, List.set_cons_zero, List.set_cons_succ])
              obtain ⟨hzs, h1, hge, hk0⟩ := HH.out
              clear HH
              refine ordt_e ?_
              (refine op_e (o := ?_) ?_ ?_ (fun K hK => ?_); rotate_left 1; (focus ((simp only [List.getElem?_toArray, List.getElem?_cons_succ, List.getElem?_cons_zero]) <;> rfl)); (focus rfl); go_simp)
              refine (toCircuit_c _ _ _ (HV.out _ hzs.2.1).2).mono ?_
              rintro e w31_3 ⟨y1, y2, y3, rfl, h2, hq⟩
              have h1 := h1.mono hq
              have hk0 := blk_below hq (blk_lt hk0) hk0
              have hzs := hstep31 hzs hq
              refine hK.out _ _ (HB.out _ hzs.2.1).1 ?_
              clear hK K hq
              have HH := Lib.hid (And.intro hzs (And.intro h1 (And.intro hge (And.intro hk0 h2))))
              clear hzs h1 hge hk0 h2
              (try simp only [Act.put, List.setIfInBounds_toArray, List.set_cons_zero, List.set_cons_succ])
              obtain ⟨hzs, h1, hge, hk0, h2⟩ := HH.out
              clear HH
              refine ordt_e ?_
              (refine op_e (o := ?_) ?_ ?_ (fun K hK => ?_); rotate_left 1; (focus ((simp only [List.getElem?_toArray, List.getElem?_cons_succ, List.getElem?_cons_zero]) <;> rfl)); (focus rfl); go_simp)
              refine (Dis_i _ _ a b Q m RR _ h1 h2 HR.out).mono ?_
              rintro e w31_4 ⟨s1, c1, vs1, rfl, h3, hq⟩
              have h3 := h3.a HR.out.2.2
              have h3 : SlB ((w31_4.setCell ⟨D, 0, none⟩ (.bool Q)).setCell ⟨D, 1, none⟩ (.slice s1 m c1)) s1 RR := (SlBA.setlow (r := D) (o := 1) (v := .slice s1 m c1) (SlBA.setlow (r := D) (o := 0) (v := .bool Q) h3 (blk_lt hk0)) (blk_lt hk0)).slb
              have hk0 := blk_below hq (blk_lt hk0) hk0
              have hzs := hstep31 hzs hq
              refine hK.out _ _ (HB.out _ hzs.2.1).1 ?_
              clear hK K hq
              have HH := Lib.hid (And.intro hzs (And.intro hge (And.intro hk0 h3)))
              clear hzs hge hk0 h3
              (try simp only [Act.put, List.setIfInBounds_toArray, List.set_cons_zero, List.set_cons_succ])
              obtain ⟨hzs, hge, hk0, h3⟩ := HH.out
              clear HH
              obtain ⟨rc, rf⟩ := blk_all hk0
              refine ordt_e ?_
              (refine op_e (o := ?_) ?_ ?_ (fun K hK => ?_); rotate_left 1; (focus ((simp only [List.getElem?_toArray, List.getElem?_cons_succ, List.getElem?_cons_zero]) <;> rfl)); (focus rfl); go_simp)
              have hZ : ((w31_4.setCell ⟨D, 0, none⟩ (.bool Q)).setCell ⟨D, 1, none⟩ (.slice s1 m c1)).heap[D]? = some (.cells #[.bool Q, .slice s1 m c1] 29 (0, 0)) := by
                simpa using blk_set (o := 1) (v := .slice s1 m c1) (blk_set (o := 0) (v := .bool Q) hk0)
              have hC : Chg (fun k => k = D) w31_4 ((w31_4.setCell ⟨D, 0, none⟩ (.bool Q)).setCell ⟨D, 1, none⟩ (.slice s1 m c1)) := (chgS1 (S := fun k => k = D) _ 0 _ rfl).trans (chgS1 _ 1 _ rfl)
              have hzs := hstepc31 hzs hC (fun k hk e => by omega)
              have h4 := h3
              refine hK.out _ _ (HB.out _ hzs.2.1).1 ?_
              clear hK K
              (try simp only [Act.put, List.setIfInBounds_toArray, List.set_cons_zero, List.set_cons_succ])
              refine ordt_nil ?_
              have HF := Lib.hid (And.intro hZ (And.intro h4 (And.intro hzs hge)))
              clear hZ h3 h4 hC rc rf hk0 hzs hge
              go_wp2_with fail
              go_meet
              exact ⟨D, s1, c1, rfl, HF.out.1, HF.out.2.1, HF.out.2.2.1.2.1, HF.out.2.2.1.2.2, HF.out.2.2.2⟩
          · (refine op_e (o := ?_) ?_ ?_ (fun K hK => ?_); rotate_left 1; (focus ((simp only [List.getElem?_toArray, List.getElem?_cons_succ, List.getElem?_cons_zero]) <;> rfl)); (focus rfl); go_simp)
            obtain ⟨D, hbq⟩ : ∃ b, b = w31_0.heap.size := ⟨_, rfl⟩
            have hge : Z31 ≤ D := by rw [hbq]; exact hzs.1
            have hDW : w31_0.heap.size ≤ D := by rw [hbq]; exact Nat.le_refl _
            have hq := (Below.refl w31_0.heap.size w31_0).alloc (Nat.le_refl _) (.cells #[.bool false, .slice none 0 0] 29)
            have hk0 := blk_new w31_0 (.cells #[.bool false, .slice none 0 0] 29)
            rw [← hbq] at hk0
            rw [← hbq]
            clear hbq
            revert hq hk0
            generalize w31_0.alloc (.cells #[.bool false, .slice none 0 0] 29) = w31_1
            intro hq hk0
            clear hDW
            have hzs := hstep31 hzs hq
            refine hK.out _ _ (HB.out _ hzs.2.1).1 ?_
            clear hK K hq
            have HH := Lib.hid (And.intro hzs (And.intro hge hk0))
            clear hzs hge hk0
            (try simp only [Act.put, List.setIfInBounds_toArray, List.set_cons_zero, List.set_cons_succ])
            obtain ⟨hzs, hge, hk0⟩ := HH.out
            clear HH
            refine ordt_e ?_
            (refine op_e (o := ?_) ?_ ?_ (fun K hK => ?_); rotate_left 1; (focus ((simp only [List.getElem?_toArray, List.getElem?_cons_succ, List.getElem?_cons_zero]) <;> rfl)); (focus rfl); go_simp)
            refine (toCircuit_c _ _ _ (HV.out _ hzs.2.1).1).mono ?_
            rintro e w31_2 ⟨x1, x2, x3, rfl, h1, hq⟩
            have hk0 := blk_below hq (blk_lt hk0) hk0
            have hzs := hstep31 hzs hq
            refine hK.out _ _ (HB.out _ hzs.2.1).1 ?_
            clear hK K hq
            have HH := Lib.hid (And.intro hzs (And.intro hge (And.intro hk0 h1)))
            clear hzs hge hk0 h1
            (try simp only [Act.put, List.setIfInBounds_toArray, List.set_cons_zero, List.set_cons_succ])
            obtain ⟨hzs, hge, hk0, h1⟩ := HH.out
            clear HH
            refine ordt_e ?_
            (refine op_e (o := ?_) ?_ ?_ (fun K hK => ?_); rotate_left 1; (focus ((simp only [List.getElem?_toArray, List.getElem?_cons_succ, List.getElem?_cons_zero]) <;> rfl)); (focus rfl); go_simp)
            refine (toCircuit_c _ _ _ (HV.out _ hzs.2.1).2).mono ?_
            rintro e w31_3 ⟨y1, y2, y3, rfl, h2, hq⟩
            have hk0 := blk_below hq (blk_lt hk0) hk0
            have h1 := h1.mono hq
            have hzs := hstep31 hzs hq
            refine hK.out _ _ (HB.out _ hzs.2.1).1 ?_
            clear hK K hq
            have HH := Lib.hid (And.intro hzs (And.intro hge (And.intro hk0 (And.intro h1 h2))))
            clear hzs hge hk0 h1 h2
            (try simp only [Act.put, List.setIfInBounds_toArray, List.set_cons_zero, List.set_cons_succ])
            obtain ⟨hzs, hge, hk0, h1, h2⟩ := HH.out
            clear HH
            refine ordt_e ?_
            (refine op_e (o := ?_) ?_ ?_ (fun K hK => ?_); rotate_left 1; (focus ((simp only [List.getElem?_toArray, List.getElem?_cons_succ, List.getElem?_cons_zero]) <;> rfl)); (focus rfl); go_simp)
            refine (Dis_i _ _ a b Q m RR _ h1 h2 HR.out).mono ?_
            rintro e w31_4 ⟨s1, c1, vs1, rfl, h3, hq⟩
            have h3 := h3.a HR.out.2.2
            have h3 : SlB ((w31_4.setCell ⟨D, 0, none⟩ (.bool Q)).setCell ⟨D, 1, none⟩ (.slice s1 m c1)) s1 RR := (SlBA.setlow (r := D) (o := 1) (v := .slice s1 m c1) (SlBA.setlow (r := D) (o := 0) (v := .bool Q) h3 (blk_lt hk0)) (blk_lt hk0)).slb
            have hk0 := blk_below hq (blk_lt hk0) hk0
            have hzs := hstep31 hzs hq
            refine hK.out _ _ (HB.out _ hzs.2.1).1 ?_
            clear hK K hq
            have HH := Lib.hid (And.intro hzs (And.intro hge (And.intro hk0 h3)))
            clear hzs hge hk0 h3
            (try simp only [Act.put, List.setIfInBounds_toArray, List.set_cons_zero, List.set_cons_succ])
            obtain ⟨hzs, hge, hk0, h3⟩ := HH.out
            clear HH
            obtain ⟨rc, rf⟩ := blk_all hk0
            refine ordt_e ?_
            (refine op_e (o := ?_) ?_ ?_ (fun K hK => ?_); rotate_left 1; (focus ((simp only [List.getElem?_toArray, List.getElem?_cons_succ, List.getElem?_cons_zero]) <;> rfl)); (focus rfl); go_simp)
            have hZ : ((w31_4.setCell ⟨D, 0, none⟩ (.bool Q)).setCell ⟨D, 1, none⟩ (.slice s1 m c1)).heap[D]? = some (.cells #[.bool Q, .slice s1 m c1] 29 (0, 0)) := by
              simpa using blk_set (o := 1) (v := .slice s1 m c1) (blk_set (o := 0) (v := .bool Q) hk0)
            have hC : Chg (fun k => k = D) w31_4 ((w31_4.setCell ⟨D, 0, none⟩ (.bool Q)).setCell ⟨D, 1, none⟩ (.slice s1 m c1)) := (chgS1 (S := fun k => k = D) _ 0 _ rfl).trans (chgS1 _ 1 _ rfl)
            have hzs := hstepc31 hzs hC (fun k hk e => by omega)
            have h4 := h3
            refine hK.out _ _ (HB.out _ hzs.2.1).1 ?_
            clear hK K
            (try simp only [Act.put, List.setIfInBounds_toArray, List.set_cons_zero, List.set_cons_succ])
            refine ordt_nil ?_
            have HF := Lib.hid (And.intro hZ (And.intro h4 (And.intro hzs hge)))
            clear hZ h3 h4 hC rc rf hk0 hzs hge
            go_wp2_with fail
            go_meet
            exact ⟨D, s1, c1, rfl, HF.out.1, HF.out.2.1, HF.out.2.2.1.2.1, HF.out.2.2.1.2.2, HF.out.2.2.2⟩
        case rest =>
          obtain ⟨E, s2, c2, rfl, hE, hsl, -, hz0, hZE⟩ := hcut
          have hb20 : Below w20.heap.size w20 wc := H22.out.trans ((by rw [hZ31] at hz0; exact hz0 : Below w22.heap.size w22 wc).mono H22.out.size)
          have H23 := Lib.hid (And.intro hE (And.intro hsl hb20))
          clear hE hsl hz0 hZE hb20 hZ31 hstep31 hstepc31
          have ce := (blk_all H23.out.1).1
          have cd := (blk_all (H21.out _ H23.out.2.2).2.2.d).1
          go_upto_region 34 with (go_at_call 8; ((with_reducible refine (eqDistinction_any Q s2 s0 m c2 c0 RR _ H23.out.2.1 (H21.out _ H23.out.2.2).2.2.sl HR.out.2.2 hm1 HRL.out).mono ?_); rintro e w24 ⟨rfl, hq⟩; have H24 := Lib.hid (H23.out.2.2.trans (hq.mono H23.out.2.2.size)); clear hq ce cd))
          have cg := (blk_all (H21.out _ H24.out).2.1).1
          go_wp2_with (go_at_call 12; ((with_reducible refine (heldDistinction_any Q s1 m c1 RR 1 _ (H21.out _ H24.out).1 HR.out.2.2 hm1 HRL.out (by omega) (by omega)).mono ?_); rintro e w25 ⟨rfl, hq⟩; rw [← HM.out]; have H25 := Lib.hid (H24.out.trans (hq.mono H24.out.size)); clear hq cg))
          go_ret
          exact ⟨rfl, (HB.out _ (H21.out _ H25.out).2.2.bel).2⟩
    · have h2 : leftOf L (b.next.length + b.gates.length + b.outs.length) = -1 := by rw [← Cir.size_eq]; unfold leftOf; rw [if_neg hd]
      have HL := Lib.hid (And.intro h1 h2)
      clear hL h1 h2 hc hd
      go_enter Try.func3, Try.ntmps3
      go_upto_region 1 with fail
      rw [← HW.out.1]
      try rw [← HW.out.2.1]
      have ca := (HB.out _ (Below.refl _ _)).1.1
      have cb := (HB.out _ (Below.refl _ _)).1.2
      go_upto_region 3 with (go_at_call 4; ((with_reducible refine (szCircuit_any _ _ _ _ _ _ _ _ _ _ _ _ (by omega) (by omega) ka1 ka2 ka3).mono ?_); rintro e w1 ⟨rfl, hq⟩; have H1 := Lib.hid hq; rw [HL.out.1]; clear hq ca cb; obtain ⟨ca, cb⟩ := (HB.out _ H1.out).1))
      go_wp2_with (go_at_call 4; ((with_reducible refine (szCircuit_any _ _ _ _ _ _ _ _ _ _ L _ L0 L1 kb1 kb2 kb3).mono ?_); rintro e w2 ⟨rfl, hq⟩; have H2 := Lib.hid (H1.out.trans (hq.mono H1.out.size)); rw [HL.out.2]; clear hq ca cb))
      go_ret
      exact ⟨rfl, (HB.out _ H2.out).2⟩
  · have h1 : leftOf 1048576 (a.next.length + a.gates.length + a.outs.length) = -1 := by rw [← Cir.size_eq]; unfold leftOf; rw [if_neg (by omega)]
    have HL := Lib.hid h1
    clear h1 hc
    go_enter Try.func3, Try.ntmps3
    go_upto_region 1 with fail
    rw [← HW.out.1]
    try rw [← HW.out.2.1]
    have ca := (HB.out _ (Below.refl _ _)).1.1
    have cb := (HB.out _ (Below.refl _ _)).1.2
    go_wp2_with (go_at_call 4; ((with_reducible refine (szCircuit_any _ _ _ _ _ _ _ _ _ _ _ _ (by omega) (by omega) ka1 ka2 ka3).mono ?_); rintro e w1 ⟨rfl, hq⟩; have H1 := Lib.hid hq; rw [HL.out]; clear hq ca cb))
    go_ret
    exact ⟨rfl, (HB.out _ H1.out).2⟩

end Go.Proofs.Ytgadinaninkmoaa
