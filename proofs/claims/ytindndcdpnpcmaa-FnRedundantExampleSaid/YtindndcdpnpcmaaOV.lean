import Derived.Test.YtindndcdpnpcmaaOU
namespace Go.Proofs.Ytindndcdpnpcmaa
set_option linter.unusedVariables false
set_option linter.unusedSimpArgs false
open Go.RowKit

/-! RemoveRedundancy. -/

set_option maxRecDepth 100000 in
set_option maxHeartbeats 1600000 in
theorem RemoveRedundancy_i (v : Value) (c : Cir) (w : World) (h : CirV w v c) :
    Calls Try.prog 18 #[v] w fun e w' => ∃ vn vg vo, e = .returned (.agg #[.int .i64 (remR c).inp, vn, vg, vo]) ∧ CirOwn w' w.heap.size (remR c) vn vg vo ∧ Below w.heap.size w w' := by
  have HG := Lib.hid h
  obtain ⟨sn, cn, sg, cg, so, co, rfl, -, -, -, -, -, -⟩ := h
  obtain ⟨W0, hW0⟩ : ∃ W0, W0 = (w.alloc (.cells #[.int .i64 c.inp, .slice sn c.next.length cn, .slice sg c.gates.length cg, .slice so c.outs.length co] 29)).alloc (.cells #[.int .i64 0, .slice none 0 0, .slice none 0 0, .slice none 0 0] 29) := ⟨_, rfl⟩
  obtain ⟨A, hA⟩ : ∃ A, A = w.heap.size := ⟨_, rfl⟩
  have z1 : W0.heap.size = A + 2 := by rw [hW0, hA]; simp
  have z2 : W0.heap[A]? = some (.cells #[.int .i64 c.inp, .slice sn c.next.length cn, .slice sg c.gates.length cg, .slice so c.outs.length co] 29 (0, 0)) := by rw [hW0, hA]; exact blk_old (blk_new w _)
  have z3 : W0.heap[A + 1]? = some (.cells #[.int .i64 0, .slice none 0 0, .slice none 0 0, .slice none 0 0] 29 (0, 0)) := by rw [hW0, hA]; exact blk_at (by simp)
  have z4 : Below w.heap.size w W0 := by rw [hW0]; exact ((Below.refl _ _).alloc (Nat.le_refl _) _).alloc (by simp) _
  have HW := Lib.hid (And.intro hW0 (And.intro hA z1))
  have HB : Hid (∀ W, Below W0.heap.size W0 W → (∀ o, W.cell? ⟨A, o, none⟩ = #[Value.int .i64 c.inp, .slice sn c.next.length cn, .slice sg c.gates.length cg, .slice so c.outs.length co][o]?) ∧ W.heap[A + 1]? = some (.cells #[.int .i64 0, .slice none 0 0, .slice none 0 0, .slice none 0 0] 29 (0, 0)) ∧ CirV W (.agg #[.int .i64 c.inp, .slice sn c.next.length cn, .slice sg c.gates.length cg, .slice so c.outs.length co]) c ∧ Below w.heap.size w W) := fun W hW => ⟨(blk_all (blk_below hW (by omega) z2)).1, blk_below hW (by omega) z3, HG.out.mono (z4.trans (hW.mono z4.size)), z4.trans (hW.mono z4.size)⟩
  clear hW0 hA z1 z2 z3 z4
  cases hv : c.validB
  · rw [remR_no hv]
    have HV := Lib.hid hv
    clear hv
    go_enter Try.func18, Try.ntmps18
    go_upto_region 1 with fail
    rw [← HW.out.1, ← HW.out.2.1]
    have cb := (HB.out _ (Below.refl _ _)).1
    go_upto_region 2 with (go_at_call 56; ((with_reducible refine (CircuitValid_i _ c _ (HB.out _ (Below.refl _ _)).2.2.1).mono ?_); rintro e w1 ⟨rfl, hq⟩; rw [HV.out]; have H1 := Lib.hid hq; clear hq cb; obtain ⟨rc, rf⟩ := blk_all (HB.out _ H1.out).2.1))
    go_wp2_with fail
    have hZ : ((((w1.setCell ⟨A + 1, 0, none⟩ (.int .i64 0)).setCell ⟨A + 1, 1, none⟩ (.slice none 0 0)).setCell ⟨A + 1, 2, none⟩ (.slice none 0 0)).setCell ⟨A + 1, 3, none⟩ (.slice none 0 0)).heap[A + 1]? = some (.cells #[.int .i64 0, .slice none 0 0, .slice none 0 0, .slice none 0 0] 29 (0, 0)) := by
      simpa using blk_set (o := 3) (v := .slice none 0 0) (blk_set (o := 2) (v := .slice none 0 0) (blk_set (o := 1) (v := .slice none 0 0) (blk_set (o := 0) (v := .int .i64 0) (HB.out _ H1.out).2.1)))
    have hA2 := HW.out.2.1
    have hbz := ((((HB.out _ H1.out).2.2.2.setCell (p := ⟨A + 1, 0, none⟩) (by simp; omega) (.int .i64 0)).setCell (p := ⟨A + 1, 1, none⟩) (by simp; omega) (.slice none 0 0)).setCell (p := ⟨A + 1, 2, none⟩) (by simp; omega) (.slice none 0 0)).setCell (p := ⟨A + 1, 3, none⟩) (by simp; omega) (.slice none 0 0)
    clear rc rf
    revert hZ hbz
    generalize ((((w1.setCell ⟨A + 1, 0, none⟩ (.int .i64 0)).setCell ⟨A + 1, 1, none⟩ (.slice none 0 0)).setCell ⟨A + 1, 2, none⟩ (.slice none 0 0)).setCell ⟨A + 1, 3, none⟩ (.slice none 0 0)) = WZ
    intro hZ hbz
    have cr := (blk_all hZ).1
    exact bodyPost_ret (v := .agg #[.int .i64 0, .slice none 0 0, .slice none 0 0, .slice none 0 0]) (by simp [results, Try.results18, go_sem, cr]) rfl ⟨_, _, _, rfl, ⟨World.ownsRow_nil _ _ _ _, World.ownsRow_nil _ _ _ _, World.ownsRow_nil _ _ _ _, fun k h => by simp [Value.ownBlock] at h, by simp, by simp, by simp⟩, hbz⟩
  · rw [remR_yes hv]
    have HV := Lib.hid hv
    have hvv := c.validB_iff.1 hv
    have HVV := Lib.hid (And.intro hvv (buildC_valid hvv true))
    clear hv hvv
    go_enter Try.func18, Try.ntmps18
    go_upto_region 1 with fail
    rw [← HW.out.1, ← HW.out.2.1]
    have cb := (HB.out _ (Below.refl _ _)).1
    have HA := Lib.hid (show CirAt W0 A c.inp (.slice sn c.next.length cn) (.slice sg c.gates.length cg) (.slice so c.outs.length co) from ⟨cb 0, cb 1, cb 2, cb 3⟩)
    have HS : Hid (Sl w sn (ints c.next) ∧ Sl w sg (gcells c.gates) ∧ Sl w so (ints c.outs)) := by
      obtain ⟨_, _, _, _, _, _, e, h1, h2, h3, -⟩ := HG.out
      cases e
      exact ⟨h1, h2, h3⟩
    go_upto_region 3 with (go_at_call 56; ((with_reducible refine (CircuitValid_i _ c _ (HB.out _ (Below.refl _ _)).2.2.1).mono ?_); rintro e w1 ⟨rfl, hq⟩; rw [HV.out]; have H1 := Lib.hid hq; clear hq cb; have cb := (HB.out _ H1.out).1))
    have HO := Lib.hid (optimize_any A sn sg so cn cg co c w1 ⟨cb 0, cb 1, cb 2, cb 3⟩ (HS.out.1.mono (HB.out _ H1.out).2.2.2) (HS.out.2.1.mono (HB.out _ H1.out).2.2.2) (HS.out.2.2.mono (HB.out _ H1.out).2.2.2) HVV.out.1)
    clear cb
    go_upto_region 4 with (go_at_call 57; refine HO.out.mono ?_; rintro e w3 ⟨vn3, vg3, vo3, rfl, ho, hq⟩; rw [show c.inp = (optC c).inp from rfl]; obtain ⟨sn3, cn3, rfl⟩ := own_shape ho.n; obtain ⟨sg3, cg3, rfl⟩ := own_shape ho.g; obtain ⟨so3, co3, rfl⟩ := own_shape ho.o; have H3 : Hid (CirOwn w3 W0.heap.size (optC c) (.slice sn3 (optC c).next.length cn3) (.slice sg3 (optC c).gates.length cg3) (.slice so3 (optC c).outs.length co3) ∧ Below W0.heap.size W0 w3) := ⟨⟨own_base ho.n H1.out.size, own_base ho.g H1.out.size, own_base ho.o H1.out.size, ho.ne, ho.l1, ho.l2, ho.l3⟩, H1.out.trans (hq.mono H1.out.size)⟩; clear hq ho)
    obtain ⟨X, hX⟩ : ∃ X, X = w3.heap.size := ⟨_, rfl⟩
    have kX := blk_new w3 (.cells #[.int .i64 (optC c).inp, .slice sn3 (optC c).next.length cn3, .slice sg3 (optC c).gates.length cg3, .slice so3 (optC c).outs.length co3] 29)
    have bX := (Below.refl w3.heap.size w3).alloc (Nat.le_refl _) (.cells #[.int .i64 (optC c).inp, .slice sn3 (optC c).next.length cn3, .slice sg3 (optC c).gates.length cg3, .slice so3 (optC c).outs.length co3] 29)
    rw [← hX] at kX
    rw [← hX]
    revert kX bX
    generalize w3.alloc (.cells #[.int .i64 (optC c).inp, .slice sn3 (optC c).next.length cn3, .slice sg3 (optC c).gates.length cg3, .slice so3 (optC c).outs.length co3] 29) = W4
    intro kX bX
    have H4 : Hid (W4.heap[X]? = some (.cells #[.int .i64 (optC c).inp, .slice sn3 (optC c).next.length cn3, .slice sg3 (optC c).gates.length cg3, .slice so3 (optC c).outs.length co3] 29 (0, 0)) ∧ CirOwn W4 W0.heap.size (optC c) (.slice sn3 (optC c).next.length cn3) (.slice sg3 (optC c).gates.length cg3) (.slice so3 (optC c).outs.length co3) ∧ Below W0.heap.size W0 W4) :=
      ⟨kX, (⟨own_below H3.out.1.n bX, own_below H3.out.1.g bX, own_below H3.out.1.o bX, H3.out.1.ne, H3.out.1.l1, H3.out.1.l2, H3.out.1.l3⟩ : CirOwn _ _ _ _ _ _), H3.out.2.trans (bX.mono H3.out.2.size)⟩
    have hXs : W0.heap.size ≤ X := by rw [hX]; exact H3.out.2.size
    clear kX bX hX
    have HSZ := Lib.hid HW.out.2.2
    have HOV := Lib.hid (optC_valid HVV.out.1)
    go_loopw [5] (fun _ wr => ∃ (cur : Cir) (sn4 sg4 so4 : Option Addr) (cn4 cg4 co4 : Nat), wr.heap[X]? = some (.cells #[.int .i64 cur.inp, .slice sn4 cur.next.length cn4, .slice sg4 cur.gates.length cg4, .slice so4 cur.outs.length co4] 29 (0, 0)) ∧ CirOwn wr W0.heap.size cur (.slice sn4 cur.next.length cn4) (.slice sg4 cur.gates.length cg4) (.slice so4 cur.outs.length co4) ∧ Below W0.heap.size W0 wr ∧ cur.valid ∧ stepsR 15 cur = stepsR 15 (optC c)) (fun _ wr => match wr.cell? ⟨X, 2, none⟩ with | some (.slice _ n _) => n | _ => 0)
    case atStart => exact ⟨optC c, sn3, sg3, so3, cn3, cg3, co3, H4.out.1, H4.out.2.1, H4.out.2.2, HOV.out, rfl⟩
    case round =>
      obtain ⟨cur, sn4, sg4, so4, cn4, cg4, co4, hx, ho, hb, hv, hst⟩ := hrel
      have hme : (match wr.cell? ⟨X, 2, none⟩ with | some (.slice _ n _) => n | _ => 0) = cur.gates.length := by rw [(blk_all hx).1 2]; rfl
      have HR := Lib.hid (And.intro hx (And.intro ho (And.intro hb (And.intro hv (And.intro hst hme)))))
      have HRD := Lib.hid (redundant_any X sn4 sg4 so4 cn4 cg4 co4 cur wr (CirAt.of_blk hx) (own_sl ho.n) (own_sl ho.g) (own_sl ho.o) hv)
      clear hx ho hb hv hst hme
      cases hf : fstU cur with
      | none =>
        have hd : stepsR 15 (optC c) = cur := by rw [← HR.out.2.2.2.2.1]; exact stepsR_fix (by rw [hf]; rfl) 15
        rw [hf] at HRD
        have HD := Lib.hid hd
        clear hf hd
        go_upto_region 6 with (go_at_call 58; refine HRD.out.mono ?_; rintro e w5 ⟨rfl, hq⟩; have H5 := Lib.hid hq; clear hq)
        have bF := (Below.refl w5.heap.size w5).alloc (Nat.le_refl _) (.cells #[.int .i64 (fvU cur.first.toNat none), .bool (fbU none)] 51)
        revert bF
        generalize w5.alloc (.cells #[.int .i64 (fvU cur.first.toNat none), .bool (fbU none)] 51) = W6
        intro bF
        have hb6 : Below wr.heap.size wr W6 := H5.out.trans (bF.mono H5.out.size)
        have H6 : Hid (CirOwn W6 W0.heap.size cur (.slice sn4 cur.next.length cn4) (.slice sg4 cur.gates.length cg4) (.slice so4 cur.outs.length co4) ∧ Below W0.heap.size W0 W6) := ⟨⟨own_below HR.out.2.1.n hb6, own_below HR.out.2.1.g hb6, own_below HR.out.2.1.o hb6, HR.out.2.1.ne, HR.out.2.1.l1, HR.out.2.1.l2, HR.out.2.1.l3⟩, HR.out.2.2.1.trans (hb6.mono HR.out.2.2.1.size)⟩
        have cx := (blk_all (blk_below hb6 (blk_lt HR.out.1) HR.out.1)).1
        obtain ⟨rc, rf⟩ := blk_all (HB.out _ H6.out.2).2.1
        clear bF hb6
        go_wp2_with fail
        clear cx
        have hR := (HB.out _ H6.out.2).2.1
        have hA2 := HW.out.2.1
        have hO := (H6.out.1).sets4 (r := A + 1) (by have h1 := HW.out.2.2; have h2 := HSZ.out; omega) (base := w.heap.size) (by have h1 := HW.out.2.2; have h2 := HSZ.out; omega) (a := .int .i64 cur.inp) (b' := .slice sn4 cur.next.length cn4) (c' := .slice sg4 cur.gates.length cg4) (d := .slice so4 cur.outs.length co4)
        have hZ : ((((W6.setCell ⟨A + 1, 0, none⟩ (.int .i64 cur.inp)).setCell ⟨A + 1, 1, none⟩ (.slice sn4 cur.next.length cn4)).setCell ⟨A + 1, 2, none⟩ (.slice sg4 cur.gates.length cg4)).setCell ⟨A + 1, 3, none⟩ (.slice so4 cur.outs.length co4)).heap[A + 1]? = some (.cells #[.int .i64 cur.inp, .slice sn4 cur.next.length cn4, .slice sg4 cur.gates.length cg4, .slice so4 cur.outs.length co4] 29 (0, 0)) := by
          simpa using blk_set (o := 3) (v := .slice so4 cur.outs.length co4) (blk_set (o := 2) (v := .slice sg4 cur.gates.length cg4) (blk_set (o := 1) (v := .slice sn4 cur.next.length cn4) (blk_set (o := 0) (v := .int .i64 cur.inp) hR)))
        have hbz := ((((HB.out _ H6.out.2).2.2.2.setCell (p := ⟨A + 1, 0, none⟩) (by simp; omega) (.int .i64 cur.inp)).setCell (p := ⟨A + 1, 1, none⟩) (by simp; omega) (.slice sn4 cur.next.length cn4)).setCell (p := ⟨A + 1, 2, none⟩) (by simp; omega) (.slice sg4 cur.gates.length cg4)).setCell (p := ⟨A + 1, 3, none⟩) (by simp; omega) (.slice so4 cur.outs.length co4)
        clear rc rf
        revert hZ hbz hO
        generalize ((((W6.setCell ⟨A + 1, 0, none⟩ (.int .i64 cur.inp)).setCell ⟨A + 1, 1, none⟩ (.slice sn4 cur.next.length cn4)).setCell ⟨A + 1, 2, none⟩ (.slice sg4 cur.gates.length cg4)).setCell ⟨A + 1, 3, none⟩ (.slice so4 cur.outs.length co4)) = WZ
        intro hO hZ hbz
        have cr := (blk_all hZ).1
        exact bodyPost_ret (v := .agg #[.int .i64 cur.inp, .slice sn4 cur.next.length cn4, .slice sg4 cur.gates.length cg4, .slice so4 cur.outs.length co4]) (by simp [results, Try.results18, go_sem, cr]) rfl (by rw [HD.out]; exact ⟨_, _, _, rfl, hO, hbz⟩)
      | some kv =>
        obtain ⟨k, val⟩ := kv
        obtain ⟨p, hp⟩ : ∃ p, p = ((cur.first.toNat + k : Nat) : Int) := ⟨_, rfl⟩
        have hk14 := fstU_lt hf
        obtain ⟨i0, i1, l1, l2, l3⟩ := HR.out.2.2.2.1.lim
        have hpb : 0 ≤ p ∧ p ≤ 40 := by
          have e1 : cur.first = 1 + cur.inp + cur.next.length := rfl
          omega
        have HRD2 : Hid (Calls Try.prog 58 #[.pointer (some ⟨X, 0, none⟩)] wr fun e w' => e = .returned (.tuple #[.agg #[.int .i64 p, .bool val], .bool true]) ∧ Below wr.heap.size wr w') := by rw [hp]; rw [hf] at HRD; exact HRD
        obtain ⟨cm, hcm⟩ : ∃ cm, cm = cur.mapC (forceL p val) := ⟨_, rfl⟩
        have hcv : cm.valid := by rw [hcm]; exact mapC_validU HR.out.2.2.2.1 hpb.1
        have hlen : (optC cm).gates.length < cur.gates.length := by rw [hcm, hp]; exact step_len HR.out.2.2.2.1 hf
        have hstep : stepR cur = optC cm := by
          unfold stepR
          rw [hf]
          show optR (cur.mapC (forceL ((cur.first.toNat + k : Nat) : Int) val)) = _
          rw [← hp, ← hcm]
          exact optR_yes ((Cir.validB_iff _).2 hcv)
        have hsteps : stepsR 15 (optC cm) = stepsR 15 (optC c) := by
          rw [← hstep, stepsR_step HR.out.2.2.2.1 (by rw [hf]; rfl)]
          exact HR.out.2.2.2.2.1
        have HCM := Lib.hid (And.intro hcm (And.intro hcv (And.intro hlen hsteps)))
        clear hf HRD hp hcm hcv hlen hstep hsteps l1 l2 l3 i0 i1 hk14
        obtain ⟨hp0, hp1⟩ := hpb
        go_upto_region 7 with (go_at_call 58; refine HRD2.out.mono ?_; rintro e w5 ⟨rfl, hq⟩; have H5 := Lib.hid hq; clear hq)
        have bF := (Below.refl w5.heap.size w5).alloc (Nat.le_refl _) (.cells #[.int .i64 p, .bool val] 51)
        have kF := blk_new w5 (.cells #[.int .i64 p, .bool val] 51)
        obtain ⟨Y, hY⟩ : ∃ Y, Y = w5.heap.size := ⟨_, rfl⟩
        rw [← hY] at kF
        rw [← hY]
        revert bF kF
        generalize w5.alloc (.cells #[.int .i64 p, .bool val] 51) = W6
        intro bF kF
        have hb6 : Below wr.heap.size wr W6 := H5.out.trans (bF.mono H5.out.size)
        have hx6 := blk_below hb6 (blk_lt HR.out.1) HR.out.1
        obtain ⟨cF, -⟩ := blk_all kF
        have HFC := Lib.hid (force_any X cur sn4 sg4 so4 cn4 cg4 co4 p val W6 (CirAt.of_blk hx6) ((own_sl HR.out.2.1.n).mono hb6) ((own_sl HR.out.2.1.g).mono hb6) ((own_sl HR.out.2.1.o).mono hb6) HR.out.2.2.2.1)
        have H6 := Lib.hid (And.intro hx6 (HR.out.2.2.1.trans (hb6.mono HR.out.2.2.1.size)))
        clear bF kF hb6 hx6 hY
        go_wp2_with (first
          | (go_at_call 60; refine HFC.out.mono ?_; rintro e w7 ⟨vn, vg, vo, rfl, ho, hq⟩; rw [← HCM.out.1] at ho; rw [show cur.inp = cm.inp by rw [HCM.out.1]; rfl]; obtain ⟨sn7, cn7, rfl⟩ := own_shape ho.n; obtain ⟨sg7, cg7, rfl⟩ := own_shape ho.g; obtain ⟨so7, co7, rfl⟩ := own_shape ho.o; have H7 := Lib.hid (And.intro ho hq); clear ho hq cF)
          | (go_at_call 59; go_loud (refine (ptrC_any cm.inp sn7 sg7 so7 cm.next.length cn7 cm.gates.length cg7 cm.outs.length co7 w7).mono ?_; rintro e w8 ⟨rfl, h8⟩; have k8 : w8.heap[w7.heap.size]? = some (.cells #[.int .i64 cm.inp, .slice sn7 cm.next.length cn7, .slice sg7 cm.gates.length cg7, .slice so7 cm.outs.length co7] 29 (0, 0)) := (by subst h8; exact blk_new _ _); have b8 : Below w7.heap.size w7 w8 := (by subst h8; exact (Below.refl _ _).alloc (Nat.le_refl _) _); have hx8 := blk_below b8 (Nat.lt_of_lt_of_le (blk_lt H6.out.1) H7.out.2.size) (blk_below H7.out.2 (blk_lt H6.out.1) H6.out.1); have HOP := Lib.hid (optimize_any w7.heap.size sn7 sg7 so7 cn7 cg7 co7 cm w8 (CirAt.of_blk k8) ((own_sl H7.out.1.n).mono b8) ((own_sl H7.out.1.g).mono b8) ((own_sl H7.out.1.o).mono b8) HCM.out.2.1); have H8 := Lib.hid (And.intro hx8 ((H6.out.2.trans (H7.out.2.mono H6.out.2.size)).trans (b8.mono (Nat.le_trans H6.out.2.size H7.out.2.size)))); clear k8 b8 hx8 h8))
          | (go_at_call 57; refine HOP.out.mono ?_; rintro e w9 ⟨vn, vg, vo, rfl, ho, hq⟩; rw [show cm.inp = (optC cm).inp from rfl]; obtain ⟨sn9, cn9, rfl⟩ := own_shape ho.n; obtain ⟨sg9, cg9, rfl⟩ := own_shape ho.g; obtain ⟨so9, co9, rfl⟩ := own_shape ho.o; have hx9 := blk_below hq (blk_lt H8.out.1) H8.out.1; have H9 := Lib.hid (And.intro hx9 (And.intro ho (H8.out.2.trans (hq.mono H8.out.2.size)))); obtain ⟨xc, xf⟩ := blk_all hx9; clear ho hq hx9))
        have hX8 : X < w8.heap.size := blk_lt H8.out.1
        have hO := H9.out.2.1.sets4 (r := X) hX8 (base := W0.heap.size) H8.out.2.size (a := .int .i64 (optC cm).inp) (b' := .slice sn9 (optC cm).next.length cn9) (c' := .slice sg9 (optC cm).gates.length cg9) (d := .slice so9 (optC cm).outs.length co9)
        have hZ : ((((w9.setCell ⟨X, 0, none⟩ (.int .i64 (optC cm).inp)).setCell ⟨X, 1, none⟩ (.slice sn9 (optC cm).next.length cn9)).setCell ⟨X, 2, none⟩ (.slice sg9 (optC cm).gates.length cg9)).setCell ⟨X, 3, none⟩ (.slice so9 (optC cm).outs.length co9)).heap[X]? = some (.cells #[.int .i64 (optC cm).inp, .slice sn9 (optC cm).next.length cn9, .slice sg9 (optC cm).gates.length cg9, .slice so9 (optC cm).outs.length co9] 29 (0, 0)) := by
          simpa using blk_set (o := 3) (v := .slice so9 (optC cm).outs.length co9) (blk_set (o := 2) (v := .slice sg9 (optC cm).gates.length cg9) (blk_set (o := 1) (v := .slice sn9 (optC cm).next.length cn9) (blk_set (o := 0) (v := .int .i64 (optC cm).inp) H9.out.1)))
        have hbz := (((H9.out.2.2.setCell (p := ⟨X, 0, none⟩) hXs (.int .i64 (optC cm).inp)).setCell (p := ⟨X, 1, none⟩) hXs (.slice sn9 (optC cm).next.length cn9)).setCell (p := ⟨X, 2, none⟩) hXs (.slice sg9 (optC cm).gates.length cg9)).setCell (p := ⟨X, 3, none⟩) hXs (.slice so9 (optC cm).outs.length co9)
        clear xc xf
        revert hZ hbz hO
        generalize ((((w9.setCell ⟨X, 0, none⟩ (.int .i64 (optC cm).inp)).setCell ⟨X, 1, none⟩ (.slice sn9 (optC cm).next.length cn9)).setCell ⟨X, 2, none⟩ (.slice sg9 (optC cm).gates.length cg9)).setCell ⟨X, 3, none⟩ (.slice so9 (optC cm).outs.length co9)) = WZ
        intro hO hZ hbz
        have HZ := Lib.hid (And.intro hZ (And.intro hO hbz))
        clear hO hZ hbz
        go_roundw
        case rel => exact ⟨optC cm, sn9, sg9, so9, cn9, cg9, co9, HZ.out.1, HZ.out.2.1, HZ.out.2.2, optC_valid HCM.out.2.1, HCM.out.2.2.2⟩
        case measure =>
          rw [HR.out.2.2.2.2.2, (blk_all HZ.out.1).1 2]
          exact HCM.out.2.2.1

theorem own_of_post {wr w' : World} {base : Nat} {cur S : Cir} {B : Bool} {sn sg so : Option Addr} {cn cg co : Nat} {vn vg vo : Value} (h : CirOwn wr base cur (.slice sn cur.next.length cn) (.slice sg cur.gates.length cg) (.slice so cur.outs.length co)) (hb : base ≤ wr.heap.size) (hq : Below wr.heap.size wr w') (hS : B = false → S = cur)
    (hor : CirOwn w' wr.heap.size S vn vg vo ∨ (Value.agg #[.int .i64 S.inp, vn, vg, vo] = .agg #[.int .i64 cur.inp, .slice sn cur.next.length cn, .slice sg cur.gates.length cg, .slice so cur.outs.length co] ∧ B = false)) : CirOwn w' base S vn vg vo := by
  rcases hor with h' | ⟨hv, hf⟩
  · exact ⟨own_base h'.n hb, own_base h'.g hb, own_base h'.o hb, h'.ne, h'.l1, h'.l2, h'.l3⟩
  · have e := hS hf
    subst e
    simp only [Value.agg.injEq, Array.mk.injEq, List.cons.injEq, and_true] at hv
    obtain ⟨-, rfl, rfl, rfl⟩ := hv
    exact ⟨own_below h.n hq, own_below h.g hq, own_below h.o hq, h.ne, h.l1, h.l2, h.l3⟩

set_option maxRecDepth 100000 in
set_option maxHeartbeats 1600000 in
theorem RemoveRedundancy_s (v : Value) (c : Cir) (w : World) (h : CirV w v c) :
    Calls Try.prog 16 #[v] w fun e w' => ∃ vn vg vo, e = .returned (.agg #[.int .i64 (remR c).inp, vn, vg, vo]) ∧ CirOwn w' w.heap.size (remR c) vn vg vo ∧ Below w.heap.size w w' := by
  have HG := Lib.hid h
  obtain ⟨sn, cn, sg, cg, so, co, rfl, -, -, -, -, -, -⟩ := h
  obtain ⟨W0, hW0⟩ : ∃ W0, W0 = (w.alloc (.cells #[.int .i64 c.inp, .slice sn c.next.length cn, .slice sg c.gates.length cg, .slice so c.outs.length co] 29)).alloc (.cells #[.int .i64 0, .slice none 0 0, .slice none 0 0, .slice none 0 0] 29) := ⟨_, rfl⟩
  obtain ⟨A, hA⟩ : ∃ A, A = w.heap.size := ⟨_, rfl⟩
  have z1 : W0.heap.size = A + 2 := by rw [hW0, hA]; simp
  have z2 : W0.heap[A]? = some (.cells #[.int .i64 c.inp, .slice sn c.next.length cn, .slice sg c.gates.length cg, .slice so c.outs.length co] 29 (0, 0)) := by rw [hW0, hA]; exact blk_old (blk_new w _)
  have z3 : W0.heap[A + 1]? = some (.cells #[.int .i64 0, .slice none 0 0, .slice none 0 0, .slice none 0 0] 29 (0, 0)) := by rw [hW0, hA]; exact blk_at (by simp)
  have z4 : Below w.heap.size w W0 := by rw [hW0]; exact ((Below.refl _ _).alloc (Nat.le_refl _) _).alloc (by simp) _
  have HW := Lib.hid (And.intro hW0 (And.intro hA z1))
  have HB : Hid (∀ W, Below W0.heap.size W0 W → (∀ o, W.cell? ⟨A, o, none⟩ = #[Value.int .i64 c.inp, .slice sn c.next.length cn, .slice sg c.gates.length cg, .slice so c.outs.length co][o]?) ∧ W.heap[A + 1]? = some (.cells #[.int .i64 0, .slice none 0 0, .slice none 0 0, .slice none 0 0] 29 (0, 0)) ∧ CirV W (.agg #[.int .i64 c.inp, .slice sn c.next.length cn, .slice sg c.gates.length cg, .slice so c.outs.length co]) c ∧ Below w.heap.size w W) := fun W hW => ⟨(blk_all (blk_below hW (by omega) z2)).1, blk_below hW (by omega) z3, HG.out.mono (z4.trans (hW.mono z4.size)), z4.trans (hW.mono z4.size)⟩
  clear hW0 hA z1 z2 z3 z4
  cases hv : c.validB
  · rw [remR_no hv]
    have HV := Lib.hid hv
    clear hv
    go_enter Try.func16, Try.ntmps16
    go_upto_region 1 with fail
    rw [← HW.out.1, ← HW.out.2.1]
    have cb := (HB.out _ (Below.refl _ _)).1
    go_upto_region 2 with (go_at_call 26; ((with_reducible refine (CircuitValid_s _ c _ (HB.out _ (Below.refl _ _)).2.2.1).mono ?_); rintro e w1 ⟨rfl, hq⟩; rw [HV.out]; have H1 := Lib.hid hq; clear hq cb; obtain ⟨rc, rf⟩ := blk_all (HB.out _ H1.out).2.1))
    go_wp2_with fail
    have hZ : ((((w1.setCell ⟨A + 1, 0, none⟩ (.int .i64 0)).setCell ⟨A + 1, 1, none⟩ (.slice none 0 0)).setCell ⟨A + 1, 2, none⟩ (.slice none 0 0)).setCell ⟨A + 1, 3, none⟩ (.slice none 0 0)).heap[A + 1]? = some (.cells #[.int .i64 0, .slice none 0 0, .slice none 0 0, .slice none 0 0] 29 (0, 0)) := by
      simpa using blk_set (o := 3) (v := .slice none 0 0) (blk_set (o := 2) (v := .slice none 0 0) (blk_set (o := 1) (v := .slice none 0 0) (blk_set (o := 0) (v := .int .i64 0) (HB.out _ H1.out).2.1)))
    have hA2 := HW.out.2.1
    have hbz := ((((HB.out _ H1.out).2.2.2.setCell (p := ⟨A + 1, 0, none⟩) (by simp; omega) (.int .i64 0)).setCell (p := ⟨A + 1, 1, none⟩) (by simp; omega) (.slice none 0 0)).setCell (p := ⟨A + 1, 2, none⟩) (by simp; omega) (.slice none 0 0)).setCell (p := ⟨A + 1, 3, none⟩) (by simp; omega) (.slice none 0 0)
    clear rc rf
    revert hZ hbz
    generalize ((((w1.setCell ⟨A + 1, 0, none⟩ (.int .i64 0)).setCell ⟨A + 1, 1, none⟩ (.slice none 0 0)).setCell ⟨A + 1, 2, none⟩ (.slice none 0 0)).setCell ⟨A + 1, 3, none⟩ (.slice none 0 0)) = WZ
    intro hZ hbz
    have cr := (blk_all hZ).1
    exact bodyPost_ret (v := .agg #[.int .i64 0, .slice none 0 0, .slice none 0 0, .slice none 0 0]) (by simp [results, Try.results16, go_sem, cr]) rfl ⟨_, _, _, rfl, ⟨World.ownsRow_nil _ _ _ _, World.ownsRow_nil _ _ _ _, World.ownsRow_nil _ _ _ _, fun k h => by simp [Value.ownBlock] at h, by simp, by simp, by simp⟩, hbz⟩
  · rw [remR_yes hv]
    have HV := Lib.hid hv
    have hvv := c.validB_iff.1 hv
    have HVV := Lib.hid (And.intro hvv (buildC_valid hvv true))
    clear hv hvv
    go_enter Try.func16, Try.ntmps16
    go_upto_region 1 with fail
    rw [← HW.out.1, ← HW.out.2.1]
    have cb := (HB.out _ (Below.refl _ _)).1
    go_upto_region 4 with (first
      | (go_at_call 26; ((with_reducible refine (CircuitValid_s _ c _ (HB.out _ (Below.refl _ _)).2.2.1).mono ?_); rintro e w1 ⟨rfl, hq⟩; rw [HV.out]; have H1 := Lib.hid hq; clear hq cb; have cb := (HB.out _ H1.out).1))
      | (go_at_call 52; refine (Optimize_s _ c w1 (HB.out _ H1.out).2.2.1).mono ?_; rintro e w3 ⟨vn3, vg3, vo3, rfl, ho, hq⟩; rw [optR_yes HV.out] at ho; rw [optR_yes HV.out]; rw [show c.inp = (optC c).inp from rfl]; obtain ⟨sn3, cn3, rfl⟩ := own_shape ho.n; obtain ⟨sg3, cg3, rfl⟩ := own_shape ho.g; obtain ⟨so3, co3, rfl⟩ := own_shape ho.o; have H3 : Hid (CirOwn w3 W0.heap.size (optC c) (.slice sn3 (optC c).next.length cn3) (.slice sg3 (optC c).gates.length cg3) (.slice so3 (optC c).outs.length co3) ∧ Below W0.heap.size W0 w3) := ⟨⟨own_base ho.n H1.out.size, own_base ho.g H1.out.size, own_base ho.o H1.out.size, ho.ne, ho.l1, ho.l2, ho.l3⟩, H1.out.trans (hq.mono H1.out.size)⟩; clear hq ho cb))
    obtain ⟨X, hX⟩ : ∃ X, X = w3.heap.size := ⟨_, rfl⟩
    have kX := blk_new w3 (.cells #[.int .i64 (optC c).inp, .slice sn3 (optC c).next.length cn3, .slice sg3 (optC c).gates.length cg3, .slice so3 (optC c).outs.length co3] 29)
    have bX := (Below.refl w3.heap.size w3).alloc (Nat.le_refl _) (.cells #[.int .i64 (optC c).inp, .slice sn3 (optC c).next.length cn3, .slice sg3 (optC c).gates.length cg3, .slice so3 (optC c).outs.length co3] 29)
    rw [← hX] at kX
    rw [← hX]
    revert kX bX
    generalize w3.alloc (.cells #[.int .i64 (optC c).inp, .slice sn3 (optC c).next.length cn3, .slice sg3 (optC c).gates.length cg3, .slice so3 (optC c).outs.length co3] 29) = W4
    intro kX bX
    have H4 : Hid (W4.heap[X]? = some (.cells #[.int .i64 (optC c).inp, .slice sn3 (optC c).next.length cn3, .slice sg3 (optC c).gates.length cg3, .slice so3 (optC c).outs.length co3] 29 (0, 0)) ∧ CirOwn W4 W0.heap.size (optC c) (.slice sn3 (optC c).next.length cn3) (.slice sg3 (optC c).gates.length cg3) (.slice so3 (optC c).outs.length co3) ∧ Below W0.heap.size W0 W4) :=
      ⟨kX, (⟨own_below H3.out.1.n bX, own_below H3.out.1.g bX, own_below H3.out.1.o bX, H3.out.1.ne, H3.out.1.l1, H3.out.1.l2, H3.out.1.l3⟩ : CirOwn _ _ _ _ _ _), H3.out.2.trans (bX.mono H3.out.2.size)⟩
    have hXs : W0.heap.size ≤ X := by rw [hX]; exact H3.out.2.size
    clear kX bX hX
    have HSZ := Lib.hid HW.out.2.2
    have HOV := Lib.hid (optC_valid HVV.out.1)
    go_upto_region 5 with fail
    go_loopw [4] (fun s4 wr => ∃ (cur : Cir) (sn4 sg4 so4 : Option Addr) (cn4 cg4 co4 : Nat) (m : Bool), s4 = .bool m ∧ (m = false → stepsR 15 (optC c) = cur) ∧ wr.heap[X]? = some (.cells #[.int .i64 cur.inp, .slice sn4 cur.next.length cn4, .slice sg4 cur.gates.length cg4, .slice so4 cur.outs.length co4] 29 (0, 0)) ∧ CirOwn wr W0.heap.size cur (.slice sn4 cur.next.length cn4) (.slice sg4 cur.gates.length cg4) (.slice so4 cur.outs.length co4) ∧ Below W0.heap.size W0 wr ∧ cur.valid ∧ stepsR 15 cur = stepsR 15 (optC c)) (fun s4 wr => (match s4 with | .bool true => 1 | _ => 0) + (match wr.cell? ⟨X, 2, none⟩ with | some (.slice _ n _) => n | _ => 0))
    case atStart => exact ⟨optC c, sn3, sg3, so3, cn3, cg3, co3, true, rfl, (by intro h; cases h), H4.out.1, H4.out.2.1, H4.out.2.2, HOV.out, rfl⟩
    case round =>
      obtain ⟨cur, sn4, sg4, so4, cn4, cg4, co4, m, rfl, hmf, hx, ho, hb, hv, hst⟩ := hrel
      have hme : (match wr.cell? ⟨X, 2, none⟩ with | some (.slice _ n _) => n | _ => 0) = cur.gates.length := by rw [(blk_all hx).1 2]; rfl
      have cx := (blk_all hx).1
      have HR := Lib.hid (And.intro hx (And.intro ho (And.intro hb (And.intro hv (And.intro hst (And.intro hme hmf))))))
      have HST := Lib.hid (l18Step_own _ cur wr ho.toV hv)
      clear hx ho hb hv hst hme hmf
      cases m
      · have HD := Lib.hid (HR.out.2.2.2.2.2.2 rfl)
        have H6 := Lib.hid (And.intro HR.out.2.1 HR.out.2.2.1)
        obtain ⟨rc, rf⟩ := blk_all (HB.out _ H6.out.2).2.1
        go_wp2_with fail
        clear cx
        have hR := (HB.out _ H6.out.2).2.1
        have hA2 := HW.out.2.1
        have hO := (H6.out.1).sets4 (r := A + 1) (by have h1 := HW.out.2.2; have h2 := HSZ.out; omega) (base := w.heap.size) (by have h1 := HW.out.2.2; have h2 := HSZ.out; omega) (a := .int .i64 cur.inp) (b' := .slice sn4 cur.next.length cn4) (c' := .slice sg4 cur.gates.length cg4) (d := .slice so4 cur.outs.length co4)
        have hZ : ((((wr.setCell ⟨A + 1, 0, none⟩ (.int .i64 cur.inp)).setCell ⟨A + 1, 1, none⟩ (.slice sn4 cur.next.length cn4)).setCell ⟨A + 1, 2, none⟩ (.slice sg4 cur.gates.length cg4)).setCell ⟨A + 1, 3, none⟩ (.slice so4 cur.outs.length co4)).heap[A + 1]? = some (.cells #[.int .i64 cur.inp, .slice sn4 cur.next.length cn4, .slice sg4 cur.gates.length cg4, .slice so4 cur.outs.length co4] 29 (0, 0)) := by
          simpa using blk_set (o := 3) (v := .slice so4 cur.outs.length co4) (blk_set (o := 2) (v := .slice sg4 cur.gates.length cg4) (blk_set (o := 1) (v := .slice sn4 cur.next.length cn4) (blk_set (o := 0) (v := .int .i64 cur.inp) hR)))
        have hbz := ((((HB.out _ H6.out.2).2.2.2.setCell (p := ⟨A + 1, 0, none⟩) (by simp; omega) (.int .i64 cur.inp)).setCell (p := ⟨A + 1, 1, none⟩) (by simp; omega) (.slice sn4 cur.next.length cn4)).setCell (p := ⟨A + 1, 2, none⟩) (by simp; omega) (.slice sg4 cur.gates.length cg4)).setCell (p := ⟨A + 1, 3, none⟩) (by simp; omega) (.slice so4 cur.outs.length co4)
        clear rc rf
        revert hZ hbz hO
        generalize ((((wr.setCell ⟨A + 1, 0, none⟩ (.int .i64 cur.inp)).setCell ⟨A + 1, 1, none⟩ (.slice sn4 cur.next.length cn4)).setCell ⟨A + 1, 2, none⟩ (.slice sg4 cur.gates.length cg4)).setCell ⟨A + 1, 3, none⟩ (.slice so4 cur.outs.length co4)) = WZ
        intro hO hZ hbz
        have cr := (blk_all hZ).1
        exact bodyPost_ret (v := .agg #[.int .i64 cur.inp, .slice sn4 cur.next.length cn4, .slice sg4 cur.gates.length cg4, .slice so4 cur.outs.length co4]) (by simp [results, Try.results16, go_sem, cr]) rfl (by rw [HD.out]; exact ⟨_, _, _, rfl, hO, hbz⟩)
      · obtain ⟨S, hS⟩ : ∃ S, S = stepR cur := ⟨_, rfl⟩
        obtain ⟨B, hB⟩ : ∃ B, B = (fstU cur).isSome := ⟨_, rfl⟩
        have hSv : S.valid ∧ stepsR 15 S = stepsR 15 (optC c) ∧ (B = false → S = cur ∧ stepsR 15 (optC c) = S) ∧ (B = true → S.gates.length < cur.gates.length) := by
          rw [hS, hB]
          cases hf : (fstU cur).isSome with
          | false =>
            rw [stepR_none hf]
            exact ⟨HR.out.2.2.2.1, HR.out.2.2.2.2.1, (fun _ => ⟨rfl, by rw [← HR.out.2.2.2.2.1]; exact stepsR_fix hf 15⟩), (fun h => by cases h)⟩
          | true =>
            obtain ⟨h1, h2⟩ := stepR_some HR.out.2.2.2.1 hf
            exact ⟨h1, by rw [stepsR_step HR.out.2.2.2.1 hf]; exact HR.out.2.2.2.2.1, (fun h => by cases h), fun _ => h2⟩
        have HSV := Lib.hid hSv
        rw [← hS, ← hB] at HST
        clear hSv hS hB
        go_upto_region 7 with (go_at_call 53; refine HST.out.mono ?_; rintro e w6 ⟨vn, vg, vo, rfl, hor, hq⟩; have ho := own_of_post HR.out.2.1 HR.out.2.2.1.size hq (fun h => (HSV.out.2.2.1 h).1) hor; obtain ⟨sn9, cn9, rfl⟩ := own_shape ho.n; obtain ⟨sg9, cg9, rfl⟩ := own_shape ho.g; obtain ⟨so9, co9, rfl⟩ := own_shape ho.o; have hx6 := blk_below hq (blk_lt HR.out.1) HR.out.1; have H6 := Lib.hid (And.intro hx6 (And.intro ho (HR.out.2.2.1.trans (hq.mono HR.out.2.2.1.size)))); clear hor ho hq hx6 cx)
        have kY := blk_new w6 (.cells #[.int .i64 S.inp, .slice sn9 S.next.length cn9, .slice sg9 S.gates.length cg9, .slice so9 S.outs.length co9] 29)
        have bY := (Below.refl w6.heap.size w6).alloc (Nat.le_refl _) (.cells #[.int .i64 S.inp, .slice sn9 S.next.length cn9, .slice sg9 S.gates.length cg9, .slice so9 S.outs.length co9] 29)
        obtain ⟨Y, hY⟩ : ∃ Y, Y = w6.heap.size := ⟨_, rfl⟩
        rw [← hY] at kY
        rw [← hY]
        revert bY kY
        generalize w6.alloc (.cells #[.int .i64 S.inp, .slice sn9 S.next.length cn9, .slice sg9 S.gates.length cg9, .slice so9 S.outs.length co9] 29) = W8
        intro bY kY
        have hx8 := blk_below bY (blk_lt H6.out.1) H6.out.1
        have hXY : X < Y := by rw [hY]; exact blk_lt H6.out.1
        obtain ⟨xc, xf⟩ := blk_all hx8
        have cY := (blk_all kY).1
        have H8 : Hid (W8.heap[X]? = some (.cells #[.int .i64 cur.inp, .slice sn4 cur.next.length cn4, .slice sg4 cur.gates.length cg4, .slice so4 cur.outs.length co4] 29 (0, 0)) ∧ CirOwn W8 W0.heap.size S (.slice sn9 S.next.length cn9) (.slice sg9 S.gates.length cg9) (.slice so9 S.outs.length co9) ∧ Below W0.heap.size W0 W8) := ⟨hx8, ⟨own_below H6.out.2.1.n bY, own_below H6.out.2.1.g bY, own_below H6.out.2.1.o bY, H6.out.2.1.ne, H6.out.2.1.l1, H6.out.2.1.l2, H6.out.2.1.l3⟩, H6.out.2.2.trans (bY.mono H6.out.2.2.size)⟩
        clear bY kY hx8 hY
        go_upto_region 8 with fail
        clear xc xf cY
        have e1 := own_tyb H8.out.2.1.n H8.out.1 (by decide)
        have e2 := own_tyb H8.out.2.1.g H8.out.1 (by decide)
        have e3 := own_tyb H8.out.2.1.o H8.out.1 (by decide)
        have hO : CirOwn ((((W8.setCell ⟨X, 0, none⟩ (.int .i64 S.inp)).setCell ⟨X, 1, none⟩ (.slice sn9 S.next.length cn9)).setCell ⟨X, 2, none⟩ (.slice sg9 S.gates.length cg9)).setCell ⟨X, 3, none⟩ (.slice so9 S.outs.length co9)) W0.heap.size S (.slice sn9 S.next.length cn9) (.slice sg9 S.gates.length cg9) (.slice so9 S.outs.length co9) :=
          ⟨own_set_ne (own_set_ne (own_set_ne (own_set_ne H8.out.2.1.n e1 _) e1 _) e1 _) e1 _, own_set_ne (own_set_ne (own_set_ne (own_set_ne H8.out.2.1.g e2 _) e2 _) e2 _) e2 _, own_set_ne (own_set_ne (own_set_ne (own_set_ne H8.out.2.1.o e3 _) e3 _) e3 _) e3 _, H8.out.2.1.ne, H8.out.2.1.l1, H8.out.2.1.l2, H8.out.2.1.l3⟩
        have hZ : ((((W8.setCell ⟨X, 0, none⟩ (.int .i64 S.inp)).setCell ⟨X, 1, none⟩ (.slice sn9 S.next.length cn9)).setCell ⟨X, 2, none⟩ (.slice sg9 S.gates.length cg9)).setCell ⟨X, 3, none⟩ (.slice so9 S.outs.length co9)).heap[X]? = some (.cells #[.int .i64 S.inp, .slice sn9 S.next.length cn9, .slice sg9 S.gates.length cg9, .slice so9 S.outs.length co9] 29 (0, 0)) := by
          simpa using blk_set (o := 3) (v := .slice so9 S.outs.length co9) (blk_set (o := 2) (v := .slice sg9 S.gates.length cg9) (blk_set (o := 1) (v := .slice sn9 S.next.length cn9) (blk_set (o := 0) (v := .int .i64 S.inp) H8.out.1)))
        have hbz := (((H8.out.2.2.setCell (p := ⟨X, 0, none⟩) hXs (.int .i64 S.inp)).setCell (p := ⟨X, 1, none⟩) hXs (.slice sn9 S.next.length cn9)).setCell (p := ⟨X, 2, none⟩) hXs (.slice sg9 S.gates.length cg9)).setCell (p := ⟨X, 3, none⟩) hXs (.slice so9 S.outs.length co9)
        revert hZ hbz hO
        generalize ((((W8.setCell ⟨X, 0, none⟩ (.int .i64 S.inp)).setCell ⟨X, 1, none⟩ (.slice sn9 S.next.length cn9)).setCell ⟨X, 2, none⟩ (.slice sg9 S.gates.length cg9)).setCell ⟨X, 3, none⟩ (.slice so9 S.outs.length co9)) = WZ
        intro hO hZ hbz
        have HZ := Lib.hid (And.intro hZ (And.intro hO hbz))
        clear hO hZ hbz
        go_wp2_with fail
        go_roundw
        case rel => exact ⟨S, sn9, sg9, so9, cn9, cg9, co9, B, rfl, fun h => (HSV.out.2.2.1 h).2, HZ.out.1, HZ.out.2.1, HZ.out.2.2, HSV.out.1, HSV.out.2.1⟩
        case measure =>
          rw [HR.out.2.2.2.2.2.1, (blk_all HZ.out.1).1 2]
          have hs := HSV.out
          cases B
          · rw [(hs.2.2.1 rfl).1]; simp
          · have := hs.2.2.2 rfl
            simp
            omega

end Go.Proofs.Ytindndcdpnpcmaa
