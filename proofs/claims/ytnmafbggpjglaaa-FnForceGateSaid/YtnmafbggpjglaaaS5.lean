import Derived.Test.YtnmafbggpjglaaaS4
import Derived.Test.YtnmafbggpjglaaaG5
namespace Go.Proofs.Ytnmafbggpjglaaa
set_option linter.unusedVariables false
set_option linter.unusedSimpArgs false
open Go.RowKit

/-! The law FnForceGate. -/

theorem mapC_nl (c : Cir) (f : Int → Int) : (c.mapC f).next.length = c.next.length := by simp [Cir.mapC]
theorem mapC_gl (c : Cir) (f : Int → Int) : (c.mapC f).gates.length = c.gates.length := by simp [Cir.mapC, mapG]
theorem mapC_ol (c : Cir) (f : Int → Int) : (c.mapC f).outs.length = c.outs.length := by simp [Cir.mapC]

theorem fg_yes_i (v : Value) (c : Cir) (p : Int) (val : Bool) (w : World) (h : CirV w v c) (hok : fgOk c p) :
    Calls Try.prog 36 #[v, .int .i64 p, .bool val] w fun e w' => ∃ s1 c1 s2 c2 s3 c3, e = .returned (.agg #[.int .i64 c.inp, .slice s1 c.next.length c1, .slice s2 c.gates.length c2, .slice s3 c.outs.length c3]) ∧ (Sl w' s1 (ints (c.mapC (forceL p val)).next) ∧ Sl w' s2 (gcells (c.mapC (forceL p val)).gates) ∧ Sl w' s3 (ints (c.mapC (forceL p val)).outs)) ∧ Below w.heap.size w w' :=
  (ForceGate_i v c p val w h).mono fun e w' ⟨vn, vg, vo, he, ho, hb⟩ => by
    rw [fgR_yes hok] at he ho
    obtain ⟨s1, c1, rfl⟩ := own_shape ho.n
    obtain ⟨s2, c2, rfl⟩ := own_shape ho.g
    obtain ⟨s3, c3, rfl⟩ := own_shape ho.o
    have h1 := own_sl ho.n
    have h2 := own_sl ho.g
    have h3 := own_sl ho.o
    rw [mapC_nl, mapC_gl, mapC_ol] at he
    exact ⟨s1, c1, s2, c2, s3, c3, he, ⟨h1, h2, h3⟩, hb⟩
theorem fg_yes_s (v : Value) (c : Cir) (p : Int) (val : Bool) (w : World) (h : CirV w v c) (hok : fgOk c p) :
    Calls Try.prog 38 #[v, .int .i64 p, .bool val] w fun e w' => ∃ s1 c1 s2 c2 s3 c3, e = .returned (.agg #[.int .i64 c.inp, .slice s1 c.next.length c1, .slice s2 c.gates.length c2, .slice s3 c.outs.length c3]) ∧ (Sl w' s1 (ints (c.mapC (forceL p val)).next) ∧ Sl w' s2 (gcells (c.mapC (forceL p val)).gates) ∧ Sl w' s3 (ints (c.mapC (forceL p val)).outs)) ∧ Below w.heap.size w w' :=
  (ForceGate_s v c p val w h).mono fun e w' ⟨vn, vg, vo, he, ho, hb⟩ => by
    rw [fgR_yes hok] at he ho
    obtain ⟨s1, c1, rfl⟩ := own_shape ho.n
    obtain ⟨s2, c2, rfl⟩ := own_shape ho.g
    obtain ⟨s3, c3, rfl⟩ := own_shape ho.o
    have h1 := own_sl ho.n
    have h2 := own_sl ho.g
    have h3 := own_sl ho.o
    rw [mapC_nl, mapC_gl, mapC_ol] at he
    exact ⟨s1, c1, s2, c2, s3, c3, he, ⟨h1, h2, h3⟩, hb⟩
theorem fg_no_i (v : Value) (c : Cir) (p : Int) (val : Bool) (w : World) (h : CirV w v c) (hok : ¬ fgOk c p) :
    Calls Try.prog 36 #[v, .int .i64 p, .bool val] w fun e w' => ∃ s1 c1 s2 c2 s3 c3, e = .returned (.agg #[.int .i64 0, .slice s1 0 c1, .slice s2 0 c2, .slice s3 0 c3]) ∧ Below w.heap.size w w' :=
  (ForceGate_i v c p val w h).mono fun e w' ⟨vn, vg, vo, he, ho, hb⟩ => by
    rw [fgR_no hok] at he ho
    obtain ⟨s1, c1, rfl⟩ := own_shape ho.n
    obtain ⟨s2, c2, rfl⟩ := own_shape ho.g
    obtain ⟨s3, c3, rfl⟩ := own_shape ho.o
    exact ⟨s1, c1, s2, c2, s3, c3, he, hb⟩
theorem fg_no_s (v : Value) (c : Cir) (p : Int) (val : Bool) (w : World) (h : CirV w v c) (hok : ¬ fgOk c p) :
    Calls Try.prog 38 #[v, .int .i64 p, .bool val] w fun e w' => ∃ s1 c1 s2 c2 s3 c3, e = .returned (.agg #[.int .i64 0, .slice s1 0 c1, .slice s2 0 c2, .slice s3 0 c3]) ∧ Below w.heap.size w w' :=
  (ForceGate_s v c p val w h).mono fun e w' ⟨vn, vg, vo, he, ho, hb⟩ => by
    rw [fgR_no hok] at he ho
    obtain ⟨s1, c1, rfl⟩ := own_shape ho.n
    obtain ⟨s2, c2, rfl⟩ := own_shape ho.g
    obtain ⟨s3, c3, rfl⟩ := own_shape ho.o
    exact ⟨s1, c1, s2, c2, s3, c3, he, hb⟩
theorem sameC_zero (sn sg so tn tg to_ : Option Addr) (cn cg co dn dg do_ : Nat) (w : World) :
    Calls Try.prog 37 #[.agg #[.int .i64 0, .slice sn 0 cn, .slice sg 0 cg, .slice so 0 co], .agg #[.int .i64 0, .slice tn 0 dn, .slice tg 0 dg, .slice to_ 0 do_]] w fun e w' => e = .returned (.bool true) ∧ Below w.heap.size w w' :=
  sameCircuit_any ⟨0, [], [], []⟩ 0 sn sg so tn tg to_ cn cg co dn dg do_ w ⟨.inl rfl, .inl rfl, .inl rfl⟩ ⟨.inl rfl, .inl rfl, .inl rfl⟩ (by simp) (by simp) (by simp)
theorem sameC_map (c : Cir) (f : Int → Int) (ni : Int) (sn sg so tn tg to_ : Option Addr) (cn cg co dn dg do_ : Nat) (w : World)
    (h1 : Sl w sn (ints (c.mapC f).next) ∧ Sl w sg (gcells (c.mapC f).gates) ∧ Sl w so (ints (c.mapC f).outs)) (h2 : Sl w tn (ints (c.mapC f).next) ∧ Sl w tg (gcells (c.mapC f).gates) ∧ Sl w to_ (ints (c.mapC f).outs)) (l1 : c.next.length ≤ 1000) (l2 : c.gates.length ≤ 1000) (l3 : c.outs.length ≤ 1000) :
    Calls Try.prog 37 #[.agg #[.int .i64 ni, .slice sn c.next.length cn, .slice sg c.gates.length cg, .slice so c.outs.length co], .agg #[.int .i64 ni, .slice tn c.next.length dn, .slice tg c.gates.length dg, .slice to_ c.outs.length do_]] w fun e w' => e = .returned (.bool true) ∧ Below w.heap.size w w' := by
  have h := sameCircuit_any (c.mapC f) ni sn sg so tn tg to_ cn cg co dn dg do_ w h1 h2 (by rw [mapC_nl]; exact l1) (by rw [mapC_gl]; exact l2) (by rw [mapC_ol]; exact l3)
  rw [mapC_nl, mapC_gl, mapC_ol] at h
  exact h
theorem map_cirV {c : Cir} {f : Int → Int} {ni : Nat} (li : c.inp = ni) {sn sg so : Option Addr} {cn cg co : Nat} {w : World} (h1 : Sl w sn (ints (c.mapC f).next)) (h2 : Sl w sg (gcells (c.mapC f).gates)) (h3 : Sl w so (ints (c.mapC f).outs)) (l1 : c.next.length ≤ 1000) (l2 : c.gates.length ≤ 1000) (l3 : c.outs.length ≤ 1000) :
    CirV w (.agg #[.int .i64 ni, .slice sn c.next.length cn, .slice sg c.gates.length cg, .slice so c.outs.length co]) (c.mapC f) :=
  ⟨sn, cn, sg, cg, so, co, by rw [mapC_nl, mapC_gl, mapC_ol, ← li]; rfl, h1, h2, h3, by rw [mapC_nl]; omega, by rw [mapC_gl]; omega, by rw [mapC_ol]; omega⟩
theorem evl_len {c : Cir} (hv : c.valid) (x st : Int) (val : Bool) : ((evalV c x st val).length : Int) = c.vars := by
  have h1 := evalV_length c x st val
  have h2 := hv.lim.1
  unfold Cir.vars; omega

theorem StepM_any (c : Cir) (p : Int) (val : Bool) (sn sg so ss si : Option Addr) (cn cg co cs ci : Nat) (k : Int) (w : World) (ni : Nat) (li : c.inp = ni)
    (h1 : Sl w sn (ints (c.mapC (forceL p val)).next)) (h2 : Sl w sg (gcells (c.mapC (forceL p val)).gates)) (h3 : Sl w so (ints (c.mapC (forceL p val)).outs)) (hv : c.valid) (hp : c.first ≤ p) (hS : Sl w ss (bools (bitsV (k / 2 ^ ni) c.next.length))) (hI : Sl w si (bools (bitsV k ni))) :
    Calls Try.prog 19 #[.agg #[.int .i64 ni, .slice sn c.next.length cn, .slice sg c.gates.length cg, .slice so c.outs.length co], .slice ss c.next.length cs, .slice si ni ci] w fun e w' => ∃ s1 c1 s2 c2, e = .returned (.agg #[.slice s1 c.outs.length c1, .slice s2 c.next.length c2]) ∧ Sl w' s1 (bools (c.outs.map (litB (evalV c k p val)))) ∧ Sl w' s2 (bools (c.next.map (litB (evalV c k p val)))) ∧ Below w.heap.size w w' := by
  obtain ⟨q1, q2, q3, q4, q5⟩ := id hv.lim
  obtain ⟨f1, f2, f3, f4⟩ := valid_first hv
  have hvm := mapC_valid (val := val) hv (show 0 ≤ p by omega)
  have li2 : (c.mapC (forceL p val)).inp = ni := li
  have hcv := map_cirV (f := forceL p val) li h1 h2 h3 (cn := cn) (cg := cg) (co := co) (by omega) (by omega) (by omega)
  have e1 := evalV_eq (c.mapC (forceL p val)) k ni li2
  have hh := Step_any (c.mapC (forceL p val)) sn sg so ss si cn cg co cs ci (bitsV (k / 2 ^ ni) (c.mapC (forceL p val)).next.length) (bitsV k ni) w ni li2 (by rw [li2, mapC_nl, mapC_gl, mapC_ol]; exact hcv) h1 h2 h3 hvm (by rw [mapC_nl]; exact hS) hI (bitsV_length _ _) (bitsV_length _ _) (evalV (c.mapC (forceL p val)) k (-1) false) e1.symm (evl_len hvm _ _ _)
  have m1 := force_map (val := val) hv hp k c.outs hv.outs
  have m2 := force_map (val := val) hv hp k c.next hv.next
  rw [mapC_nl, mapC_gl, mapC_ol] at hh
  refine hh.mono ?_
  rintro e w' ⟨s1, c1, s2, c2, rfl, a1, a2, a3⟩
  refine ⟨s1, c1, s2, c2, rfl, ?_, ?_, a3⟩
  · rw [← m1]; exact a1
  · rw [← m2]; exact a2

/-- What stays of the circuit and of the forced one. -/
structure FgW (C : Cir) (f : Int → Int) (ni : Nat) (sn sg so s1 s2 s3 : Option Addr) (cn cg co c1 c2 c3 B D : Nat) (W : World) : Prop where
  cv : CirV W (.agg #[.int .i64 ni, .slice sn C.next.length cn, .slice sg C.gates.length cg, .slice so C.outs.length co]) C
  an : Sl W sn (ints C.next)
  ag : Sl W sg (gcells C.gates)
  ao : Sl W so (ints C.outs)
  xn : Sl W s1 (ints (C.mapC f).next)
  xg : Sl W s2 (gcells (C.mapC f).gates)
  xo : Sl W s3 (ints (C.mapC f).outs)
  cb : ∀ o, W.cell? ⟨B, o, none⟩ = #[Value.int .i64 ni, .slice sn C.next.length cn, .slice sg C.gates.length cg, .slice so C.outs.length co][o]?
  cd : ∀ o, W.cell? ⟨D, o, none⟩ = #[Value.int .i64 ni, .slice s1 C.next.length c1, .slice s2 C.gates.length c2, .slice s3 C.outs.length c3][o]?
theorem FgW.ss {C : Cir} {f : Int → Int} {ni : Nat} {sn sg so s1 s2 s3 : Option Addr} {cn cg co c1 c2 c3 B D : Nat} {W : World} (h : FgW C f ni sn sg so s1 s2 s3 cn cg co c1 c2 c3 B D W) : (∀ o, W.cell? ⟨B, o, none⟩ = #[Value.int .i64 ni, .slice sn C.next.length cn, .slice sg C.gates.length cg, .slice so C.outs.length co][o]?) ∧ (∀ o, W.cell? ⟨D, o, none⟩ = #[Value.int .i64 ni, .slice s1 C.next.length c1, .slice s2 C.gates.length c2, .slice s3 C.outs.length c3][o]?) := ⟨h.cb, h.cd⟩

set_option maxRecDepth 100000 in
set_option maxHeartbeats 6400000 in
theorem FnForceGate_any (s : Option Addr) (cap : Nat) (xs : List Int) (w : World) (hs : Sl w s (u8s xs)) (hl : xs.length ≤ 9223372036854775807) (hcap : xs.length ≤ cap) (hcap2 : cap ≤ 9223372036854775807) (hr : ∀ x ∈ xs, 0 ≤ x ∧ x ≤ 255) :
    Calls Try.prog 7 #[.slice s xs.length cap] w fun e w' => e = .returned (.bool true) ∧ Below w.heap.size w w' := by
  by_cases hc : xs.length ≤ 1048576
  · have HD := Lib.hid (DrawForceGate_any s cap xs w hs hc hcap hcap2 hr)
    clear hs hr
    go_enter Try.func7, Try.ntmps7
    go_upto_region 4 with (go_at_call 35; (with_reducible refine HD.out.mono ?_); rintro e w1 ⟨C, i, val, vn, vg, vo, rfl, h1, h2, h3, h4⟩; obtain ⟨sn, cn, rfl⟩ := own_shape h1.n; obtain ⟨sg, cg, rfl⟩ := own_shape h1.g; obtain ⟨so, co, rfl⟩ := own_shape h1.o; have H1 := Lib.hid (And.intro h1 h4); obtain ⟨l1, l2, l3, l4, l5⟩ := h2; obtain ⟨i1, i2⟩ := h3; clear h1 h4)
    obtain ⟨B, hB⟩ : ∃ B, B = w1.heap.size := ⟨_, rfl⟩
    have hk := blk_new w1 (.cells #[.int .i64 C.inp, .slice sn C.next.length cn, .slice sg C.gates.length cg, .slice so C.outs.length co] 26)
    have hbb := below_alloc w1 (.cells #[.int .i64 C.inp, .slice sn C.next.length cn, .slice sg C.gates.length cg, .slice so C.outs.length co] 26)
    have hV : CirV (w1.alloc (.cells #[.int .i64 C.inp, .slice sn C.next.length cn, .slice sg C.gates.length cg, .slice so C.outs.length co] 26)) (.agg #[.int .i64 C.inp, .slice sn C.next.length cn, .slice sg C.gates.length cg, .slice so C.outs.length co]) C :=
      ⟨_, _, _, _, _, _, rfl, own_sl (own_below H1.out.1.n hbb), own_sl (own_below H1.out.1.g hbb), own_sl (own_below H1.out.1.o hbb), by omega, by omega, by omega⟩
    have hns := own_sl (own_below H1.out.1.n hbb)
    have hgs := own_sl (own_below H1.out.1.g hbb)
    have hos := own_sl (own_below H1.out.1.o hbb)
    have hbw := H1.out.2.trans (hbb.mono H1.out.2.size)
    rw [← hB] at hk
    rw [← hB]
    clear hbb hB H1
    revert hV hns hgs hos hbw hk
    generalize w1.alloc (.cells #[.int .i64 C.inp, .slice sn C.next.length cn, .slice sg C.gates.length cg, .slice so C.outs.length co] 26) = W1
    intro hk hV hns hgs hos hbw
    have hVV : C.vars = 1 + C.inp + C.next.length + C.gates.length := by unfold Cir.vars; rfl
    have eF : C.first = 1 + C.inp + C.next.length := rfl
    obtain ⟨VV, hVe⟩ : ∃ VV, VV = C.vars := ⟨_, rfl⟩
    have HW := Lib.hid hbw
    by_cases hok : fgOk C i
    · obtain ⟨hvB, hF1, hF2⟩ := id hok
      have hval := C.validB_iff.1 hvB
      obtain ⟨q1, q2, q3, q4, q5⟩ := id hval.lim
      obtain ⟨n1, n2⟩ := asgN_le2 hval
      obtain ⟨ni, hni⟩ : ∃ ni : Nat, C.inp = ni := ⟨C.inp.toNat, by omega⟩
      obtain ⟨N, hN⟩ : ∃ N, N = asgN C := ⟨_, rfl⟩
      rw [← hN] at n1 n2
      have n4 : ni ≤ 4 := by omega
      have hwp : wrap64 (2 ^ (ni + C.next.length)) = (N : Int) := by rw [wrap_pow (by omega), hN]; unfold asgN; rw [hni]; simp
      have hto : ((ni : Int) + (C.next.length : Int)).toNat = ni + C.next.length := by omega
      have hF0 : 1 + (ni : Int) + C.next.length ≤ i := by omega
      have hiV : i < VV := by omega
      have hi60 : i ≤ 60 := by omega
      have HX := Lib.hid (And.intro hval (And.intro hni (And.intro hok (And.intro hN (And.intro hvB (And.intro hVe hF1))))))
      rw [hni] at hV hk ⊢
      have HC1 : Hid (∀ W, Below W1.heap.size W1 W → CirV W (.agg #[.int .i64 ni, .slice sn C.next.length cn, .slice sg C.gates.length cg, .slice so C.outs.length co]) C ∧ Sl W sn (ints C.next) ∧ Sl W sg (gcells C.gates) ∧ Sl W so (ints C.outs) ∧ (∀ o, W.cell? ⟨B, o, none⟩ = #[Value.int .i64 ni, .slice sn C.next.length cn, .slice sg C.gates.length cg, .slice so C.outs.length co][o]?)) := fun W hW => ⟨hV.mono hW, hns.mono hW, hgs.mono hW, hos.mono hW, (blk_all (blk_below hW (blk_lt hk) hk)).1⟩
      have cb := (HC1.out _ (Below.refl _ _)).2.2.2.2
      clear hV hns hgs hos hk hbw hok hval q1 q2 hni hN hvB hF1 hF2 hVV eF hVe l1 l2
      go_upto_region 5 with (go_at_call 36; ((with_reducible refine (fg_yes_i _ _ _ _ _ (HC1.out _ (Below.refl _ _)).1 HX.out.2.2.1).mono ?_); rintro e w2 ⟨s1, c1, s2, c2, s3, c3, rfl, h1, hq⟩; rw [HX.out.2.1]; have H2 := Lib.hid (And.intro h1 hq); clear h1 hq cb))
      obtain ⟨D, hD⟩ : ∃ D, D = w2.heap.size := ⟨_, rfl⟩
      have hk := blk_new w2 (.cells #[.int .i64 ni, .slice s1 C.next.length c1, .slice s2 C.gates.length c2, .slice s3 C.outs.length c3] 26)
      have hbb := below_alloc w2 (.cells #[.int .i64 ni, .slice s1 C.next.length c1, .slice s2 C.gates.length c2, .slice s3 C.outs.length c3] 26)
      rw [← hD] at hk
      rw [← hD]
      clear hD
      have hx1 := H2.out.1.1.mono hbb
      have hx2 := H2.out.1.2.1.mono hbb
      have hx3 := H2.out.1.2.2.mono hbb
      have hbl := H2.out.2.trans (hbb.mono H2.out.2.size)
      clear hbb H2
      revert hk hx1 hx2 hx3 hbl
      generalize w2.alloc (.cells #[.int .i64 ni, .slice s1 C.next.length c1, .slice s2 C.gates.length c2, .slice s3 C.outs.length c3] 26) = W2
      intro hk hx1 hx2 hx3 hbl
      obtain ⟨f, hf⟩ : ∃ f, f = forceL i val := ⟨_, rfl⟩
      rw [← hf] at hx1 hx2 hx3
      have HC : Hid (∀ W, Below W2.heap.size W2 W → FgW C f ni sn sg so s1 s2 s3 cn cg co c1 c2 c3 B D W) := fun W hW => by
        obtain ⟨a1, a2, a3, a4, a5⟩ := HC1.out W (hbl.trans (hW.mono hbl.size))
        exact ⟨a1, a2, a3, a4, hx1.mono hW, hx2.mono hW, hx3.mono hW, a5, (blk_all (blk_below hW (blk_lt hk) hk)).1⟩
      have HF := Lib.hid (And.intro hf hbl)
      clear hk hx1 hx2 hx3 hbl hf
      refine wp_region_T (fun w' => (∀ o, w'.cell? ⟨B, o, none⟩ = #[Value.int .i64 ni, .slice sn C.next.length cn, .slice sg C.gates.length cg, .slice so C.outs.length co][o]?) ∧ (∀ o, w'.cell? ⟨D, o, none⟩ = #[Value.int .i64 ni, .slice s1 C.next.length c1, .slice s2 C.gates.length c2, .slice s3 C.outs.length c3][o]?)) (.q 0 (.q 1 (.q 2 (.q 3 (.e 4 (.e 5 (.q 6 .nil))))))) (by kernel_rfl) (by kernel_rfl) (by kernel_rfl) (HC.out _ (Below.refl _ _).drew).ss ?_
      repeat (first | (refine ordt_s (o := ?_) ?_ ?_ ?_; rotate_left 1; (focus ((simp only [List.getElem?_toArray, List.getElem?_cons_succ, List.getElem?_cons_zero]) <;> rfl)); (focus rfl); simp only [Act.put, List.setIfInBounds_toArray, List.set_cons_zero, List.set_cons_succ]) | (refine ordt_q (o := ?_) (v := ?_) ?_ ?_ ?_ ?_; rotate_left 2; (focus ((simp only [List.getElem?_toArray, List.getElem?_cons_succ, List.getElem?_cons_zero]) <;> rfl)); (focus rfl); (focus (intro w' hS; (try dsimp only at hS); go_split_ands; go_simp; (try (with_reducible rfl)))); simp only [Act.put, List.setIfInBounds_toArray, List.set_cons_zero, List.set_cons_succ]))
      refine ordt_e ?_
      (refine op_e (o := ?_) ?_ ?_ (fun K hK => ?_); rotate_left 1; (focus ((simp only [List.getElem?_toArray, List.getElem?_cons_succ, List.getElem?_cons_zero]) <;> rfl)); (focus rfl); go_simp)
      refine (fg_yes_s _ _ _ _ _ (HC.out _ (Below.refl _ _).drew).cv HX.out.2.2.1).mono ?_
      rintro e wa ⟨t1, d1, t2, d2, t3, d3, rfl, h1, hq⟩
      rw [HX.out.2.1]
      have hba : Below W2.heap.size W2 wa := (Below.refl _ _).drew.trans hq
      refine hK.out _ _ (HC.out _ hba).ss ?_
      clear hK K hq
      rw [← HF.out.1] at h1
      have HA := Lib.hid (And.intro h1 hba)
      clear h1 hba
      (try simp only [Act.put, List.setIfInBounds_toArray, List.set_cons_zero, List.set_cons_succ])
      refine ordt_e ?_
      (refine op_e (o := ?_) ?_ ?_ (fun K hK => ?_); rotate_left 1; (focus ((simp only [List.getElem?_toArray, List.getElem?_cons_succ, List.getElem?_cons_zero]) <;> rfl)); (focus rfl); go_simp)
      refine (sameC_map C f ni s1 s2 s3 t1 t2 t3 c1 c2 c3 d1 d2 d3 _ ⟨(HC.out _ HA.out.2).xn, (HC.out _ HA.out.2).xg, (HC.out _ HA.out.2).xo⟩ HA.out.1 (by omega) (by omega) (by omega)).mono ?_
      rintro e w4 ⟨rfl, hq⟩
      have hb4 := HA.out.2.trans (hq.mono HA.out.2.size)
      refine hK.out _ _ (HC.out _ hb4).ss ?_
      clear hK K hq
      have H5 := Lib.hid hb4
      clear hb4 HA
      (try simp only [Act.put, List.setIfInBounds_toArray, List.set_cons_zero, List.set_cons_succ])
      repeat (first | (refine ordt_s (o := ?_) ?_ ?_ ?_; rotate_left 1; (focus ((simp only [List.getElem?_toArray, List.getElem?_cons_succ, List.getElem?_cons_zero]) <;> rfl)); (focus rfl); simp only [Act.put, List.setIfInBounds_toArray, List.set_cons_zero, List.set_cons_succ]) | (refine ordt_q (o := ?_) (v := ?_) ?_ ?_ ?_ ?_; rotate_left 2; (focus ((simp only [List.getElem?_toArray, List.getElem?_cons_succ, List.getElem?_cons_zero]) <;> rfl)); (focus rfl); (focus (intro w' hS; (try dsimp only at hS); go_split_ands; go_simp; (try (with_reducible rfl)))); simp only [Act.put, List.setIfInBounds_toArray, List.set_cons_zero, List.set_cons_succ]))
      refine ordt_nil ?_
      have cb := (HC.out _ H5.out).cb
      have cd := (HC.out _ H5.out).cd
      go_upto_region 10 with (first
        | (go_at_call 17; ((with_reducible refine (CircuitValid_s _ C _ (HC.out _ H5.out).cv).mono ?_); rintro e w5 ⟨rfl, hq⟩; rw [HX.out.2.2.2.2.1]; have H5 := Lib.hid (H5.out.trans (hq.mono H5.out.size)); clear hq cb cd; have cb := (HC.out _ H5.out).cb; have cd := (HC.out _ H5.out).cd))
        | (go_at_call 25; ((with_reducible refine (VarCount_any _ C _ (HC.out _ H5.out).cv HX.out.2.2.2.2.1).mono ?_); rintro e w6 ⟨rfl, hq⟩; rw [← HX.out.2.2.2.2.2.1]; have H5 := Lib.hid (H5.out.trans (hq.mono H5.out.size)); clear hq cb cd; have cb := (HC.out _ H5.out).cb; have cd := (HC.out _ H5.out).cd)))
      clear cb cd
      go_loopw [7] (fun v7 wr => ∃ k : Nat, k ≤ N ∧ v7 = .int .i64 k ∧ Below W2.heap.size W2 wr) (fun v7 _ => N - (intOf v7).toNat)
      case atStart => exact ⟨0, Nat.zero_le _, rfl, H5.out⟩
      case round =>
        obtain ⟨k, hk, rfl, hbl⟩ := hrel
        have HR := Lib.hid hbl
        have cb := (HC.out _ hbl).cb
        clear hbl
        by_cases hlt : k < N
        · have k1000 : (k : Int) ≤ 1000 := Int.ofNat_le.2 (show k ≤ 1000 from Nat.le_trans (Nat.le_of_lt hlt) (Nat.le_trans n2 (by decide)))
          have hpw : (1 : Int) ≤ 2 ^ ni := by have : (0 : Int) < 2 ^ ni := Int.pow_pos (by decide); omega
          have x1 : 0 ≤ (k : Int) / 2 ^ ni := Int.ediv_nonneg (Int.natCast_nonneg k) (by omega)
          have x2 : (k : Int) / 2 ^ ni ≤ 1000 := Int.le_trans (Int.ediv_le_self _ (Int.natCast_nonneg k)) k1000
          obtain ⟨O1, hO1⟩ : ∃ O, O = C.outs.map (litB (evalV C (k : Int) (-1) false)) := ⟨_, rfl⟩
          obtain ⟨N1, hN1⟩ : ∃ O, O = C.next.map (litB (evalV C (k : Int) (-1) false)) := ⟨_, rfl⟩
          obtain ⟨O2, hO2⟩ : ∃ O, O = C.outs.map (litB (evalV C (k : Int) i val)) := ⟨_, rfl⟩
          obtain ⟨N2, hN2⟩ : ∃ O, O = C.next.map (litB (evalV C (k : Int) i val)) := ⟨_, rfl⟩
          have HSTC : Hid (∀ W sa ca sb cb', Below W2.heap.size W2 W → Sl W sa (bools (bitsV ((k : Int) / 2 ^ ni) C.next.length)) → Sl W sb (bools (bitsV (k : Int) ni)) → Calls Try.prog 19 #[.agg #[.int .i64 ni, .slice sn C.next.length cn, .slice sg C.gates.length cg, .slice so C.outs.length co], .slice sa C.next.length ca, .slice sb ni cb'] W fun e w' => ∃ t1 d1 t2 d2, e = .returned (.agg #[.slice t1 C.outs.length d1, .slice t2 C.next.length d2]) ∧ Sl w' t1 (bools O1) ∧ Sl w' t2 (bools N1) ∧ Below W.heap.size W w') := fun W sa ca sb cb' hW h1 h2 => by
            have q := HC.out _ hW
            rw [hO1, hN1]
            exact Step_any C sn sg so sa sb cn cg co ca cb' _ _ W ni HX.out.2.1 (by rw [HX.out.2.1]; exact q.cv) q.an q.ag q.ao HX.out.1 h1 h2 (bitsV_length _ _) (bitsV_length _ _) (evalV C (k : Int) (-1) false) (evalV_eq C (k : Int) ni HX.out.2.1).symm (evl_len HX.out.1 _ _ _)
          have HSTX : Hid (∀ W sa ca sb cb', Below W2.heap.size W2 W → Sl W sa (bools (bitsV ((k : Int) / 2 ^ ni) C.next.length)) → Sl W sb (bools (bitsV (k : Int) ni)) → Calls Try.prog 19 #[.agg #[.int .i64 ni, .slice s1 C.next.length c1, .slice s2 C.gates.length c2, .slice s3 C.outs.length c3], .slice sa C.next.length ca, .slice sb ni cb'] W fun e w' => ∃ t1 d1 t2 d2, e = .returned (.agg #[.slice t1 C.outs.length d1, .slice t2 C.next.length d2]) ∧ Sl w' t1 (bools O2) ∧ Sl w' t2 (bools N2) ∧ Below W.heap.size W w') := fun W sa ca sb cb' hW h1 h2 => by
            have q := HC.out _ hW
            have hxn := q.xn
            have hxg := q.xg
            have hxo := q.xo
            rw [HF.out.1] at hxn hxg hxo
            rw [hO2, hN2]
            exact StepM_any C i val s1 s2 s3 sa sb c1 c2 c3 ca cb' (k : Int) W ni HX.out.2.1 hxn hxg hxo HX.out.1 HX.out.2.2.2.2.2.2 h1 h2
          have hdet := det_split C i val (k : Int)
          rw [← hO1, ← hO2, ← hN1, ← hN2] at hdet
          obtain ⟨A1, hA1⟩ : ∃ A, A = decide (O1 = O2) := ⟨_, rfl⟩
          obtain ⟨A2, hA2⟩ : ∃ A, A = decide (N1 = N2) := ⟨_, rfl⟩
          rw [← hA1, ← hA2] at hdet
          have HA1 := Lib.hid hA1
          have HA2 := Lib.hid hA2
          have HDet := Lib.hid hdet
          have HLn := Lib.hid (And.intro (show O1.length = C.outs.length by rw [hO1]; simp) (And.intro (show O2.length = C.outs.length by rw [hO2]; simp) (And.intro (show N1.length = C.next.length by rw [hN1]; simp) (show N2.length = C.next.length by rw [hN2]; simp))))
          clear hO1 hN1 hO2 hN2 hA1 hA2 hdet hpw
          go_upto_region 12 with fail
          clear cb hwp hto
          go_cut [8] from 68 to 81 (fun s8 wx => ∃ b t1 d1 t2 d2, s8 = .pointer (some ⟨b, 0, none⟩) ∧ wx.heap[b]? = some (.cells #[.slice t1 C.outs.length d1, .slice t2 C.next.length d2] 41 (0, 0)) ∧ Sl wx t1 (bools O1) ∧ Sl wx t2 (bools N1) ∧ Below wr.heap.size wr wx)
          case first =>
            refine wp_region_T (fun w' => (∀ o, w'.cell? ⟨B, o, none⟩ = #[Value.int .i64 ni, .slice sn C.next.length cn, .slice sg C.gates.length cg, .slice so C.outs.length co][o]?) ∧ (∀ o, w'.cell? ⟨D, o, none⟩ = #[Value.int .i64 ni, .slice s1 C.next.length c1, .slice s2 C.gates.length c2, .slice s3 C.outs.length c3][o]?)) (.q 0 (.q 1 (.q 2 (.q 3 (.q 4 (.q 5 (.q 6 (.q 7 (.q 9 (.q 10 (.q 11 (.two 8 (.two 12 (.two 13 (.e 14 (.e 15 .nil)) 14 (.e 13 (.e 15 .nil))) 14 (.e 12 (.e 13 (.e 15 .nil)))) 14 (.e 8 (.e 12 (.e 13 (.e 15 .nil)))))))))))))))) (by kernel_rfl) (by kernel_rfl) (by kernel_rfl) (HC.out _ HR.out.drew).ss ?_
            have hbz : Below wr.heap.size wr wr.drew := (Below.refl _ _).drew
            revert hbz
            generalize wr.drew = wC0
            intro hbz
            repeat (first | (refine ordt_s (o := ?_) ?_ ?_ ?_; rotate_left 1; (focus ((simp only [List.getElem?_toArray, List.getElem?_cons_succ, List.getElem?_cons_zero]) <;> rfl)); (focus rfl); simp only [Act.put, List.setIfInBounds_toArray, List.set_cons_zero, List.set_cons_succ]) | (refine ordt_q (o := ?_) (v := ?_) ?_ ?_ ?_ ?_; rotate_left 2; (focus ((simp only [List.getElem?_toArray, List.getElem?_cons_succ, List.getElem?_cons_zero]) <;> rfl)); (focus rfl); (focus (intro w' hS; (try dsimp only at hS); go_split_ands; go_simp; (try (with_reducible rfl)))); simp only [Act.put, List.setIfInBounds_toArray, List.set_cons_zero, List.set_cons_succ]))
            refine ordt_two ?_ ?_
            · (refine op_e (o := ?_) ?_ ?_ (fun K hK => ?_); rotate_left 1; (focus ((simp only [List.getElem?_toArray, List.getElem?_cons_succ, List.getElem?_cons_zero]) <;> rfl)); (focus rfl); go_simp)
              refine (bitsL_any ((k : Int) / 2 ^ ni) C.next.length _ x1 (by omega) (by omega)).mono ?_
              rintro e wC1 ⟨sa, ca, rfl, h1, hq⟩
              have hbz := hbz.trans (hq.mono hbz.size)
              refine hK.out _ _ (HC.out _ (HR.out.trans (hbz.mono HR.out.size))).ss ?_
              clear hK K hq
              have HH := Lib.hid (And.intro hbz h1)
              clear hbz h1
              (try simp only [Act.put, List.setIfInBounds_toArray, List.set_cons_zero, List.set_cons_succ])
              skip
              obtain ⟨hbz, h1⟩ := HH.out
              clear HH
              refine ordt_two ?_ ?_
              · (refine op_e (o := ?_) ?_ ?_ (fun K hK => ?_); rotate_left 1; (focus ((simp only [List.getElem?_toArray, List.getElem?_cons_succ, List.getElem?_cons_zero]) <;> rfl)); (focus rfl); go_simp)
                refine (bitsL_any (k : Int) ni _ (Int.natCast_nonneg k) (by omega) (by omega)).mono ?_
                rintro e wC2 ⟨sb, cb2, rfl, h2, hq⟩
                have h1 := h1.mono hq
                have hbz := hbz.trans (hq.mono hbz.size)
                refine hK.out _ _ (HC.out _ (HR.out.trans (hbz.mono HR.out.size))).ss ?_
                clear hK K hq
                have HH := Lib.hid (And.intro hbz (And.intro h1 h2))
                clear hbz h1 h2
                (try simp only [Act.put, List.setIfInBounds_toArray, List.set_cons_zero, List.set_cons_succ])
                skip
                obtain ⟨hbz, h1, h2⟩ := HH.out
                clear HH
                refine ordt_two ?_ ?_
                · (refine op_e (o := ?_) ?_ ?_ (fun K hK => ?_); rotate_left 1; (focus ((simp only [List.getElem?_toArray, List.getElem?_cons_succ, List.getElem?_cons_zero]) <;> rfl)); (focus rfl); go_simp)
                  refine (HSTC.out _ _ _ _ _ (HR.out.trans (hbz.mono HR.out.size)) h1 h2).mono ?_
                  rintro e wC3 ⟨t1, d1, t2, d2, rfl, h3, h4, hq⟩
                  have hbz := hbz.trans (hq.mono hbz.size)
                  refine hK.out _ _ (HC.out _ (HR.out.trans (hbz.mono HR.out.size))).ss ?_
                  clear hK K hq
                  have HH := Lib.hid (And.intro hbz (And.intro h3 h4))
                  clear hbz h3 h4
                  (try simp only [Act.put, List.setIfInBounds_toArray, List.set_cons_zero, List.set_cons_succ])
                  skip
                  obtain ⟨hbz, h3, h4⟩ := HH.out
                  clear HH
                  refine ordt_e ?_
                  (refine op_e (o := ?_) ?_ ?_ (fun K hK => ?_); rotate_left 1; (focus ((simp only [List.getElem?_toArray, List.getElem?_cons_succ, List.getElem?_cons_zero]) <;> rfl)); (focus rfl); go_simp)
                  obtain ⟨b, hbq⟩ : ∃ b, b = wC3.heap.size := ⟨_, rfl⟩
                  have hbge : wr.heap.size ≤ b := by rw [hbq]; exact hbz.size
                  have hq := below_alloc wC3 (.cells #[.slice none 0 0, .slice none 0 0] 41)
                  have hk0 := blk_new wC3 (.cells #[.slice none 0 0, .slice none 0 0] 41)
                  rw [← hbq] at hk0
                  rw [← hbq]
                  clear hbq
                  revert hq hk0
                  generalize wC3.alloc (.cells #[.slice none 0 0, .slice none 0 0] 41) = wC4
                  intro hq hk0
                  have h3 := h3.mono hq
                  have h4 := h4.mono hq
                  have hbz := hbz.trans (hq.mono hbz.size)
                  refine hK.out _ _ (HC.out _ (HR.out.trans (hbz.mono HR.out.size))).ss ?_
                  clear hK K hq
                  have HH := Lib.hid (And.intro hbz (And.intro h3 (And.intro h4 hk0)))
                  clear hbz h3 h4 hk0
                  (try simp only [Act.put, List.setIfInBounds_toArray, List.set_cons_zero, List.set_cons_succ])
                  skip
                  obtain ⟨hbz, h3, h4, hk0⟩ := HH.out
                  clear HH
                  obtain ⟨rc, rf⟩ := blk_all hk0
                  refine ordt_e ?_
                  (refine op_e (o := ?_) ?_ ?_ (fun K hK => ?_); rotate_left 1; (focus ((simp only [List.getElem?_toArray, List.getElem?_cons_succ, List.getElem?_cons_zero]) <;> rfl)); (focus rfl); go_simp)
                  have hU : Upd b wC4 ((wC4.setCell ⟨b, 0, none⟩ (.slice t1 C.outs.length d1)).setCell ⟨b, 1, none⟩ (.slice t2 C.next.length d2)) := (Upd.set _ _ _ _).trans (Upd.set _ _ _ _)
                  have hZ : ((wC4.setCell ⟨b, 0, none⟩ (.slice t1 C.outs.length d1)).setCell ⟨b, 1, none⟩ (.slice t2 C.next.length d2)).heap[b]? = some (.cells #[.slice t1 C.outs.length d1, .slice t2 C.next.length d2] 41 (0, 0)) := by
                    simpa using blk_set (o := 1) (v := .slice t2 C.next.length d2) (blk_set (o := 0) (v := .slice t1 C.outs.length d1) hk0)
                  have hs1 := h3.updB hU hk0
                  have hs2 := h4.updB hU hk0
                  have hbw : Below wr.heap.size wr ((wC4.setCell ⟨b, 0, none⟩ (.slice t1 C.outs.length d1)).setCell ⟨b, 1, none⟩ (.slice t2 C.next.length d2)) := (hbz.setCell (p := ⟨b, 0, none⟩) hbge _).setCell (p := ⟨b, 1, none⟩) hbge _
                  refine hK.out _ _ (HC.out _ (HR.out.trans (hbw.mono HR.out.size))).ss ?_
                  clear hK K
                  (try simp only [Act.put, List.setIfInBounds_toArray, List.set_cons_zero, List.set_cons_succ])
                  refine ordt_nil ?_
                  have HF := Lib.hid (And.intro hZ (And.intro hs1 (And.intro hs2 hbw)))
                  clear hZ hs1 hs2 hbw hU rc rf hk0 h3 h4 hbz
                  go_wp2_with fail
                  go_meet
                  exact ⟨b, t1, d1, t2, d2, rfl, HF.out⟩
                · (refine op_e (o := ?_) ?_ ?_ (fun K hK => ?_); rotate_left 1; (focus ((simp only [List.getElem?_toArray, List.getElem?_cons_succ, List.getElem?_cons_zero]) <;> rfl)); (focus rfl); go_simp)
                  obtain ⟨b, hbq⟩ : ∃ b, b = wC2.heap.size := ⟨_, rfl⟩
                  have hbge : wr.heap.size ≤ b := by rw [hbq]; exact hbz.size
                  have hq := below_alloc wC2 (.cells #[.slice none 0 0, .slice none 0 0] 41)
                  have hk0 := blk_new wC2 (.cells #[.slice none 0 0, .slice none 0 0] 41)
                  rw [← hbq] at hk0
                  rw [← hbq]
                  clear hbq
                  revert hq hk0
                  generalize wC2.alloc (.cells #[.slice none 0 0, .slice none 0 0] 41) = wC3
                  intro hq hk0
                  have h1 := h1.mono hq
                  have h2 := h2.mono hq
                  have hbz := hbz.trans (hq.mono hbz.size)
                  refine hK.out _ _ (HC.out _ (HR.out.trans (hbz.mono HR.out.size))).ss ?_
                  clear hK K hq
                  have HH := Lib.hid (And.intro hbz (And.intro h1 (And.intro h2 hk0)))
                  clear hbz h1 h2 hk0
                  (try simp only [Act.put, List.setIfInBounds_toArray, List.set_cons_zero, List.set_cons_succ])
                  skip
                  obtain ⟨hbz, h1, h2, hk0⟩ := HH.out
                  clear HH
                  refine ordt_e ?_
                  (refine op_e (o := ?_) ?_ ?_ (fun K hK => ?_); rotate_left 1; (focus ((simp only [List.getElem?_toArray, List.getElem?_cons_succ, List.getElem?_cons_zero]) <;> rfl)); (focus rfl); go_simp)
                  refine (HSTC.out _ _ _ _ _ (HR.out.trans (hbz.mono HR.out.size)) h1 h2).mono ?_
                  rintro e wC4 ⟨t1, d1, t2, d2, rfl, h3, h4, hq⟩
                  have hk0 := blk_below hq (blk_lt hk0) hk0
                  have hbz := hbz.trans (hq.mono hbz.size)
                  refine hK.out _ _ (HC.out _ (HR.out.trans (hbz.mono HR.out.size))).ss ?_
                  clear hK K hq
                  have HH := Lib.hid (And.intro hbz (And.intro hk0 (And.intro h3 h4)))
                  clear hbz hk0 h3 h4
                  (try simp only [Act.put, List.setIfInBounds_toArray, List.set_cons_zero, List.set_cons_succ])
                  skip
                  obtain ⟨hbz, hk0, h3, h4⟩ := HH.out
                  clear HH
                  obtain ⟨rc, rf⟩ := blk_all hk0
                  refine ordt_e ?_
                  (refine op_e (o := ?_) ?_ ?_ (fun K hK => ?_); rotate_left 1; (focus ((simp only [List.getElem?_toArray, List.getElem?_cons_succ, List.getElem?_cons_zero]) <;> rfl)); (focus rfl); go_simp)
                  have hU : Upd b wC4 ((wC4.setCell ⟨b, 0, none⟩ (.slice t1 C.outs.length d1)).setCell ⟨b, 1, none⟩ (.slice t2 C.next.length d2)) := (Upd.set _ _ _ _).trans (Upd.set _ _ _ _)
                  have hZ : ((wC4.setCell ⟨b, 0, none⟩ (.slice t1 C.outs.length d1)).setCell ⟨b, 1, none⟩ (.slice t2 C.next.length d2)).heap[b]? = some (.cells #[.slice t1 C.outs.length d1, .slice t2 C.next.length d2] 41 (0, 0)) := by
                    simpa using blk_set (o := 1) (v := .slice t2 C.next.length d2) (blk_set (o := 0) (v := .slice t1 C.outs.length d1) hk0)
                  have hs1 := h3.updB hU hk0
                  have hs2 := h4.updB hU hk0
                  have hbw : Below wr.heap.size wr ((wC4.setCell ⟨b, 0, none⟩ (.slice t1 C.outs.length d1)).setCell ⟨b, 1, none⟩ (.slice t2 C.next.length d2)) := (hbz.setCell (p := ⟨b, 0, none⟩) hbge _).setCell (p := ⟨b, 1, none⟩) hbge _
                  refine hK.out _ _ (HC.out _ (HR.out.trans (hbw.mono HR.out.size))).ss ?_
                  clear hK K
                  (try simp only [Act.put, List.setIfInBounds_toArray, List.set_cons_zero, List.set_cons_succ])
                  refine ordt_nil ?_
                  have HF := Lib.hid (And.intro hZ (And.intro hs1 (And.intro hs2 hbw)))
                  clear hZ hs1 hs2 hbw hU rc rf hk0 h3 h4 hbz
                  go_wp2_with fail
                  go_meet
                  exact ⟨b, t1, d1, t2, d2, rfl, HF.out⟩
              · (refine op_e (o := ?_) ?_ ?_ (fun K hK => ?_); rotate_left 1; (focus ((simp only [List.getElem?_toArray, List.getElem?_cons_succ, List.getElem?_cons_zero]) <;> rfl)); (focus rfl); go_simp)
                obtain ⟨b, hbq⟩ : ∃ b, b = wC1.heap.size := ⟨_, rfl⟩
                have hbge : wr.heap.size ≤ b := by rw [hbq]; exact hbz.size
                have hq := below_alloc wC1 (.cells #[.slice none 0 0, .slice none 0 0] 41)
                have hk0 := blk_new wC1 (.cells #[.slice none 0 0, .slice none 0 0] 41)
                rw [← hbq] at hk0
                rw [← hbq]
                clear hbq
                revert hq hk0
                generalize wC1.alloc (.cells #[.slice none 0 0, .slice none 0 0] 41) = wC2
                intro hq hk0
                have h1 := h1.mono hq
                have hbz := hbz.trans (hq.mono hbz.size)
                refine hK.out _ _ (HC.out _ (HR.out.trans (hbz.mono HR.out.size))).ss ?_
                clear hK K hq
                have HH := Lib.hid (And.intro hbz (And.intro h1 hk0))
                clear hbz h1 hk0
                (try simp only [Act.put, List.setIfInBounds_toArray, List.set_cons_zero, List.set_cons_succ])
                skip
                obtain ⟨hbz, h1, hk0⟩ := HH.out
                clear HH
                refine ordt_e ?_
                (refine op_e (o := ?_) ?_ ?_ (fun K hK => ?_); rotate_left 1; (focus ((simp only [List.getElem?_toArray, List.getElem?_cons_succ, List.getElem?_cons_zero]) <;> rfl)); (focus rfl); go_simp)
                refine (bitsL_any (k : Int) ni _ (Int.natCast_nonneg k) (by omega) (by omega)).mono ?_
                rintro e wC3 ⟨sb, cb2, rfl, h2, hq⟩
                have h1 := h1.mono hq
                have hk0 := blk_below hq (blk_lt hk0) hk0
                have hbz := hbz.trans (hq.mono hbz.size)
                refine hK.out _ _ (HC.out _ (HR.out.trans (hbz.mono HR.out.size))).ss ?_
                clear hK K hq
                have HH := Lib.hid (And.intro hbz (And.intro h1 (And.intro hk0 h2)))
                clear hbz h1 hk0 h2
                (try simp only [Act.put, List.setIfInBounds_toArray, List.set_cons_zero, List.set_cons_succ])
                skip
                obtain ⟨hbz, h1, hk0, h2⟩ := HH.out
                clear HH
                refine ordt_e ?_
                (refine op_e (o := ?_) ?_ ?_ (fun K hK => ?_); rotate_left 1; (focus ((simp only [List.getElem?_toArray, List.getElem?_cons_succ, List.getElem?_cons_zero]) <;> rfl)); (focus rfl); go_simp)
                refine (HSTC.out _ _ _ _ _ (HR.out.trans (hbz.mono HR.out.size)) h1 h2).mono ?_
                rintro e wC4 ⟨t1, d1, t2, d2, rfl, h3, h4, hq⟩
                have hk0 := blk_below hq (blk_lt hk0) hk0
                have hbz := hbz.trans (hq.mono hbz.size)
                refine hK.out _ _ (HC.out _ (HR.out.trans (hbz.mono HR.out.size))).ss ?_
                clear hK K hq
                have HH := Lib.hid (And.intro hbz (And.intro hk0 (And.intro h3 h4)))
                clear hbz hk0 h3 h4
                (try simp only [Act.put, List.setIfInBounds_toArray, List.set_cons_zero, List.set_cons_succ])
                skip
                obtain ⟨hbz, hk0, h3, h4⟩ := HH.out
                clear HH
                obtain ⟨rc, rf⟩ := blk_all hk0
                refine ordt_e ?_
                (refine op_e (o := ?_) ?_ ?_ (fun K hK => ?_); rotate_left 1; (focus ((simp only [List.getElem?_toArray, List.getElem?_cons_succ, List.getElem?_cons_zero]) <;> rfl)); (focus rfl); go_simp)
                have hU : Upd b wC4 ((wC4.setCell ⟨b, 0, none⟩ (.slice t1 C.outs.length d1)).setCell ⟨b, 1, none⟩ (.slice t2 C.next.length d2)) := (Upd.set _ _ _ _).trans (Upd.set _ _ _ _)
                have hZ : ((wC4.setCell ⟨b, 0, none⟩ (.slice t1 C.outs.length d1)).setCell ⟨b, 1, none⟩ (.slice t2 C.next.length d2)).heap[b]? = some (.cells #[.slice t1 C.outs.length d1, .slice t2 C.next.length d2] 41 (0, 0)) := by
                  simpa using blk_set (o := 1) (v := .slice t2 C.next.length d2) (blk_set (o := 0) (v := .slice t1 C.outs.length d1) hk0)
                have hs1 := h3.updB hU hk0
                have hs2 := h4.updB hU hk0
                have hbw : Below wr.heap.size wr ((wC4.setCell ⟨b, 0, none⟩ (.slice t1 C.outs.length d1)).setCell ⟨b, 1, none⟩ (.slice t2 C.next.length d2)) := (hbz.setCell (p := ⟨b, 0, none⟩) hbge _).setCell (p := ⟨b, 1, none⟩) hbge _
                refine hK.out _ _ (HC.out _ (HR.out.trans (hbw.mono HR.out.size))).ss ?_
                clear hK K
                (try simp only [Act.put, List.setIfInBounds_toArray, List.set_cons_zero, List.set_cons_succ])
                refine ordt_nil ?_
                have HF := Lib.hid (And.intro hZ (And.intro hs1 (And.intro hs2 hbw)))
                clear hZ hs1 hs2 hbw hU rc rf hk0 h3 h4 hbz
                go_wp2_with fail
                go_meet
                exact ⟨b, t1, d1, t2, d2, rfl, HF.out⟩
            · (refine op_e (o := ?_) ?_ ?_ (fun K hK => ?_); rotate_left 1; (focus ((simp only [List.getElem?_toArray, List.getElem?_cons_succ, List.getElem?_cons_zero]) <;> rfl)); (focus rfl); go_simp)
              obtain ⟨b, hbq⟩ : ∃ b, b = wC0.heap.size := ⟨_, rfl⟩
              have hbge : wr.heap.size ≤ b := by rw [hbq]; exact hbz.size
              have hq := below_alloc wC0 (.cells #[.slice none 0 0, .slice none 0 0] 41)
              have hk0 := blk_new wC0 (.cells #[.slice none 0 0, .slice none 0 0] 41)
              rw [← hbq] at hk0
              rw [← hbq]
              clear hbq
              revert hq hk0
              generalize wC0.alloc (.cells #[.slice none 0 0, .slice none 0 0] 41) = wC1
              intro hq hk0
              have hbz := hbz.trans (hq.mono hbz.size)
              refine hK.out _ _ (HC.out _ (HR.out.trans (hbz.mono HR.out.size))).ss ?_
              clear hK K hq
              have HH := Lib.hid (And.intro hbz hk0)
              clear hbz hk0
              (try simp only [Act.put, List.setIfInBounds_toArray, List.set_cons_zero, List.set_cons_succ])
              skip
              obtain ⟨hbz, hk0⟩ := HH.out
              clear HH
              refine ordt_e ?_
              (refine op_e (o := ?_) ?_ ?_ (fun K hK => ?_); rotate_left 1; (focus ((simp only [List.getElem?_toArray, List.getElem?_cons_succ, List.getElem?_cons_zero]) <;> rfl)); (focus rfl); go_simp)
              refine (bitsL_any ((k : Int) / 2 ^ ni) C.next.length _ x1 (by omega) (by omega)).mono ?_
              rintro e wC2 ⟨sa, ca, rfl, h1, hq⟩
              have hk0 := blk_below hq (blk_lt hk0) hk0
              have hbz := hbz.trans (hq.mono hbz.size)
              refine hK.out _ _ (HC.out _ (HR.out.trans (hbz.mono HR.out.size))).ss ?_
              clear hK K hq
              have HH := Lib.hid (And.intro hbz (And.intro hk0 h1))
              clear hbz hk0 h1
              (try simp only [Act.put, List.setIfInBounds_toArray, List.set_cons_zero, List.set_cons_succ])
              skip
              obtain ⟨hbz, hk0, h1⟩ := HH.out
              clear HH
              refine ordt_e ?_
              (refine op_e (o := ?_) ?_ ?_ (fun K hK => ?_); rotate_left 1; (focus ((simp only [List.getElem?_toArray, List.getElem?_cons_succ, List.getElem?_cons_zero]) <;> rfl)); (focus rfl); go_simp)
              refine (bitsL_any (k : Int) ni _ (Int.natCast_nonneg k) (by omega) (by omega)).mono ?_
              rintro e wC3 ⟨sb, cb2, rfl, h2, hq⟩
              have hk0 := blk_below hq (blk_lt hk0) hk0
              have h1 := h1.mono hq
              have hbz := hbz.trans (hq.mono hbz.size)
              refine hK.out _ _ (HC.out _ (HR.out.trans (hbz.mono HR.out.size))).ss ?_
              clear hK K hq
              have HH := Lib.hid (And.intro hbz (And.intro hk0 (And.intro h1 h2)))
              clear hbz hk0 h1 h2
              (try simp only [Act.put, List.setIfInBounds_toArray, List.set_cons_zero, List.set_cons_succ])
              skip
              obtain ⟨hbz, hk0, h1, h2⟩ := HH.out
              clear HH
              refine ordt_e ?_
              (refine op_e (o := ?_) ?_ ?_ (fun K hK => ?_); rotate_left 1; (focus ((simp only [List.getElem?_toArray, List.getElem?_cons_succ, List.getElem?_cons_zero]) <;> rfl)); (focus rfl); go_simp)
              refine (HSTC.out _ _ _ _ _ (HR.out.trans (hbz.mono HR.out.size)) h1 h2).mono ?_
              rintro e wC4 ⟨t1, d1, t2, d2, rfl, h3, h4, hq⟩
              have hk0 := blk_below hq (blk_lt hk0) hk0
              have hbz := hbz.trans (hq.mono hbz.size)
              refine hK.out _ _ (HC.out _ (HR.out.trans (hbz.mono HR.out.size))).ss ?_
              clear hK K hq
              have HH := Lib.hid (And.intro hbz (And.intro hk0 (And.intro h3 h4)))
              clear hbz hk0 h3 h4
              (try simp only [Act.put, List.setIfInBounds_toArray, List.set_cons_zero, List.set_cons_succ])
              skip
              obtain ⟨hbz, hk0, h3, h4⟩ := HH.out
              clear HH
              obtain ⟨rc, rf⟩ := blk_all hk0
              refine ordt_e ?_
              (refine op_e (o := ?_) ?_ ?_ (fun K hK => ?_); rotate_left 1; (focus ((simp only [List.getElem?_toArray, List.getElem?_cons_succ, List.getElem?_cons_zero]) <;> rfl)); (focus rfl); go_simp)
              have hU : Upd b wC4 ((wC4.setCell ⟨b, 0, none⟩ (.slice t1 C.outs.length d1)).setCell ⟨b, 1, none⟩ (.slice t2 C.next.length d2)) := (Upd.set _ _ _ _).trans (Upd.set _ _ _ _)
              have hZ : ((wC4.setCell ⟨b, 0, none⟩ (.slice t1 C.outs.length d1)).setCell ⟨b, 1, none⟩ (.slice t2 C.next.length d2)).heap[b]? = some (.cells #[.slice t1 C.outs.length d1, .slice t2 C.next.length d2] 41 (0, 0)) := by
                simpa using blk_set (o := 1) (v := .slice t2 C.next.length d2) (blk_set (o := 0) (v := .slice t1 C.outs.length d1) hk0)
              have hs1 := h3.updB hU hk0
              have hs2 := h4.updB hU hk0
              have hbw : Below wr.heap.size wr ((wC4.setCell ⟨b, 0, none⟩ (.slice t1 C.outs.length d1)).setCell ⟨b, 1, none⟩ (.slice t2 C.next.length d2)) := (hbz.setCell (p := ⟨b, 0, none⟩) hbge _).setCell (p := ⟨b, 1, none⟩) hbge _
              refine hK.out _ _ (HC.out _ (HR.out.trans (hbw.mono HR.out.size))).ss ?_
              clear hK K
              (try simp only [Act.put, List.setIfInBounds_toArray, List.set_cons_zero, List.set_cons_succ])
              refine ordt_nil ?_
              have HF := Lib.hid (And.intro hZ (And.intro hs1 (And.intro hs2 hbw)))
              clear hZ hs1 hs2 hbw hU rc rf hk0 h3 h4 hbz
              go_wp2_with fail
              go_meet
              exact ⟨b, t1, d1, t2, d2, rfl, HF.out⟩
          case rest =>
            obtain ⟨bp, tp1, dp1, tp2, dp2, rfl, hp1, hp2, hp3, hpb⟩ := hcut
            have HP := Lib.hid (And.intro hp1 (And.intro hp2 hp3))
            have HR2 := Lib.hid (HR.out.trans (hpb.mono HR.out.size))
            clear hp1 hp2 hp3 hpb
            go_upto_region 13 with fail
            go_cut [9] from 82 to 95 (fun s9 wx => ∃ b t1 d1 t2 d2, s9 = .pointer (some ⟨b, 0, none⟩) ∧ wx.heap[b]? = some (.cells #[.slice t1 C.outs.length d1, .slice t2 C.next.length d2] 41 (0, 0)) ∧ Sl wx t1 (bools O2) ∧ Sl wx t2 (bools N2) ∧ Below wc.heap.size wc wx)
            case first =>
              refine wp_region_T (fun w' => (∀ o, w'.cell? ⟨B, o, none⟩ = #[Value.int .i64 ni, .slice sn C.next.length cn, .slice sg C.gates.length cg, .slice so C.outs.length co][o]?) ∧ (∀ o, w'.cell? ⟨D, o, none⟩ = #[Value.int .i64 ni, .slice s1 C.next.length c1, .slice s2 C.gates.length c2, .slice s3 C.outs.length c3][o]?)) (.q 0 (.q 1 (.q 2 (.q 3 (.q 4 (.q 5 (.q 6 (.q 7 (.q 9 (.q 10 (.q 11 (.two 8 (.two 12 (.two 13 (.e 14 (.e 15 .nil)) 14 (.e 13 (.e 15 .nil))) 14 (.e 12 (.e 13 (.e 15 .nil)))) 14 (.e 8 (.e 12 (.e 13 (.e 15 .nil)))))))))))))))) (by kernel_rfl) (by kernel_rfl) (by kernel_rfl) (HC.out _ HR2.out.drew).ss ?_
              have hbz : Below wc.heap.size wc wc.drew := (Below.refl _ _).drew
              revert hbz
              generalize wc.drew = wX0
              intro hbz
              repeat (first | (refine ordt_s (o := ?_) ?_ ?_ ?_; rotate_left 1; (focus ((simp only [List.getElem?_toArray, List.getElem?_cons_succ, List.getElem?_cons_zero]) <;> rfl)); (focus rfl); simp only [Act.put, List.setIfInBounds_toArray, List.set_cons_zero, List.set_cons_succ]) | (refine ordt_q (o := ?_) (v := ?_) ?_ ?_ ?_ ?_; rotate_left 2; (focus ((simp only [List.getElem?_toArray, List.getElem?_cons_succ, List.getElem?_cons_zero]) <;> rfl)); (focus rfl); (focus (intro w' hS; (try dsimp only at hS); go_split_ands; go_simp; (try (with_reducible rfl)))); simp only [Act.put, List.setIfInBounds_toArray, List.set_cons_zero, List.set_cons_succ]))
              refine ordt_two ?_ ?_
              · (refine op_e (o := ?_) ?_ ?_ (fun K hK => ?_); rotate_left 1; (focus ((simp only [List.getElem?_toArray, List.getElem?_cons_succ, List.getElem?_cons_zero]) <;> rfl)); (focus rfl); go_simp)
                refine (bitsL_any ((k : Int) / 2 ^ ni) C.next.length _ x1 (by omega) (by omega)).mono ?_
                rintro e wX1 ⟨sa, ca, rfl, h1, hq⟩
                have hbz := hbz.trans (hq.mono hbz.size)
                refine hK.out _ _ (HC.out _ (HR2.out.trans (hbz.mono HR2.out.size))).ss ?_
                clear hK K hq
                have HH := Lib.hid (And.intro hbz h1)
                clear hbz h1
                (try simp only [Act.put, List.setIfInBounds_toArray, List.set_cons_zero, List.set_cons_succ])
                skip
                obtain ⟨hbz, h1⟩ := HH.out
                clear HH
                refine ordt_two ?_ ?_
                · (refine op_e (o := ?_) ?_ ?_ (fun K hK => ?_); rotate_left 1; (focus ((simp only [List.getElem?_toArray, List.getElem?_cons_succ, List.getElem?_cons_zero]) <;> rfl)); (focus rfl); go_simp)
                  refine (bitsL_any (k : Int) ni _ (Int.natCast_nonneg k) (by omega) (by omega)).mono ?_
                  rintro e wX2 ⟨sb, cb2, rfl, h2, hq⟩
                  have h1 := h1.mono hq
                  have hbz := hbz.trans (hq.mono hbz.size)
                  refine hK.out _ _ (HC.out _ (HR2.out.trans (hbz.mono HR2.out.size))).ss ?_
                  clear hK K hq
                  have HH := Lib.hid (And.intro hbz (And.intro h1 h2))
                  clear hbz h1 h2
                  (try simp only [Act.put, List.setIfInBounds_toArray, List.set_cons_zero, List.set_cons_succ])
                  skip
                  obtain ⟨hbz, h1, h2⟩ := HH.out
                  clear HH
                  refine ordt_two ?_ ?_
                  · (refine op_e (o := ?_) ?_ ?_ (fun K hK => ?_); rotate_left 1; (focus ((simp only [List.getElem?_toArray, List.getElem?_cons_succ, List.getElem?_cons_zero]) <;> rfl)); (focus rfl); go_simp)
                    refine (HSTX.out _ _ _ _ _ (HR2.out.trans (hbz.mono HR2.out.size)) h1 h2).mono ?_
                    rintro e wX3 ⟨t1, d1, t2, d2, rfl, h3, h4, hq⟩
                    have hbz := hbz.trans (hq.mono hbz.size)
                    refine hK.out _ _ (HC.out _ (HR2.out.trans (hbz.mono HR2.out.size))).ss ?_
                    clear hK K hq
                    have HH := Lib.hid (And.intro hbz (And.intro h3 h4))
                    clear hbz h3 h4
                    (try simp only [Act.put, List.setIfInBounds_toArray, List.set_cons_zero, List.set_cons_succ])
                    skip
                    obtain ⟨hbz, h3, h4⟩ := HH.out
                    clear HH
                    refine ordt_e ?_
                    (refine op_e (o := ?_) ?_ ?_ (fun K hK => ?_); rotate_left 1; (focus ((simp only [List.getElem?_toArray, List.getElem?_cons_succ, List.getElem?_cons_zero]) <;> rfl)); (focus rfl); go_simp)
                    obtain ⟨b, hbq⟩ : ∃ b, b = wX3.heap.size := ⟨_, rfl⟩
                    have hbge : wc.heap.size ≤ b := by rw [hbq]; exact hbz.size
                    have hq := below_alloc wX3 (.cells #[.slice none 0 0, .slice none 0 0] 41)
                    have hk0 := blk_new wX3 (.cells #[.slice none 0 0, .slice none 0 0] 41)
                    rw [← hbq] at hk0
                    rw [← hbq]
                    clear hbq
                    revert hq hk0
                    generalize wX3.alloc (.cells #[.slice none 0 0, .slice none 0 0] 41) = wX4
                    intro hq hk0
                    have h3 := h3.mono hq
                    have h4 := h4.mono hq
                    have hbz := hbz.trans (hq.mono hbz.size)
                    refine hK.out _ _ (HC.out _ (HR2.out.trans (hbz.mono HR2.out.size))).ss ?_
                    clear hK K hq
                    have HH := Lib.hid (And.intro hbz (And.intro h3 (And.intro h4 hk0)))
                    clear hbz h3 h4 hk0
                    (try simp only [Act.put, List.setIfInBounds_toArray, List.set_cons_zero, List.set_cons_succ])
                    skip
                    obtain ⟨hbz, h3, h4, hk0⟩ := HH.out
                    clear HH
                    obtain ⟨rc, rf⟩ := blk_all hk0
                    refine ordt_e ?_
                    (refine op_e (o := ?_) ?_ ?_ (fun K hK => ?_); rotate_left 1; (focus ((simp only [List.getElem?_toArray, List.getElem?_cons_succ, List.getElem?_cons_zero]) <;> rfl)); (focus rfl); go_simp)
                    have hU : Upd b wX4 ((wX4.setCell ⟨b, 0, none⟩ (.slice t1 C.outs.length d1)).setCell ⟨b, 1, none⟩ (.slice t2 C.next.length d2)) := (Upd.set _ _ _ _).trans (Upd.set _ _ _ _)
                    have hZ : ((wX4.setCell ⟨b, 0, none⟩ (.slice t1 C.outs.length d1)).setCell ⟨b, 1, none⟩ (.slice t2 C.next.length d2)).heap[b]? = some (.cells #[.slice t1 C.outs.length d1, .slice t2 C.next.length d2] 41 (0, 0)) := by
                      simpa using blk_set (o := 1) (v := .slice t2 C.next.length d2) (blk_set (o := 0) (v := .slice t1 C.outs.length d1) hk0)
                    have hs1 := h3.updB hU hk0
                    have hs2 := h4.updB hU hk0
                    have hbw : Below wc.heap.size wc ((wX4.setCell ⟨b, 0, none⟩ (.slice t1 C.outs.length d1)).setCell ⟨b, 1, none⟩ (.slice t2 C.next.length d2)) := (hbz.setCell (p := ⟨b, 0, none⟩) hbge _).setCell (p := ⟨b, 1, none⟩) hbge _
                    refine hK.out _ _ (HC.out _ (HR2.out.trans (hbw.mono HR2.out.size))).ss ?_
                    clear hK K
                    (try simp only [Act.put, List.setIfInBounds_toArray, List.set_cons_zero, List.set_cons_succ])
                    refine ordt_nil ?_
                    have HF := Lib.hid (And.intro hZ (And.intro hs1 (And.intro hs2 hbw)))
                    clear hZ hs1 hs2 hbw hU rc rf hk0 h3 h4 hbz
                    go_wp2_with fail
                    go_meet
                    exact ⟨b, t1, d1, t2, d2, rfl, HF.out⟩
                  · (refine op_e (o := ?_) ?_ ?_ (fun K hK => ?_); rotate_left 1; (focus ((simp only [List.getElem?_toArray, List.getElem?_cons_succ, List.getElem?_cons_zero]) <;> rfl)); (focus rfl); go_simp)
                    obtain ⟨b, hbq⟩ : ∃ b, b = wX2.heap.size := ⟨_, rfl⟩
                    have hbge : wc.heap.size ≤ b := by rw [hbq]; exact hbz.size
                    have hq := below_alloc wX2 (.cells #[.slice none 0 0, .slice none 0 0] 41)
                    have hk0 := blk_new wX2 (.cells #[.slice none 0 0, .slice none 0 0] 41)
                    rw [← hbq] at hk0
                    rw [← hbq]
                    clear hbq
                    revert hq hk0
                    generalize wX2.alloc (.cells #[.slice none 0 0, .slice none 0 0] 41) = wX3
                    intro hq hk0
                    have h1 := h1.mono hq
                    have h2 := h2.mono hq
                    have hbz := hbz.trans (hq.mono hbz.size)
                    refine hK.out _ _ (HC.out _ (HR2.out.trans (hbz.mono HR2.out.size))).ss ?_
                    clear hK K hq
                    have HH := Lib.hid (And.intro hbz (And.intro h1 (And.intro h2 hk0)))
                    clear hbz h1 h2 hk0
                    (try simp only [Act.put, List.setIfInBounds_toArray, List.set_cons_zero, List.set_cons_succ])
                    skip
                    obtain ⟨hbz, h1, h2, hk0⟩ := HH.out
                    clear HH
                    refine ordt_e ?_
                    (refine op_e (o := ?_) ?_ ?_ (fun K hK => ?_); rotate_left 1; (focus ((simp only [List.getElem?_toArray, List.getElem?_cons_succ, List.getElem?_cons_zero]) <;> rfl)); (focus rfl); go_simp)
                    refine (HSTX.out _ _ _ _ _ (HR2.out.trans (hbz.mono HR2.out.size)) h1 h2).mono ?_
                    rintro e wX4 ⟨t1, d1, t2, d2, rfl, h3, h4, hq⟩
                    have hk0 := blk_below hq (blk_lt hk0) hk0
                    have hbz := hbz.trans (hq.mono hbz.size)
                    refine hK.out _ _ (HC.out _ (HR2.out.trans (hbz.mono HR2.out.size))).ss ?_
                    clear hK K hq
                    have HH := Lib.hid (And.intro hbz (And.intro hk0 (And.intro h3 h4)))
                    clear hbz hk0 h3 h4
                    (try simp only [Act.put, List.setIfInBounds_toArray, List.set_cons_zero, List.set_cons_succ])
                    skip
                    obtain ⟨hbz, hk0, h3, h4⟩ := HH.out
                    clear HH
                    obtain ⟨rc, rf⟩ := blk_all hk0
                    refine ordt_e ?_
                    (refine op_e (o := ?_) ?_ ?_ (fun K hK => ?_); rotate_left 1; (focus ((simp only [List.getElem?_toArray, List.getElem?_cons_succ, List.getElem?_cons_zero]) <;> rfl)); (focus rfl); go_simp)
                    have hU : Upd b wX4 ((wX4.setCell ⟨b, 0, none⟩ (.slice t1 C.outs.length d1)).setCell ⟨b, 1, none⟩ (.slice t2 C.next.length d2)) := (Upd.set _ _ _ _).trans (Upd.set _ _ _ _)
                    have hZ : ((wX4.setCell ⟨b, 0, none⟩ (.slice t1 C.outs.length d1)).setCell ⟨b, 1, none⟩ (.slice t2 C.next.length d2)).heap[b]? = some (.cells #[.slice t1 C.outs.length d1, .slice t2 C.next.length d2] 41 (0, 0)) := by
                      simpa using blk_set (o := 1) (v := .slice t2 C.next.length d2) (blk_set (o := 0) (v := .slice t1 C.outs.length d1) hk0)
                    have hs1 := h3.updB hU hk0
                    have hs2 := h4.updB hU hk0
                    have hbw : Below wc.heap.size wc ((wX4.setCell ⟨b, 0, none⟩ (.slice t1 C.outs.length d1)).setCell ⟨b, 1, none⟩ (.slice t2 C.next.length d2)) := (hbz.setCell (p := ⟨b, 0, none⟩) hbge _).setCell (p := ⟨b, 1, none⟩) hbge _
                    refine hK.out _ _ (HC.out _ (HR2.out.trans (hbw.mono HR2.out.size))).ss ?_
                    clear hK K
                    (try simp only [Act.put, List.setIfInBounds_toArray, List.set_cons_zero, List.set_cons_succ])
                    refine ordt_nil ?_
                    have HF := Lib.hid (And.intro hZ (And.intro hs1 (And.intro hs2 hbw)))
                    clear hZ hs1 hs2 hbw hU rc rf hk0 h3 h4 hbz
                    go_wp2_with fail
                    go_meet
                    exact ⟨b, t1, d1, t2, d2, rfl, HF.out⟩
                · (refine op_e (o := ?_) ?_ ?_ (fun K hK => ?_); rotate_left 1; (focus ((simp only [List.getElem?_toArray, List.getElem?_cons_succ, List.getElem?_cons_zero]) <;> rfl)); (focus rfl); go_simp)
                  obtain ⟨b, hbq⟩ : ∃ b, b = wX1.heap.size := ⟨_, rfl⟩
                  have hbge : wc.heap.size ≤ b := by rw [hbq]; exact hbz.size
                  have hq := below_alloc wX1 (.cells #[.slice none 0 0, .slice none 0 0] 41)
                  have hk0 := blk_new wX1 (.cells #[.slice none 0 0, .slice none 0 0] 41)
                  rw [← hbq] at hk0
                  rw [← hbq]
                  clear hbq
                  revert hq hk0
                  generalize wX1.alloc (.cells #[.slice none 0 0, .slice none 0 0] 41) = wX2
                  intro hq hk0
                  have h1 := h1.mono hq
                  have hbz := hbz.trans (hq.mono hbz.size)
                  refine hK.out _ _ (HC.out _ (HR2.out.trans (hbz.mono HR2.out.size))).ss ?_
                  clear hK K hq
                  have HH := Lib.hid (And.intro hbz (And.intro h1 hk0))
                  clear hbz h1 hk0
                  (try simp only [Act.put, List.setIfInBounds_toArray, List.set_cons_zero, List.set_cons_succ])
                  skip
                  obtain ⟨hbz, h1, hk0⟩ := HH.out
                  clear HH
                  refine ordt_e ?_
                  (refine op_e (o := ?_) ?_ ?_ (fun K hK => ?_); rotate_left 1; (focus ((simp only [List.getElem?_toArray, List.getElem?_cons_succ, List.getElem?_cons_zero]) <;> rfl)); (focus rfl); go_simp)
                  refine (bitsL_any (k : Int) ni _ (Int.natCast_nonneg k) (by omega) (by omega)).mono ?_
                  rintro e wX3 ⟨sb, cb2, rfl, h2, hq⟩
                  have h1 := h1.mono hq
                  have hk0 := blk_below hq (blk_lt hk0) hk0
                  have hbz := hbz.trans (hq.mono hbz.size)
                  refine hK.out _ _ (HC.out _ (HR2.out.trans (hbz.mono HR2.out.size))).ss ?_
                  clear hK K hq
                  have HH := Lib.hid (And.intro hbz (And.intro h1 (And.intro hk0 h2)))
                  clear hbz h1 hk0 h2
                  (try simp only [Act.put, List.setIfInBounds_toArray, List.set_cons_zero, List.set_cons_succ])
                  skip
                  obtain ⟨hbz, h1, hk0, h2⟩ := HH.out
                  clear HH
                  refine ordt_e ?_
                  (refine op_e (o := ?_) ?_ ?_ (fun K hK => ?_); rotate_left 1; (focus ((simp only [List.getElem?_toArray, List.getElem?_cons_succ, List.getElem?_cons_zero]) <;> rfl)); (focus rfl); go_simp)
                  refine (HSTX.out _ _ _ _ _ (HR2.out.trans (hbz.mono HR2.out.size)) h1 h2).mono ?_
                  rintro e wX4 ⟨t1, d1, t2, d2, rfl, h3, h4, hq⟩
                  have hk0 := blk_below hq (blk_lt hk0) hk0
                  have hbz := hbz.trans (hq.mono hbz.size)
                  refine hK.out _ _ (HC.out _ (HR2.out.trans (hbz.mono HR2.out.size))).ss ?_
                  clear hK K hq
                  have HH := Lib.hid (And.intro hbz (And.intro hk0 (And.intro h3 h4)))
                  clear hbz hk0 h3 h4
                  (try simp only [Act.put, List.setIfInBounds_toArray, List.set_cons_zero, List.set_cons_succ])
                  skip
                  obtain ⟨hbz, hk0, h3, h4⟩ := HH.out
                  clear HH
                  obtain ⟨rc, rf⟩ := blk_all hk0
                  refine ordt_e ?_
                  (refine op_e (o := ?_) ?_ ?_ (fun K hK => ?_); rotate_left 1; (focus ((simp only [List.getElem?_toArray, List.getElem?_cons_succ, List.getElem?_cons_zero]) <;> rfl)); (focus rfl); go_simp)
                  have hU : Upd b wX4 ((wX4.setCell ⟨b, 0, none⟩ (.slice t1 C.outs.length d1)).setCell ⟨b, 1, none⟩ (.slice t2 C.next.length d2)) := (Upd.set _ _ _ _).trans (Upd.set _ _ _ _)
                  have hZ : ((wX4.setCell ⟨b, 0, none⟩ (.slice t1 C.outs.length d1)).setCell ⟨b, 1, none⟩ (.slice t2 C.next.length d2)).heap[b]? = some (.cells #[.slice t1 C.outs.length d1, .slice t2 C.next.length d2] 41 (0, 0)) := by
                    simpa using blk_set (o := 1) (v := .slice t2 C.next.length d2) (blk_set (o := 0) (v := .slice t1 C.outs.length d1) hk0)
                  have hs1 := h3.updB hU hk0
                  have hs2 := h4.updB hU hk0
                  have hbw : Below wc.heap.size wc ((wX4.setCell ⟨b, 0, none⟩ (.slice t1 C.outs.length d1)).setCell ⟨b, 1, none⟩ (.slice t2 C.next.length d2)) := (hbz.setCell (p := ⟨b, 0, none⟩) hbge _).setCell (p := ⟨b, 1, none⟩) hbge _
                  refine hK.out _ _ (HC.out _ (HR2.out.trans (hbw.mono HR2.out.size))).ss ?_
                  clear hK K
                  (try simp only [Act.put, List.setIfInBounds_toArray, List.set_cons_zero, List.set_cons_succ])
                  refine ordt_nil ?_
                  have HF := Lib.hid (And.intro hZ (And.intro hs1 (And.intro hs2 hbw)))
                  clear hZ hs1 hs2 hbw hU rc rf hk0 h3 h4 hbz
                  go_wp2_with fail
                  go_meet
                  exact ⟨b, t1, d1, t2, d2, rfl, HF.out⟩
              · (refine op_e (o := ?_) ?_ ?_ (fun K hK => ?_); rotate_left 1; (focus ((simp only [List.getElem?_toArray, List.getElem?_cons_succ, List.getElem?_cons_zero]) <;> rfl)); (focus rfl); go_simp)
                obtain ⟨b, hbq⟩ : ∃ b, b = wX0.heap.size := ⟨_, rfl⟩
                have hbge : wc.heap.size ≤ b := by rw [hbq]; exact hbz.size
                have hq := below_alloc wX0 (.cells #[.slice none 0 0, .slice none 0 0] 41)
                have hk0 := blk_new wX0 (.cells #[.slice none 0 0, .slice none 0 0] 41)
                rw [← hbq] at hk0
                rw [← hbq]
                clear hbq
                revert hq hk0
                generalize wX0.alloc (.cells #[.slice none 0 0, .slice none 0 0] 41) = wX1
                intro hq hk0
                have hbz := hbz.trans (hq.mono hbz.size)
                refine hK.out _ _ (HC.out _ (HR2.out.trans (hbz.mono HR2.out.size))).ss ?_
                clear hK K hq
                have HH := Lib.hid (And.intro hbz hk0)
                clear hbz hk0
                (try simp only [Act.put, List.setIfInBounds_toArray, List.set_cons_zero, List.set_cons_succ])
                skip
                obtain ⟨hbz, hk0⟩ := HH.out
                clear HH
                refine ordt_e ?_
                (refine op_e (o := ?_) ?_ ?_ (fun K hK => ?_); rotate_left 1; (focus ((simp only [List.getElem?_toArray, List.getElem?_cons_succ, List.getElem?_cons_zero]) <;> rfl)); (focus rfl); go_simp)
                refine (bitsL_any ((k : Int) / 2 ^ ni) C.next.length _ x1 (by omega) (by omega)).mono ?_
                rintro e wX2 ⟨sa, ca, rfl, h1, hq⟩
                have hk0 := blk_below hq (blk_lt hk0) hk0
                have hbz := hbz.trans (hq.mono hbz.size)
                refine hK.out _ _ (HC.out _ (HR2.out.trans (hbz.mono HR2.out.size))).ss ?_
                clear hK K hq
                have HH := Lib.hid (And.intro hbz (And.intro hk0 h1))
                clear hbz hk0 h1
                (try simp only [Act.put, List.setIfInBounds_toArray, List.set_cons_zero, List.set_cons_succ])
                skip
                obtain ⟨hbz, hk0, h1⟩ := HH.out
                clear HH
                refine ordt_e ?_
                (refine op_e (o := ?_) ?_ ?_ (fun K hK => ?_); rotate_left 1; (focus ((simp only [List.getElem?_toArray, List.getElem?_cons_succ, List.getElem?_cons_zero]) <;> rfl)); (focus rfl); go_simp)
                refine (bitsL_any (k : Int) ni _ (Int.natCast_nonneg k) (by omega) (by omega)).mono ?_
                rintro e wX3 ⟨sb, cb2, rfl, h2, hq⟩
                have hk0 := blk_below hq (blk_lt hk0) hk0
                have h1 := h1.mono hq
                have hbz := hbz.trans (hq.mono hbz.size)
                refine hK.out _ _ (HC.out _ (HR2.out.trans (hbz.mono HR2.out.size))).ss ?_
                clear hK K hq
                have HH := Lib.hid (And.intro hbz (And.intro hk0 (And.intro h1 h2)))
                clear hbz hk0 h1 h2
                (try simp only [Act.put, List.setIfInBounds_toArray, List.set_cons_zero, List.set_cons_succ])
                skip
                obtain ⟨hbz, hk0, h1, h2⟩ := HH.out
                clear HH
                refine ordt_e ?_
                (refine op_e (o := ?_) ?_ ?_ (fun K hK => ?_); rotate_left 1; (focus ((simp only [List.getElem?_toArray, List.getElem?_cons_succ, List.getElem?_cons_zero]) <;> rfl)); (focus rfl); go_simp)
                refine (HSTX.out _ _ _ _ _ (HR2.out.trans (hbz.mono HR2.out.size)) h1 h2).mono ?_
                rintro e wX4 ⟨t1, d1, t2, d2, rfl, h3, h4, hq⟩
                have hk0 := blk_below hq (blk_lt hk0) hk0
                have hbz := hbz.trans (hq.mono hbz.size)
                refine hK.out _ _ (HC.out _ (HR2.out.trans (hbz.mono HR2.out.size))).ss ?_
                clear hK K hq
                have HH := Lib.hid (And.intro hbz (And.intro hk0 (And.intro h3 h4)))
                clear hbz hk0 h3 h4
                (try simp only [Act.put, List.setIfInBounds_toArray, List.set_cons_zero, List.set_cons_succ])
                skip
                obtain ⟨hbz, hk0, h3, h4⟩ := HH.out
                clear HH
                obtain ⟨rc, rf⟩ := blk_all hk0
                refine ordt_e ?_
                (refine op_e (o := ?_) ?_ ?_ (fun K hK => ?_); rotate_left 1; (focus ((simp only [List.getElem?_toArray, List.getElem?_cons_succ, List.getElem?_cons_zero]) <;> rfl)); (focus rfl); go_simp)
                have hU : Upd b wX4 ((wX4.setCell ⟨b, 0, none⟩ (.slice t1 C.outs.length d1)).setCell ⟨b, 1, none⟩ (.slice t2 C.next.length d2)) := (Upd.set _ _ _ _).trans (Upd.set _ _ _ _)
                have hZ : ((wX4.setCell ⟨b, 0, none⟩ (.slice t1 C.outs.length d1)).setCell ⟨b, 1, none⟩ (.slice t2 C.next.length d2)).heap[b]? = some (.cells #[.slice t1 C.outs.length d1, .slice t2 C.next.length d2] 41 (0, 0)) := by
                  simpa using blk_set (o := 1) (v := .slice t2 C.next.length d2) (blk_set (o := 0) (v := .slice t1 C.outs.length d1) hk0)
                have hs1 := h3.updB hU hk0
                have hs2 := h4.updB hU hk0
                have hbw : Below wc.heap.size wc ((wX4.setCell ⟨b, 0, none⟩ (.slice t1 C.outs.length d1)).setCell ⟨b, 1, none⟩ (.slice t2 C.next.length d2)) := (hbz.setCell (p := ⟨b, 0, none⟩) hbge _).setCell (p := ⟨b, 1, none⟩) hbge _
                refine hK.out _ _ (HC.out _ (HR2.out.trans (hbw.mono HR2.out.size))).ss ?_
                clear hK K
                (try simp only [Act.put, List.setIfInBounds_toArray, List.set_cons_zero, List.set_cons_succ])
                refine ordt_nil ?_
                have HF := Lib.hid (And.intro hZ (And.intro hs1 (And.intro hs2 hbw)))
                clear hZ hs1 hs2 hbw hU rc rf hk0 h3 h4 hbz
                go_wp2_with fail
                go_meet
                exact ⟨b, t1, d1, t2, d2, rfl, HF.out⟩
            case rest =>
              obtain ⟨bq, tq1, dq1, tq2, dq2, rfl, hq1, hq2, hq3, hqb⟩ := hcut
              have HQ := Lib.hid (And.intro hq1 (And.intro hq2 hq3))
              have HP3 := Lib.hid (And.intro (blk_below hqb (blk_lt HP.out.1) HP.out.1) (And.intro (HP.out.2.1.mono hqb) (HP.out.2.2.mono hqb)))
              have HR3 := Lib.hid (HR2.out.trans (hqb.mono HR2.out.size))
              clear hq1 hq2 hq3 hqb HP
              have cp := (blk_all HP3.out.1).1
              have cq := (blk_all HQ.out.1).1
              cases A1 <;> cases A2
              all_goals
                go_upto_region 15 with (first
                  | (go_at_call 39; ((with_reducible refine (sameBools_any _ _ _ _ C.outs.length O1 O2 _ HP3.out.2.1 HQ.out.2.1 HLn.out.1 HLn.out.2.1 (by omega)).mono ?_); rintro e w6 ⟨rfl, hd⟩; rw [← HA1.out]; have HR3 := Lib.hid (HR3.out.trans ((hd.below _).mono HR3.out.size)); have HP3 := Lib.hid (And.intro (blk_below (hd.below _) (blk_lt HP3.out.1) HP3.out.1) (And.intro (HP3.out.2.1.mono (hd.below _)) (HP3.out.2.2.mono (hd.below _)))); have HQ := Lib.hid (And.intro (blk_below (hd.below _) (blk_lt HQ.out.1) HQ.out.1) (And.intro (HQ.out.2.1.mono (hd.below _)) (HQ.out.2.2.mono (hd.below _)))); clear hd cp cq; have cp := (blk_all HP3.out.1).1; have cq := (blk_all HQ.out.1).1))
                  | (go_at_call 39; ((with_reducible refine (sameBools_any _ _ _ _ C.next.length N1 N2 _ HP3.out.2.2 HQ.out.2.2 HLn.out.2.2.1 HLn.out.2.2.2 (by omega)).mono ?_); rintro e w7 ⟨rfl, hd⟩; rw [← HA2.out]; have HR3 := Lib.hid (HR3.out.trans ((hd.below _).mono HR3.out.size)); clear hd cp cq)))
                (try clear cp cq)
                have cb := (HC.out _ HR3.out).cb
                go_wp2_with (go_at_call 40; ((refine (Detects_any C ni HX.out.2.1 sn sg so cn cg co i val k _ (by rw [HX.out.2.1]; exact (HC.out _ HR3.out).cv) (HC.out _ HR3.out).an (HC.out _ HR3.out).ag (HC.out _ HR3.out).ao HX.out.1 (by omega) (by rw [← HX.out.2.2.2.2.2.1]; omega) (by rw [← HX.out.2.2.2.1]; exact hlt)).mono ?_); rintro e w8 ⟨rfl, hq⟩; rw [HDet.out]; have HR3 := Lib.hid (HR3.out.trans (hq.mono HR3.out.size)); clear hq cb))
                go_roundw
              all_goals first
                | (case rel => exact ⟨k + 1, by omega, by go_num, HR3.out⟩)
                | (case measure => simp [intOf]; omega)
        · have cd := (HC.out _ HR.out).cd
          go_wp2_with (go_at_call 41; ((with_reducible refine (SameInterface_any C (C.mapC f) ni sn sg so s1 s2 s3 cn cg co c1 c2 c3 _ (HC.out _ HR.out).cv (map_cirV HX.out.2.1 (HC.out _ HR.out).xn (HC.out _ HR.out).xg (HC.out _ HR.out).xo (by omega) (by omega) (by omega)) HX.out.2.2.2.2.1 (by rw [HF.out.1]; exact (Cir.validB_iff _).2 (mapC_valid HX.out.1 (by omega)))).mono ?_); rintro e w9 ⟨rfl, hq⟩; have H9 := Lib.hid (HR.out.trans (hq.mono HR.out.size)); clear hq))
          go_ret
          exact ⟨rfl, HW.out.trans ((HF.out.2.trans (H9.out.mono HF.out.2.size)).mono HW.out.size)⟩
    · have HE : Hid (¬ fgOk C i) := hok
      have HC1 : Hid (∀ W, Below W1.heap.size W1 W → CirV W (.agg #[.int .i64 C.inp, .slice sn C.next.length cn, .slice sg C.gates.length cg, .slice so C.outs.length co]) C ∧ (∀ o, W.cell? ⟨B, o, none⟩ = #[Value.int .i64 C.inp, .slice sn C.next.length cn, .slice sg C.gates.length cg, .slice so C.outs.length co][o]?)) := fun W hW => ⟨hV.mono hW, (blk_all (blk_below hW (blk_lt hk) hk)).1⟩
      have cb := (HC1.out _ (Below.refl _ _)).2
      have hbad : ¬ (C.validB = true ∧ C.first ≤ i ∧ i < C.vars) := hok
      rw [hVV] at hVe hbad
      rw [eF] at hbad
      clear hV hns hgs hos hk hbw hok hVV eF
      go_upto_region 5 with (go_at_call 36; ((with_reducible refine (fg_no_i _ _ _ _ _ (HC1.out _ (Below.refl _ _)).1 HE.out).mono ?_); rintro e w2 ⟨s1, c1, s2, c2, s3, c3, rfl, hq⟩; have H2 := Lib.hid hq; clear hq cb))
      obtain ⟨D, hD⟩ : ∃ D, D = w2.heap.size := ⟨_, rfl⟩
      have hk := blk_new w2 (.cells #[.int .i64 0, .slice s1 0 c1, .slice s2 0 c2, .slice s3 0 c3] 26)
      have hbb := below_alloc w2 (.cells #[.int .i64 0, .slice s1 0 c1, .slice s2 0 c2, .slice s3 0 c3] 26)
      rw [← hD] at hk
      rw [← hD]
      clear hD
      have hbl := H2.out.trans (hbb.mono H2.out.size)
      clear hbb H2
      revert hk hbl
      generalize w2.alloc (.cells #[.int .i64 0, .slice s1 0 c1, .slice s2 0 c2, .slice s3 0 c3] 26) = W2
      intro hk hbl
      have HC : Hid (∀ W, Below W2.heap.size W2 W → CirV W (.agg #[.int .i64 C.inp, .slice sn C.next.length cn, .slice sg C.gates.length cg, .slice so C.outs.length co]) C ∧ (∀ o, W.cell? ⟨B, o, none⟩ = #[Value.int .i64 C.inp, .slice sn C.next.length cn, .slice sg C.gates.length cg, .slice so C.outs.length co][o]?) ∧ (∀ o, W.cell? ⟨D, o, none⟩ = #[Value.int .i64 0, .slice s1 0 c1, .slice s2 0 c2, .slice s3 0 c3][o]?)) := fun W hW => by
        obtain ⟨a1, a5⟩ := HC1.out W (hbl.trans (hW.mono hbl.size))
        exact ⟨a1, a5, (blk_all (blk_below hW (blk_lt hk) hk)).1⟩
      have HF := Lib.hid hbl
      clear hk hbl
      refine wp_region_T (fun w' => (∀ o, w'.cell? ⟨B, o, none⟩ = #[Value.int .i64 C.inp, .slice sn C.next.length cn, .slice sg C.gates.length cg, .slice so C.outs.length co][o]?) ∧ (∀ o, w'.cell? ⟨D, o, none⟩ = #[Value.int .i64 0, .slice s1 0 c1, .slice s2 0 c2, .slice s3 0 c3][o]?)) (.q 0 (.q 1 (.q 2 (.q 3 (.e 4 (.e 5 (.q 6 .nil))))))) (by kernel_rfl) (by kernel_rfl) (by kernel_rfl) (HC.out _ (Below.refl _ _).drew).2 ?_
      repeat (first | (refine ordt_s (o := ?_) ?_ ?_ ?_; rotate_left 1; (focus ((simp only [List.getElem?_toArray, List.getElem?_cons_succ, List.getElem?_cons_zero]) <;> rfl)); (focus rfl); simp only [Act.put, List.setIfInBounds_toArray, List.set_cons_zero, List.set_cons_succ]) | (refine ordt_q (o := ?_) (v := ?_) ?_ ?_ ?_ ?_; rotate_left 2; (focus ((simp only [List.getElem?_toArray, List.getElem?_cons_succ, List.getElem?_cons_zero]) <;> rfl)); (focus rfl); (focus (intro w' hS; (try dsimp only at hS); go_split_ands; go_simp; (try (with_reducible rfl)))); simp only [Act.put, List.setIfInBounds_toArray, List.set_cons_zero, List.set_cons_succ]))
      refine ordt_e ?_
      (refine op_e (o := ?_) ?_ ?_ (fun K hK => ?_); rotate_left 1; (focus ((simp only [List.getElem?_toArray, List.getElem?_cons_succ, List.getElem?_cons_zero]) <;> rfl)); (focus rfl); go_simp)
      refine (fg_no_s _ _ _ _ _ (HC.out _ (Below.refl _ _).drew).1 HE.out).mono ?_
      rintro e wa ⟨t1, d1, t2, d2, t3, d3, rfl, hq⟩
      have hba : Below W2.heap.size W2 wa := (Below.refl _ _).drew.trans hq
      refine hK.out _ _ (HC.out _ hba).2 ?_
      clear hK K hq
      have HA := Lib.hid hba
      clear hba
      (try simp only [Act.put, List.setIfInBounds_toArray, List.set_cons_zero, List.set_cons_succ])
      refine ordt_e ?_
      (refine op_e (o := ?_) ?_ ?_ (fun K hK => ?_); rotate_left 1; (focus ((simp only [List.getElem?_toArray, List.getElem?_cons_succ, List.getElem?_cons_zero]) <;> rfl)); (focus rfl); go_simp)
      refine (sameC_zero s1 s2 s3 t1 t2 t3 c1 c2 c3 d1 d2 d3 _).mono ?_
      rintro e w4 ⟨rfl, hq⟩
      have hb4 := HA.out.trans (hq.mono HA.out.size)
      refine hK.out _ _ (HC.out _ hb4).2 ?_
      clear hK K hq
      have H5 := Lib.hid hb4
      clear hb4 HA
      (try simp only [Act.put, List.setIfInBounds_toArray, List.set_cons_zero, List.set_cons_succ])
      repeat (first | (refine ordt_s (o := ?_) ?_ ?_ ?_; rotate_left 1; (focus ((simp only [List.getElem?_toArray, List.getElem?_cons_succ, List.getElem?_cons_zero]) <;> rfl)); (focus rfl); simp only [Act.put, List.setIfInBounds_toArray, List.set_cons_zero, List.set_cons_succ]) | (refine ordt_q (o := ?_) (v := ?_) ?_ ?_ ?_ ?_; rotate_left 2; (focus ((simp only [List.getElem?_toArray, List.getElem?_cons_succ, List.getElem?_cons_zero]) <;> rfl)); (focus rfl); (focus (intro w' hS; (try dsimp only at hS); go_split_ands; go_simp; (try (with_reducible rfl)))); simp only [Act.put, List.setIfInBounds_toArray, List.set_cons_zero, List.set_cons_succ]))
      refine ordt_nil ?_
      have cb := (HC.out _ H5.out).2.1
      have cd := (HC.out _ H5.out).2.2
      cases hv : C.validB
      · have HV := Lib.hid hv
        clear hv hbad hVe
        go_wp2_with (first | (go_at_call 17; ((with_reducible refine (CircuitValid_s _ C _ (HC.out _ H5.out).1).mono ?_); rintro e w5 ⟨rfl, hq⟩; rw [HV.out]; have H5 := Lib.hid (H5.out.trans (hq.mono H5.out.size)); clear hq cb cd; have cb := (HC.out _ H5.out).2.1; have cd := (HC.out _ H5.out).2.2)) | (go_at_call 37; ((refine (sameC_zero _ _ _ _ _ _ _ _ _ _ _ _ _).mono ?_); rintro e w7 ⟨rfl, hq⟩; have H5 := Lib.hid (H5.out.trans (hq.mono H5.out.size)); clear hq cb cd)) | (go_at_call 12; ((with_reducible refine (alive_any _).mono ?_); rintro e w8 ⟨rfl, hq⟩; have H5 := Lib.hid (H5.out.trans (hq.mono H5.out.size)); clear hq)))
        go_ret
        exact ⟨rfl, HW.out.trans ((HF.out.trans (H5.out.mono HF.out.size)).mono HW.out.size)⟩
      · have HV := Lib.hid hv
        rw [hv] at hbad
        by_cases hF : i < 1 + C.inp + C.next.length
        · clear hbad hVe hv
          go_wp2_with (first | (go_at_call 17; ((with_reducible refine (CircuitValid_s _ C _ (HC.out _ H5.out).1).mono ?_); rintro e w5 ⟨rfl, hq⟩; rw [HV.out]; have H5 := Lib.hid (H5.out.trans (hq.mono H5.out.size)); clear hq cb cd; have cb := (HC.out _ H5.out).2.1; have cd := (HC.out _ H5.out).2.2)) | (go_at_call 25; ((with_reducible refine (VarCount_any _ C _ (HC.out _ H5.out).1 HV.out).mono ?_); rintro e w6 ⟨rfl, hq⟩; rw [← HVe.out]; have H5 := Lib.hid (H5.out.trans (hq.mono H5.out.size)); clear hq cb cd; have cb := (HC.out _ H5.out).2.1; have cd := (HC.out _ H5.out).2.2)) | (go_at_call 37; ((refine (sameC_zero _ _ _ _ _ _ _ _ _ _ _ _ _).mono ?_); rintro e w7 ⟨rfl, hq⟩; have H5 := Lib.hid (H5.out.trans (hq.mono H5.out.size)); clear hq cb cd)) | (go_at_call 12; ((with_reducible refine (alive_any _).mono ?_); rintro e w8 ⟨rfl, hq⟩; have H5 := Lib.hid (H5.out.trans (hq.mono H5.out.size)); clear hq)))
          go_ret
          exact ⟨rfl, HW.out.trans ((HF.out.trans (H5.out.mono HF.out.size)).mono HW.out.size)⟩
        · have hF3 : VV ≤ i := by
            by_cases h : i < VV
            · exact absurd ⟨rfl, by omega, by omega⟩ hbad
            · omega
          have HVe : Hid (VV = C.vars) := by show _ = _; rw [hVe]; unfold Cir.vars; rfl
          have hVb : VV ≤ 100 := by omega
          clear hbad hv
          go_wp2_with (first | (go_at_call 17; ((with_reducible refine (CircuitValid_s _ C _ (HC.out _ H5.out).1).mono ?_); rintro e w5 ⟨rfl, hq⟩; rw [HV.out]; have H5 := Lib.hid (H5.out.trans (hq.mono H5.out.size)); clear hq cb cd; have cb := (HC.out _ H5.out).2.1; have cd := (HC.out _ H5.out).2.2)) | (go_at_call 25; ((with_reducible refine (VarCount_any _ C _ (HC.out _ H5.out).1 HV.out).mono ?_); rintro e w6 ⟨rfl, hq⟩; rw [← HVe.out]; have H5 := Lib.hid (H5.out.trans (hq.mono H5.out.size)); clear hq cb cd; have cb := (HC.out _ H5.out).2.1; have cd := (HC.out _ H5.out).2.2)) | (go_at_call 37; ((refine (sameC_zero _ _ _ _ _ _ _ _ _ _ _ _ _).mono ?_); rintro e w7 ⟨rfl, hq⟩; have H5 := Lib.hid (H5.out.trans (hq.mono H5.out.size)); clear hq cb cd)) | (go_at_call 12; ((with_reducible refine (alive_any _).mono ?_); rintro e w8 ⟨rfl, hq⟩; have H5 := Lib.hid (H5.out.trans (hq.mono H5.out.size)); clear hq)))
          go_ret
          exact ⟨rfl, HW.out.trans ((HF.out.trans (H5.out.mono HF.out.size)).mono HW.out.size)⟩
  · clear hs hr
    go_enter Try.func7, Try.ntmps7
    go_wp2
    go_ret
    exact ⟨rfl, Below.refl _ _⟩

end Go.Proofs.Ytnmafbggpjglaaa
