import Derived.Test.YtbbefoohelcokaaRI
import Derived.Test.YtbbefoohelcokaaL4
import Derived.Test.YtbbefoohelcokaaA4
namespace Go.Proofs.Ytbbefoohelcokaa
set_option linter.unusedVariables false
set_option linter.unusedSimpArgs false
open Go.RowKit

/-! l20Small, DrawCanScan. -/

def SmPost (R : Nat) (w : World) (e : Ending) (w' : World) : Prop :=
  ∃ (C : Cir) (vn vg vo : Value), e = .returned (.agg #[.int .i64 C.inp, vn, vg, vo]) ∧ CirOwn w' w.heap.size C vn vg vo ∧ (-10 ≤ C.inp ∧ C.inp ≤ 10 ∧ C.next.length ≤ 8 ∧ C.gates.length ≤ 40 ∧ C.outs.length ≤ 16) ∧ Kp R w.heap.size w w'

theorem small_ret {R : Nat} {s : Option Addr} {c : Nat} {xs : List Int} {w W1 w3 : World} {B : Nat} {inp : Int} {xn : List Int} {xg : List Gt} {xo : List Int} {sn sg so : Option Addr} {nn ng no cn cg co p : Nat} {a : Act} (h : KT R s c xs W1 B inp xn xg xo (.slice sn nn cn) (.slice sg ng cg) (.slice so no co) p w3)
    (en : nn = xn.length) (eg : ng = xg.length) (eo : no = xo.length)
    (h0 : w3.heap[w.heap.size]? = some (.cells #[.int .i64 0, .slice none 0 0, .slice none 0 0, .slice none 0 0] 26 (0, 0))) (hk : Kp R w.heap.size w w3) (hlt : w.heap.size < W1.heap.size)
    (hl : -10 ≤ inp ∧ inp ≤ 10 ∧ xn.length ≤ 8 ∧ xg.length ≤ 40 ∧ xo.length ≤ 16) (ha : a.tmps.getD 4 undef = .pointer (some ⟨w.heap.size, 0, none⟩)) (hd : a.defers = []) :
    bodyPost Try.prog Try.f10 (SmPost R w) .ret a ((((w3.setCell ⟨w.heap.size, 0, none⟩ (.int .i64 inp)).setCell ⟨w.heap.size, 1, none⟩ (.slice sn nn cn)).setCell ⟨w.heap.size, 2, none⟩ (.slice sg ng cg)).setCell ⟨w.heap.size, 3, none⟩ (.slice so no co)) := by
  subst en eg eo
  have hown : CirOwn w3 W1.heap.size ⟨inp, xn, xg, xo⟩ (.slice sn xn.length cn) (.slice sg xg.length cg) (.slice so xo.length co) := ⟨h.out.n, h.out.g, h.out.o, h.out.ne, Nat.le_trans hl.2.2.1 (by omega), Nat.le_trans hl.2.2.2.1 (by omega), Nat.le_trans hl.2.2.2.2 (by omega)⟩
  have hZ : (((((w3.setCell ⟨w.heap.size, 0, none⟩ (.int .i64 inp)).setCell ⟨w.heap.size, 1, none⟩ (.slice sn xn.length cn)).setCell ⟨w.heap.size, 2, none⟩ (.slice sg xg.length cg)).setCell ⟨w.heap.size, 3, none⟩ (.slice so xo.length co))).heap[w.heap.size]? = some (.cells #[.int .i64 inp, .slice sn xn.length cn, .slice sg xg.length cg, .slice so xo.length co] 26 (0, 0)) := by
    simpa using blk_set (o := 3) (v := .slice so xo.length co) (blk_set (o := 2) (v := .slice sg xg.length cg) (blk_set (o := 1) (v := .slice sn xn.length cn) (blk_set (o := 0) (v := .int .i64 inp) h0)))
  have hR := hown.sets4 (r := w.heap.size) hlt (base := w.heap.size) (by omega) (a := .int .i64 inp) (b' := .slice sn xn.length cn) (c' := .slice sg xg.length cg) (d := .slice so xo.length co)
  have hB := (((((Below.refl w.heap.size w3).setCell (p := ⟨w.heap.size, 0, none⟩) (by simp) (.int .i64 inp)).setCell (p := ⟨w.heap.size, 1, none⟩) (by simp) (.slice sn xn.length cn)).setCell (p := ⟨w.heap.size, 2, none⟩) (by simp) (.slice sg xg.length cg)).setCell (p := ⟨w.heap.size, 3, none⟩) (by simp) (.slice so xo.length co))
  have hk2 := hk.trans (Kp.of_below hB)
  clear h0 hk hB hown h
  revert hZ hR hk2
  generalize (((((w3.setCell ⟨w.heap.size, 0, none⟩ (.int .i64 inp)).setCell ⟨w.heap.size, 1, none⟩ (.slice sn xn.length cn)).setCell ⟨w.heap.size, 2, none⟩ (.slice sg xg.length cg)).setCell ⟨w.heap.size, 3, none⟩ (.slice so xo.length co))) = WZ
  intro hZ hR hk2
  have cr := (blk_all hZ).1
  have ha' : a.tmps[4]?.getD undef = .pointer (some ⟨w.heap.size, 0, none⟩) := by simpa using ha
  exact bodyPost_ret (v := .agg #[.int .i64 inp, .slice sn xn.length cn, .slice sg xg.length cg, .slice so xo.length co]) (by simp [results, Try.results10, go_sem, cr, ha']) hd ⟨⟨inp, xn, xg, xo⟩, _, _, _, rfl, hR, hl, hk2⟩

set_option maxRecDepth 100000 in
set_option maxHeartbeats 3200000 in
theorem l20Small_any (R : Nat) (s : Option Addr) (c : Nat) (xs : List Int) (p : Nat) (n : Int) (w : World) (h : Rd w R s c xs p) (hp : p ≤ 1000000) (hn : 0 ≤ n) (hn2 : n ≤ 1000) :
    Calls Try.prog 10 #[.pointer (some ⟨R, 0, none⟩), .int .i64 n] w (SmPost R w) := by
  have hR : R < w.heap.size := blk_lt h.blk
  obtain ⟨W0, hW0⟩ : ∃ W0, W0 = w.alloc (.cells #[.int .i64 0, .slice none 0 0, .slice none 0 0, .slice none 0 0] 26) := ⟨_, rfl⟩
  have hz : W0.heap.size = w.heap.size + 1 := by rw [hW0]; simp
  have hrd : Rd W0 R s c xs p := by rw [hW0]; exact h.mono (below_al _ _)
  have hb0 : Below w.heap.size w W0 := by rw [hW0]; exact below_al _ _
  have hk0 : W0.heap[w.heap.size]? = some (.cells #[.int .i64 0, .slice none 0 0, .slice none 0 0, .slice none 0 0] 26 (0, 0)) := by rw [hW0]; exact blk_new _ _
  have HZ := Lib.hid hz
  have HW0 := Lib.hid (And.intro hW0 (And.intro hb0 hk0))
  have HRD := Lib.hid hrd
  clear h hrd hW0 hz hb0 hk0
  go_enter Try.func10, Try.ntmps10
  go_upto_region 1 with fail
  rw [← HW0.out.1]
  go_upto_region 2 with (go_at_call 18; (with_reducible refine (l20Circuit_any _ _ _ _ _ _ _ HRD.out (by omega) (by omega) (by omega)).mono ?_); rintro e w2 ⟨C, vn, vg, vo, p', rfl, h1, h2, h3, h4, h5⟩; obtain ⟨sn, cn, rfl⟩ := own_shape h1.n; obtain ⟨sg, cg, rfl⟩ := own_shape h1.g; obtain ⟨so, co, rfl⟩ := own_shape h1.o; have HI := Lib.hid (And.intro h1 (And.intro h3 h5)); obtain ⟨l1, l2, l3, l4, l5⟩ := h2; have hp' : p' ≤ p + 1000 := (by omega); clear h1 h3 h4 h5)
  obtain ⟨B, hB⟩ : ∃ B, B = w2.heap.size := ⟨_, rfl⟩
  have hk0 : KT R s c xs W0 B C.inp C.next C.gates C.outs (.slice sn C.next.length cn) (.slice sg C.gates.length cg) (.slice so C.outs.length co) p' (w2.alloc (.cells #[.int .i64 C.inp, .slice sn C.next.length cn, .slice sg C.gates.length cg, .slice so C.outs.length co] 26)) :=
    ⟨⟨by rw [hB]; exact blk_new _ _, own_below HI.out.1.n (below_al _ _), own_below HI.out.1.g (below_al _ _), own_below HI.out.1.o (below_al _ _), HI.out.1.ne⟩, HI.out.2.1.mono (below_al _ _), HI.out.2.2.alloc (Nat.le_refl _) _, by have := HZ.out; omega, by rw [hB]; exact HI.out.2.2.size⟩
  have HK := Lib.hid hk0
  clear hk0 HI HRD
  rw [← hB]
  revert HK
  generalize w2.alloc (.cells #[.int .i64 C.inp, .slice sn C.next.length cn, .slice sg C.gates.length cg, .slice so C.outs.length co] 26) = W1
  intro HK
  clear hB
  have HRS : Hid (∀ W {gs : List Gt} {os : List Int} {u v : Value} {q : Nat}, KT R s c xs W0 B C.inp C.next gs os (.slice sn C.next.length cn) u v q W → W.heap[w.heap.size]? = some (.cells #[.int .i64 0, .slice none 0 0, .slice none 0 0, .slice none 0 0] 26 (0, 0)) ∧ Kp R w.heap.size w W ∧ w.heap.size < W0.heap.size ∧ w.heap.size < W.heap.size) := fun W gs os u v q hk => by
    have e1 := HZ.out
    have e2 := hk.kp.size
    exact ⟨by rw [hk.kp.block _ (by omega) (by omega)]; exact HW0.out.2.2, (Kp.of_below HW0.out.2.1).trans (hk.kp.mono (by omega)), by omega, by omega⟩
  go_upto_region 4 with (first
    | (go_at_call 19; (with_reducible refine (odd_kt _ _ _ _ _ _ _ _ _ _ _ _ _ _ _ _ HK.out (by omega) (by omega) (by omega)).mono ?_); rintro e w3 ⟨q1, p2, rfl, hp2, hk2⟩; have HKb := Lib.hid hk2; clear hk2; have cb := (blk_all HKb.out.out.blk).1; obtain ⟨rc, rf⟩ := blk_all (HRS.out _ HKb.out).1; cases q1)
    | (go_at_call 12; (with_reducible refine (CircuitValid_s _ C _ (own_cv (base := W0.heap.size) ⟨HKb.out.out.n, HKb.out.out.g, HKb.out.out.o, HKb.out.out.ne, (by omega), (by omega), (by omega)⟩)).mono ?_); rintro e w4 ⟨rfl, hq⟩; have HKc := Lib.hid (HKb.out.below hq); clear hq cb rc rf; have cb := (blk_all HKc.out.out.blk).1; obtain ⟨rc, rf⟩ := blk_all (HRS.out _ HKc.out).1; cases hv : C.validB))
  · exact small_ret HKc.out rfl rfl rfl (HRS.out _ HKc.out).1 (HRS.out _ HKc.out).2.1 (HRS.out _ HKc.out).2.2.1 ⟨by omega, by omega, by omega, by omega, by omega⟩ rfl rfl
  · have HV := Lib.hid hv
    clear hv cb rc rf HKb
    obtain ⟨Bz, hBz⟩ : ∃ B, B = w4.heap.size := ⟨_, rfl⟩
    have hp2' : p2 ≤ p + 1001 := by omega
    go_upto_region 5 with (go_at_call 20; ((refine (pick_any _ _ _ _ _ _ _ HKc.out.rd (by omega) (by omega)).mono ?_); rintro e w5 ⟨k, rfl, hk1, hk2, hk3, hk4⟩; obtain ⟨I, rfl⟩ := Int.eq_ofNat_of_zero_le hk1.1; have HI := Lib.hid (And.intro hk1 (And.intro hk2 (And.intro hk3 hk4))); clear hk1 hk2 hk3 hk4))
    have i4 : I ≤ 2 := by have := HI.out.1.2; omega
    obtain ⟨B6, hB6⟩ : ∃ B, B = w5.heap.size := ⟨_, rfl⟩
    have hRs := HRS.out _ HKc.out
    have hk0 : KT R s c xs w4 B6 I [] [] [] (.slice none 0 0) (.slice none 0 0) (.slice none 0 0) (p2 + 1) (w5.alloc (.cells #[.int .i64 (I : Int), .slice none 0 0, .slice none 0 0, .slice none 0 0] 26)) :=
      ⟨⟨by rw [hB6]; exact blk_new _ _, World.ownsRow_nil _ _ _ _, World.ownsRow_nil _ _ _ _, World.ownsRow_nil _ _ _ _, (fun k hk => by cases hk)⟩, HI.out.2.1.mono ((Below.refl _ _).alloc (Nat.le_refl _) _), (Kp.of_upd HI.out.2.2.1 (Nat.le_refl _)).alloc (Nat.le_refl _) _, by omega, by rw [hB6, HI.out.2.2.2]; exact Nat.le_refl _⟩
    have HK := Lib.hid hk0
    have HR4 := Lib.hid hRs
    clear hk0 HI hRs hBz
    rw [← hB6]
    revert HK
    generalize w5.alloc (.cells #[.int .i64 (I : Int), .slice none 0 0, .slice none 0 0, .slice none 0 0] 26) = W6
    intro HK
    clear hB6 HKc HRS
    have HR6 : Hid (∀ W {xn os : List Int} {gs : List Gt} {u v z : Value} {q : Nat}, KT R s c xs w4 B6 I xn gs os u v z q W → W.heap[w.heap.size]? = some (.cells #[.int .i64 0, .slice none 0 0, .slice none 0 0, .slice none 0 0] 26 (0, 0)) ∧ Kp R w.heap.size w W ∧ w.heap.size < w4.heap.size) := fun W xn os gs u v z q hk => by
      have e := HR4.out.2.2.2
      exact ⟨by rw [hk.kp.block _ (by omega) (by omega)]; exact HR4.out.1, HR4.out.2.1.trans (hk.kp.mono (by omega)), e⟩
    go_upto_region 6 with (go_at_call 20; ((with_reducible refine (pick_kt _ _ _ _ _ _ _ _ _ _ _ _ _ _ _ _ HK.out (by omega) (by omega)).mono ?_); rintro e w' ⟨q, rfl, hk1, hk2, -, -⟩; have HK := Lib.hid hk2; have hq1 : q ≤ 1 := (by have := hk1.2; omega); clear hk1 hk2; (try clear cb); have cb := HK.out.cells.1))
    obtain ⟨L, hL⟩ : ∃ L : Nat, L = 1 + q := ⟨_, rfl⟩
    have hLq : 1 + (q : Int) = (L : Int) := by omega
    have l3 : L ≤ 2 := by omega
    rw [hLq]
    clear hL hLq hq1
    go_upto_region 7 with fail
    go_wp2_with (go_at_call 20; ((with_reducible refine (pick_kt _ _ _ _ _ _ _ _ _ _ _ _ _ _ _ _ HK.out (by omega) (by omega)).mono ?_); rintro e w' ⟨G, rfl, hk1, hk2, -, -⟩; have HK := Lib.hid hk2; have HPG := Lib.hid hk1; clear hk1 hk2; (try clear cb); have cb := HK.out.cells.1))
    have g14 : G ≤ 8 := by have := HPG.out.2; omega
    clear HPG
    clear cb
    go_loopw [9, 8] (fun v9 v8 wr => ∃ (k V : Nat) (xg : List Gt) (sg : Option Addr) (cg p' : Nat), v9 = .int .i64 k ∧ v8 = .int .i64 V ∧ KT R s c xs w4 B6 I [] xg [] (.slice none 0 0) (.slice sg xg.length cg) (.slice none 0 0) p' wr ∧ xg.length + k ≤ 14 ∧ V + k ≤ 22 ∧ 1 ≤ V ∧ p' + 5 * k ≤ p + 1080) (fun v9 _ _ => (intOf v9).toNat)
    case atStart => exact ⟨G, I + L + 1, [], _, _, _, rfl, by go_num, HK.out, by simp; omega, by omega, by omega, by omega⟩
    case round =>
      clear HK
      obtain ⟨k, V, xg, tg, dg, p', rfl, rfl, hk, hxk, hVk, hV1, hpk⟩ := hrel
      have HK := Lib.hid hk
      clear hk
      by_cases hlt : 0 < k
      · obtain ⟨V2, hV2⟩ : ∃ v : Int, v = 2 * (V : Int) := ⟨_, rfl⟩
        have hw2 : IntKind.i64.wrap (2 * (V : Int)) = V2 := by rw [IntWalk.i64_in _ ⟨by omega, by omega⟩]; exact hV2.symm
        have hV3 : V2 ≤ 44 := by omega
        clear hV2
        go_upto_region 10 with fail
        refine wp_region_E (fun w' => ∀ o, w'.cell? ⟨B6, o, none⟩ = #[Value.int .i64 I, .slice none 0 0, .slice tg xg.length dg, .slice none 0 0][o]?) 14 (.q 0 (.q 1 (.q 2 (.q 3 (.q 4 (.q 6 (.q 7 (.q 8 (.e 5 (.e 9 (.q 10 (.e 11 (.e 12 (.q 13 (.z 14))))))))))))))) (by kernel_rfl) (by kernel_rfl) (by kernel_rfl) (by kernel_rfl) (by kernel_rfl) (by kernel_rfl) HK.out.drew.cells.1 ?_
        repeat (first | (refine orde_s (o := ?_) ?_ ?_ ?_; rotate_left 1; (focus ((simp only [List.getElem?_toArray, List.getElem?_cons_succ, List.getElem?_cons_zero]) <;> rfl)); (focus rfl); simp only [Act.put, List.setIfInBounds_toArray, List.set_cons_zero, List.set_cons_succ]) | (refine orde_q (o := ?_) (v := ?_) ?_ ?_ ?_ ?_; rotate_left 2; (focus ((simp only [List.getElem?_toArray, List.getElem?_cons_succ, List.getElem?_cons_zero]) <;> rfl)); (focus rfl); (focus (intro w' hS; (try dsimp only at hS); go_split_ands; go_simp; (try (with_reducible rfl)))); simp only [Act.put, List.setIfInBounds_toArray, List.set_cons_zero, List.set_cons_succ]))
        refine orde_e ?_
        (refine ope_e (o := ?_) ?_ ?_ (fun K hK => ?_); rotate_left 1; (focus ((simp only [List.getElem?_toArray, List.getElem?_cons_succ, List.getElem?_cons_zero]) <;> rfl)); (focus rfl); go_simp)
        refine (pick_kt _ _ _ _ _ _ _ _ _ _ _ _ _ _ _ _ HK.out.drew (by omega) (by omega)).mono ?_
        rintro e wa ⟨q1, rfl, -, hk2, -, -⟩
        refine hK.out _ _ hk2.cells.1 ?_
        clear hK K
        have HK1 := Lib.hid hk2
        clear hk2
        (try simp only [Act.put, List.setIfInBounds_toArray, List.set_cons_zero, List.set_cons_succ])
        refine orde_e ?_
        (refine ope_e (o := ?_) ?_ ?_ (fun K hK => ?_); rotate_left 1; (focus ((simp only [List.getElem?_toArray, List.getElem?_cons_succ, List.getElem?_cons_zero]) <;> rfl)); (focus rfl); go_simp)
        refine (pick_kt _ _ _ _ _ _ _ _ _ _ _ _ _ _ _ _ HK1.out (by omega) (by omega)).mono ?_
        rintro e wb ⟨q2, rfl, -, hk2, -, -⟩
        refine hK.out _ _ hk2.cells.1 ?_
        clear hK K
        have hA := hk2.alloc (.cells #[.int .i64 (q1 : Int), .int .i64 (q2 : Int)] 36)
        have hs := Sl.new wb #[.int .i64 (q1 : Int), .int .i64 (q2 : Int)] 36
        clear hk2
        (try simp only [Act.put, List.setIfInBounds_toArray, List.set_cons_zero, List.set_cons_succ])
        repeat (first | (refine orde_s (o := ?_) ?_ ?_ ?_; rotate_left 1; (focus ((simp only [List.getElem?_toArray, List.getElem?_cons_succ, List.getElem?_cons_zero]) <;> rfl)); (focus rfl); simp only [Act.put, List.setIfInBounds_toArray, List.set_cons_zero, List.set_cons_succ]) | (refine orde_q (o := ?_) (v := ?_) ?_ ?_ ?_ ?_; rotate_left 2; (focus ((simp only [List.getElem?_toArray, List.getElem?_cons_succ, List.getElem?_cons_zero]) <;> rfl)); (focus rfl); (focus (intro w' hS; (try dsimp only at hS); go_split_ands; go_simp; (try (with_reducible rfl)))); simp only [Act.put, List.setIfInBounds_toArray, List.set_cons_zero, List.set_cons_succ]))
        refine orde_e ?_
        (refine ope_e (o := ?_) ?_ ?_ (fun K hK => ?_); rotate_left 1; (focus ((simp only [List.getElem?_toArray, List.getElem?_cons_succ, List.getElem?_cons_zero]) <;> rfl)); (focus rfl); go_simp)
        revert hA hs
        generalize wb.alloc (.cells #[.int .i64 (q1 : Int), .int .i64 (q2 : Int)] 36) = W2
        intro hA hs
        refine hK.out _ _ hA.cells.1 ?_
        clear hK K
        have HA := Lib.hid (And.intro hA hs)
        clear hA hs
        (try simp only [Act.put, List.setIfInBounds_toArray, List.set_cons_zero, List.set_cons_succ])
        refine orde_e ?_
        (refine ope_e (o := ?_) ?_ ?_ (fun K hK => ?_); rotate_left 1; (focus ((simp only [List.getElem?_toArray, List.getElem?_cons_succ, List.getElem?_cons_zero]) <;> rfl)); (focus rfl))
        refine wp_app (.tmp 42) (.tmp 52) rfl elem_gate HA.out.1.out.g rfl rfl (by simp) HA.out.2 (by simp [Value.oneCell']) (xg.length + 1) rfl _ rfl (by unfold maxLen; omega) (by omega) HA.out.1.sz ?_
        intro s6 c6 W3 h6 hb6 hg6 hob6
        obtain ⟨hB6, xg', e1, hK1⟩ := HA.out.1.pushG1 h6 rfl hg6
        refine hK.out _ _ (blk_all hB6).1 ?_
        clear hK K
        have y1 : W3.cell? ⟨B6, 2, none⟩ = some (.slice tg xg.length dg) := blk_cell hB6
        have y2 : W3.frozen? ⟨B6, 2, none⟩ = false := blk_free hB6
        have HK1 := Lib.hid (And.intro e1 hK1)
        clear h6 hb6 hg6 hob6 hB6 e1 hK1
        (try simp only [Act.put, List.setIfInBounds_toArray, List.set_cons_zero, List.set_cons_succ])
        repeat (first | (refine orde_s (o := ?_) ?_ ?_ ?_; rotate_left 1; (focus ((simp only [List.getElem?_toArray, List.getElem?_cons_succ, List.getElem?_cons_zero]) <;> rfl)); (focus rfl); simp only [Act.put, List.setIfInBounds_toArray, List.set_cons_zero, List.set_cons_succ]) | (refine orde_q (o := ?_) (v := ?_) ?_ ?_ ?_ ?_; rotate_left 2; (focus ((simp only [List.getElem?_toArray, List.getElem?_cons_succ, List.getElem?_cons_zero]) <;> rfl)); (focus rfl); (focus (intro w' hS; (try dsimp only at hS); go_split_ands; go_simp; (try (with_reducible rfl)))); simp only [Act.put, List.setIfInBounds_toArray, List.set_cons_zero, List.set_cons_succ]))
        (refine orde_z (o := ?_) ?_ ?_ (fun K hK => ?_); rotate_left 1; (focus ((simp only [List.getElem?_toArray, List.getElem?_cons_succ, List.getElem?_cons_zero]) <;> rfl)); (focus rfl); go_simp)
        refine hK.out _ _ ?_
        clear hK K y1 y2 hw2
        go_wp2_with fail
        obtain ⟨e1, hK1⟩ := HK1.out
        go_roundw
        case rel => exact ⟨k - 1, V + 1, xg', s6, c6, _, by go_num, by go_num, hK1, by omega, by omega, by omega, by omega⟩
        case measure => simp [intOf]; omega
      · obtain rfl : k = 0 := by omega
        obtain ⟨vG, hvG⟩ : ∃ vG, vG = Value.slice tg xg.length dg := ⟨_, rfl⟩
        rw [← hvG] at HK
        have HVG := Lib.hid hvG
        clear hvG
        have hVle : V ≤ 22 := by omega
        have hxg : xg.length ≤ 14 := by omega
        obtain ⟨V2, hV2⟩ : ∃ v : Int, v = 2 * (V : Int) := ⟨_, rfl⟩
        have hw2 : IntKind.i64.wrap (2 * (V : Int)) = V2 := by rw [IntWalk.i64_in _ ⟨by omega, by omega⟩]; exact hV2.symm
        have hV3 : V2 ≤ 44 := by omega
        clear hV2
        go_wp2_with fail
        go_loopw [10] (fun v10 wr => ∃ (k : Nat) (xn : List Int) (s2 : Option Addr) (c2 p2 : Nat), v10 = .int .i64 k ∧ KT R s c xs w4 B6 I xn xg [] (.slice s2 xn.length c2) vG (.slice none 0 0) p2 wr ∧ xn.length ≤ k ∧ k ≤ L ∧ p2 ≤ p + 1080 + k) (fun v10 _ => L - (intOf v10).toNat)
        case atStart => exact ⟨0, [], _, _, _, rfl, HK.out, by simp, by omega, by omega⟩
        case round =>
          clear HK
          obtain ⟨k, xn, s2, c2, p2, rfl, hk, hxk, hkL, hp2⟩ := hrel
          have HK := Lib.hid hk
          clear hk
          by_cases hlt : k < L
          · go_upto_region 15 with fail
            refine wp_region_E (fun w' => ∀ o, w'.cell? ⟨B6, o, none⟩ = #[Value.int .i64 I, .slice s2 xn.length c2, vG, .slice none 0 0][o]?) 9 (.q 0 (.q 1 (.q 2 (.q 3 (.q 4 (.e 5 (.e 6 (.e 7 (.q 8 (.z 9)))))))))) (by kernel_rfl) (by kernel_rfl) (by kernel_rfl) (by kernel_rfl) (by kernel_rfl) (by kernel_rfl) HK.out.drew.cells.1 ?_
            repeat (first | (refine orde_s (o := ?_) ?_ ?_ ?_; rotate_left 1; (focus ((simp only [List.getElem?_toArray, List.getElem?_cons_succ, List.getElem?_cons_zero]) <;> rfl)); (focus rfl); simp only [Act.put, List.setIfInBounds_toArray, List.set_cons_zero, List.set_cons_succ]) | (refine orde_q (o := ?_) (v := ?_) ?_ ?_ ?_ ?_; rotate_left 2; (focus ((simp only [List.getElem?_toArray, List.getElem?_cons_succ, List.getElem?_cons_zero]) <;> rfl)); (focus rfl); (focus (intro w' hS; (try dsimp only at hS); go_split_ands; go_simp; (try (with_reducible rfl)))); simp only [Act.put, List.setIfInBounds_toArray, List.set_cons_zero, List.set_cons_succ]))
            refine orde_e ?_
            (refine ope_e (o := ?_) ?_ ?_ (fun K hK => ?_); rotate_left 1; (focus ((simp only [List.getElem?_toArray, List.getElem?_cons_succ, List.getElem?_cons_zero]) <;> rfl)); (focus rfl); go_simp)
            refine (pick_kt _ _ _ _ _ _ _ _ _ _ _ _ _ _ _ _ HK.out.drew (by omega) (by omega)).mono ?_
            rintro e wa ⟨q, rfl, -, hk2, -, -⟩
            refine hK.out _ _ hk2.cells.1 ?_
            clear hK K
            have hA := hk2.alloc (.cells #[.int .i64 (q : Int)] 3)
            have hs := Sl.new wa #[.int .i64 (q : Int)] 3
            clear hk2
            (try simp only [Act.put, List.setIfInBounds_toArray, List.set_cons_zero, List.set_cons_succ])
            refine orde_e ?_
            (refine ope_e (o := ?_) ?_ ?_ (fun K hK => ?_); rotate_left 1; (focus ((simp only [List.getElem?_toArray, List.getElem?_cons_succ, List.getElem?_cons_zero]) <;> rfl)); (focus rfl); go_simp)
            revert hA hs
            generalize wa.alloc (.cells #[.int .i64 (q : Int)] 3) = W1
            intro hA hs
            refine hK.out _ _ hA.cells.1 ?_
            clear hK K
            have HA := Lib.hid (And.intro hA hs)
            clear hA hs
            (try simp only [Act.put, List.setIfInBounds_toArray, List.set_cons_zero, List.set_cons_succ])
            refine orde_e ?_
            (refine ope_e (o := ?_) ?_ ?_ (fun K hK => ?_); rotate_left 1; (focus ((simp only [List.getElem?_toArray, List.getElem?_cons_succ, List.getElem?_cons_zero]) <;> rfl)); (focus rfl))
            refine wp_app (.tmp 63) (.tmp 68) rfl elem_int HA.out.1.out.n rfl rfl (by simp) HA.out.2 (by simp [Value.oneCell']) (xn.length + 1) rfl _ rfl (by unfold maxLen; omega) (by omega) HA.out.1.sz ?_
            intro s6 c6 W2 h6 hb6 hg6 hob6
            obtain ⟨hB6, xn', e1, hK1⟩ := HA.out.1.pushN1 h6 rfl hg6 hob6
            refine hK.out _ _ (blk_all hB6).1 ?_
            clear hK K
            have y1 : W2.cell? ⟨B6, 1, none⟩ = some (.slice s2 xn.length c2) := blk_cell hB6
            have y2 : W2.frozen? ⟨B6, 1, none⟩ = false := blk_free hB6
            have HK1 := Lib.hid (And.intro e1 hK1)
            clear h6 hb6 hg6 hob6 hB6 e1 hK1
            (try simp only [Act.put, List.setIfInBounds_toArray, List.set_cons_zero, List.set_cons_succ])
            repeat (first | (refine orde_s (o := ?_) ?_ ?_ ?_; rotate_left 1; (focus ((simp only [List.getElem?_toArray, List.getElem?_cons_succ, List.getElem?_cons_zero]) <;> rfl)); (focus rfl); simp only [Act.put, List.setIfInBounds_toArray, List.set_cons_zero, List.set_cons_succ]) | (refine orde_q (o := ?_) (v := ?_) ?_ ?_ ?_ ?_; rotate_left 2; (focus ((simp only [List.getElem?_toArray, List.getElem?_cons_succ, List.getElem?_cons_zero]) <;> rfl)); (focus rfl); (focus (intro w' hS; (try dsimp only at hS); go_split_ands; go_simp; (try (with_reducible rfl)))); simp only [Act.put, List.setIfInBounds_toArray, List.set_cons_zero, List.set_cons_succ]))
            (refine orde_z (o := ?_) ?_ ?_ (fun K hK => ?_); rotate_left 1; (focus ((simp only [List.getElem?_toArray, List.getElem?_cons_succ, List.getElem?_cons_zero]) <;> rfl)); (focus rfl); go_simp)
            refine hK.out _ _ ?_
            clear hK K y1 y2
            go_wp2_with fail
            obtain ⟨e1, hK1⟩ := HK1.out
            go_roundw
            case rel => exact ⟨k + 1, by omega, xn', s6, c6, _, hK1, by omega, by omega, by omega⟩
            case measure => simp [intOf]; omega
          · obtain rfl : k = L := by omega
            obtain ⟨vN, hvN⟩ : ∃ vN, vN = Value.slice s2 xn.length c2 := ⟨_, rfl⟩
            rw [← hvN] at HK
            have HVN := Lib.hid hvN
            clear hvN
            have hxn : xn.length ≤ 3 := by omega
            clear hxk
            go_wp2_with (go_at_call 20; ((with_reducible refine (pick_kt _ _ _ _ _ _ _ _ _ _ _ _ _ _ _ _ HK.out (by omega) (by omega)).mono ?_); rintro e w' ⟨O, rfl, hk1, hk2, -, -⟩; have HK := Lib.hid hk2; have HPO := Lib.hid hk1; clear hk1 hk2; (try clear cb); have cb := HK.out.cells.1))
            have o3 : O ≤ 2 := by have := HPO.out.2; omega
            clear HPO cb
            go_loopw [11] (fun v11 wr => ∃ (k : Nat) (xo : List Int) (s3 : Option Addr) (c3 p3 : Nat), v11 = .int .i64 k ∧ KT R s c xs w4 B6 I xn xg xo vN vG (.slice s3 xo.length c3) p3 wr ∧ xo.length + k ≤ 3 ∧ p3 + 4 * k ≤ p + 1120) (fun v11 _ => (intOf v11).toNat)
            case atStart => exact ⟨O, [], _, _, _, rfl, HK.out, by simp; omega, by omega⟩
            case round =>
              clear HK
              obtain ⟨k, xo, s3, c3, p3, rfl, hk, hxk, hp3⟩ := hrel
              have HK := Lib.hid hk
              clear hk
              by_cases hlt2 : 0 < k
              · go_upto_region 19 with fail
                refine wp_region_E (fun w' => ∀ o, w'.cell? ⟨B6, o, none⟩ = #[Value.int .i64 I, vN, vG, .slice s3 xo.length c3][o]?) 9 (.q 0 (.q 1 (.q 2 (.q 3 (.q 4 (.e 5 (.e 6 (.e 7 (.q 8 (.z 9)))))))))) (by kernel_rfl) (by kernel_rfl) (by kernel_rfl) (by kernel_rfl) (by kernel_rfl) (by kernel_rfl) HK.out.drew.cells.1 ?_
                repeat (first | (refine orde_s (o := ?_) ?_ ?_ ?_; rotate_left 1; (focus ((simp only [List.getElem?_toArray, List.getElem?_cons_succ, List.getElem?_cons_zero]) <;> rfl)); (focus rfl); simp only [Act.put, List.setIfInBounds_toArray, List.set_cons_zero, List.set_cons_succ]) | (refine orde_q (o := ?_) (v := ?_) ?_ ?_ ?_ ?_; rotate_left 2; (focus ((simp only [List.getElem?_toArray, List.getElem?_cons_succ, List.getElem?_cons_zero]) <;> rfl)); (focus rfl); (focus (intro w' hS; (try dsimp only at hS); go_split_ands; go_simp; (try (with_reducible rfl)))); simp only [Act.put, List.setIfInBounds_toArray, List.set_cons_zero, List.set_cons_succ]))
                refine orde_e ?_
                (refine ope_e (o := ?_) ?_ ?_ (fun K hK => ?_); rotate_left 1; (focus ((simp only [List.getElem?_toArray, List.getElem?_cons_succ, List.getElem?_cons_zero]) <;> rfl)); (focus rfl); go_simp)
                refine (pick_kt _ _ _ _ _ _ _ _ _ _ _ _ _ _ _ _ HK.out.drew (by omega) (by omega)).mono ?_
                rintro e wa ⟨q, rfl, -, hk2, -, -⟩
                refine hK.out _ _ hk2.cells.1 ?_
                clear hK K
                have hA := hk2.alloc (.cells #[.int .i64 (q : Int)] 3)
                have hs := Sl.new wa #[.int .i64 (q : Int)] 3
                clear hk2
                (try simp only [Act.put, List.setIfInBounds_toArray, List.set_cons_zero, List.set_cons_succ])
                refine orde_e ?_
                (refine ope_e (o := ?_) ?_ ?_ (fun K hK => ?_); rotate_left 1; (focus ((simp only [List.getElem?_toArray, List.getElem?_cons_succ, List.getElem?_cons_zero]) <;> rfl)); (focus rfl); go_simp)
                revert hA hs
                generalize wa.alloc (.cells #[.int .i64 (q : Int)] 3) = W1
                intro hA hs
                refine hK.out _ _ hA.cells.1 ?_
                clear hK K
                have HA := Lib.hid (And.intro hA hs)
                clear hA hs
                (try simp only [Act.put, List.setIfInBounds_toArray, List.set_cons_zero, List.set_cons_succ])
                refine orde_e ?_
                (refine ope_e (o := ?_) ?_ ?_ (fun K hK => ?_); rotate_left 1; (focus ((simp only [List.getElem?_toArray, List.getElem?_cons_succ, List.getElem?_cons_zero]) <;> rfl)); (focus rfl))
                refine wp_app (.tmp 78) (.tmp 83) rfl elem_int HA.out.1.out.o rfl rfl (by simp) HA.out.2 (by simp [Value.oneCell']) (xo.length + 1) rfl _ rfl (by unfold maxLen; omega) (by omega) HA.out.1.sz ?_
                intro s6 c6 W2 h6 hb6 hg6 hob6
                obtain ⟨hB6, xo', e1, hK1⟩ := HA.out.1.pushO1 (ys := [(q : Int)]) h6 rfl hg6 hob6
                refine hK.out _ _ (blk_all hB6).1 ?_
                clear hK K
                have y1 : W2.cell? ⟨B6, 3, none⟩ = some (.slice s3 xo.length c3) := blk_cell hB6
                have y2 : W2.frozen? ⟨B6, 3, none⟩ = false := blk_free hB6
                have HK1 := Lib.hid (And.intro e1 hK1)
                clear h6 hb6 hg6 hob6 hB6 e1 hK1
                (try simp only [Act.put, List.setIfInBounds_toArray, List.set_cons_zero, List.set_cons_succ])
                repeat (first | (refine orde_s (o := ?_) ?_ ?_ ?_; rotate_left 1; (focus ((simp only [List.getElem?_toArray, List.getElem?_cons_succ, List.getElem?_cons_zero]) <;> rfl)); (focus rfl); simp only [Act.put, List.setIfInBounds_toArray, List.set_cons_zero, List.set_cons_succ]) | (refine orde_q (o := ?_) (v := ?_) ?_ ?_ ?_ ?_; rotate_left 2; (focus ((simp only [List.getElem?_toArray, List.getElem?_cons_succ, List.getElem?_cons_zero]) <;> rfl)); (focus rfl); (focus (intro w' hS; (try dsimp only at hS); go_split_ands; go_simp; (try (with_reducible rfl)))); simp only [Act.put, List.setIfInBounds_toArray, List.set_cons_zero, List.set_cons_succ]))
                (refine orde_z (o := ?_) ?_ ?_ (fun K hK => ?_); rotate_left 1; (focus ((simp only [List.getElem?_toArray, List.getElem?_cons_succ, List.getElem?_cons_zero]) <;> rfl)); (focus rfl); go_simp)
                refine hK.out _ _ ?_
                clear hK K y1 y2
                go_wp2_with fail
                obtain ⟨e1, hK1⟩ := HK1.out
                go_roundw
                case rel => exact ⟨k - 1, xo', s6, c6, _, by go_num, hK1, by omega, by omega⟩
                case measure => simp [intOf]; omega
              · obtain rfl : k = 0 := by omega
                have cb := HK.out.cells.1
                obtain ⟨rc, rf⟩ := blk_all (HR6.out _ HK.out).1
                have hk9 := HK.out
                rw [HVG.out, HVN.out] at hk9
                have HK9 := Lib.hid hk9
                rw [HVG.out, HVN.out] at cb
                clear hk9
                go_wp2_with fail
                exact small_ret HK9.out rfl rfl rfl (HR6.out _ HK9.out).1 (HR6.out _ HK9.out).2.1 (HR6.out _ HK9.out).2.2 ⟨by omega, by omega, by omega, by omega, by omega⟩ rfl rfl
  · exact small_ret HKb.out rfl rfl rfl (HRS.out _ HKb.out).1 (HRS.out _ HKb.out).2.1 (HRS.out _ HKb.out).2.2.1 ⟨by omega, by omega, by omega, by omega, by omega⟩ rfl rfl

set_option maxHeartbeats 800000 in
theorem DrawCanScan_any (s : Option Addr) (cap : Nat) (xs : List Int) (w : World) (hs : Sl w s (u8s xs)) (hl : xs.length ≤ 1048576) (hcap : xs.length ≤ cap) (hcap2 : cap ≤ 9223372036854775807) (hr : ∀ x ∈ xs, 0 ≤ x ∧ x ≤ 255) :
    Calls Try.prog 4 #[.slice s xs.length cap] w (DrawnQ w) := by
  obtain ⟨W0, hW0⟩ : ∃ W0, W0 = w.alloc (.cells #[.int .i64 0, .slice none 0 0, .slice none 0 0, .slice none 0 0] 26) := ⟨_, rfl⟩
  have hz : W0.heap.size = w.heap.size + 1 := by rw [hW0]; simp
  have hb0 : Below w.heap.size w W0 := by rw [hW0]; exact (Below.refl _ _).alloc (Nat.le_refl _) _
  have hk0 : W0.heap[w.heap.size]? = some (.cells #[.int .i64 0, .slice none 0 0, .slice none 0 0, .slice none 0 0] 26 (0, 0)) := by rw [hW0]; exact blk_new _ _
  have HH := Lib.hid (l20Open_any s cap xs W0 (hs.mono hb0) hl hcap hcap2 hr)
  have HW := Lib.hid (And.intro hW0 (And.intro hz (And.intro hb0 hk0)))
  clear hs hr hW0 hz hb0 hk0
  go_enter Try.func4, Try.ntmps4
  go_upto_region 1 with fail
  rw [← HW.out.1]
  go_wp2_with (first
    | (go_at_call 11; (with_reducible refine HH.out.mono ?_); rintro e w1 ⟨c, rfl, h1, h2, h3⟩; have H1 := Lib.hid (And.intro h1 (And.intro h2 h3)); clear h1 h2 h3)
    | (go_at_call 10; (with_reducible refine (l20Small_any _ _ _ _ _ _ _ H1.out.1 (by omega) (by omega) (by omega)).mono ?_); rintro e w2 ⟨C, vn, vg, vo, rfl, h1, h2, h6⟩; obtain ⟨sn, cn, rfl⟩ := own_shape h1.n; obtain ⟨sg, cg, rfl⟩ := own_shape h1.g; obtain ⟨so, co, rfl⟩ := own_shape h1.o; have h0 : w2.heap[w.heap.size]? = some (.cells #[.int .i64 0, .slice none 0 0, .slice none 0 0, .slice none 0 0] 26 (0, 0)) := (by have e1 := HW.out.2.1; have e2 := H1.out.2.2; rw [h6.block _ (by omega) (by omega)]; exact blk_below H1.out.2.1 (by omega) HW.out.2.2.2); obtain ⟨rc, rf⟩ := blk_all h0; have H2 := Lib.hid (And.intro h0 (And.intro h1 (And.intro h2 h6))); clear h0 h1 h2 h6))
  have hbl : Below w.heap.size w w2 := by
    have e1 := HW.out.2.1; have e2 := H1.out.2.2
    exact (HW.out.2.2.1.trans (H1.out.2.1.mono (by omega))).trans (H2.out.2.2.2.below (by omega) (by omega))
  have e1 := HW.out.2.1
  have e2 := H1.out.2.2
  have hZ : ((((w2.setCell ⟨w.heap.size, 0, none⟩ (.int .i64 C.inp)).setCell ⟨w.heap.size, 1, none⟩ (.slice sn C.next.length cn)).setCell ⟨w.heap.size, 2, none⟩ (.slice sg C.gates.length cg)).setCell ⟨w.heap.size, 3, none⟩ (.slice so C.outs.length co)).heap[w.heap.size]? = some (.cells #[.int .i64 C.inp, .slice sn C.next.length cn, .slice sg C.gates.length cg, .slice so C.outs.length co] 26 (0, 0)) := by
    simpa using blk_set (o := 3) (v := .slice so C.outs.length co) (blk_set (o := 2) (v := .slice sg C.gates.length cg) (blk_set (o := 1) (v := .slice sn C.next.length cn) (blk_set (o := 0) (v := .int .i64 C.inp) H2.out.1)))
  have hR := (H2.out.2.1).sets4 (r := w.heap.size) (by omega) (base := w.heap.size) (by omega) (a := .int .i64 C.inp) (b' := .slice sn C.next.length cn) (c' := .slice sg C.gates.length cg) (d := .slice so C.outs.length co)
  have hB := ((((hbl).setCell (p := ⟨w.heap.size, 0, none⟩) (by simp) (.int .i64 C.inp)).setCell (p := ⟨w.heap.size, 1, none⟩) (by simp) (.slice sn C.next.length cn)).setCell (p := ⟨w.heap.size, 2, none⟩) (by simp) (.slice sg C.gates.length cg)).setCell (p := ⟨w.heap.size, 3, none⟩) (by simp) (.slice so C.outs.length co)
  clear rc rf
  revert hZ hR hB
  generalize ((((w2.setCell ⟨w.heap.size, 0, none⟩ (.int .i64 C.inp)).setCell ⟨w.heap.size, 1, none⟩ (.slice sn C.next.length cn)).setCell ⟨w.heap.size, 2, none⟩ (.slice sg C.gates.length cg)).setCell ⟨w.heap.size, 3, none⟩ (.slice so C.outs.length co)) = WZ
  intro hZ hR hB
  have cr := (blk_all hZ).1
  exact bodyPost_ret (v := .agg #[.int .i64 C.inp, .slice sn C.next.length cn, .slice sg C.gates.length cg, .slice so C.outs.length co]) (by simp [results, Try.results4, go_sem, cr]) rfl ⟨C, _, _, _, rfl, hR, H2.out.2.2.1, hB⟩

end Go.Proofs.Ytbbefoohelcokaa
