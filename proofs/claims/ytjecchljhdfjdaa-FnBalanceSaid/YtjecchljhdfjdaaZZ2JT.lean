import Derived.Test.YtjecchljhdfjdaaZZ2JP
import Derived.Test.YtjecchljhdfjdaaZZ2JJ
import Derived.Test.YtjecchljhdfjdaaZZ2JQ
import Derived.Test.YtjecchljhdfjdaaZZ2L4
import Derived.Test.YtjecchljhdfjdaaZZ2Q1
namespace Go.Proofs.Ytjecchljhdfjdaa
set_option linter.unusedVariables false
set_option linter.unusedSimpArgs false
open Go.RowKit

/-! Part of the proof of one law. -/

theorem KT.setO {R : Nat} {s : Option Addr} {c : Nat} {xs : List Int} {w0 : World} {B : Nat} {inp : Int} {xn : List Int} {xg : List Gt} {xo : List Int} {vn vg vo : Value} {p : Nat} {w1 : World} (h : KT R s c xs w0 B inp xn xg xo vn vg vo p w1) (l : Int) {q : Nat} (hq : q = w1.heap.size) :
    (w1.alloc (.cells #[.int .i64 l] 3)).heap[B]? = some (.cells #[.int .i64 inp, vn, vg, vo] 28 (0, 0)) ∧ KT R s c xs w0 B inp xn xg [l] vn vg (.slice (some ⟨q, 0, none⟩) 1 1) p ((w1.alloc (.cells #[.int .i64 l] 3)).setCell ⟨B, 3, none⟩ (.slice (some ⟨q, 0, none⟩) 1 1)) := by
  subst hq
  exact h.pushO (xo' := [l]) (vo' := .slice (some ⟨w1.heap.size, 0, none⟩) 1 1) (w1.grownBy_alloc _ _) (own_of_blk (cur := #[.int .i64 l]) (blk_new w1 (.cells #[.int .i64 l] 3)) h.sz rfl (by decide)) (.inr rfl)

theorem bal_ret {R : Nat} {s : Option Addr} {c : Nat} {xs : List Int} {w w1 w3 : World} {B : Nat} {inp : Int} {xn : List Int} {xg : List Gt} {xo : List Int} {sn sg so : Option Addr} {nn ng no cn cg co p : Nat} {a : Act} (h : KT R s c xs w1 B inp xn xg xo (.slice sn nn cn) (.slice sg ng cg) (.slice so no co) p w3)
    (en : nn = xn.length) (eg : ng = xg.length) (eo : no = xo.length)
    (h0 : w3.heap[w.heap.size]? = some (.cells #[.int .i64 0, .slice none 0 0, .slice none 0 0, .slice none 0 0] 28 (0, 0))) (hbl : Below w.heap.size w w3) (h2s : w.heap.size + 2 ≤ w1.heap.size)
    (hl : -10 ≤ inp ∧ inp ≤ 10 ∧ xn.length ≤ 8 ∧ xg.length ≤ 40 ∧ xo.length ≤ 16) (ha : a.tmps.getD 2 undef = .pointer (some ⟨w.heap.size, 0, none⟩)) (hd : a.defers = []) :
    bodyPost Try.prog Try.f18 (DrawnQ w) .ret a ((((w3.setCell ⟨w.heap.size, 0, none⟩ (.int .i64 inp)).setCell ⟨w.heap.size, 1, none⟩ (.slice sn nn cn)).setCell ⟨w.heap.size, 2, none⟩ (.slice sg ng cg)).setCell ⟨w.heap.size, 3, none⟩ (.slice so no co)) := by
  subst en eg eo
  have hown : CirOwn w3 w1.heap.size ⟨inp, xn, xg, xo⟩ (.slice sn xn.length cn) (.slice sg xg.length cg) (.slice so xo.length co) := ⟨h.out.n, h.out.g, h.out.o, h.out.ne, Nat.le_trans hl.2.2.1 (by omega), Nat.le_trans hl.2.2.2.1 (by omega), Nat.le_trans hl.2.2.2.2 (by omega)⟩
  have hBw : w.heap.size < w1.heap.size := by omega
  have hZ : (((((w3.setCell ⟨w.heap.size, 0, none⟩ (.int .i64 inp)).setCell ⟨w.heap.size, 1, none⟩ (.slice sn xn.length cn)).setCell ⟨w.heap.size, 2, none⟩ (.slice sg xg.length cg)).setCell ⟨w.heap.size, 3, none⟩ (.slice so xo.length co))).heap[w.heap.size]? = some (.cells #[.int .i64 inp, .slice sn xn.length cn, .slice sg xg.length cg, .slice so xo.length co] 28 (0, 0)) := by
    simpa using blk_set (o := 3) (v := .slice so xo.length co) (blk_set (o := 2) (v := .slice sg xg.length cg) (blk_set (o := 1) (v := .slice sn xn.length cn) (blk_set (o := 0) (v := .int .i64 inp) h0)))
  have hR := hown.sets4 (r := w.heap.size) (by omega) (base := w.heap.size) (by omega) (a := .int .i64 inp) (b' := .slice sn xn.length cn) (c' := .slice sg xg.length cg) (d := .slice so xo.length co)
  have hB := ((((hbl).setCell (p := ⟨w.heap.size, 0, none⟩) (by simp) (.int .i64 inp)).setCell (p := ⟨w.heap.size, 1, none⟩) (by simp) (.slice sn xn.length cn)).setCell (p := ⟨w.heap.size, 2, none⟩) (by simp) (.slice sg xg.length cg)).setCell (p := ⟨w.heap.size, 3, none⟩) (by simp) (.slice so xo.length co)
  clear h0 hbl hown h
  revert hZ hR hB
  generalize (((((w3.setCell ⟨w.heap.size, 0, none⟩ (.int .i64 inp)).setCell ⟨w.heap.size, 1, none⟩ (.slice sn xn.length cn)).setCell ⟨w.heap.size, 2, none⟩ (.slice sg xg.length cg)).setCell ⟨w.heap.size, 3, none⟩ (.slice so xo.length co))) = WZ
  intro hZ hR hB
  have cr := (blk_all hZ).1
  have ha' : a.tmps[2]?.getD undef = .pointer (some ⟨w.heap.size, 0, none⟩) := by simpa using ha
  exact bodyPost_ret (v := .agg #[.int .i64 inp, .slice sn xn.length cn, .slice sg xg.length cg, .slice so xo.length co]) (by simp [results, Try.results18, go_sem, cr, ha']) hd ⟨⟨inp, xn, xg, xo⟩, _, _, _, rfl, hR, hl, hB⟩

set_option maxRecDepth 100000 in
set_option maxHeartbeats 3200000 in
theorem DrawBalance_any (s : Option Addr) (cap : Nat) (xs : List Int) (w : World) (hs : Sl w s (u8s xs)) (hl : xs.length ≤ 1048576) (hcap : xs.length ≤ cap) (hcap2 : cap ≤ 9223372036854775807) (hr : ∀ x ∈ xs, 0 ≤ x ∧ x ≤ 255) :
    Calls Try.prog 18 #[.slice s xs.length cap] w (DrawnQ w) := by
  obtain ⟨W0, hW0⟩ : ∃ W0, W0 = w.alloc (.cells #[.int .i64 0, .slice none 0 0, .slice none 0 0, .slice none 0 0] 28) := ⟨_, rfl⟩
  have hz : W0.heap.size = w.heap.size + 1 := by rw [hW0]; simp
  have hb0 : Below w.heap.size w W0 := by rw [hW0]; exact below_al _ _
  have hk0 : W0.heap[w.heap.size]? = some (.cells #[.int .i64 0, .slice none 0 0, .slice none 0 0, .slice none 0 0] 28 (0, 0)) := by rw [hW0]; exact blk_new _ _
  have HH := Lib.hid (l20Open_any s cap xs W0 (hs.mono hb0) hl hcap hcap2 hr)
  have HW := Lib.hid (And.intro hW0 (And.intro hz (And.intro hb0 hk0)))
  clear hs hr hW0 hz hb0 hk0
  go_enter Try.func18, Try.ntmps18
  go_upto_region 1 with fail
  rw [← HW.out.1]
  go_upto_region 3 with (first
    | (go_at_call 58; (with_reducible refine HH.out.mono ?_); rintro e w1 ⟨c, rfl, h1, h2, h3⟩; have H1 := Lib.hid (And.intro h1 (And.intro h2 h3)); clear h1 h2 h3)
    | (go_at_call 59; (with_reducible refine (l20Circuit_any _ _ _ _ _ _ _ H1.out.1 (by omega) (by omega) (by omega)).mono ?_); rintro e w2 ⟨C, vn, vg, vo, p', rfl, h1, h2, h3, h4, h5⟩; obtain ⟨sn, cn, rfl⟩ := own_shape h1.n; obtain ⟨sg, cg, rfl⟩ := own_shape h1.g; obtain ⟨so, co, rfl⟩ := own_shape h1.o; have HI := Lib.hid (And.intro h1 (And.intro h3 h5)); obtain ⟨l1, l2, l3, l4, l5⟩ := h2; have hp' : p' ≤ 1000 := (by omega); clear h1 h3 h4 h5))
  obtain ⟨B, hB⟩ : ∃ B, B = w2.heap.size := ⟨_, rfl⟩
  have hk0 : KT W0.heap.size s c (xs.take 2000) w1 B C.inp C.next C.gates C.outs (.slice sn C.next.length cn) (.slice sg C.gates.length cg) (.slice so C.outs.length co) p' (w2.alloc (.cells #[.int .i64 C.inp, .slice sn C.next.length cn, .slice sg C.gates.length cg, .slice so C.outs.length co] 28)) :=
    ⟨⟨by rw [hB]; exact blk_new _ _, own_below HI.out.1.n (below_al _ _), own_below HI.out.1.g (below_al _ _), own_below HI.out.1.o (below_al _ _), HI.out.1.ne⟩, HI.out.2.1.mono (below_al _ _), HI.out.2.2.alloc (Nat.le_refl _) _, by have := H1.out.2.2; omega, by rw [hB]; exact HI.out.2.2.size⟩
  have HK := Lib.hid hk0
  clear hk0 HI HH
  rw [← hB]
  revert HK
  generalize w2.alloc (.cells #[.int .i64 C.inp, .slice sn C.next.length cn, .slice sg C.gates.length cg, .slice so C.outs.length co] 28) = W1
  intro HK
  clear hB
  have HRS : Hid (∀ W {gs : List Gt} {os : List Int} {u v : Value} {p : Nat}, KT W0.heap.size s c (xs.take 2000) w1 B C.inp C.next gs os (.slice sn C.next.length cn) u v p W → W.heap[w.heap.size]? = some (.cells #[.int .i64 0, .slice none 0 0, .slice none 0 0, .slice none 0 0] 28 (0, 0)) ∧ Below w.heap.size w W ∧ w.heap.size + 2 ≤ w1.heap.size) := fun W gs os u v p hk => by
    have e1 := HW.out.2.1; have e2 := H1.out.2.2
    exact ⟨by rw [hk.kp.block _ (by omega) (by omega)]; exact blk_below H1.out.2.1 (by omega) HW.out.2.2.2, (HW.out.2.2.1.trans (H1.out.2.1.mono (by omega))).trans (hk.kp.below (by omega) (by omega)), by omega⟩
  go_upto_region 4 with (first
    | (go_at_call 60; (with_reducible refine (pick_kt _ _ _ _ _ _ _ _ _ _ _ _ _ _ _ _ HK.out (by omega) (by omega)).mono ?_); rintro e w3 ⟨q1, rfl, hp1, hk2, -, -⟩; have HKb := Lib.hid hk2; clear hk2 hp1; have cb := (blk_all HKb.out.out.blk).1; obtain ⟨rc, rf⟩ := blk_all (HRS.out _ HKb.out).1; cases hq1 : ((q1 : Int) == 0))
    | (go_at_call 20; (with_reducible refine (CircuitValid_s _ C _ (own_cv (base := w1.heap.size) ⟨HKb.out.out.n, HKb.out.out.g, HKb.out.out.o, HKb.out.out.ne, (by omega), (by omega), (by omega)⟩)).mono ?_); rintro e w4 ⟨rfl, hq⟩; have HKc := Lib.hid (HKb.out.below hq); clear hq cb rc rf; have cb := (blk_all HKc.out.out.blk).1; obtain ⟨rc, rf⟩ := blk_all (HRS.out _ HKc.out).1; cases hv : C.validB; rotate_left 1; by_cases hi : 1 < C.inp))
  · exact bal_ret HKb.out rfl rfl rfl (HRS.out _ HKb.out).1 (HRS.out _ HKb.out).2.1 (HRS.out _ HKb.out).2.2 ⟨by omega, by omega, by omega, by omega, by omega⟩ rfl rfl
  · have hval := (Cir.validB_iff C).1 hv
    obtain ⟨b1, b2, b3, b4, b5⟩ := hval.lim
    obtain ⟨J, hJ⟩ : ∃ J : Int, J = 2 * C.inp := ⟨_, rfl⟩
    have hw2 : IntKind.i64.wrap (2 * C.inp) = J := by rw [IntWalk.i64_in _ ⟨by omega, by omega⟩]; exact hJ.symm
    have hJ2 : J ≤ 8 := by omega
    have hJ1 : 4 ≤ J := by omega
    obtain ⟨F, hF⟩ : ∃ F : Int, F = 1 + C.inp + C.next.length := ⟨_, rfl⟩
    have hF8 : F ≤ 8 := by omega
    have hF1 : 1 ≤ F := by omega
    have HV := Lib.hid (And.intro hval hF)
    clear hv hval hF hJ cb rc rf HKb
    go_wp2_with fail
    go_loopw [5] (fun v5 wr => ∃ (lit : Int) (xg : List Gt) (tg : Option Addr) (dg p : Nat), v5 = .int .i64 lit ∧ 0 ≤ lit ∧ lit ≤ 1000 ∧ KT W0.heap.size s c (xs.take 2000) w1 B C.inp C.next xg C.outs (.slice sn C.next.length cn) (.slice tg xg.length dg) (.slice so C.outs.length co) p wr ∧ xg.length ≤ 14 ∧ p ≤ 2000 + 2 * xg.length) (fun _ wr => 15 - lenAt wr B)
    case atStart => exact ⟨2, C.gates, _, _, _, rfl, by omega, by omega, HKc.out, by omega, by omega⟩
    case round =>
      obtain ⟨lit, xg, tg, dg, p, rfl, hl0, hl1, hk, hxg, hp⟩ := hrel
      have HK := Lib.hid hk
      have HKr := Lib.hid hk
      clear hk HKc
      go_upto_region 5 with fail
      refine wp_region_T (fun w' => ∀ o, w'.cell? ⟨B, o, none⟩ = #[Value.int .i64 C.inp, .slice sn C.next.length cn, .slice tg xg.length dg, .slice so C.outs.length co][o]?) (.q 0 (.q 1 (.q 2 (.q 3 (.e 4 (.q 5 (.q 6 .nil))))))) (by kernel_rfl) (by kernel_rfl) (by kernel_rfl) HK.out.drew.cells.1 ?_
      repeat (first | (refine ordt_s (o := ?_) ?_ ?_ ?_; rotate_left 1; (focus ((simp only [zD, zE, zF]) <;> rfl)); (focus rfl); simp only [Act.put, zA, zB, zC]) | (refine ordt_q (o := ?_) (v := ?_) ?_ ?_ ?_ ?_; rotate_left 2; (focus ((simp only [zD, zE, zF]) <;> rfl)); (focus rfl); (focus (intro w' hS; (try dsimp only at hS); go_split_ands; go_simp; (try (with_reducible rfl)))); simp only [Act.put, zA, zB, zC]))
      refine ordt_e ?_
      (refine op_e (o := ?_) ?_ ?_ (fun K hK => ?_); rotate_left 1; (focus ((simp only [zD, zE, zF]) <;> rfl)); (focus rfl); go_simp)
      refine (pick_kt _ _ _ _ _ _ _ _ _ _ _ _ _ _ _ _ HK.out.drew (by omega) (by omega)).mono ?_
      rintro e wa ⟨q, rfl, hq, hk2, -, -⟩
      refine hK.out _ _ hk2.cells.1 ?_
      clear hK K
      have hq5 : q ≤ 5 := by have := hq.2; omega
      obtain ⟨M, hM⟩ : ∃ M : Nat, M = 14 - q := ⟨_, rfl⟩
      have hwM : IntKind.i64.wrap (14 - (q : Int)) = (M : Int) := by rw [IntWalk.i64_in _ ⟨by omega, by omega⟩]; omega
      have hM14 : M ≤ 14 := by omega
      have HK := Lib.hid hk2
      clear hq hk2 hM hq5
      (try simp only [Act.put, zA, zB, zC])
      by_cases hlt : xg.length < M
      · have d1 : decide ((xg.length : Int) < (M : Int)) = true := decide_eq_true (by omega)
        have d2 : decide (xg.length < M) = true := decide_eq_true hlt
        repeat (first | (refine ordt_s (o := ?_) ?_ ?_ ?_; rotate_left 1; (focus ((simp only [zD, zE, zF]) <;> rfl)); (focus rfl); simp only [Act.put, zA, zB, zC]) | (refine ordt_q (o := ?_) (v := ?_) ?_ ?_ ?_ ?_; rotate_left 2; (focus ((simp only [zD, zE, zF]) <;> rfl)); (focus rfl); (focus (intro w' hS; (try dsimp only at hS); go_split_ands; go_simp; (try (with_reducible rfl)))); simp only [Act.put, zA, zB, zC]))
        refine ordt_nil ?_
        go_upto_region 6 with fail
        refine wp_region_E (fun w' => ∀ o, w'.cell? ⟨B, o, none⟩ = #[Value.int .i64 C.inp, .slice sn C.next.length cn, .slice tg xg.length dg, .slice so C.outs.length co][o]?) 13 (.q 0 (.q 1 (.q 2 (.q 3 (.q 4 (.q 5 (.q 6 (.e 7 (.q 8 (.q 9 (.e 10 (.e 11 (.q 12 (.z 13)))))))))))))) (by kernel_rfl) (by kernel_rfl) (by kernel_rfl) (by kernel_rfl) (by kernel_rfl) (by kernel_rfl) HK.out.drew.cells.1 ?_
        repeat (first | (refine orde_s (o := ?_) ?_ ?_ ?_; rotate_left 1; (focus ((simp only [zD, zE, zF]) <;> rfl)); (focus rfl); simp only [Act.put, zA, zB, zC]) | (refine orde_q (o := ?_) (v := ?_) ?_ ?_ ?_ ?_; rotate_left 2; (focus ((simp only [zD, zE, zF]) <;> rfl)); (focus rfl); (focus (intro w' hS; (try dsimp only at hS); go_split_ands; go_simp; (try (with_reducible rfl)))); simp only [Act.put, zA, zB, zC]))
        refine orde_e ?_
        (refine ope_e (o := ?_) ?_ ?_ (fun K hK => ?_); rotate_left 1; (focus ((simp only [zD, zE, zF]) <;> rfl)); (focus rfl); go_simp)
        refine (pick_kt _ _ _ _ _ _ _ _ _ _ _ _ _ _ _ _ HK.out.drew (by omega) (by omega)).mono ?_
        rintro e wb ⟨k, rfl, hq, hk2, -, -⟩
        refine hK.out _ _ hk2.cells.1 ?_
        clear hK K
        have hk8 : k ≤ 8 := by have := hq.2; omega
        obtain ⟨K2, hK2⟩ : ∃ K2 : Int, K2 = 2 + (k : Int) := ⟨_, rfl⟩
        have hwK : IntKind.i64.wrap (2 + (k : Int)) = K2 := by rw [IntWalk.i64_in _ ⟨by omega, by omega⟩]; exact hK2.symm
        have hA := hk2.alloc (.cells #[.int .i64 lit, .int .i64 K2] 24)
        have hs := Sl.new wb #[.int .i64 lit, .int .i64 K2] 24
        clear hk2 hq hK2
        (try simp only [Act.put, zA, zB, zC])
        repeat (first | (refine orde_s (o := ?_) ?_ ?_ ?_; rotate_left 1; (focus ((simp only [zD, zE, zF]) <;> rfl)); (focus rfl); simp only [Act.put, zA, zB, zC]) | (refine orde_q (o := ?_) (v := ?_) ?_ ?_ ?_ ?_; rotate_left 2; (focus ((simp only [zD, zE, zF]) <;> rfl)); (focus rfl); (focus (intro w' hS; (try dsimp only at hS); go_split_ands; go_simp; (try (with_reducible rfl)))); simp only [Act.put, zA, zB, zC]))
        refine orde_e ?_
        (refine ope_e (o := ?_) ?_ ?_ (fun K hK => ?_); rotate_left 1; (focus ((simp only [zD, zE, zF]) <;> rfl)); (focus rfl); go_simp)
        revert hA hs
        generalize wb.alloc (.cells #[.int .i64 lit, .int .i64 K2] 24) = W2
        intro hA hs
        refine hK.out _ _ hA.cells.1 ?_
        clear hK K
        have HA := Lib.hid (And.intro hA hs)
        clear hA hs
        (try simp only [Act.put, zA, zB, zC])
        refine orde_e ?_
        (refine ope_e (o := ?_) ?_ ?_ (fun K hK => ?_); rotate_left 1; (focus ((simp only [zD, zE, zF]) <;> rfl)); (focus rfl))
        refine wp_app (.tmp 30) (.tmp 39) rfl elem_gate HA.out.1.out.g rfl rfl (by simp) HA.out.2 (by simp [Value.oneCell']) (xg.length + 1) rfl _ rfl (by unfold maxLen; omega) (by omega) HA.out.1.sz ?_
        intro s6 c6 W3 h6 hb6 hg6 hob6
        obtain ⟨hB6, xg', e1, hK1⟩ := HA.out.1.pushG1 h6 rfl hg6
        refine hK.out _ _ (blk_all hB6).1 ?_
        clear hK K
        have y1 : W3.cell? ⟨B, 2, none⟩ = some (.slice tg xg.length dg) := blk_cell hB6
        have y2 : W3.frozen? ⟨B, 2, none⟩ = false := blk_free hB6
        have HK1 := Lib.hid (And.intro e1 hK1)
        clear h6 hb6 hg6 hob6 hB6 e1 hK1
        (try simp only [Act.put, zA, zB, zC])
        repeat (first | (refine orde_s (o := ?_) ?_ ?_ ?_; rotate_left 1; (focus ((simp only [zD, zE, zF]) <;> rfl)); (focus rfl); simp only [Act.put, zA, zB, zC]) | (refine orde_q (o := ?_) (v := ?_) ?_ ?_ ?_ ?_; rotate_left 2; (focus ((simp only [zD, zE, zF]) <;> rfl)); (focus rfl); (focus (intro w' hS; (try dsimp only at hS); go_split_ands; go_simp; (try (with_reducible rfl)))); simp only [Act.put, zA, zB, zC]))
        (refine orde_z (o := ?_) ?_ ?_ (fun K hK => ?_); rotate_left 1; (focus ((simp only [zD, zE, zF]) <;> rfl)); (focus rfl); go_simp)
        refine hK.out _ _ ?_
        clear hK K y1 y2
        have hm : Hid (lenAt wr B = xg.length) := lenAt_of HKr.out.cells.1
        obtain ⟨e1, hK1⟩ := HK1.out
        have HE := Lib.hid e1
        have e2 : xg'.length ≤ 14 := by omega
        rw [← e1] at hK1 ⊢
        clear HK1 HK HA e1
        revert hK1
        generalize W3.setCell ⟨B, 2, none⟩ (.slice s6 xg'.length c6) = W9
        intro hK1
        have HK := Lib.hid hK1
        clear hK1
        go_upto_region 7 with fail
        obtain ⟨A1, hA1⟩ : ∃ A : Int, A = F + (xg'.length : Int) := ⟨_, rfl⟩
        have u1 : IntKind.i64.wrap (F + (xg'.length : Int)) = A1 := by rw [IntWalk.i64_in _ ⟨by omega, by omega⟩]; exact hA1.symm
        obtain ⟨A2, hA2⟩ : ∃ A : Int, A = A1 - 1 := ⟨_, rfl⟩
        have u2 : IntKind.i64.wrap (A1 - 1) = A2 := by rw [IntWalk.i64_in _ ⟨by omega, by omega⟩]; exact hA2.symm
        obtain ⟨A3, hA3⟩ : ∃ A : Int, A = 2 * A2 := ⟨_, rfl⟩
        have u3 : IntKind.i64.wrap (2 * A2) = A3 := by rw [IntWalk.i64_in _ ⟨by omega, by omega⟩]; exact hA3.symm
        have g1 : 0 ≤ A3 := by omega
        have g2 : A3 ≤ 1000 := by omega
        clear hA1 hA2 hA3
        refine wp_region_T (fun w' => ∀ o, w'.cell? ⟨B, o, none⟩ = #[Value.int .i64 C.inp, .slice sn C.next.length cn, .slice s6 xg'.length c6, .slice so C.outs.length co][o]?) (.q 0 (.q 2 (.q 3 (.q 4 (.e 1 (.q 5 (.q 6 (.q 7 (.q 8 .nil))))))))) (by kernel_rfl) (by kernel_rfl) (by kernel_rfl) HK.out.drew.cells.1 ?_
        repeat (first | (refine ordt_s (o := ?_) ?_ ?_ ?_; rotate_left 1; (focus ((simp only [zD, zE, zF]) <;> rfl)); (focus rfl); simp only [Act.put, zA, zB, zC]) | (refine ordt_q (o := ?_) (v := ?_) ?_ ?_ ?_ ?_; rotate_left 2; (focus ((simp only [zD, zE, zF]) <;> rfl)); (focus rfl); (focus (intro w' hS; (try dsimp only at hS); go_split_ands; go_simp; (try (with_reducible rfl)))); simp only [Act.put, zA, zB, zC]))
        refine ordt_e ?_
        (refine op_e (o := ?_) ?_ ?_ (fun K hK => ?_); rotate_left 1; (focus ((simp only [zD, zE, zF]) <;> rfl)); (focus rfl); go_simp)
        refine (l1First_any _ _ _ _ _ _ _ ⟨by omega, by omega⟩ (by omega)).mono ?_
        rintro e wc ⟨rfl, hq⟩
        rw [← HV.out.2]
        have hkc := HK.out.drew.below hq
        refine hK.out _ _ hkc.cells.1 ?_
        clear hK K hq
        have HKc := Lib.hid hkc
        clear hkc
        (try simp only [Act.put, zA, zB, zC])
        repeat (first | (refine ordt_s (o := ?_) ?_ ?_ ?_; rotate_left 1; (focus ((simp only [zD, zE, zF]) <;> rfl)); (focus rfl); simp only [Act.put, zA, zB, zC]) | (refine ordt_q (o := ?_) (v := ?_) ?_ ?_ ?_ ?_; rotate_left 2; (focus ((simp only [zD, zE, zF]) <;> rfl)); (focus rfl); (focus (intro w' hS; (try dsimp only at hS); go_split_ands; go_simp; (try (with_reducible rfl)))); simp only [Act.put, zA, zB, zC]))
        refine ordt_nil ?_
        go_wp2_with fail
        have hm1 := lenAt_of HKc.out.cells.1
        go_roundw
        case rel => exact ⟨A3, xg', s6, c6, _, rfl, g1, g2, HKc.out, e2, by have := HE.out; omega⟩
        case measure => have h1 := hm.out; have h2 := HE.out; omega
      · have d1 : decide ((xg.length : Int) < (M : Int)) = false := decide_eq_false (by omega)
        have d2 : decide (xg.length < M) = false := decide_eq_false hlt
        repeat (first | (refine ordt_s (o := ?_) ?_ ?_ ?_; rotate_left 1; (focus ((simp only [zD, zE, zF]) <;> rfl)); (focus rfl); simp only [Act.put, zA, zB, zC]) | (refine ordt_q (o := ?_) (v := ?_) ?_ ?_ ?_ ?_; rotate_left 2; (focus ((simp only [zD, zE, zF]) <;> rfl)); (focus rfl); (focus (intro w' hS; (try dsimp only at hS); go_split_ands; go_simp; (try (with_reducible rfl)))); simp only [Act.put, zA, zB, zC]))
        refine ordt_nil ?_
        have cb := HK.out.cells.1
        obtain ⟨hB6, hK6⟩ := HK.out.setO lit (q := wa.heap.size) rfl
        have y1 : (wa.alloc (.cells #[.int .i64 lit] 3)).cell? ⟨B, 3, none⟩ = some (.slice so C.outs.length co) := blk_cell hB6
        have y2 : (wa.alloc (.cells #[.int .i64 lit] 3)).frozen? ⟨B, 3, none⟩ = false := blk_free hB6
        have HK6 := Lib.hid hK6
        clear hB6 hK6
        go_upto_region 9 with fail
        clear cb y1 y2 HK
        revert HK6
        generalize (wa.alloc (.cells #[.int .i64 lit] 3)).setCell ⟨B, 3, none⟩ (.slice (some ⟨wa.heap.size, 0, none⟩) 1 1) = W9
        intro HK6
        have cb := HK6.out.cells.1
        obtain ⟨rc, rf⟩ := blk_all (HRS.out _ HK6.out).1
        go_wp2_with fail
        exact bal_ret HK6.out rfl rfl rfl (HRS.out _ HK6.out).1 (HRS.out _ HK6.out).2.1 (HRS.out _ HK6.out).2.2 ⟨by omega, by omega, by omega, by omega, by simp⟩ rfl rfl
  · exact bal_ret HKc.out rfl rfl rfl (HRS.out _ HKc.out).1 (HRS.out _ HKc.out).2.1 (HRS.out _ HKc.out).2.2 ⟨by omega, by omega, by omega, by omega, by omega⟩ rfl rfl
  · exact bal_ret HKc.out rfl rfl rfl (HRS.out _ HKc.out).1 (HRS.out _ HKc.out).2.1 (HRS.out _ HKc.out).2.2 ⟨by omega, by omega, by omega, by omega, by omega⟩ rfl rfl

theorem Balance_s (v : Value) (c : Cir) (w : World) (h : CirV w v c) :
    Calls Try.prog 13 #[v] w fun e w' => ∃ vn vg vo, e = .returned (.agg #[.int .i64 (balR c).inp, vn, vg, vo]) ∧ CirOwn w' w.heap.size (balR c) vn vg vo ∧ Below w.heap.size w w' := by
  cases hv : c.validB
  · exact Balance_sn v c w h hv
  · exact Balance_sv v c w h hv

set_option maxRecDepth 100000 in
set_option maxHeartbeats 6400000 in
theorem FnBalance_any (s : Option Addr) (cap : Nat) (xs : List Int) (w : World) (hs : Sl w s (u8s xs)) (hl : xs.length ≤ 9223372036854775807) (hcap : xs.length ≤ cap) (hcap2 : cap ≤ 9223372036854775807) (hr : ∀ x ∈ xs, 0 ≤ x ∧ x ≤ 255) :
    Calls Try.prog 5 #[.slice s xs.length cap] w fun e w' => e = .returned (.bool true) ∧ Below w.heap.size w w' := by
  by_cases hc : xs.length ≤ 1048576
  · have HD := Lib.hid (DrawBalance_any s cap xs w hs hc hcap hcap2 hr)
    clear hs hr
    go_enter Try.func5, Try.ntmps5
    go_upto_region 4 with (go_at_call 18; (with_reducible refine HD.out.mono ?_); rintro e w1 ⟨C, vn, vg, vo, rfl, h1, h2, h4⟩; obtain ⟨sn, cn, rfl⟩ := own_shape h1.n; obtain ⟨sg, cg, rfl⟩ := own_shape h1.g; obtain ⟨so, co, rfl⟩ := own_shape h1.o; have H1 := Lib.hid (And.intro h1 h4); obtain ⟨l1, l2, l3, l4, l5⟩ := h2; clear h1 h4)
    obtain ⟨B, hB⟩ : ∃ B, B = w1.heap.size := ⟨_, rfl⟩
    have hk := blk_new w1 (.cells #[.int .i64 C.inp, .slice sn C.next.length cn, .slice sg C.gates.length cg, .slice so C.outs.length co] 28)
    have hbb := below_al w1 (.cells #[.int .i64 C.inp, .slice sn C.next.length cn, .slice sg C.gates.length cg, .slice so C.outs.length co] 28)
    have hV : CirV (w1.alloc (.cells #[.int .i64 C.inp, .slice sn C.next.length cn, .slice sg C.gates.length cg, .slice so C.outs.length co] 28)) (.agg #[.int .i64 C.inp, .slice sn C.next.length cn, .slice sg C.gates.length cg, .slice so C.outs.length co]) C := own_cv (own_cbelow H1.out.1 hbb)
    have hbw := H1.out.2.trans (hbb.mono H1.out.2.size)
    rw [← hB] at hk
    rw [← hB]
    clear hbb hB H1 HD
    revert hV hbw hk
    generalize w1.alloc (.cells #[.int .i64 C.inp, .slice sn C.next.length cn, .slice sg C.gates.length cg, .slice so C.outs.length co] 28) = W1
    intro hk hV hbw
    have HC : Hid (∀ W, Below W1.heap.size W1 W → CirV W (.agg #[.int .i64 C.inp, .slice sn C.next.length cn, .slice sg C.gates.length cg, .slice so C.outs.length co]) C ∧ (∀ o, W.cell? ⟨B, o, none⟩ = #[Value.int .i64 C.inp, .slice sn C.next.length cn, .slice sg C.gates.length cg, .slice so C.outs.length co][o]?)) := fun W hW => ⟨hV.mono hW, (blk_all (blk_below hW (blk_lt hk) hk)).1⟩
    have HW := Lib.hid hbw
    clear hk hV hbw
    have cb := (HC.out _ (Below.refl _ _)).2
    obtain ⟨D, hD⟩ : ∃ D, D = balR C := ⟨_, rfl⟩
    have HDD := Lib.hid hD
    clear hD
    go_upto_region 5 with (go_at_call 7; ((with_reducible refine (Balance_i _ C _ (HC.out _ (Below.refl _ _)).1).mono ?_); rintro e w2 ⟨vn2, vg2, vo2, rfl, h1, hq⟩; rw [← HDD.out] at h1 ⊢; obtain ⟨xn, yn, rfl⟩ := own_shape h1.n; obtain ⟨xg, yg, rfl⟩ := own_shape h1.g; obtain ⟨xo, yo, rfl⟩ := own_shape h1.o; have H2 := Lib.hid (And.intro h1 hq); clear h1 hq cb))
    obtain ⟨X, hX⟩ : ∃ X, X = w2.heap.size := ⟨_, rfl⟩
    have kX := blk_new w2 (.cells #[.int .i64 D.inp, .slice xn D.next.length yn, .slice xg D.gates.length yg, .slice xo D.outs.length yo] 28)
    have bX := below_al w2 (.cells #[.int .i64 D.inp, .slice xn D.next.length yn, .slice xg D.gates.length yg, .slice xo D.outs.length yo] 28)
    have hb2 : Below W1.heap.size W1 (w2.alloc (.cells #[.int .i64 D.inp, .slice xn D.next.length yn, .slice xg D.gates.length yg, .slice xo D.outs.length yo] 28)) := H2.out.2.trans (bX.mono H2.out.2.size)
    have hV2 : CirV (w2.alloc (.cells #[.int .i64 D.inp, .slice xn D.next.length yn, .slice xg D.gates.length yg, .slice xo D.outs.length yo] 28)) (.agg #[.int .i64 D.inp, .slice xn D.next.length yn, .slice xg D.gates.length yg, .slice xo D.outs.length yo]) D := own_cv (own_cbelow H2.out.1 bX)
    rw [← hX] at kX
    rw [← hX]
    clear hX bX H2
    revert kX hb2 hV2
    generalize w2.alloc (.cells #[.int .i64 D.inp, .slice xn D.next.length yn, .slice xg D.gates.length yg, .slice xo D.outs.length yo] 28) = W2
    intro kX hb2 hV2
    have HC2 : Hid (∀ W, Below W2.heap.size W2 W → (CirV W (.agg #[.int .i64 C.inp, .slice sn C.next.length cn, .slice sg C.gates.length cg, .slice so C.outs.length co]) C ∧ (∀ o, W.cell? ⟨B, o, none⟩ = #[Value.int .i64 C.inp, .slice sn C.next.length cn, .slice sg C.gates.length cg, .slice so C.outs.length co][o]?)) ∧ (CirV W (.agg #[.int .i64 D.inp, .slice xn D.next.length yn, .slice xg D.gates.length yg, .slice xo D.outs.length yo]) D ∧ (∀ o, W.cell? ⟨X, o, none⟩ = #[Value.int .i64 D.inp, .slice xn D.next.length yn, .slice xg D.gates.length yg, .slice xo D.outs.length yo][o]?)) ∧ Below w.heap.size w W) := fun W hW => ⟨HC.out W (hb2.trans (hW.mono hb2.size)), ⟨hV2.mono hW, (blk_all (blk_below hW (blk_lt kX) kX)).1⟩, HW.out.trans ((hb2.trans (hW.mono hb2.size)).mono HW.out.size)⟩
    clear kX hb2 hV2
    refine wp_region_T (fun w' => (∀ o, w'.cell? ⟨B, o, none⟩ = #[Value.int .i64 C.inp, .slice sn C.next.length cn, .slice sg C.gates.length cg, .slice so C.outs.length co][o]?) ∧ (∀ o, w'.cell? ⟨X, o, none⟩ = #[Value.int .i64 D.inp, .slice xn D.next.length yn, .slice xg D.gates.length yg, .slice xo D.outs.length yo][o]?)) (.q 0 (.q 1 (.e 2 (.e 3 (.q 4 .nil))))) (by kernel_rfl) (by kernel_rfl) (by kernel_rfl) ⟨(HC2.out _ (Below.refl _ _).drew).1.2, (HC2.out _ (Below.refl _ _).drew).2.1.2⟩ ?_
    repeat (first | (refine ordt_s (o := ?_) ?_ ?_ ?_; rotate_left 1; (focus ((simp only [zD, zE, zF]) <;> rfl)); (focus rfl); simp only [Act.put, zA, zB, zC]) | (refine ordt_q (o := ?_) (v := ?_) ?_ ?_ ?_ ?_; rotate_left 2; (focus ((simp only [zD, zE, zF]) <;> rfl)); (focus rfl); (focus (intro w' hS; (try dsimp only at hS); go_split_ands; go_simp; (try (with_reducible rfl)))); simp only [Act.put, zA, zB, zC]))
    refine ordt_e ?_
    (refine op_e (o := ?_) ?_ ?_ (fun K hK => ?_); rotate_left 1; (focus ((simp only [zD, zE, zF]) <;> rfl)); (focus rfl); go_simp)
    refine (Balance_s _ C _ (HC2.out _ (Below.refl _ _).drew).1.1).mono ?_
    rintro e wa ⟨vna, vga, voa, rfl, h1, hq⟩
    rw [← HDD.out] at h1 ⊢
    have hba : Below W2.heap.size W2 wa := (Below.refl _ _).drew.trans hq
    refine hK.out _ _ ⟨(HC2.out _ hba).1.2, (HC2.out _ hba).2.1.2⟩ ?_
    clear hK K hq
    have HA := Lib.hid (And.intro (own_cv h1) hba)
    clear h1 hba
    (try simp only [Act.put, zA, zB, zC])
    refine ordt_e ?_
    (refine op_e (o := ?_) ?_ ?_ (fun K hK => ?_); rotate_left 1; (focus ((simp only [zD, zE, zF]) <;> rfl)); (focus rfl); go_simp)
    refine (sameCircuitG_any _ _ D D _ (HC2.out _ HA.out.2).2.1.1 HA.out.1).mono ?_
    rintro e w4 ⟨rfl, hq⟩
    rw [cirB_self]
    have hb4 : Below W2.heap.size W2 w4 := HA.out.2.trans (hq.mono HA.out.2.size)
    refine hK.out _ _ ⟨(HC2.out _ hb4).1.2, (HC2.out _ hb4).2.1.2⟩ ?_
    clear hK K hq
    have H5 := Lib.hid hb4
    clear hb4 HA
    (try simp only [Act.put, zA, zB, zC])
    repeat (first | (refine ordt_s (o := ?_) ?_ ?_ ?_; rotate_left 1; (focus ((simp only [zD, zE, zF]) <;> rfl)); (focus rfl); simp only [Act.put, zA, zB, zC]) | (refine ordt_q (o := ?_) (v := ?_) ?_ ?_ ?_ ?_; rotate_left 2; (focus ((simp only [zD, zE, zF]) <;> rfl)); (focus rfl); (focus (intro w' hS; (try dsimp only at hS); go_split_ands; go_simp; (try (with_reducible rfl)))); simp only [Act.put, zA, zB, zC]))
    refine ordt_nil ?_
    have cb := (HC2.out _ H5.out).1.2
    have cx := (HC2.out _ H5.out).2.1.2
    cases hv : C.validB
    · have hz : cirB D ⟨0, [], [], []⟩ = true := by rw [HDD.out, balR_no hv]; rfl
      have HV := Lib.hid hv
      have HZ := Lib.hid hz
      clear hv hz
      go_wp2_with (first | (go_at_call 20; ((with_reducible refine (CircuitValid_s _ C _ (HC2.out _ H5.out).1.1).mono ?_); rintro e w5 ⟨rfl, hq⟩; rw [HV.out]; have H5 := Lib.hid (H5.out.trans (hq.mono H5.out.size)); clear hq cb cx; have cb := (HC2.out _ H5.out).1.2; have cx := (HC2.out _ H5.out).2.1.2)) | (go_at_call 19; ((refine (sameCircuitG_any _ _ D ⟨0, [], [], []⟩ _ (HC2.out _ H5.out).2.1.1 (zeroV _)).mono ?_); rintro e w6 ⟨rfl, hq⟩; rw [HZ.out]; have H5 := Lib.hid (H5.out.trans (hq.mono H5.out.size)); clear hq cb cx; have cb := (HC2.out _ H5.out).1.2; have cx := (HC2.out _ H5.out).2.1.2)) | (go_at_call 21; ((with_reducible refine (aliveR_any _).mono ?_); rintro e w7 ⟨rfl, hq⟩; have H5 := Lib.hid (H5.out.trans (hq.mono H5.out.size)); clear hq cb cx; have cb := (HC2.out _ H5.out).1.2; have cx := (HC2.out _ H5.out).2.1.2)))
      go_ret
      exact ⟨rfl, (HC2.out _ H5.out).2.2⟩
    · have hor := balR_or hv
      have heq := balR_eqv hv
      have hvd : (balR C).validB = true := (Cir.validB_iff _).2 (balR_valid (C.validB_iff.1 hv))
      have hvo : (optC C).validB = true := (Cir.validB_iff _).2 (optC_valid (C.validB_iff.1 hv))
      obtain ⟨O, hO⟩ : ∃ O, O = optR C := ⟨_, rfl⟩
      have hO2 : O = optC C := hO.trans (optR_yes hv)
      obtain ⟨dD, hdD⟩ : ∃ d, d = depR D := ⟨_, rfl⟩
      obtain ⟨dO, hdO⟩ : ∃ d, d = depR O := ⟨_, rfl⟩
      have hsay : dD < dO ∨ (dD = dO ∧ D.gates.length ≤ O.gates.length) := by
        have e1 : dD = depC (balR C) := by rw [hdD, HDD.out]; unfold depR; rw [hvd]; rfl
        have e2 : dO = depC (optC C) := by rw [hdO, hO2]; unfold depR; rw [hvo]; rfl
        rw [e1, e2, HDD.out, hO2]
        rcases hor with h | ⟨h, -, h1, h2⟩
        · right; rw [h]; exact ⟨rfl, Nat.le_refl _⟩
        · rw [h]
          have h1 := Int.not_lt.1 h1
          by_cases he : depC (optC (balC (optC C))) = depC (optC C)
          · right; exact ⟨he, Nat.le_of_not_lt fun h => h2 ⟨he, h⟩⟩
          · left; exact by omega
      rw [← HDD.out] at heq
      have HV := Lib.hid (And.intro hv (And.intro heq (And.intro hO (And.intro hdD hdO))))
      clear hv heq hO hO2 hdD hdO hor hvd hvo
      go_upto_region 10 with (first
        | (go_at_call 20; ((with_reducible refine (CircuitValid_s _ C _ (HC2.out _ H5.out).1.1).mono ?_); rintro e w5 ⟨rfl, hq⟩; rw [HV.out.1]; have H5 := Lib.hid (H5.out.trans (hq.mono H5.out.size)); clear hq cb cx; have cb := (HC2.out _ H5.out).1.2; have cx := (HC2.out _ H5.out).2.1.2))
        | (go_at_call 22; ((with_reducible refine (Optimize_i _ C _ (HC2.out _ H5.out).1.1).mono ?_); rintro e w6 ⟨vn, vg, vo, rfl, h1, hq⟩; rw [← HV.out.2.2.1] at h1 ⊢; obtain ⟨pn, qn, rfl⟩ := own_shape h1.n; obtain ⟨pg, qg, rfl⟩ := own_shape h1.g; obtain ⟨po, qo, rfl⟩ := own_shape h1.o; have H6 := Lib.hid (And.intro h1 (H5.out.trans (hq.mono H5.out.size))); clear h1 hq cb cx)))
      obtain ⟨Y, hY⟩ : ∃ Y, Y = w6.heap.size := ⟨_, rfl⟩
      have kX := blk_new w6 (.cells #[Value.int .i64 O.inp, .slice pn O.next.length qn, .slice pg O.gates.length qg, .slice po O.outs.length qo] 28)
      have bX := below_al w6 (.cells #[Value.int .i64 O.inp, .slice pn O.next.length qn, .slice pg O.gates.length qg, .slice po O.outs.length qo] 28)
      have hb2 := H6.out.2.trans (bX.mono H6.out.2.size)
      have hV2 : CirV (w6.alloc (.cells #[Value.int .i64 O.inp, .slice pn O.next.length qn, .slice pg O.gates.length qg, .slice po O.outs.length qo] 28)) (.agg #[Value.int .i64 O.inp, .slice pn O.next.length qn, .slice pg O.gates.length qg, .slice po O.outs.length qo]) O := own_cv (own_cbelow H6.out.1 bX)
      rw [← hY] at kX
      rw [← hY]
      clear hY bX H6
      revert kX hb2 hV2
      generalize w6.alloc (.cells #[Value.int .i64 O.inp, .slice pn O.next.length qn, .slice pg O.gates.length qg, .slice po O.outs.length qo] 28) = W3
      intro kX hb2 hV2
      have HA : Hid (∀ W, Below W3.heap.size W3 W → (∀ o, W.cell? ⟨B, o, none⟩ = #[Value.int .i64 C.inp, .slice sn C.next.length cn, .slice sg C.gates.length cg, .slice so C.outs.length co][o]?) ∧ (∀ o, W.cell? ⟨X, o, none⟩ = #[Value.int .i64 D.inp, .slice xn D.next.length yn, .slice xg D.gates.length yg, .slice xo D.outs.length yo][o]?) ∧ (∀ o, W.cell? ⟨Y, o, none⟩ = #[Value.int .i64 O.inp, .slice pn O.next.length qn, .slice pg O.gates.length qg, .slice po O.outs.length qo][o]?) ∧ CirV W (.agg #[Value.int .i64 C.inp, .slice sn C.next.length cn, .slice sg C.gates.length cg, .slice so C.outs.length co]) C ∧ CirV W (.agg #[Value.int .i64 D.inp, .slice xn D.next.length yn, .slice xg D.gates.length yg, .slice xo D.outs.length yo]) D ∧ CirV W (.agg #[Value.int .i64 O.inp, .slice pn O.next.length qn, .slice pg O.gates.length qg, .slice po O.outs.length qo]) O ∧ Below w.heap.size w W) := fun W hW => by
        have f := HC2.out W (hb2.trans (hW.mono hb2.size))
        exact ⟨f.1.2, f.2.1.2, (blk_all (blk_below hW (blk_lt kX) kX)).1, f.1.1, f.2.1.1, hV2.mono hW, f.2.2⟩
      clear kX hb2 hV2
      rcases hsay with hlt | ⟨he, hle⟩
      · have d1 : decide (dD < dO) = true := decide_eq_true hlt
        clear hlt
        refine wp_region_T (fun W => (∀ o, W.cell? ⟨B, o, none⟩ = #[Value.int .i64 C.inp, .slice sn C.next.length cn, .slice sg C.gates.length cg, .slice so C.outs.length co][o]?) ∧ (∀ o, W.cell? ⟨X, o, none⟩ = #[Value.int .i64 D.inp, .slice xn D.next.length yn, .slice xg D.gates.length yg, .slice xo D.outs.length yo][o]?) ∧ (∀ o, W.cell? ⟨Y, o, none⟩ = #[Value.int .i64 O.inp, .slice pn O.next.length qn, .slice pg O.gates.length qg, .slice po O.outs.length qo][o]?)) (.q 0 (.q 1 (.e 2 (.q 3 (.q 4 (.q 6 (.e 5 (.e 7 (.q 8 (.q 9 (.q 10 (.q 12 (.e 11 (.e 13 (.q 14 (.q 15 (.q 16 (.q 17 (.q 18 (.q 19 (.q 20 (.q 21 (.q 22 (.q 23 (.q 24 (.q 25 (.q 26 .nil))))))))))))))))))))))))))) (by kernel_rfl) (by kernel_rfl) (by kernel_rfl) ⟨(HA.out _ (Below.refl _ _).drew).1, (HA.out _ (Below.refl _ _).drew).2.1, (HA.out _ (Below.refl _ _).drew).2.2.1⟩ ?_
        have hd := (Below.refl W3.heap.size W3).drew
        revert hd
        generalize W3.drew = Wd
        intro hd
        have HD := Lib.hid hd
        clear hd
        repeat (first | (refine ordt_s (o := ?_) ?_ ?_ ?_; rotate_left 1; (focus ((simp only [zD, zE, zF]) <;> rfl)); (focus rfl); simp only [Act.put, zA, zB, zC]) | (refine ordt_q (o := ?_) (v := ?_) ?_ ?_ ?_ ?_; rotate_left 2; (focus ((simp only [zD, zE, zF]) <;> rfl)); (focus rfl); (focus (intro w' hS; (try dsimp only at hS); go_split_ands; go_simp; (try (with_reducible rfl)))); simp only [Act.put, zA, zB, zC]))
        refine ordt_e ?_
        (refine op_e (o := ?_) ?_ ?_ (fun K hK => ?_); rotate_left 1; (focus ((simp only [zD, zE, zF]) <;> rfl)); (focus rfl); go_simp)
        refine (Equivalent_i _ _ C D _ (HA.out _ HD.out).2.2.2.1 (HA.out _ HD.out).2.2.2.2.1).mono ?_
        rintro e wz ⟨rfl, hq⟩
        rw [HV.out.2.1]
        have hb := HD.out.trans (hq.mono HD.out.size)
        refine hK.out _ _ ⟨(HA.out _ hb).1, (HA.out _ hb).2.1, (HA.out _ hb).2.2.1⟩ ?_
        clear hK K HD
        have HD := Lib.hid hb
        clear hb hq
        (try simp only [Act.put, zA, zB, zC])
        repeat (first | (refine ordt_s (o := ?_) ?_ ?_ ?_; rotate_left 1; (focus ((simp only [zD, zE, zF]) <;> rfl)); (focus rfl); simp only [Act.put, zA, zB, zC]) | (refine ordt_q (o := ?_) (v := ?_) ?_ ?_ ?_ ?_; rotate_left 2; (focus ((simp only [zD, zE, zF]) <;> rfl)); (focus rfl); (focus (intro w' hS; (try dsimp only at hS); go_split_ands; go_simp; (try (with_reducible rfl)))); simp only [Act.put, zA, zB, zC]))
        refine ordt_e ?_
        (refine op_e (o := ?_) ?_ ?_ (fun K hK => ?_); rotate_left 1; (focus ((simp only [zD, zE, zF]) <;> rfl)); (focus rfl); go_simp)
        refine (Depth_i _ D _ (HA.out _ HD.out).2.2.2.2.1).mono ?_
        rintro e wz ⟨rfl, hq⟩
        rw [← HV.out.2.2.2.1]
        have hb := HD.out.trans (hq.mono HD.out.size)
        refine hK.out _ _ ⟨(HA.out _ hb).1, (HA.out _ hb).2.1, (HA.out _ hb).2.2.1⟩ ?_
        clear hK K HD
        have HD := Lib.hid hb
        clear hb hq
        (try simp only [Act.put, zA, zB, zC])
        refine ordt_e ?_
        (refine op_e (o := ?_) ?_ ?_ (fun K hK => ?_); rotate_left 1; (focus ((simp only [zD, zE, zF]) <;> rfl)); (focus rfl); go_simp)
        refine (Depth_i _ O _ (HA.out _ HD.out).2.2.2.2.2.1).mono ?_
        rintro e wz ⟨rfl, hq⟩
        rw [← HV.out.2.2.2.2]
        have hb := HD.out.trans (hq.mono HD.out.size)
        refine hK.out _ _ ⟨(HA.out _ hb).1, (HA.out _ hb).2.1, (HA.out _ hb).2.2.1⟩ ?_
        clear hK K HD
        have HD := Lib.hid hb
        clear hb hq
        (try simp only [Act.put, zA, zB, zC])
        repeat (first | (refine ordt_s (o := ?_) ?_ ?_ ?_; rotate_left 1; (focus ((simp only [zD, zE, zF]) <;> rfl)); (focus rfl); simp only [Act.put, zA, zB, zC]) | (refine ordt_q (o := ?_) (v := ?_) ?_ ?_ ?_ ?_; rotate_left 2; (focus ((simp only [zD, zE, zF]) <;> rfl)); (focus rfl); (focus (intro w' hS; (try dsimp only at hS); go_split_ands; go_simp; (try (with_reducible rfl)))); simp only [Act.put, zA, zB, zC]))
        (refine ordt_eS (o := ?_) ?_ ?_ ⟨(HA.out _ HD.out).1, (HA.out _ HD.out).2.1, (HA.out _ HD.out).2.2.1⟩ ?_; rotate_left 1; (focus ((simp only [zD, zE, zF]) <;> rfl)); (focus rfl); simp only [Act.put, zA, zB, zC])
        (refine ordt_eS (o := ?_) ?_ ?_ ⟨(HA.out _ HD.out).1, (HA.out _ HD.out).2.1, (HA.out _ HD.out).2.2.1⟩ ?_; rotate_left 1; (focus ((simp only [zD, zE, zF]) <;> rfl)); (focus rfl); simp only [Act.put, zA, zB, zC])
        repeat (first | (refine ordt_s (o := ?_) ?_ ?_ ?_; rotate_left 1; (focus ((simp only [zD, zE, zF]) <;> rfl)); (focus rfl); simp only [Act.put, zA, zB, zC]) | (refine ordt_q (o := ?_) (v := ?_) ?_ ?_ ?_ ?_; rotate_left 2; (focus ((simp only [zD, zE, zF]) <;> rfl)); (focus rfl); (focus (intro w' hS; (try dsimp only at hS); go_split_ands; go_simp; (try (with_reducible rfl)))); simp only [Act.put, zA, zB, zC]))
        refine ordt_nil ?_
        obtain ⟨cb, cx, cy, -⟩ := HA.out _ HD.out
        go_wp2_with fail
        go_ret
        exact ⟨rfl, (HA.out _ HD.out).2.2.2.2.2.2⟩
      · subst he
        have d1 : decide (dD < dD) = false := decide_eq_false (Int.lt_irrefl _)
        have d2 : (dD == dD) = true := beq_self_eq_true _
        have d3 : decide ((D.gates.length : Int) ≤ (O.gates.length : Int)) = true := decide_eq_true (by omega)
        have d4 : decide (D.gates.length ≤ O.gates.length) = true := decide_eq_true hle
        clear hle
        refine wp_region_T (fun W => (∀ o, W.cell? ⟨B, o, none⟩ = #[Value.int .i64 C.inp, .slice sn C.next.length cn, .slice sg C.gates.length cg, .slice so C.outs.length co][o]?) ∧ (∀ o, W.cell? ⟨X, o, none⟩ = #[Value.int .i64 D.inp, .slice xn D.next.length yn, .slice xg D.gates.length yg, .slice xo D.outs.length yo][o]?) ∧ (∀ o, W.cell? ⟨Y, o, none⟩ = #[Value.int .i64 O.inp, .slice pn O.next.length qn, .slice pg O.gates.length qg, .slice po O.outs.length qo][o]?)) (.q 0 (.q 1 (.e 2 (.q 3 (.q 4 (.q 6 (.e 5 (.e 7 (.q 8 (.q 9 (.q 10 (.q 12 (.e 11 (.e 13 (.q 14 (.q 15 (.q 16 (.q 17 (.q 18 (.q 19 (.q 20 (.q 21 (.q 22 (.q 23 (.q 24 (.q 25 (.q 26 .nil))))))))))))))))))))))))))) (by kernel_rfl) (by kernel_rfl) (by kernel_rfl) ⟨(HA.out _ (Below.refl _ _).drew).1, (HA.out _ (Below.refl _ _).drew).2.1, (HA.out _ (Below.refl _ _).drew).2.2.1⟩ ?_
        have hd := (Below.refl W3.heap.size W3).drew
        revert hd
        generalize W3.drew = Wd
        intro hd
        have HD := Lib.hid hd
        clear hd
        repeat (first | (refine ordt_s (o := ?_) ?_ ?_ ?_; rotate_left 1; (focus ((simp only [zD, zE, zF]) <;> rfl)); (focus rfl); simp only [Act.put, zA, zB, zC]) | (refine ordt_q (o := ?_) (v := ?_) ?_ ?_ ?_ ?_; rotate_left 2; (focus ((simp only [zD, zE, zF]) <;> rfl)); (focus rfl); (focus (intro w' hS; (try dsimp only at hS); go_split_ands; go_simp; (try (with_reducible rfl)))); simp only [Act.put, zA, zB, zC]))
        refine ordt_e ?_
        (refine op_e (o := ?_) ?_ ?_ (fun K hK => ?_); rotate_left 1; (focus ((simp only [zD, zE, zF]) <;> rfl)); (focus rfl); go_simp)
        refine (Equivalent_i _ _ C D _ (HA.out _ HD.out).2.2.2.1 (HA.out _ HD.out).2.2.2.2.1).mono ?_
        rintro e wz ⟨rfl, hq⟩
        rw [HV.out.2.1]
        have hb := HD.out.trans (hq.mono HD.out.size)
        refine hK.out _ _ ⟨(HA.out _ hb).1, (HA.out _ hb).2.1, (HA.out _ hb).2.2.1⟩ ?_
        clear hK K HD
        have HD := Lib.hid hb
        clear hb hq
        (try simp only [Act.put, zA, zB, zC])
        repeat (first | (refine ordt_s (o := ?_) ?_ ?_ ?_; rotate_left 1; (focus ((simp only [zD, zE, zF]) <;> rfl)); (focus rfl); simp only [Act.put, zA, zB, zC]) | (refine ordt_q (o := ?_) (v := ?_) ?_ ?_ ?_ ?_; rotate_left 2; (focus ((simp only [zD, zE, zF]) <;> rfl)); (focus rfl); (focus (intro w' hS; (try dsimp only at hS); go_split_ands; go_simp; (try (with_reducible rfl)))); simp only [Act.put, zA, zB, zC]))
        refine ordt_e ?_
        (refine op_e (o := ?_) ?_ ?_ (fun K hK => ?_); rotate_left 1; (focus ((simp only [zD, zE, zF]) <;> rfl)); (focus rfl); go_simp)
        refine (Depth_i _ D _ (HA.out _ HD.out).2.2.2.2.1).mono ?_
        rintro e wz ⟨rfl, hq⟩
        rw [← HV.out.2.2.2.1]
        have hb := HD.out.trans (hq.mono HD.out.size)
        refine hK.out _ _ ⟨(HA.out _ hb).1, (HA.out _ hb).2.1, (HA.out _ hb).2.2.1⟩ ?_
        clear hK K HD
        have HD := Lib.hid hb
        clear hb hq
        (try simp only [Act.put, zA, zB, zC])
        refine ordt_e ?_
        (refine op_e (o := ?_) ?_ ?_ (fun K hK => ?_); rotate_left 1; (focus ((simp only [zD, zE, zF]) <;> rfl)); (focus rfl); go_simp)
        refine (Depth_i _ O _ (HA.out _ HD.out).2.2.2.2.2.1).mono ?_
        rintro e wz ⟨rfl, hq⟩
        rw [← HV.out.2.2.2.2]
        have hb := HD.out.trans (hq.mono HD.out.size)
        refine hK.out _ _ ⟨(HA.out _ hb).1, (HA.out _ hb).2.1, (HA.out _ hb).2.2.1⟩ ?_
        clear hK K HD
        have HD := Lib.hid hb
        clear hb hq
        (try simp only [Act.put, zA, zB, zC])
        repeat (first | (refine ordt_s (o := ?_) ?_ ?_ ?_; rotate_left 1; (focus ((simp only [zD, zE, zF]) <;> rfl)); (focus rfl); simp only [Act.put, zA, zB, zC]) | (refine ordt_q (o := ?_) (v := ?_) ?_ ?_ ?_ ?_; rotate_left 2; (focus ((simp only [zD, zE, zF]) <;> rfl)); (focus rfl); (focus (intro w' hS; (try dsimp only at hS); go_split_ands; go_simp; (try (with_reducible rfl)))); simp only [Act.put, zA, zB, zC]))
        refine ordt_e ?_
        (refine op_e (o := ?_) ?_ ?_ (fun K hK => ?_); rotate_left 1; (focus ((simp only [zD, zE, zF]) <;> rfl)); (focus rfl); go_simp)
        refine (Depth_i _ D _ (HA.out _ HD.out).2.2.2.2.1).mono ?_
        rintro e wz ⟨rfl, hq⟩
        rw [← HV.out.2.2.2.1]
        have hb := HD.out.trans (hq.mono HD.out.size)
        refine hK.out _ _ ⟨(HA.out _ hb).1, (HA.out _ hb).2.1, (HA.out _ hb).2.2.1⟩ ?_
        clear hK K HD
        have HD := Lib.hid hb
        clear hb hq
        (try simp only [Act.put, zA, zB, zC])
        refine ordt_e ?_
        (refine op_e (o := ?_) ?_ ?_ (fun K hK => ?_); rotate_left 1; (focus ((simp only [zD, zE, zF]) <;> rfl)); (focus rfl); go_simp)
        refine (Depth_i _ O _ (HA.out _ HD.out).2.2.2.2.2.1).mono ?_
        rintro e wz ⟨rfl, hq⟩
        rw [← HV.out.2.2.2.2]
        have hb := HD.out.trans (hq.mono HD.out.size)
        refine hK.out _ _ ⟨(HA.out _ hb).1, (HA.out _ hb).2.1, (HA.out _ hb).2.2.1⟩ ?_
        clear hK K HD
        have HD := Lib.hid hb
        clear hb hq
        (try simp only [Act.put, zA, zB, zC])
        repeat (first | (refine ordt_s (o := ?_) ?_ ?_ ?_; rotate_left 1; (focus ((simp only [zD, zE, zF]) <;> rfl)); (focus rfl); simp only [Act.put, zA, zB, zC]) | (refine ordt_q (o := ?_) (v := ?_) ?_ ?_ ?_ ?_; rotate_left 2; (focus ((simp only [zD, zE, zF]) <;> rfl)); (focus rfl); (focus (intro w' hS; (try dsimp only at hS); go_split_ands; go_simp; (try (with_reducible rfl)))); simp only [Act.put, zA, zB, zC]))
        refine ordt_nil ?_
        obtain ⟨cb, cx, cy, -⟩ := HA.out _ HD.out
        go_wp2_with fail
        go_ret
        exact ⟨rfl, (HA.out _ HD.out).2.2.2.2.2.2⟩
  · clear hs hr
    go_enter Try.func5, Try.ntmps5
    go_wp2
    go_ret
    exact ⟨rfl, Below.refl _ _⟩

end Go.Proofs.Ytjecchljhdfjdaa
