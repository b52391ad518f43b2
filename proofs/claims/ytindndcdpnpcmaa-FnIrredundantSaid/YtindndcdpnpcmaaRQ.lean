import Derived.Test.YtindndcdpnpcmaaRM
import Derived.Test.YtindndcdpnpcmaaOV
import Derived.Test.YtindndcdpnpcmaaRI
namespace Go.Proofs.Ytindndcdpnpcmaa
set_option linter.unusedVariables false
set_option linter.unusedSimpArgs false
open Go.RowKit

/-! DrawIrredundant; the law FnIrredundant. -/

theorem ordt_es {P : Program} {ops : Array Oper} {Q : Exit → Act → World → Prop} {S : World → Prop} {i : Nat} {r : OT} {o : Oper} {a : Act} {w : World} (ho : ops[i]? = some o) (hw : Region.wanted o (yielded ops a.tmps) = false) (hS : S w)
    (h : wpT P ops Q S r (a.put o.dst undef) w) : wpT P ops Q S (.e i r) a w := by
  show wpOp _ _ _ _ _ _ _
  unfold wpOp
  simp only [ho, hw, Bool.false_eq_true, if_false]
  exact ⟨hS, h⟩
theorem allP_snoc {xs : List (Int × Bool)} {f : Int × Bool → Bool} {k : Nat} {x : Int × Bool} (h : xs[k]? = some x) : (xs.take (k + 1)).all f = ((xs.take k).all f && f x) := by
  rw [List.take_add_one, h]; simp
theorem remR_irr {c : Cir} (hi : irrB c = true) (ho : cirB (optR c) c = true) : cirB (remR c) c = true := by
  have hv : c.validB = true := by unfold irrB at hi; simp at hi; exact hi.1
  have hf : (fstU c).isSome = false := by unfold irrB at hi; simp at hi; rw [hi.2]; rfl
  have e := (cirB_iff _ _).1 ho
  rw [optR_yes hv] at e
  rw [remR_yes hv, e, stepsR_fix hf]
  exact cirB_self _

set_option maxRecDepth 100000 in
set_option maxHeartbeats 1600000 in
theorem DrawIrredundant_any (s : Option Addr) (cap : Nat) (xs : List Int) (w : World) (hs : Sl w s (u8s xs)) (hl : xs.length ≤ 1048576) (hcap : xs.length ≤ cap) (hcap2 : cap ≤ 9223372036854775807) (hr : ∀ x ∈ xs, 0 ≤ x ∧ x ≤ 255) :
    Calls Try.prog 39 #[.slice s xs.length cap] w (DrawnQ w) := by
  obtain ⟨W0, hW0⟩ : ∃ W0, W0 = w.alloc (.cells #[.int .i64 0, .slice none 0 0, .slice none 0 0, .slice none 0 0] 29) := ⟨_, rfl⟩
  have hz : W0.heap.size = w.heap.size + 1 := by rw [hW0]; simp
  have hb0 : Below w.heap.size w W0 := by rw [hW0]; exact below_al _ _
  have hk0 : W0.heap[w.heap.size]? = some (.cells #[.int .i64 0, .slice none 0 0, .slice none 0 0, .slice none 0 0] 29 (0, 0)) := by rw [hW0]; exact blk_new _ _
  have HH := Lib.hid (l20Open_any s cap xs W0 (hs.mono hb0) hl hcap hcap2 hr)
  have HW := Lib.hid (And.intro hW0 (And.intro hz (And.intro hb0 hk0)))
  clear hs hr hW0 hz hb0 hk0
  go_enter Try.func39, Try.ntmps39
  go_upto_region 1 with fail
  rw [← HW.out.1]
  go_upto_region 3 with (first
    | (go_at_call 75; (with_reducible refine HH.out.mono ?_); rintro e w1 ⟨c, rfl, h1, h2, h3⟩; have H1 := Lib.hid (And.intro h1 (And.intro h2 h3)); clear h1 h2 h3)
    | (go_at_call 74; (with_reducible refine (l20Circuit_any _ _ _ _ _ _ _ H1.out.1 (by omega) (by omega) (by omega)).mono ?_); rintro e w2 ⟨C, vn, vg, vo, p', rfl, h1, h2, h3, h4, h5⟩; obtain ⟨sn, cn, rfl⟩ := own_shape h1.n; obtain ⟨sg, cg, rfl⟩ := own_shape h1.g; obtain ⟨so, co, rfl⟩ := own_shape h1.o; have HI := Lib.hid (And.intro h1 (And.intro h3 h5)); obtain ⟨l1, l2, l3, l4, l5⟩ := h2; have hp' : p' ≤ 1000 := (by omega); clear h1 h3 h4 h5))
  obtain ⟨B, hB⟩ : ∃ B, B = w2.heap.size := ⟨_, rfl⟩
  have hk0 : KT W0.heap.size s c (xs.take 2000) w1 B C.inp C.next C.gates C.outs (.slice sn C.next.length cn) (.slice sg C.gates.length cg) (.slice so C.outs.length co) p' (w2.alloc (.cells #[.int .i64 C.inp, .slice sn C.next.length cn, .slice sg C.gates.length cg, .slice so C.outs.length co] 29)) :=
    ⟨⟨by rw [hB]; exact blk_new _ _, own_below HI.out.1.n (below_al _ _), own_below HI.out.1.g (below_al _ _), own_below HI.out.1.o (below_al _ _), HI.out.1.ne⟩, HI.out.2.1.mono (below_al _ _), HI.out.2.2.alloc (Nat.le_refl _) _, by have := H1.out.2.2; omega, by rw [hB]; exact HI.out.2.2.size⟩
  have HK := Lib.hid hk0
  clear hk0 HI HH
  rw [← hB]
  revert HK
  generalize w2.alloc (.cells #[.int .i64 C.inp, .slice sn C.next.length cn, .slice sg C.gates.length cg, .slice so C.outs.length co] 29) = W1
  intro HK
  clear hB
  have HRS : Hid (∀ W p, KT W0.heap.size s c (xs.take 2000) w1 B C.inp C.next C.gates C.outs (.slice sn C.next.length cn) (.slice sg C.gates.length cg) (.slice so C.outs.length co) p W → W.heap[w.heap.size]? = some (.cells #[.int .i64 0, .slice none 0 0, .slice none 0 0, .slice none 0 0] 29 (0, 0)) ∧ Below w.heap.size w W ∧ w.heap.size + 2 ≤ w1.heap.size) := fun W p hk => by
    have e1 := HW.out.2.1; have e2 := H1.out.2.2
    exact ⟨by rw [hk.kp.block _ (by omega) (by omega)]; exact blk_below H1.out.2.1 (by omega) HW.out.2.2.2, (HW.out.2.2.1.trans (H1.out.2.1.mono (by omega))).trans (hk.kp.below (by omega) (by omega)), by omega⟩
  go_upto_region 4 with (go_at_call 85; (with_reducible refine (pick_kt _ _ _ _ _ _ _ _ _ _ _ _ _ _ _ _ HK.out (by omega) (by omega)).mono ?_); rintro e w3 ⟨q1, rfl, hp1, hk2, -, -⟩; have HKb := Lib.hid hk2; clear hk2 hp1; have HZ0 : Hid (w3.heap[w.heap.size]? = some (.cells #[.int .i64 0, .slice none 0 0, .slice none 0 0, .slice none 0 0] 29 (0, 0)) ∧ Below w.heap.size w w3 ∧ w.heap.size + 2 ≤ w1.heap.size) := HRS.out _ _ HKb.out; have cb := (blk_all HKb.out.out.blk).1; obtain ⟨rc, rf⟩ := blk_all HZ0.out.1; cases hq1 : ((q1 : Int) == 0))
  · have hown : CirOwn w3 w1.heap.size C (.slice sn C.next.length cn) (.slice sg C.gates.length cg) (.slice so C.outs.length co) := ⟨HKb.out.out.n, HKb.out.out.g, HKb.out.out.o, HKb.out.out.ne, by omega, by omega, by omega⟩
    have HOW := Lib.hid hown
    have h2s := HZ0.out.2.2
    clear hown HK
    have h0 := HZ0.out.1
    have hbl := HZ0.out.2.1
    have hBw : w.heap.size < w1.heap.size := by omega
    have hZ : (((((w3.setCell ⟨w.heap.size, 0, none⟩ (.int .i64 C.inp)).setCell ⟨w.heap.size, 1, none⟩ (.slice sn C.next.length cn)).setCell ⟨w.heap.size, 2, none⟩ (.slice sg C.gates.length cg)).setCell ⟨w.heap.size, 3, none⟩ (.slice so C.outs.length co))).heap[w.heap.size]? = some (.cells #[.int .i64 C.inp, .slice sn C.next.length cn, .slice sg C.gates.length cg, .slice so C.outs.length co] 29 (0, 0)) := by
      simpa using blk_set (o := 3) (v := .slice so C.outs.length co) (blk_set (o := 2) (v := .slice sg C.gates.length cg) (blk_set (o := 1) (v := .slice sn C.next.length cn) (blk_set (o := 0) (v := .int .i64 C.inp) h0)))
    have hR := (HOW.out).sets4 (r := w.heap.size) (by omega) (base := w.heap.size) (by omega) (a := .int .i64 C.inp) (b' := .slice sn C.next.length cn) (c' := .slice sg C.gates.length cg) (d := .slice so C.outs.length co)
    have hB := ((((hbl).setCell (p := ⟨w.heap.size, 0, none⟩) (by simp) (.int .i64 C.inp)).setCell (p := ⟨w.heap.size, 1, none⟩) (by simp) (.slice sn C.next.length cn)).setCell (p := ⟨w.heap.size, 2, none⟩) (by simp) (.slice sg C.gates.length cg)).setCell (p := ⟨w.heap.size, 3, none⟩) (by simp) (.slice so C.outs.length co)
    clear rc rf
    revert hZ hR hB
    generalize (((((w3.setCell ⟨w.heap.size, 0, none⟩ (.int .i64 C.inp)).setCell ⟨w.heap.size, 1, none⟩ (.slice sn C.next.length cn)).setCell ⟨w.heap.size, 2, none⟩ (.slice sg C.gates.length cg)).setCell ⟨w.heap.size, 3, none⟩ (.slice so C.outs.length co))) = WZ
    intro hZ hR hB
    have cr := (blk_all hZ).1
    exact bodyPost_ret (v := .agg #[.int .i64 C.inp, .slice sn C.next.length cn, .slice sg C.gates.length cg, .slice so C.outs.length co]) (by simp [results, Try.results39, go_sem, cr]) rfl ⟨C, _, _, _, rfl, hR, ⟨by omega, by omega, by omega, by omega, by omega⟩, hB⟩
  · clear rc rf
    have hown : CirOwn w3 w1.heap.size C (.slice sn C.next.length cn) (.slice sg C.gates.length cg) (.slice so C.outs.length co) := ⟨HKb.out.out.n, HKb.out.out.g, HKb.out.out.o, HKb.out.out.ne, by omega, by omega, by omega⟩
    have HOW := Lib.hid hown
    have h2s := HZ0.out.2.2
    clear hown HK
    obtain ⟨D, hD⟩ : ∃ D, D = remR C := ⟨_, rfl⟩
    have hln := remR_len C
    rw [← hD] at hln
    have HDD := Lib.hid hD
    clear hD
    go_wp2_with (go_at_call 16; ((with_reducible refine (RemoveRedundancy_s _ C _ (own_cv HOW.out)).mono ?_); rintro e w4 ⟨vn2, vg2, vo2, rfl, h1, hq⟩; rw [← HDD.out] at h1 ⊢; obtain ⟨xn, yn, rfl⟩ := own_shape h1.n; obtain ⟨xg, yg, rfl⟩ := own_shape h1.g; obtain ⟨xo, yo, rfl⟩ := own_shape h1.o; have H4 := Lib.hid (And.intro h1 hq); obtain ⟨rc, rf⟩ := blk_all (blk_below hq (blk_lt HZ0.out.1) HZ0.out.1); clear h1 hq cb))
    have hlt := blk_lt HZ0.out.1
    have h0 := blk_below H4.out.2 hlt HZ0.out.1
    have hbl := HZ0.out.2.1.trans (H4.out.2.mono HZ0.out.2.1.size)
    clear HZ0
    have hZ : (((((w4.setCell ⟨w.heap.size, 0, none⟩ (.int .i64 D.inp)).setCell ⟨w.heap.size, 1, none⟩ (.slice xn D.next.length yn)).setCell ⟨w.heap.size, 2, none⟩ (.slice xg D.gates.length yg)).setCell ⟨w.heap.size, 3, none⟩ (.slice xo D.outs.length yo))).heap[w.heap.size]? = some (.cells #[.int .i64 D.inp, .slice xn D.next.length yn, .slice xg D.gates.length yg, .slice xo D.outs.length yo] 29 (0, 0)) := by
      simpa using blk_set (o := 3) (v := .slice xo D.outs.length yo) (blk_set (o := 2) (v := .slice xg D.gates.length yg) (blk_set (o := 1) (v := .slice xn D.next.length yn) (blk_set (o := 0) (v := .int .i64 D.inp) h0)))
    have hR := (H4.out.1).sets4 (r := w.heap.size) (by omega) (base := w.heap.size) (by omega) (a := .int .i64 D.inp) (b' := .slice xn D.next.length yn) (c' := .slice xg D.gates.length yg) (d := .slice xo D.outs.length yo)
    have hB := ((((hbl).setCell (p := ⟨w.heap.size, 0, none⟩) (by simp) (.int .i64 D.inp)).setCell (p := ⟨w.heap.size, 1, none⟩) (by simp) (.slice xn D.next.length yn)).setCell (p := ⟨w.heap.size, 2, none⟩) (by simp) (.slice xg D.gates.length yg)).setCell (p := ⟨w.heap.size, 3, none⟩) (by simp) (.slice xo D.outs.length yo)
    clear rc rf
    revert hZ hR hB
    generalize (((((w4.setCell ⟨w.heap.size, 0, none⟩ (.int .i64 D.inp)).setCell ⟨w.heap.size, 1, none⟩ (.slice xn D.next.length yn)).setCell ⟨w.heap.size, 2, none⟩ (.slice xg D.gates.length yg)).setCell ⟨w.heap.size, 3, none⟩ (.slice xo D.outs.length yo))) = WZ
    intro hZ hR hB
    have cr := (blk_all hZ).1
    exact bodyPost_ret (v := .agg #[.int .i64 D.inp, .slice xn D.next.length yn, .slice xg D.gates.length yg, .slice xo D.outs.length yo]) (by simp [results, Try.results39, go_sem, cr]) rfl ⟨D, _, _, _, rfl, hR, ⟨by omega, by omega, by omega, by omega, by omega⟩, hB⟩

set_option maxRecDepth 100000 in
set_option maxHeartbeats 6400000 in
theorem FnIrredundant_any (s : Option Addr) (cap : Nat) (xs : List Int) (w : World) (hs : Sl w s (u8s xs)) (hl : xs.length ≤ 9223372036854775807) (hcap : xs.length ≤ cap) (hcap2 : cap ≤ 9223372036854775807) (hr : ∀ x ∈ xs, 0 ≤ x ∧ x ≤ 255) :
    Calls Try.prog 8 #[.slice s xs.length cap] w fun e w' => e = .returned (.bool true) ∧ Below w.heap.size w w' := by
  by_cases hc : xs.length ≤ 1048576
  · have HD := Lib.hid (DrawIrredundant_any s cap xs w hs hc hcap hcap2 hr)
    clear hs hr
    go_enter Try.func8, Try.ntmps8
    go_upto_region 4 with (go_at_call 39; (with_reducible refine HD.out.mono ?_); rintro e w1 ⟨C, vn, vg, vo, rfl, h1, h2, h4⟩; obtain ⟨sn, cn, rfl⟩ := own_shape h1.n; obtain ⟨sg, cg, rfl⟩ := own_shape h1.g; obtain ⟨so, co, rfl⟩ := own_shape h1.o; have H1 := Lib.hid (And.intro h1 h4); obtain ⟨l1, l2, l3, l4, l5⟩ := h2; clear h1 h4)
    obtain ⟨B, hB⟩ : ∃ B, B = w1.heap.size := ⟨_, rfl⟩
    have hk := blk_new w1 (.cells #[.int .i64 C.inp, .slice sn C.next.length cn, .slice sg C.gates.length cg, .slice so C.outs.length co] 29)
    have hbb := below_al w1 (.cells #[.int .i64 C.inp, .slice sn C.next.length cn, .slice sg C.gates.length cg, .slice so C.outs.length co] 29)
    have hV : CirV (w1.alloc (.cells #[.int .i64 C.inp, .slice sn C.next.length cn, .slice sg C.gates.length cg, .slice so C.outs.length co] 29)) (.agg #[.int .i64 C.inp, .slice sn C.next.length cn, .slice sg C.gates.length cg, .slice so C.outs.length co]) C := own_cv (own_cbelow H1.out.1 hbb)
    have hbw := H1.out.2.trans (hbb.mono H1.out.2.size)
    rw [← hB] at hk
    rw [← hB]
    clear hbb hB H1 HD
    revert hV hbw hk
    generalize w1.alloc (.cells #[.int .i64 C.inp, .slice sn C.next.length cn, .slice sg C.gates.length cg, .slice so C.outs.length co] 29) = W1
    intro hk hV hbw
    have HC : Hid (∀ W, Below W1.heap.size W1 W → CirV W (.agg #[.int .i64 C.inp, .slice sn C.next.length cn, .slice sg C.gates.length cg, .slice so C.outs.length co]) C ∧ (∀ o, W.cell? ⟨B, o, none⟩ = #[Value.int .i64 C.inp, .slice sn C.next.length cn, .slice sg C.gates.length cg, .slice so C.outs.length co][o]?)) := fun W hW => ⟨hV.mono hW, (blk_all (blk_below hW (blk_lt hk) hk)).1⟩
    have HW := Lib.hid hbw
    clear hk hV hbw
    have cb := (HC.out _ (Below.refl _ _)).2
    obtain ⟨R, hR⟩ : ∃ R, R = irrB C := ⟨_, rfl⟩
    have HR := Lib.hid hR
    have H5 := Lib.hid (Below.refl W1.heap.size W1)
    clear hR
    go_upto_region 7 with (first
      | (go_at_call 38; ((with_reducible refine (Irredundant_i _ C _ (HC.out _ H5.out).1).mono ?_); rintro e w2 ⟨rfl, hq⟩; rw [← HR.out]; have H5 := Lib.hid (H5.out.trans (hq.mono H5.out.size)); clear hq cb; have cb := (HC.out _ H5.out).2))
      | (go_at_call 40; ((with_reducible refine (Irredundant_s _ C _ (HC.out _ H5.out).1).mono ?_); rintro e w3 ⟨rfl, hq⟩; rw [← HR.out]; have H5 := Lib.hid (H5.out.trans (hq.mono H5.out.size)); clear hq cb; have cb := (HC.out _ H5.out).2)))
    cases hv : C.validB
    · have hRf : R = false := by rw [HR.out]; unfold irrB; rw [hv]; rfl
      subst hRf
      have HV := Lib.hid hv
      clear hv
      go_wp2_with (first
        | (go_at_call 26; ((with_reducible refine (CircuitValid_s _ C _ (HC.out _ H5.out).1).mono ?_); rintro e w5 ⟨rfl, hq⟩; rw [HV.out]; have H5 := Lib.hid (H5.out.trans (hq.mono H5.out.size)); clear hq cb; have cb := (HC.out _ H5.out).2))
        | (go_at_call 27; ((with_reducible refine (aliveR_any _).mono ?_); rintro e w7 ⟨rfl, hq⟩; have H5 := Lib.hid (H5.out.trans (hq.mono H5.out.size)); clear hq cb; have cb := (HC.out _ H5.out).2)))
      go_ret
      exact ⟨rfl, HW.out.trans (H5.out.mono HW.out.size)⟩
    · have hval := C.validB_iff.1 hv
      obtain ⟨q1, q2, q3, q4, q5⟩ := hval.lim
      obtain ⟨F, hF⟩ : ∃ F : Nat, C.inp + (C.next.length : Int) = F := ⟨(C.inp + (C.next.length : Int)).toNat, by omega⟩
      obtain ⟨U, hU⟩ : ∃ U, U = undR C := ⟨_, rfl⟩
      have hUl : U.length ≤ 1000000 := by rw [hU]; exact undR_len C
      have hUa : U.all (fun f => decide (f.1 ≤ (F : Int))) = R := by
        rw [HR.out, hU, ← undR_all hv]
        refine congrArg (fun f => (undR C).all f) (funext fun f => ?_)
        have eF : C.first = 1 + C.inp + C.next.length := rfl
        exact decide_eq_decide.2 ⟨fun h => by omega, fun h => by omega⟩
      have hwF : IntKind.i64.wrap (C.inp + (C.next.length : Int)) = (F : Int) := by rw [IntWalk.i64_in _ ⟨by omega, by omega⟩]; exact hF
      have HS := Lib.hid (And.intro hU (And.intro hUa (And.intro hv hwF)))
      clear hv hU hUa hF hval hwF
      go_upto_region 9 with (go_at_call 26; ((with_reducible refine (CircuitValid_s _ C _ (HC.out _ H5.out).1).mono ?_); rintro e w5 ⟨rfl, hq⟩; rw [HS.out.2.2.1]; have H5 := Lib.hid (H5.out.trans (hq.mono H5.out.size)); clear hq cb; have cb := (HC.out _ H5.out).2))
      clear q1 q2 q3 q4 q5
      go_upto_region 12 with (go_at_call 41; ((with_reducible refine (Undetectable_i _ C _ (HC.out _ H5.out).1).mono ?_); rintro e w8 ⟨su, cu, rfl, h1, hq⟩; rw [← HS.out.1] at h1 ⊢; have HU := Lib.hid (And.intro (own_sl h1) (H5.out.trans (hq.mono H5.out.size))); clear h1 hq cb))
      go_loopw [5, 7] (fun v5 v7 wr => ∃ k : Nat, k ≤ U.length ∧ v7 = .int .i64 k ∧ v5 = .bool ((U.take k).all (fun f => decide (f.1 ≤ (F : Int)))) ∧ Below w8.heap.size w8 wr) (fun _ v7 _ => U.length - (intOf v7).toNat)
      case atStart => exact ⟨0, Nat.zero_le _, rfl, rfl, Below.refl _ _⟩
      case round =>
        obtain ⟨k, hk, rfl, rfl, hbl⟩ := hrel
        have H6 := Lib.hid hbl
        have H7 := Lib.hid (HU.out.2.trans (hbl.mono HU.out.2.size))
        clear hbl H5
        have cb := (HC.out _ H7.out).2
        by_cases hlt : k < U.length
        · obtain ⟨f, hf⟩ := get_of_lt hlt
          have hsn := allP_snoc (f := fun f => decide (f.1 ≤ (F : Int))) hf
          obtain ⟨b, hb⟩ : ∃ b, b = (U.take k).all (fun f => decide (f.1 ≤ (F : Int))) := ⟨_, rfl⟩
          rw [← hb] at hsn ⊢
          have HX := Lib.hid hsn
          obtain ⟨ub, uo, rfl, hub, hcs⟩ := HU.out.1.at (k := 2 * k) (by rw [fcells_length]; omega)
          have z1 := hcs _ _ (fcells_get hf).1
          rw [Nat.mul_comm] at z1
          have z2 : wr.cell? ⟨ub, uo + k * 2, none⟩ = some (.int .i64 f.1) := (H6.out.cell (p := ⟨ub, uo + k * 2, none⟩) hub).trans z1
          have hwF := HS.out.2.2.2
          clear hcs z1 hf hub hsn hb
          go_upto_region 14 with fail
          cases b
          · go_quiet (fail)
            go_wp2_with fail
            go_roundw
            case rel => exact ⟨k + 1, by omega, by go_num, by rw [HX.out]; simp, below_n H6.out _⟩
            case measure => simp [intOf]; omega
          · obtain ⟨q, hq⟩ : ∃ q, q = decide (f.1 ≤ (F : Int)) := ⟨_, rfl⟩
            have HQ := Lib.hid hq
            go_quiet (fail)
            rw [← hq]
            clear hq
            go_wp2_with fail
            go_roundw
            case rel => exact ⟨k + 1, by omega, by go_num, by rw [HX.out, ← HQ.out]; simp, below_n H6.out _⟩
            case measure => simp [intOf]; omega
        · obtain rfl : k = U.length := by omega
          rw [List.take_length, HS.out.2.1]
          go_upto_region 15 with fail
          cases R
          · go_quiet (fail)
            go_wp2_with fail
            go_ret
            exact ⟨rfl, below_n (HW.out.trans (H7.out.mono HW.out.size)) _⟩
          · obtain ⟨q, hq⟩ : ∃ q, q = cirB (optR C) C := ⟨_, rfl⟩
            have HQ := Lib.hid hq
            clear hq cb
            refine wp_region_T (fun w' => ∀ o, w'.cell? ⟨B, o, none⟩ = #[Value.int .i64 C.inp, .slice sn C.next.length cn, .slice sg C.gates.length cg, .slice so C.outs.length co][o]?) (.q 0 (.q 1 (.q 2 (.q 3 (.q 4 (.q 5 (.q 6 (.q 7 (.q 9 (.e 8 (.e 10 (.q 11 (.q 12 (.q 13 (.q 14 (.q 16 (.e 15 (.e 17 (.q 18 (.q 19 (.q 20 .nil))))))))))))))))))))) (by kernel_rfl) (by kernel_rfl) (by kernel_rfl) (HC.out _ H7.out.drew).2 ?_
            repeat (first | (refine ordt_s (o := ?_) ?_ ?_ ?_; rotate_left 1; (focus ((simp only [List.getElem?_toArray, List.getElem?_cons_succ, List.getElem?_cons_zero]) <;> rfl)); (focus rfl); simp only [Act.put, List.setIfInBounds_toArray, List.set_cons_zero, List.set_cons_succ]) | (refine ordt_q (o := ?_) (v := ?_) ?_ ?_ ?_ ?_; rotate_left 2; (focus ((simp only [List.getElem?_toArray, List.getElem?_cons_succ, List.getElem?_cons_zero]) <;> rfl)); (focus rfl); (focus (intro w' hS; (try dsimp only at hS); go_split_ands; go_simp; (try (with_reducible rfl)))); simp only [Act.put, List.setIfInBounds_toArray, List.set_cons_zero, List.set_cons_succ]))
            refine ordt_e ?_
            (refine op_e (o := ?_) ?_ ?_ (fun K hK => ?_); rotate_left 1; (focus ((simp only [List.getElem?_toArray, List.getElem?_cons_succ, List.getElem?_cons_zero]) <;> rfl)); (focus rfl); go_simp)
            refine (Optimize_i _ C _ (HC.out _ H7.out.drew).1).mono ?_
            rintro e wa ⟨vna, vga, voa, rfl, h1, hq⟩
            have hba : Below W1.heap.size W1 wa := H7.out.trans (((Below.refl _ _).drew.trans hq).mono H7.out.size)
            refine hK.out _ _ (HC.out _ hba).2 ?_
            clear hK K hq
            have HA := Lib.hid (And.intro (own_cv h1) hba)
            clear h1 hba
            (try simp only [Act.put, List.setIfInBounds_toArray, List.set_cons_zero, List.set_cons_succ])
            refine ordt_e ?_
            (refine op_e (o := ?_) ?_ ?_ (fun K hK => ?_); rotate_left 1; (focus ((simp only [List.getElem?_toArray, List.getElem?_cons_succ, List.getElem?_cons_zero]) <;> rfl)); (focus rfl); go_simp)
            refine (sameCircuitG_any _ _ (optR C) C _ HA.out.1 (HC.out _ HA.out.2).1).mono ?_
            rintro e wd ⟨rfl, hq⟩
            rw [← HQ.out]
            have hbd : Below W1.heap.size W1 wd := HA.out.2.trans (hq.mono HA.out.2.size)
            have hcd := (HC.out _ hbd).2
            refine hK.out _ _ hcd ?_
            clear hK K hq
            have HDz := Lib.hid hbd
            clear hbd HA
            (try simp only [Act.put, List.setIfInBounds_toArray, List.set_cons_zero, List.set_cons_succ])
            cases q
            · repeat (first | (refine ordt_s (o := ?_) ?_ ?_ ?_; rotate_left 1; (focus ((simp only [List.getElem?_toArray, List.getElem?_cons_succ, List.getElem?_cons_zero]) <;> rfl)); (focus rfl); simp only [Act.put, List.setIfInBounds_toArray, List.set_cons_zero, List.set_cons_succ]) | (refine ordt_q (o := ?_) (v := ?_) ?_ ?_ ?_ ?_; rotate_left 2; (focus ((simp only [List.getElem?_toArray, List.getElem?_cons_succ, List.getElem?_cons_zero]) <;> rfl)); (focus rfl); (focus (intro w' hS; (try dsimp only at hS); go_split_ands; go_simp; (try (with_reducible rfl)))); simp only [Act.put, List.setIfInBounds_toArray, List.set_cons_zero, List.set_cons_succ]))
              refine ordt_es (o := ?_) ?_ ?_ (hcd) ?_; rotate_left 1; (focus ((simp only [List.getElem?_toArray, List.getElem?_cons_succ, List.getElem?_cons_zero]) <;> rfl)); (focus rfl); simp only [Act.put, List.setIfInBounds_toArray, List.set_cons_zero, List.set_cons_succ]
              refine ordt_es (o := ?_) ?_ ?_ (hcd) ?_; rotate_left 1; (focus ((simp only [List.getElem?_toArray, List.getElem?_cons_succ, List.getElem?_cons_zero]) <;> rfl)); (focus rfl); simp only [Act.put, List.setIfInBounds_toArray, List.set_cons_zero, List.set_cons_succ]
              repeat (first | (refine ordt_s (o := ?_) ?_ ?_ ?_; rotate_left 1; (focus ((simp only [List.getElem?_toArray, List.getElem?_cons_succ, List.getElem?_cons_zero]) <;> rfl)); (focus rfl); simp only [Act.put, List.setIfInBounds_toArray, List.set_cons_zero, List.set_cons_succ]) | (refine ordt_q (o := ?_) (v := ?_) ?_ ?_ ?_ ?_; rotate_left 2; (focus ((simp only [List.getElem?_toArray, List.getElem?_cons_succ, List.getElem?_cons_zero]) <;> rfl)); (focus rfl); (focus (intro w' hS; (try dsimp only at hS); go_split_ands; go_simp; (try (with_reducible rfl)))); simp only [Act.put, List.setIfInBounds_toArray, List.set_cons_zero, List.set_cons_succ]))
              refine ordt_nil ?_
              go_wp2_with fail
              go_ret
              exact ⟨rfl, HW.out.trans (HDz.out.mono HW.out.size)⟩
            · repeat (first | (refine ordt_s (o := ?_) ?_ ?_ ?_; rotate_left 1; (focus ((simp only [List.getElem?_toArray, List.getElem?_cons_succ, List.getElem?_cons_zero]) <;> rfl)); (focus rfl); simp only [Act.put, List.setIfInBounds_toArray, List.set_cons_zero, List.set_cons_succ]) | (refine ordt_q (o := ?_) (v := ?_) ?_ ?_ ?_ ?_; rotate_left 2; (focus ((simp only [List.getElem?_toArray, List.getElem?_cons_succ, List.getElem?_cons_zero]) <;> rfl)); (focus rfl); (focus (intro w' hS; (try dsimp only at hS); go_split_ands; go_simp; (try (with_reducible rfl)))); simp only [Act.put, List.setIfInBounds_toArray, List.set_cons_zero, List.set_cons_succ]))
              refine ordt_e ?_
              (refine op_e (o := ?_) ?_ ?_ (fun K hK => ?_); rotate_left 1; (focus ((simp only [List.getElem?_toArray, List.getElem?_cons_succ, List.getElem?_cons_zero]) <;> rfl)); (focus rfl); go_simp)
              refine (RemoveRedundancy_i _ C _ (HC.out _ HDz.out).1).mono ?_
              rintro e we ⟨vne, vge, voe, rfl, h1, hq⟩
              have hbe : Below W1.heap.size W1 we := HDz.out.trans (hq.mono HDz.out.size)
              refine hK.out _ _ (HC.out _ hbe).2 ?_
              clear hK K hq
              have HE := Lib.hid (And.intro (own_cv h1) hbe)
              clear h1 hbe
              (try simp only [Act.put, List.setIfInBounds_toArray, List.set_cons_zero, List.set_cons_succ])
              refine ordt_e ?_
              (refine op_e (o := ?_) ?_ ?_ (fun K hK => ?_); rotate_left 1; (focus ((simp only [List.getElem?_toArray, List.getElem?_cons_succ, List.getElem?_cons_zero]) <;> rfl)); (focus rfl); go_simp)
              refine (sameCircuitG_any _ _ (remR C) C _ HE.out.1 (HC.out _ HE.out.2).1).mono ?_
              rintro e wf ⟨rfl, hq⟩
              rw [remR_irr HR.out.symm HQ.out.symm]
              have hbf : Below W1.heap.size W1 wf := HE.out.2.trans (hq.mono HE.out.2.size)
              refine hK.out _ _ (HC.out _ hbf).2 ?_
              clear hK K hq
              have HFz := Lib.hid hbf
              clear hbf HE
              (try simp only [Act.put, List.setIfInBounds_toArray, List.set_cons_zero, List.set_cons_succ])
              repeat (first | (refine ordt_s (o := ?_) ?_ ?_ ?_; rotate_left 1; (focus ((simp only [List.getElem?_toArray, List.getElem?_cons_succ, List.getElem?_cons_zero]) <;> rfl)); (focus rfl); simp only [Act.put, List.setIfInBounds_toArray, List.set_cons_zero, List.set_cons_succ]) | (refine ordt_q (o := ?_) (v := ?_) ?_ ?_ ?_ ?_; rotate_left 2; (focus ((simp only [List.getElem?_toArray, List.getElem?_cons_succ, List.getElem?_cons_zero]) <;> rfl)); (focus rfl); (focus (intro w' hS; (try dsimp only at hS); go_split_ands; go_simp; (try (with_reducible rfl)))); simp only [Act.put, List.setIfInBounds_toArray, List.set_cons_zero, List.set_cons_succ]))
              refine ordt_nil ?_
              go_wp2_with fail
              go_ret
              exact ⟨rfl, HW.out.trans (HFz.out.mono HW.out.size)⟩
  · clear hs hr
    go_enter Try.func8, Try.ntmps8
    go_wp2
    go_ret
    exact ⟨rfl, Below.refl _ _⟩

end Go.Proofs.Ytindndcdpnpcmaa
