import Derived.Test.YtindndcdpnpcmaaOG
namespace Go.Proofs.Ytindndcdpnpcmaa
set_option linter.unusedVariables false
set_option linter.unusedSimpArgs false
open Go.RowKit

/-! l18Step: the first redundant gate is replaced. -/

theorem CirV.shape {w : World} {v : Value} {c : Cir} {i : Int} {vn vg vo : Value} (hv : v = .agg #[.int .i64 i, vn, vg, vo]) (h : CirV w v c) : ∃ sn cn sg cg so co, vn = .slice sn c.next.length cn ∧ vg = .slice sg c.gates.length cg ∧ vo = .slice so c.outs.length co := by
  obtain ⟨sn, cn, sg, cg, so, co, e, -⟩ := h
  rw [hv] at e
  simp only [Value.agg.injEq, Array.mk.injEq, List.cons.injEq, and_true] at e
  exact ⟨sn, cn, sg, cg, so, co, e.2.1, e.2.2.1, e.2.2.2⟩
def StPost (c : Cir) (b : Bool) (w : World) (e : Ending) (w' : World) : Prop :=
  ∃ vn vg vo, e = .returned (.tuple #[.agg #[.int .i64 c.inp, vn, vg, vo], .bool b]) ∧ CirV w' (.agg #[.int .i64 c.inp, vn, vg, vo]) c ∧ Below w.heap.size w w'

set_option maxRecDepth 100000 in
set_option maxHeartbeats 6400000 in
theorem l18Step_any (v : Value) (c : Cir) (w : World) (h : CirV w v c) (hv : c.valid) :
    Calls Try.prog 53 #[v] w (StPost (stepR c) (fstU c).isSome w) := by
  have HG := Lib.hid h
  obtain ⟨sn, cn, sg, cg, so, co, rfl, -, -, -, -, -, -⟩ := h
  obtain ⟨i0, i1, q3, q4, q5⟩ := id hv.lim
  obtain ⟨n1, n2⟩ := asgN_le hv
  obtain ⟨W0, hW0⟩ : ∃ W0, W0 = (w.alloc (.cells #[.int .i64 c.inp, .slice sn c.next.length cn, .slice sg c.gates.length cg, .slice so c.outs.length co] 29)).alloc (.cells #[.int .i64 0, .slice none 0 0, .slice none 0 0, .slice none 0 0] 29) := ⟨_, rfl⟩
  obtain ⟨A, hA⟩ : ∃ A, A = w.heap.size := ⟨_, rfl⟩
  have z1 : W0.heap.size = A + 2 := by rw [hW0, hA]; simp
  have z2 : W0.heap[A]? = some (.cells #[.int .i64 c.inp, .slice sn c.next.length cn, .slice sg c.gates.length cg, .slice so c.outs.length co] 29 (0, 0)) := by rw [hW0, hA]; exact blk_old (blk_new w _)
  have z3 : W0.heap[A + 1]? = some (.cells #[.int .i64 0, .slice none 0 0, .slice none 0 0, .slice none 0 0] 29 (0, 0)) := by rw [hW0, hA]; exact blk_at (by simp)
  have z4 : Below w.heap.size w W0 := by rw [hW0]; exact ((Below.refl _ _).alloc (Nat.le_refl _) _).alloc (by simp) _
  have HW := Lib.hid (And.intro hW0 (And.intro hA z1))
  have HB : Hid (∀ W, Below W0.heap.size W0 W → (∀ o, W.cell? ⟨A, o, none⟩ = #[Value.int .i64 c.inp, .slice sn c.next.length cn, .slice sg c.gates.length cg, .slice so c.outs.length co][o]?) ∧ W.heap[A + 1]? = some (.cells #[.int .i64 0, .slice none 0 0, .slice none 0 0, .slice none 0 0] 29 (0, 0)) ∧ CirV W (.agg #[.int .i64 c.inp, .slice sn c.next.length cn, .slice sg c.gates.length cg, .slice so c.outs.length co]) c ∧ Below w.heap.size w W) := fun W hW => ⟨(blk_all (blk_below hW (by omega) z2)).1, blk_below hW (by omega) z3, HG.out.mono (z4.trans (hW.mono z4.size)), z4.trans (hW.mono z4.size)⟩
  have HV := Lib.hid hv
  clear hv hW0 hA z1 z2 z3 z4
  obtain ⟨F, hF⟩ : ∃ F : Nat, 1 + c.inp + (c.next.length : Int) = F := ⟨(1 + c.inp + (c.next.length : Int)).toNat, by omega⟩
  have hF8 : F ≤ 8 := by omega
  obtain ⟨n, hnn⟩ : ∃ n, n = c.gates.length := ⟨_, rfl⟩
  have hn14 : n ≤ 14 := by omega
  have hfst : fstU c = frstU c F n := by
    unfold fstU
    rw [show c.first = (F : Int) from hF, Int.toNat_natCast, hnn]
  have hfc : c.first.toNat = F := by rw [show c.first = (F : Int) from hF, Int.toNat_natCast]
  have eV : c.vars = (F : Int) + n := by unfold Cir.vars; omega
  have HFT : Hid (∀ W (k : Nat) (val : Bool), Below W0.heap.size W0 W → k < n → Calls Try.prog 104 #[.agg #[.int .i64 c.inp, .slice sn c.next.length cn, .slice sg c.gates.length cg, .slice so c.outs.length co], .agg #[.int .i64 ((F + k : Nat) : Int), .bool val]] W fun e w' => e = .returned (.int .i64 (findN (detV c ((F + k : Nat) : Int) val) (asgN c))) ∧ Below W.heap.size W w') := fun W k val hW hk =>
    l12Find_any _ c _ val W (HB.out W hW).2.2.1 HV.out (by omega) (by omega)
  have HLF : Hid (∀ W (k : Nat) (val : Bool), Below W0.heap.size W0 W → k < n → Calls Try.prog 105 #[.agg #[.int .i64 c.inp, .slice sn c.next.length cn, .slice sg c.gates.length cg, .slice so c.outs.length co], .int .i64 ((F + k : Nat) : Int), .bool val] W fun e w' => ∃ vn vg vo, e = .returned (.agg #[.int .i64 c.inp, vn, vg, vo]) ∧ CirOwn w' W.heap.size (c.mapC (forceL ((F + k : Nat) : Int) val)) vn vg vo ∧ Below W.heap.size W w') := fun W k val hW hk =>
    l18Force_any _ c (F + k) val W (HB.out W hW).2.2.1 HV.out (by omega)
  have HST : Hid (∀ (k : Nat) (val : Bool), frstU c F n = some (k, val) → stepR c = optR (c.mapC (forceL ((F + k : Nat) : Int) val)) ∧ (fstU c).isSome = true) := fun k val hh => by
    rw [← hfst] at hh
    unfold stepR
    rw [hh, hfc]
    exact ⟨rfl, rfl⟩
  have HSN : Hid (frstU c F n = none → stepR c = c ∧ (fstU c).isSome = false) := fun hh => by
    rw [← hfst] at hh
    unfold stepR
    rw [hh]
    exact ⟨rfl, rfl⟩
  rw [← hnn] at HB HW HFT HLF ⊢
  have HFF := Lib.hid (And.intro hF hnn)
  have wf : IntKind.i64.wrap ((F : Int) + (n : Int)) = (F : Int) + n := IntWalk.i64_in _ ⟨by omega, by omega⟩
  clear hF hnn hfst hfc eV q4
  obtain ⟨O, hO⟩ : ∃ O, O = frstU c F n := ⟨_, rfl⟩
  rw [← hO] at HST HSN
  have HO := Lib.hid hO
  clear hO
  obtain ⟨S, hS⟩ : ∃ S, S = stepR c := ⟨_, rfl⟩
  obtain ⟨Ob, hOb⟩ : ∃ Ob, Ob = (fstU c).isSome := ⟨_, rfl⟩
  rw [← hS, ← hOb] at HST HSN ⊢
  clear hS hOb
  go_enter Try.func53, Try.ntmps53
  go_upto_region 1 with fail
  rw [← HW.out.1, ← HW.out.2.1]
  have cb := (HB.out _ (Below.refl _ _)).1
  go_upto_region 2 with (go_at_call 67; ((with_reducible refine (l1First_any _ _ _ _ _ _ _ (by omega) (by omega)).mono ?_); rintro e w1 ⟨rfl, hq⟩; rw [HFF.out.1]; have H1 := Lib.hid hq; clear hq cb))
  go_loopw [4] (fun s4 wr => ∃ k : Nat, k ≤ n ∧ s4 = .int .i64 ((F + k : Nat) : Int) ∧ frstU c F k = none ∧ Below W0.heap.size W0 wr) (fun s4 _ => F + n - (intOf s4).toNat)
  case atStart => exact ⟨0, Nat.zero_le _, rfl, rfl, H1.out⟩
  case round =>
    obtain ⟨k, hk, rfl, hno, hb⟩ := hrel
    obtain ⟨wt, rfl⟩ : ∃ wt, wt = wr := ⟨_, rfl⟩
    have HK := Lib.hid (And.intro hno hb)
    clear hno hb
    obtain ⟨p, hp⟩ : ∃ p, F + k = p := ⟨_, rfl⟩
    have hp22 : p ≤ 22 := by omega
    rw [hp]
    have HP := Lib.hid hp
    clear hp
    go_upto_region 2 with fail
    go_cut [15] from 8 to 15 (fun s15 wx => s15 = .bool (decide ((p : Int) < (F : Int) + (n : Int))) ∧ Below W0.heap.size W0 wx)
    case first =>
      have hd := HK.out.2.drew
      refine wp_region_T (fun w' => ∀ o, w'.cell? ⟨A, o, none⟩ = #[Value.int .i64 c.inp, .slice sn c.next.length cn, .slice sg n cg, .slice so c.outs.length co][o]?) (.q 0 (.q 1 (.q 3 (.q 4 (.q 5 (.e 2 (.q 6 (.q 7 .nil)))))))) (by kernel_rfl) (by kernel_rfl) (by kernel_rfl) (HB.out _ hd).1 ?_
      repeat (first | (refine ordt_s (o := ?_) ?_ ?_ ?_; rotate_left 1; (focus ((simp only [List.getElem?_toArray, List.getElem?_cons_succ, List.getElem?_cons_zero]) <;> rfl)); (focus rfl); simp only [Act.put, List.setIfInBounds_toArray, List.set_cons_zero, List.set_cons_succ]) | (refine ordt_q (o := ?_) (v := ?_) ?_ ?_ ?_ ?_; rotate_left 2; (focus ((simp only [List.getElem?_toArray, List.getElem?_cons_succ, List.getElem?_cons_zero]) <;> rfl)); (focus rfl); (focus (intro w' hS; (try dsimp only at hS); go_split_ands; go_simp; (try (with_reducible rfl)))); simp only [Act.put, List.setIfInBounds_toArray, List.set_cons_zero, List.set_cons_succ]))
      refine ordt_e ?_
      (refine op_e (o := ?_) ?_ ?_ (fun K hK => ?_); rotate_left 1; (focus ((simp only [List.getElem?_toArray, List.getElem?_cons_succ, List.getElem?_cons_zero]) <;> rfl)); (focus rfl); go_simp)
      refine (l1First_any _ _ _ _ _ _ _ (by omega) (by omega)).mono ?_
      rintro e w9 ⟨rfl, hq⟩
      rw [HFF.out.1]
      have hb9 := hd.trans (hq.mono hd.size)
      refine hK.out _ _ (HB.out _ hb9).1 ?_
      clear hK K hq
      have H9 := Lib.hid hb9
      clear hb9 hd
      (try simp only [Act.put, List.setIfInBounds_toArray, List.set_cons_zero, List.set_cons_succ])
      repeat (first | (refine ordt_s (o := ?_) ?_ ?_ ?_; rotate_left 1; (focus ((simp only [List.getElem?_toArray, List.getElem?_cons_succ, List.getElem?_cons_zero]) <;> rfl)); (focus rfl); simp only [Act.put, List.setIfInBounds_toArray, List.set_cons_zero, List.set_cons_succ]) | (refine ordt_q (o := ?_) (v := ?_) ?_ ?_ ?_ ?_; rotate_left 2; (focus ((simp only [List.getElem?_toArray, List.getElem?_cons_succ, List.getElem?_cons_zero]) <;> rfl)); (focus rfl); (focus (intro w' hS; (try dsimp only at hS); go_split_ands; go_simp; (try (with_reducible rfl)))); simp only [Act.put, List.setIfInBounds_toArray, List.set_cons_zero, List.set_cons_succ]))
      refine ordt_nil ?_
      go_wp2_with fail
      go_meet
      exact ⟨rfl, H9.out⟩
    case rest =>
      obtain ⟨rfl, hb3⟩ := hcut
      have H3 := Lib.hid hb3
      clear hb3
      by_cases hlt : k < n
      · rw [decide_eq_true (show (p : Int) < (F : Int) + (n : Int) by have := HP.out; omega)]
        go_upto_region 5 with fail
        go_loopw [5] (fun s5 wz => ∃ j : Nat, j ≤ 2 ∧ s5 = .int .i64 j ∧ (1 ≤ j → undB c p false = false) ∧ (2 ≤ j → undB c p true = false) ∧ Below W0.heap.size W0 wz) (fun s5 _ => 2 - (intOf s5).toNat)
        case atStart => exact ⟨0, by omega, rfl, fun h => by omega, fun h => by omega, H3.out⟩
        case round =>
          obtain ⟨j, hj, rfl, hu0, hu1, hb⟩ := hrel
          have HJ := Lib.hid (And.intro hu0 (And.intro hu1 hb))
          have cA := (HB.out _ hb).1
          clear hu0 hu1 hb
          rcases (show j = 0 ∨ j = 1 ∨ j = 2 by omega) with rfl | rfl | rfl
          · obtain ⟨X, hX⟩ : ∃ X, X = findN (detV c (p : Int) false) (asgN c) := ⟨_, rfl⟩
            have hXb := findN_bd (detV c (p : Int) false) (N := asgN c) (by omega)
            rw [← hX] at hXb
            obtain ⟨x1, x2⟩ := hXb
            have HX := Lib.hid hX
            clear hX
            by_cases hX0 : X < 0
            · have hun : undB c (p : Int) false = true := by unfold undB; rw [← HX.out]; simpa using hX0
              have ho : O = some (k, false) := by
                rw [HO.out]
                refine frstU_hit (k := k) ?_ n (by omega)
                exact frstU_f HK.out.1 (by rw [HP.out]; exact hun)
              obtain ⟨hS, hOb⟩ := HST.out k false ho
              rw [HP.out] at hS
              subst hOb
              have HSS := Lib.hid hS
              clear ho hun hS
              go_wp2_with (first
                | (go_at_call 104; ((have hft := HFT.out _ k false HJ.out.2.2 hlt); rw [HP.out] at hft; (refine hft.mono ?_); rintro e w7 ⟨rfl, hq⟩; rw [← HX.out]; have H7 := Lib.hid (HJ.out.2.2.trans (hq.mono HJ.out.2.2.size)); clear hq cA; have cA := (HB.out _ H7.out).1))
                | (go_at_call 105; ((have hft := HLF.out _ k false H7.out hlt); rw [HP.out] at hft; (refine hft.mono ?_); rintro e w8 ⟨vn, vg, vo, rfl, ho, hq⟩; have H8 := Lib.hid (And.intro ho (H7.out.trans (hq.mono H7.out.size))); clear hq ho cA))
                | (go_at_call 52; ((with_reducible refine (Optimize_s _ (c.mapC (forceL (p : Int) false)) _ (show CirV _ (.agg #[.int .i64 c.inp, vn, vg, vo]) (c.mapC (forceL (p : Int) false)) from H8.out.1.toV)).mono ?_); rintro e w9 ⟨vn9, vg9, vo9, rfl, ho, hq⟩; rw [← HSS.out] at ho; rw [← HSS.out]; obtain ⟨sn9, cn9, rfl⟩ := own_shape ho.n; obtain ⟨sg9, cg9, rfl⟩ := own_shape ho.g; obtain ⟨so9, co9, rfl⟩ := own_shape ho.o; have H9 := Lib.hid (And.intro ho (H8.out.2.trans (hq.mono H8.out.2.size))); have HZ9 := Lib.hid (show W0.heap.size ≤ w8.heap.size from H8.out.2.size); obtain ⟨rc, rf⟩ := blk_all (HB.out _ H9.out.2).2.1; clear hq ho)))
              have hZ : ((((w9.setCell ⟨A + 1, 0, none⟩ (.int .i64 S.inp)).setCell ⟨A + 1, 1, none⟩ (.slice sn9 S.next.length cn9)).setCell ⟨A + 1, 2, none⟩ (.slice sg9 S.gates.length cg9)).setCell ⟨A + 1, 3, none⟩ (.slice so9 S.outs.length co9)).heap[A + 1]? = some (.cells #[.int .i64 S.inp, .slice sn9 S.next.length cn9, .slice sg9 S.gates.length cg9, .slice so9 S.outs.length co9] 29 (0, 0)) := by
                simpa using blk_set (o := 3) (v := .slice so9 S.outs.length co9) (blk_set (o := 2) (v := .slice sg9 S.gates.length cg9) (blk_set (o := 1) (v := .slice sn9 S.next.length cn9) (blk_set (o := 0) (v := .int .i64 S.inp) (HB.out _ H9.out.2).2.1)))
              have hA2 := HW.out.2.1
              have hbz := ((((HB.out _ H9.out.2).2.2.2.setCell (p := ⟨A + 1, 0, none⟩) (by simp; omega) (.int .i64 S.inp)).setCell (p := ⟨A + 1, 1, none⟩) (by simp; omega) (.slice sn9 S.next.length cn9)).setCell (p := ⟨A + 1, 2, none⟩) (by simp; omega) (.slice sg9 S.gates.length cg9)).setCell (p := ⟨A + 1, 3, none⟩) (by simp; omega) (.slice so9 S.outs.length co9)
              have hO9 := H9.out.1.sets4 (r := A + 1) (by have h1 := HZ9.out; have h2 := HW.out.2.2; omega) (base := w.heap.size) (by have h1 := HZ9.out; have h2 := HW.out.2.2; omega) (a := .int .i64 S.inp) (b' := .slice sn9 S.next.length cn9) (c' := .slice sg9 S.gates.length cg9) (d := .slice so9 S.outs.length co9)
              clear rc rf
              revert hZ hbz hO9
              generalize ((((w9.setCell ⟨A + 1, 0, none⟩ (.int .i64 S.inp)).setCell ⟨A + 1, 1, none⟩ (.slice sn9 S.next.length cn9)).setCell ⟨A + 1, 2, none⟩ (.slice sg9 S.gates.length cg9)).setCell ⟨A + 1, 3, none⟩ (.slice so9 S.outs.length co9)) = WZ
              intro hZ hbz hO9
              have hV9 : CirV WZ (.agg #[.int .i64 S.inp, .slice sn9 S.next.length cn9, .slice sg9 S.gates.length cg9, .slice so9 S.outs.length co9]) S := hO9.toV
              have cr := (blk_all hZ).1
              exact bodyPost_ret (v := .tuple #[.agg #[.int .i64 S.inp, .slice sn9 S.next.length cn9, .slice sg9 S.gates.length cg9, .slice so9 S.outs.length co9], .bool true]) (by simp [results, Try.results53, go_sem, cr]) rfl (⟨_, _, _, rfl, hV9, hbz⟩)
            · have hun : undB c (p : Int) false = false := by unfold undB; rw [← HX.out]; simpa using hX0
              have HUN := Lib.hid hun
              clear hun
              go_wp2_with (go_at_call 104; ((have hft := HFT.out _ k false HJ.out.2.2 hlt); rw [HP.out] at hft; (refine hft.mono ?_); rintro e w7 ⟨rfl, hq⟩; rw [← HX.out]; have H7 := Lib.hid (HJ.out.2.2.trans (hq.mono HJ.out.2.2.size)); clear hq cA))
              go_roundw
              case rel => exact ⟨0 + 1, by omega, by first | rfl | go_num, fun _ => HUN.out, fun h => by omega, H7.out⟩
              case measure => simp [intOf]
          · obtain ⟨X, hX⟩ : ∃ X, X = findN (detV c (p : Int) true) (asgN c) := ⟨_, rfl⟩
            have hXb := findN_bd (detV c (p : Int) true) (N := asgN c) (by omega)
            rw [← hX] at hXb
            obtain ⟨x1, x2⟩ := hXb
            have HX := Lib.hid hX
            clear hX
            by_cases hX0 : X < 0
            · have hun : undB c (p : Int) true = true := by unfold undB; rw [← HX.out]; simpa using hX0
              have ho : O = some (k, true) := by
                rw [HO.out]
                refine frstU_hit (k := k) ?_ n (by omega)
                exact frstU_t HK.out.1 (by rw [HP.out]; exact HJ.out.1 (by omega)) (by rw [HP.out]; exact hun)
              obtain ⟨hS, hOb⟩ := HST.out k true ho
              rw [HP.out] at hS
              subst hOb
              have HSS := Lib.hid hS
              clear ho hun hS
              go_wp2_with (first
                | (go_at_call 104; ((have hft := HFT.out _ k true HJ.out.2.2 hlt); rw [HP.out] at hft; (refine hft.mono ?_); rintro e w7 ⟨rfl, hq⟩; rw [← HX.out]; have H7 := Lib.hid (HJ.out.2.2.trans (hq.mono HJ.out.2.2.size)); clear hq cA; have cA := (HB.out _ H7.out).1))
                | (go_at_call 105; ((have hft := HLF.out _ k true H7.out hlt); rw [HP.out] at hft; (refine hft.mono ?_); rintro e w8 ⟨vn, vg, vo, rfl, ho, hq⟩; have H8 := Lib.hid (And.intro ho (H7.out.trans (hq.mono H7.out.size))); clear hq ho cA))
                | (go_at_call 52; ((with_reducible refine (Optimize_s _ (c.mapC (forceL (p : Int) true)) _ (show CirV _ (.agg #[.int .i64 c.inp, vn, vg, vo]) (c.mapC (forceL (p : Int) true)) from H8.out.1.toV)).mono ?_); rintro e w9 ⟨vn9, vg9, vo9, rfl, ho, hq⟩; rw [← HSS.out] at ho; rw [← HSS.out]; obtain ⟨sn9, cn9, rfl⟩ := own_shape ho.n; obtain ⟨sg9, cg9, rfl⟩ := own_shape ho.g; obtain ⟨so9, co9, rfl⟩ := own_shape ho.o; have H9 := Lib.hid (And.intro ho (H8.out.2.trans (hq.mono H8.out.2.size))); have HZ9 := Lib.hid (show W0.heap.size ≤ w8.heap.size from H8.out.2.size); obtain ⟨rc, rf⟩ := blk_all (HB.out _ H9.out.2).2.1; clear hq ho)))
              have hZ : ((((w9.setCell ⟨A + 1, 0, none⟩ (.int .i64 S.inp)).setCell ⟨A + 1, 1, none⟩ (.slice sn9 S.next.length cn9)).setCell ⟨A + 1, 2, none⟩ (.slice sg9 S.gates.length cg9)).setCell ⟨A + 1, 3, none⟩ (.slice so9 S.outs.length co9)).heap[A + 1]? = some (.cells #[.int .i64 S.inp, .slice sn9 S.next.length cn9, .slice sg9 S.gates.length cg9, .slice so9 S.outs.length co9] 29 (0, 0)) := by
                simpa using blk_set (o := 3) (v := .slice so9 S.outs.length co9) (blk_set (o := 2) (v := .slice sg9 S.gates.length cg9) (blk_set (o := 1) (v := .slice sn9 S.next.length cn9) (blk_set (o := 0) (v := .int .i64 S.inp) (HB.out _ H9.out.2).2.1)))
              have hA2 := HW.out.2.1
              have hbz := ((((HB.out _ H9.out.2).2.2.2.setCell (p := ⟨A + 1, 0, none⟩) (by simp; omega) (.int .i64 S.inp)).setCell (p := ⟨A + 1, 1, none⟩) (by simp; omega) (.slice sn9 S.next.length cn9)).setCell (p := ⟨A + 1, 2, none⟩) (by simp; omega) (.slice sg9 S.gates.length cg9)).setCell (p := ⟨A + 1, 3, none⟩) (by simp; omega) (.slice so9 S.outs.length co9)
              have hO9 := H9.out.1.sets4 (r := A + 1) (by have h1 := HZ9.out; have h2 := HW.out.2.2; omega) (base := w.heap.size) (by have h1 := HZ9.out; have h2 := HW.out.2.2; omega) (a := .int .i64 S.inp) (b' := .slice sn9 S.next.length cn9) (c' := .slice sg9 S.gates.length cg9) (d := .slice so9 S.outs.length co9)
              clear rc rf
              revert hZ hbz hO9
              generalize ((((w9.setCell ⟨A + 1, 0, none⟩ (.int .i64 S.inp)).setCell ⟨A + 1, 1, none⟩ (.slice sn9 S.next.length cn9)).setCell ⟨A + 1, 2, none⟩ (.slice sg9 S.gates.length cg9)).setCell ⟨A + 1, 3, none⟩ (.slice so9 S.outs.length co9)) = WZ
              intro hZ hbz hO9
              have hV9 : CirV WZ (.agg #[.int .i64 S.inp, .slice sn9 S.next.length cn9, .slice sg9 S.gates.length cg9, .slice so9 S.outs.length co9]) S := hO9.toV
              have cr := (blk_all hZ).1
              exact bodyPost_ret (v := .tuple #[.agg #[.int .i64 S.inp, .slice sn9 S.next.length cn9, .slice sg9 S.gates.length cg9, .slice so9 S.outs.length co9], .bool true]) (by simp [results, Try.results53, go_sem, cr]) rfl (⟨_, _, _, rfl, hV9, hbz⟩)
            · have hun : undB c (p : Int) true = false := by unfold undB; rw [← HX.out]; simpa using hX0
              have HUN := Lib.hid hun
              clear hun
              go_wp2_with (go_at_call 104; ((have hft := HFT.out _ k true HJ.out.2.2 hlt); rw [HP.out] at hft; (refine hft.mono ?_); rintro e w7 ⟨rfl, hq⟩; rw [← HX.out]; have H7 := Lib.hid (HJ.out.2.2.trans (hq.mono HJ.out.2.2.size)); clear hq cA))
              go_roundw
              case rel => exact ⟨1 + 1, by omega, by first | rfl | go_num, fun _ => HJ.out.1 (by omega), fun _ => HUN.out, H7.out⟩
              case measure => simp [intOf]
          · go_wp2_with fail
            go_roundw
            case rel => exact ⟨k + 1, by omega, by have := HP.out; first | go_num | (congr 1; omega), frstU_n HK.out.1 (by rw [HP.out]; exact HJ.out.1 (by omega)) (by rw [HP.out]; exact HJ.out.2.1 (by omega)), HJ.out.2.2⟩
            case measure => have := HP.out; simp [intOf]; try omega
      · obtain rfl : n = k := by omega
        rw [decide_eq_false (show ¬ (p : Int) < (F : Int) + (n : Int) by have := HP.out; omega)]
        obtain ⟨hS, hOb⟩ := HSN.out (by rw [HO.out]; exact HK.out.1)
        subst hOb
        have HSS := Lib.hid hS
        clear hS
        have cA := (HB.out _ H3.out).1
        obtain ⟨rc, rf⟩ := blk_all (HB.out _ H3.out).2.1
        go_wp2_with fail
        have hZ : ((((wc.setCell ⟨A + 1, 0, none⟩ (.int .i64 c.inp)).setCell ⟨A + 1, 1, none⟩ (.slice sn c.next.length cn)).setCell ⟨A + 1, 2, none⟩ (.slice sg n cg)).setCell ⟨A + 1, 3, none⟩ (.slice so c.outs.length co)).heap[A + 1]? = some (.cells #[.int .i64 c.inp, .slice sn c.next.length cn, .slice sg n cg, .slice so c.outs.length co] 29 (0, 0)) := by
          simpa using blk_set (o := 3) (v := .slice so c.outs.length co) (blk_set (o := 2) (v := .slice sg n cg) (blk_set (o := 1) (v := .slice sn c.next.length cn) (blk_set (o := 0) (v := .int .i64 c.inp) (HB.out _ H3.out).2.1)))
        have hA2 := HW.out.2.1
        have hbz := ((((HB.out _ H3.out).2.2.2.setCell (p := ⟨A + 1, 0, none⟩) (by simp; omega) (.int .i64 c.inp)).setCell (p := ⟨A + 1, 1, none⟩) (by simp; omega) (.slice sn c.next.length cn)).setCell (p := ⟨A + 1, 2, none⟩) (by simp; omega) (.slice sg n cg)).setCell (p := ⟨A + 1, 3, none⟩) (by simp; omega) (.slice so c.outs.length co)
        clear rc rf
        revert hZ hbz
        generalize ((((wc.setCell ⟨A + 1, 0, none⟩ (.int .i64 c.inp)).setCell ⟨A + 1, 1, none⟩ (.slice sn c.next.length cn)).setCell ⟨A + 1, 2, none⟩ (.slice sg n cg)).setCell ⟨A + 1, 3, none⟩ (.slice so c.outs.length co)) = WZ
        intro hZ hbz
        have hV9 : CirV WZ (.agg #[.int .i64 c.inp, .slice sn c.next.length cn, .slice sg n cg, .slice so c.outs.length co]) c := by have := HG.out.mono hbz; rw [← HFF.out.2] at this; exact this
        have cr := (blk_all hZ).1
        exact bodyPost_ret (v := .tuple #[.agg #[.int .i64 c.inp, .slice sn c.next.length cn, .slice sg n cg, .slice so c.outs.length co], .bool false]) (by simp [results, Try.results53, go_sem, cr]) rfl (by rw [HSS.out]; exact ⟨_, _, _, rfl, hV9, hbz⟩)

set_option maxRecDepth 100000 in
set_option maxHeartbeats 1600000 in
theorem Irredundant_s (v : Value) (c : Cir) (w : World) (h : CirV w v c) :
    Calls Try.prog 40 #[v] w fun e w' => e = .returned (.bool (irrB c)) ∧ Below w.heap.size w w' := by
  have HG := Lib.hid h
  obtain ⟨sn, cn, sg, cg, so, co, rfl, -, -, -, -, -, -⟩ := h
  have hk := blk_new w (.cells #[.int .i64 c.inp, .slice sn c.next.length cn, .slice sg c.gates.length cg, .slice so c.outs.length co] 29)
  have hb := (Below.refl w.heap.size w).alloc (Nat.le_refl _) (.cells #[.int .i64 c.inp, .slice sn c.next.length cn, .slice sg c.gates.length cg, .slice so c.outs.length co] 29)
  have HL := Lib.hid (And.intro hk hb)
  clear hk hb
  cases hv : c.validB
  · have e : irrB c = false := by unfold irrB; rw [hv]; rfl
    rw [e]
    have HV := Lib.hid hv
    clear hv e
    go_enter Try.func40, Try.ntmps40
    go_wp2_with (go_at_call 26; ((with_reducible refine (CircuitValid_s _ c _ (HG.out.mono HL.out.2)).mono ?_); rintro e w1 ⟨rfl, hq⟩; rw [HV.out]; have HQ := Lib.hid (HL.out.2.trans (hq.mono HL.out.2.size)); clear hq))
    go_ret
    exact ⟨rfl, HQ.out⟩
  · have e : irrB c = !(fstU c).isSome := by unfold irrB; rw [hv]; rfl
    rw [e]
    have HV := Lib.hid (And.intro hv (c.validB_iff.1 hv))
    clear hv e
    obtain ⟨B, hB⟩ : ∃ B, B = (fstU c).isSome := ⟨_, rfl⟩
    rw [← hB]
    have HBB := Lib.hid hB
    clear hB
    go_enter Try.func40, Try.ntmps40
    go_wp2_with (first
      | (go_at_call 26; ((with_reducible refine (CircuitValid_s _ c _ (HG.out.mono HL.out.2)).mono ?_); rintro e w1 ⟨rfl, hq⟩; rw [HV.out.1]; have H1 := Lib.hid (HL.out.2.trans (hq.mono HL.out.2.size)); have ca := (blk_all (blk_below hq (blk_lt HL.out.1) HL.out.1)).1; clear hq))
      | (go_at_call 53; ((with_reducible refine (l18Step_any _ c _ (HG.out.mono H1.out) HV.out.2).mono ?_); rintro e w2 ⟨vn, vg, vo, rfl, hx, hq⟩; obtain ⟨sn2, cn2, sg2, cg2, so2, co2, rfl, rfl, rfl⟩ := CirV.shape rfl hx; rw [← HBB.out]; have H2 := Lib.hid (H1.out.trans (hq.mono H1.out.size)); clear hq hx ca)))
    go_ret
    exact ⟨rfl, by first | exact H2.out | exact H2.out.alloc H2.out.size _⟩

end Go.Proofs.Ytindndcdpnpcmaa
