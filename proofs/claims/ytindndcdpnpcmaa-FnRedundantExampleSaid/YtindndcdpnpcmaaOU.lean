import Derived.Test.YtindndcdpnpcmaaOH
import Derived.Test.YtindndcdpnpcmaaOI
import Derived.Test.YtindndcdpnpcmaaOX
namespace Go.Proofs.Ytindndcdpnpcmaa
set_option linter.unusedVariables false
set_option linter.unusedSimpArgs false
open Go.RowKit

def StPostO (v : Value) (c : Cir) (b : Bool) (w : World) (e : Ending) (w' : World) : Prop :=
  ∃ vn vg vo, e = .returned (.tuple #[.agg #[.int .i64 c.inp, vn, vg, vo], .bool b]) ∧ (CirOwn w' w.heap.size c vn vg vo ∨ (.agg #[.int .i64 c.inp, vn, vg, vo] = v ∧ b = false)) ∧ Below w.heap.size w w'

set_option maxRecDepth 100000 in
set_option maxHeartbeats 6400000 in
theorem l18Step_own (v : Value) (c : Cir) (w : World) (h : CirV w v c) (hv : c.valid) :
    Calls Try.prog 53 #[v] w (StPostO v (stepR c) (fstU c).isSome w) := by
  have HG := Lib.hid h
  obtain ⟨sn, cn, sg, cg, so, co, rfl, -, -, -, -, -, -⟩ := h
  obtain ⟨i0, i1, q3, q4, q5⟩ := id hv.lim
  obtain ⟨n1, n2⟩ := asgN_le hv
  obtain ⟨W0, hW0⟩ : ∃ W0, W0 = (w.alloc (.cells #[.int .i64 c.inp, .slice sn c.next.length cn, .slice sg c.gates.length cg, .slice so c.outs.length co] 29)).alloc (.cells #[.int .i64 0, .slice none 0 0, .slice none 0 0, .slice none 0 0] 29) := ⟨_, rfl⟩
  obtain ⟨A, hA⟩ : ∃ A, A = w.heap.size := ⟨_, rfl⟩
  have z1 : W0.heap.size = A + 2 := by rw [hW0, hA]; simp
  have z2 : W0.heap[A]? = some (.cells #[.int .i64 c.inp, .slice sn c.next.length cn, .slice sg c.gates.length cg, .slice so c.outs.length co] 29 (0, 0)) := by rw [hW0, hA]; exact blk_old (blk_new w _)
  have z3 : W0.heap[A + 1]? = some (.cells #[.int .i64 0, .slice none 0 0, .slice none 0 0, .slice none 0 0] 29 (0, 0)) := by rw [hW0, hA]; exact blk_at (by simp)
  have z4 : Below w.heap.size w W0 := by rw [hW0]; exact ((Below.refl _ _).alloc (Nat.le_refl _) _).alloc (by simp) _
  have HW := Lib.hid (And.intro hW0 (And.intro hA z1))
  have HB : Hid (∀ W, Below W0.heap.size W0 W → (∀ o, W.cell? ⟨A, o, none⟩ = #[Value.int .i64 c.inp, .slice sn c.next.length cn, .slice sg c.gates.length cg, .slice so c.outs.length co][o]?) ∧ W.heap[A + 1]? = some (.cells #[.int .i64 0, .slice none 0 0, .slice none 0 0, .slice none 0 0] 29 (0, 0)) ∧ CirV W (.agg #[.int .i64 c.inp, .slice sn c.next.length cn, .slice sg c.gates.length cg, .slice so c.outs.length co]) c ∧ Below w.heap.size w W) := fun W hW => ⟨(blk_all (blk_below hW (by omega) z2)).1, blk_below hW (by omega) z3, HG.out.mono (z4.trans (hW.mono z4.size)), z4.trans (hW.mono z4.size)⟩
  have HV := Lib.hid hv
  clear hv hW0 hA z1 z2 z3 z4
  obtain ⟨F, hF⟩ : ∃ F : Nat, 1 + c.inp + (c.next.length : Int) = F := ⟨(1 + c.inp + (c.next.length : Int)).toNat, by omega⟩
  have hF8 : F ≤ 8 := by omega
  obtain ⟨n, hnn⟩ : ∃ n, n = c.gates.length := ⟨_, rfl⟩
  have hn14 : n ≤ 14 := by omega
  have hfst : fstU c = frstU c F n := by
    unfold fstU
    rw [show c.first = (F : Int) from hF, Int.toNat_natCast, hnn]
  have hfc : c.first.toNat = F := by rw [show c.first = (F : Int) from hF, Int.toNat_natCast]
  have eV : c.vars = (F : Int) + n := by unfold Cir.vars; omega
  have HFT : Hid (∀ W (k : Nat) (val : Bool), Below W0.heap.size W0 W → k < n → Calls Try.prog 104 #[.agg #[.int .i64 c.inp, .slice sn c.next.length cn, .slice sg c.gates.length cg, .slice so c.outs.length co], .agg #[.int .i64 ((F + k : Nat) : Int), .bool val]] W fun e w' => e = .returned (.int .i64 (findN (detV c ((F + k : Nat) : Int) val) (asgN c))) ∧ Below W.heap.size W w') := fun W k val hW hk =>
    l12Find_any _ c _ val W (HB.out W hW).2.2.1 HV.out (by omega) (by omega)
  have HLF : Hid (∀ W (k : Nat) (val : Bool), Below W0.heap.size W0 W → k < n → Calls Try.prog 105 #[.agg #[.int .i64 c.inp, .slice sn c.next.length cn, .slice sg c.gates.length cg, .slice so c.outs.length co], .int .i64 ((F + k : Nat) : Int), .bool val] W fun e w' => ∃ vn vg vo, e = .returned (.agg #[.int .i64 c.inp, vn, vg, vo]) ∧ CirOwn w' W.heap.size (c.mapC (forceL ((F + k : Nat) : Int) val)) vn vg vo ∧ Below W.heap.size W w') := fun W k val hW hk =>
    l18Force_any _ c (F + k) val W (HB.out W hW).2.2.1 HV.out (by omega)
  have HST : Hid (∀ (k : Nat) (val : Bool), frstU c F n = some (k, val) → stepR c = optR (c.mapC (forceL ((F + k : Nat) : Int) val)) ∧ (fstU c).isSome = true) := fun k val hh => by
    rw [← hfst] at hh
    unfold stepR
    rw [hh, hfc]
    exact ⟨rfl, rfl⟩
  have HSN : Hid (frstU c F n = none → stepR c = c ∧ (fstU c).isSome = false) := fun hh => by
    rw [← hfst] at hh
    unfold stepR
    rw [hh]
    exact ⟨rfl, rfl⟩
  rw [← hnn] at HB HW HFT HLF ⊢
  have HFF := Lib.hid (And.intro hF hnn)
  have wf : IntKind.i64.wrap ((F : Int) + (n : Int)) = (F : Int) + n := IntWalk.i64_in _ ⟨by omega, by omega⟩
  clear hF hnn hfst hfc eV q4
  obtain ⟨O, hO⟩ : ∃ O, O = frstU c F n := ⟨_, rfl⟩
  rw [← hO] at HST HSN
  have HO := Lib.hid hO
  clear hO
  obtain ⟨S, hS⟩ : ∃ S, S = stepR c := ⟨_, rfl⟩
  obtain ⟨Ob, hOb⟩ : ∃ Ob, Ob = (fstU c).isSome := ⟨_, rfl⟩
  rw [← hS, ← hOb] at HST HSN ⊢
  clear hS hOb
  go_enter Try.func53, Try.ntmps53
  go_upto_region 1 with fail
  rw [← HW.out.1, ← HW.out.2.1]
  have cb := (HB.out _ (Below.refl _ _)).1
  go_upto_region 2 with (go_at_call 67; ((with_reducible refine (l1First_any _ _ _ _ _ _ _ (by omega) (by omega)).mono ?_); rintro e w1 ⟨rfl, hq⟩; rw [HFF.out.1]; have H1 := Lib.hid hq; clear hq cb))
  go_loopw [4] (fun s4 wr => ∃ k : Nat, k ≤ n ∧ s4 = .int .i64 ((F + k : Nat) : Int) ∧ frstU c F k = none ∧ Below W0.heap.size W0 wr) (fun s4 _ => F + n - (intOf s4).toNat)
  case atStart => exact ⟨0, Nat.zero_le _, rfl, rfl, H1.out⟩
  case round =>
    obtain ⟨k, hk, rfl, hno, hb⟩ := hrel
    obtain ⟨wt, rfl⟩ : ∃ wt, wt = wr := ⟨_, rfl⟩
    have HK := Lib.hid (And.intro hno hb)
    clear hno hb
    obtain ⟨p, hp⟩ : ∃ p, F + k = p := ⟨_, rfl⟩
    have hp22 : p ≤ 22 := by omega
    rw [hp]
    have HP := Lib.hid hp
    clear hp
    go_upto_region 2 with fail
    go_cut [15] from 8 to 15 (fun s15 wx => s15 = .bool (decide ((p : Int) < (F : Int) + (n : Int))) ∧ Below W0.heap.size W0 wx)
    case first =>
      have hd := HK.out.2.drew
      refine wp_region_T (fun w' => ∀ o, w'.cell? ⟨A, o, none⟩ = #[Value.int .i64 c.inp, .slice sn c.next.length cn, .slice sg n cg, .slice so c.outs.length co][o]?) (.q 0 (.q 1 (.q 3 (.q 4 (.q 5 (.e 2 (.q 6 (.q 7 .nil)))))))) (by kernel_rfl) (by kernel_rfl) (by kernel_rfl) (HB.out _ hd).1 ?_
      repeat (first | (refine ordt_s (o := ?_) ?_ ?_ ?_; rotate_left 1; (focus ((simp only [List.getElem?_toArray, List.getElem?_cons_succ, List.getElem?_cons_zero]) <;> rfl)); (focus rfl); simp only [Act.put, List.setIfInBounds_toArray, List.set_cons_zero, List.set_cons_succ]) | (refine ordt_q (o := ?_) (v := ?_) ?_ ?_ ?_ ?_; rotate_left 2; (focus ((simp only [List.getElem?_toArray, List.getElem?_cons_succ, List.getElem?_cons_zero]) <;> rfl)); (focus rfl); (focus (intro w' hS; (try dsimp only at hS); go_split_ands; go_simp; (try (with_reducible rfl)))); simp only [Act.put, List.setIfInBounds_toArray, List.set_cons_zero, List.set_cons_succ]))
      refine ordt_e ?_
      (refine op_e (o := ?_) ?_ ?_ (fun K hK => ?_); rotate_left 1; (focus ((simp only [List.getElem?_toArray, List.getElem?_cons_succ, List.getElem?_cons_zero]) <;> rfl)); (focus rfl); go_simp)
      refine (l1First_any _ _ _ _ _ _ _ (by omega) (by omega)).mono ?_
      rintro e w9 ⟨rfl, hq⟩
      rw [HFF.out.1]
      have hb9 := hd.trans (hq.mono hd.size)
      refine hK.out _ _ (HB.out _ hb9).1 ?_
      clear hK K hq
      have H9 := Lib.hid hb9
      clear hb9 hd
      (try simp only [Act.put, List.setIfInBounds_toArray, List.set_cons_zero, List.set_cons_succ])
      repeat (first | (refine ordt_s (o := ?_) ?_ ?_ ?_; rotate_left 1; (focus ((simp only [List.getElem?_toArray, List.getElem?_cons_succ, List.getElem?_cons_zero]) <;> rfl)); (focus rfl); simp only [Act.put, List.setIfInBounds_toArray, List.set_cons_zero, List.set_cons_succ]) | (refine ordt_q (o := ?_) (v := ?_) ?_ ?_ ?_ ?_; rotate_left 2; (focus ((simp only [List.getElem?_toArray, List.getElem?_cons_succ, List.getElem?_cons_zero]) <;> rfl)); (focus rfl); (focus (intro w' hS; (try dsimp only at hS); go_split_ands; go_simp; (try (with_reducible rfl)))); simp only [Act.put, List.setIfInBounds_toArray, List.set_cons_zero, List.set_cons_succ]))
      refine ordt_nil ?_
      go_wp2_with fail
      go_meet
      exact ⟨rfl, H9.out⟩
    case rest =>
      obtain ⟨rfl, hb3⟩ := hcut
      have H3 := Lib.hid hb3
      clear hb3
      by_cases hlt : k < n
      · rw [decide_eq_true (show (p : Int) < (F : Int) + (n : Int) by have := HP.out; omega)]
        go_upto_region 5 with fail
        go_loopw [5] (fun s5 wz => ∃ j : Nat, j ≤ 2 ∧ s5 = .int .i64 j ∧ (1 ≤ j → undB c p false = false) ∧ (2 ≤ j → undB c p true = false) ∧ Below W0.heap.size W0 wz) (fun s5 _ => 2 - (intOf s5).toNat)
        case atStart => exact ⟨0, by omega, rfl, fun h => by omega, fun h => by omega, H3.out⟩
        case round =>
          obtain ⟨j, hj, rfl, hu0, hu1, hb⟩ := hrel
          have HJ := Lib.hid (And.intro hu0 (And.intro hu1 hb))
          have cA := (HB.out _ hb).1
          clear hu0 hu1 hb
          rcases (show j = 0 ∨ j = 1 ∨ j = 2 by omega) with rfl | rfl | rfl
          · obtain ⟨X, hX⟩ : ∃ X, X = findN (detV c (p : Int) false) (asgN c) := ⟨_, rfl⟩
            have hXb := findN_bd (detV c (p : Int) false) (N := asgN c) (by omega)
            rw [← hX] at hXb
            obtain ⟨x1, x2⟩ := hXb
            have HX := Lib.hid hX
            clear hX
            by_cases hX0 : X < 0
            · have hun : undB c (p : Int) false = true := by unfold undB; rw [← HX.out]; simpa using hX0
              have ho : O = some (k, false) := by
                rw [HO.out]
                refine frstU_hit (k := k) ?_ n (by omega)
                exact frstU_f HK.out.1 (by rw [HP.out]; exact hun)
              obtain ⟨hS, hOb⟩ := HST.out k false ho
              rw [HP.out] at hS
              subst hOb
              have HSS := Lib.hid hS
              clear ho hun hS
              go_wp2_with (first
                | (go_at_call 104; ((have hft := HFT.out _ k false HJ.out.2.2 hlt); rw [HP.out] at hft; (refine hft.mono ?_); rintro e w7 ⟨rfl, hq⟩; rw [← HX.out]; have H7 := Lib.hid (HJ.out.2.2.trans (hq.mono HJ.out.2.2.size)); clear hq cA; have cA := (HB.out _ H7.out).1))
                | (go_at_call 105; ((have hft := HLF.out _ k false H7.out hlt); rw [HP.out] at hft; (refine hft.mono ?_); rintro e w8 ⟨vn, vg, vo, rfl, ho, hq⟩; have H8 := Lib.hid (And.intro ho (H7.out.trans (hq.mono H7.out.size))); clear hq ho cA))
                | (go_at_call 52; ((with_reducible refine (Optimize_s _ (c.mapC (forceL (p : Int) false)) _ (show CirV _ (.agg #[.int .i64 c.inp, vn, vg, vo]) (c.mapC (forceL (p : Int) false)) from H8.out.1.toV)).mono ?_); rintro e w9 ⟨vn9, vg9, vo9, rfl, ho, hq⟩; rw [← HSS.out] at ho; rw [← HSS.out]; obtain ⟨sn9, cn9, rfl⟩ := own_shape ho.n; obtain ⟨sg9, cg9, rfl⟩ := own_shape ho.g; obtain ⟨so9, co9, rfl⟩ := own_shape ho.o; have H9 := Lib.hid (And.intro ho (H8.out.2.trans (hq.mono H8.out.2.size))); have HZ9 := Lib.hid (show W0.heap.size ≤ w8.heap.size from H8.out.2.size); obtain ⟨rc, rf⟩ := blk_all (HB.out _ H9.out.2).2.1; clear hq ho)))
              have hZ : ((((w9.setCell ⟨A + 1, 0, none⟩ (.int .i64 S.inp)).setCell ⟨A + 1, 1, none⟩ (.slice sn9 S.next.length cn9)).setCell ⟨A + 1, 2, none⟩ (.slice sg9 S.gates.length cg9)).setCell ⟨A + 1, 3, none⟩ (.slice so9 S.outs.length co9)).heap[A + 1]? = some (.cells #[.int .i64 S.inp, .slice sn9 S.next.length cn9, .slice sg9 S.gates.length cg9, .slice so9 S.outs.length co9] 29 (0, 0)) := by
                simpa using blk_set (o := 3) (v := .slice so9 S.outs.length co9) (blk_set (o := 2) (v := .slice sg9 S.gates.length cg9) (blk_set (o := 1) (v := .slice sn9 S.next.length cn9) (blk_set (o := 0) (v := .int .i64 S.inp) (HB.out _ H9.out.2).2.1)))
              have hA2 := HW.out.2.1
              have hbz := ((((HB.out _ H9.out.2).2.2.2.setCell (p := ⟨A + 1, 0, none⟩) (by simp; omega) (.int .i64 S.inp)).setCell (p := ⟨A + 1, 1, none⟩) (by simp; omega) (.slice sn9 S.next.length cn9)).setCell (p := ⟨A + 1, 2, none⟩) (by simp; omega) (.slice sg9 S.gates.length cg9)).setCell (p := ⟨A + 1, 3, none⟩) (by simp; omega) (.slice so9 S.outs.length co9)
              have hO9 := H9.out.1.sets4 (r := A + 1) (by have h1 := HZ9.out; have h2 := HW.out.2.2; omega) (base := w.heap.size) (by have h1 := HZ9.out; have h2 := HW.out.2.2; omega) (a := .int .i64 S.inp) (b' := .slice sn9 S.next.length cn9) (c' := .slice sg9 S.gates.length cg9) (d := .slice so9 S.outs.length co9)
              clear rc rf
              revert hZ hbz hO9
              generalize ((((w9.setCell ⟨A + 1, 0, none⟩ (.int .i64 S.inp)).setCell ⟨A + 1, 1, none⟩ (.slice sn9 S.next.length cn9)).setCell ⟨A + 1, 2, none⟩ (.slice sg9 S.gates.length cg9)).setCell ⟨A + 1, 3, none⟩ (.slice so9 S.outs.length co9)) = WZ
              intro hZ hbz hO9
              have cr := (blk_all hZ).1
              exact bodyPost_ret (v := .tuple #[.agg #[.int .i64 S.inp, .slice sn9 S.next.length cn9, .slice sg9 S.gates.length cg9, .slice so9 S.outs.length co9], .bool true]) (by simp [results, Try.results53, go_sem, cr]) rfl (⟨_, _, _, rfl, .inl hO9, hbz⟩)
            · have hun : undB c (p : Int) false = false := by unfold undB; rw [← HX.out]; simpa using hX0
              have HUN := Lib.hid hun
              clear hun
              go_wp2_with (go_at_call 104; ((have hft := HFT.out _ k false HJ.out.2.2 hlt); rw [HP.out] at hft; (refine hft.mono ?_); rintro e w7 ⟨rfl, hq⟩; rw [← HX.out]; have H7 := Lib.hid (HJ.out.2.2.trans (hq.mono HJ.out.2.2.size)); clear hq cA))
              go_roundw
              case rel => exact ⟨0 + 1, by omega, by first | rfl | go_num, fun _ => HUN.out, fun h => by omega, H7.out⟩
              case measure => simp [intOf]
          · obtain ⟨X, hX⟩ : ∃ X, X = findN (detV c (p : Int) true) (asgN c) := ⟨_, rfl⟩
            have hXb := findN_bd (detV c (p : Int) true) (N := asgN c) (by omega)
            rw [← hX] at hXb
            obtain ⟨x1, x2⟩ := hXb
            have HX := Lib.hid hX
            clear hX
            by_cases hX0 : X < 0
            · have hun : undB c (p : Int) true = true := by unfold undB; rw [← HX.out]; simpa using hX0
              have ho : O = some (k, true) := by
                rw [HO.out]
                refine frstU_hit (k := k) ?_ n (by omega)
                exact frstU_t HK.out.1 (by rw [HP.out]; exact HJ.out.1 (by omega)) (by rw [HP.out]; exact hun)
              obtain ⟨hS, hOb⟩ := HST.out k true ho
              rw [HP.out] at hS
              subst hOb
              have HSS := Lib.hid hS
              clear ho hun hS
              go_wp2_with (first
                | (go_at_call 104; ((have hft := HFT.out _ k true HJ.out.2.2 hlt); rw [HP.out] at hft; (refine hft.mono ?_); rintro e w7 ⟨rfl, hq⟩; rw [← HX.out]; have H7 := Lib.hid (HJ.out.2.2.trans (hq.mono HJ.out.2.2.size)); clear hq cA; have cA := (HB.out _ H7.out).1))
                | (go_at_call 105; ((have hft := HLF.out _ k true H7.out hlt); rw [HP.out] at hft; (refine hft.mono ?_); rintro e w8 ⟨vn, vg, vo, rfl, ho, hq⟩; have H8 := Lib.hid (And.intro ho (H7.out.trans (hq.mono H7.out.size))); clear hq ho cA))
                | (go_at_call 52; ((with_reducible refine (Optimize_s _ (c.mapC (forceL (p : Int) true)) _ (show CirV _ (.agg #[.int .i64 c.inp, vn, vg, vo]) (c.mapC (forceL (p : Int) true)) from H8.out.1.toV)).mono ?_); rintro e w9 ⟨vn9, vg9, vo9, rfl, ho, hq⟩; rw [← HSS.out] at ho; rw [← HSS.out]; obtain ⟨sn9, cn9, rfl⟩ := own_shape ho.n; obtain ⟨sg9, cg9, rfl⟩ := own_shape ho.g; obtain ⟨so9, co9, rfl⟩ := own_shape ho.o; have H9 := Lib.hid (And.intro ho (H8.out.2.trans (hq.mono H8.out.2.size))); have HZ9 := Lib.hid (show W0.heap.size ≤ w8.heap.size from H8.out.2.size); obtain ⟨rc, rf⟩ := blk_all (HB.out _ H9.out.2).2.1; clear hq ho)))
              have hZ : ((((w9.setCell ⟨A + 1, 0, none⟩ (.int .i64 S.inp)).setCell ⟨A + 1, 1, none⟩ (.slice sn9 S.next.length cn9)).setCell ⟨A + 1, 2, none⟩ (.slice sg9 S.gates.length cg9)).setCell ⟨A + 1, 3, none⟩ (.slice so9 S.outs.length co9)).heap[A + 1]? = some (.cells #[.int .i64 S.inp, .slice sn9 S.next.length cn9, .slice sg9 S.gates.length cg9, .slice so9 S.outs.length co9] 29 (0, 0)) := by
                simpa using blk_set (o := 3) (v := .slice so9 S.outs.length co9) (blk_set (o := 2) (v := .slice sg9 S.gates.length cg9) (blk_set (o := 1) (v := .slice sn9 S.next.length cn9) (blk_set (o := 0) (v := .int .i64 S.inp) (HB.out _ H9.out.2).2.1)))
              have hA2 := HW.out.2.1
              have hbz := ((((HB.out _ H9.out.2).2.2.2.setCell (p := ⟨A + 1, 0, none⟩) (by simp; omega) (.int .i64 S.inp)).setCell (p := ⟨A + 1, 1, none⟩) (by simp; omega) (.slice sn9 S.next.length cn9)).setCell (p := ⟨A + 1, 2, none⟩) (by simp; omega) (.slice sg9 S.gates.length cg9)).setCell (p := ⟨A + 1, 3, none⟩) (by simp; omega) (.slice so9 S.outs.length co9)
              have hO9 := H9.out.1.sets4 (r := A + 1) (by have h1 := HZ9.out; have h2 := HW.out.2.2; omega) (base := w.heap.size) (by have h1 := HZ9.out; have h2 := HW.out.2.2; omega) (a := .int .i64 S.inp) (b' := .slice sn9 S.next.length cn9) (c' := .slice sg9 S.gates.length cg9) (d := .slice so9 S.outs.length co9)
              clear rc rf
              revert hZ hbz hO9
              generalize ((((w9.setCell ⟨A + 1, 0, none⟩ (.int .i64 S.inp)).setCell ⟨A + 1, 1, none⟩ (.slice sn9 S.next.length cn9)).setCell ⟨A + 1, 2, none⟩ (.slice sg9 S.gates.length cg9)).setCell ⟨A + 1, 3, none⟩ (.slice so9 S.outs.length co9)) = WZ
              intro hZ hbz hO9
              have cr := (blk_all hZ).1
              exact bodyPost_ret (v := .tuple #[.agg #[.int .i64 S.inp, .slice sn9 S.next.length cn9, .slice sg9 S.gates.length cg9, .slice so9 S.outs.length co9], .bool true]) (by simp [results, Try.results53, go_sem, cr]) rfl (⟨_, _, _, rfl, .inl hO9, hbz⟩)
            · have hun : undB c (p : Int) true = false := by unfold undB; rw [← HX.out]; simpa using hX0
              have HUN := Lib.hid hun
              clear hun
              go_wp2_with (go_at_call 104; ((have hft := HFT.out _ k true HJ.out.2.2 hlt); rw [HP.out] at hft; (refine hft.mono ?_); rintro e w7 ⟨rfl, hq⟩; rw [← HX.out]; have H7 := Lib.hid (HJ.out.2.2.trans (hq.mono HJ.out.2.2.size)); clear hq cA))
              go_roundw
              case rel => exact ⟨1 + 1, by omega, by first | rfl | go_num, fun _ => HJ.out.1 (by omega), fun _ => HUN.out, H7.out⟩
              case measure => simp [intOf]
          · go_wp2_with fail
            go_roundw
            case rel => exact ⟨k + 1, by omega, by have := HP.out; first | go_num | (congr 1; omega), frstU_n HK.out.1 (by rw [HP.out]; exact HJ.out.1 (by omega)) (by rw [HP.out]; exact HJ.out.2.1 (by omega)), HJ.out.2.2⟩
            case measure => have := HP.out; simp [intOf]; try omega
      · obtain rfl : n = k := by omega
        rw [decide_eq_false (show ¬ (p : Int) < (F : Int) + (n : Int) by have := HP.out; omega)]
        obtain ⟨hS, hOb⟩ := HSN.out (by rw [HO.out]; exact HK.out.1)
        subst hOb
        have HSS := Lib.hid hS
        clear hS
        have cA := (HB.out _ H3.out).1
        obtain ⟨rc, rf⟩ := blk_all (HB.out _ H3.out).2.1
        go_wp2_with fail
        have hZ : ((((wc.setCell ⟨A + 1, 0, none⟩ (.int .i64 c.inp)).setCell ⟨A + 1, 1, none⟩ (.slice sn c.next.length cn)).setCell ⟨A + 1, 2, none⟩ (.slice sg n cg)).setCell ⟨A + 1, 3, none⟩ (.slice so c.outs.length co)).heap[A + 1]? = some (.cells #[.int .i64 c.inp, .slice sn c.next.length cn, .slice sg n cg, .slice so c.outs.length co] 29 (0, 0)) := by
          simpa using blk_set (o := 3) (v := .slice so c.outs.length co) (blk_set (o := 2) (v := .slice sg n cg) (blk_set (o := 1) (v := .slice sn c.next.length cn) (blk_set (o := 0) (v := .int .i64 c.inp) (HB.out _ H3.out).2.1)))
        have hA2 := HW.out.2.1
        have hbz := ((((HB.out _ H3.out).2.2.2.setCell (p := ⟨A + 1, 0, none⟩) (by simp; omega) (.int .i64 c.inp)).setCell (p := ⟨A + 1, 1, none⟩) (by simp; omega) (.slice sn c.next.length cn)).setCell (p := ⟨A + 1, 2, none⟩) (by simp; omega) (.slice sg n cg)).setCell (p := ⟨A + 1, 3, none⟩) (by simp; omega) (.slice so c.outs.length co)
        clear rc rf
        revert hZ hbz
        generalize ((((wc.setCell ⟨A + 1, 0, none⟩ (.int .i64 c.inp)).setCell ⟨A + 1, 1, none⟩ (.slice sn c.next.length cn)).setCell ⟨A + 1, 2, none⟩ (.slice sg n cg)).setCell ⟨A + 1, 3, none⟩ (.slice so c.outs.length co)) = WZ
        intro hZ hbz
        have hV9 : CirV WZ (.agg #[.int .i64 c.inp, .slice sn c.next.length cn, .slice sg n cg, .slice so c.outs.length co]) c := by have := HG.out.mono hbz; rw [← HFF.out.2] at this; exact this
        have cr := (blk_all hZ).1
        exact bodyPost_ret (v := .tuple #[.agg #[.int .i64 c.inp, .slice sn c.next.length cn, .slice sg n cg, .slice so c.outs.length co], .bool false]) (by simp [results, Try.results53, go_sem, cr]) rfl (by rw [HSS.out]; exact ⟨_, _, _, rfl, .inr ⟨rfl, rfl⟩, hbz⟩)

/-! Fewer gates after each step. -/

theorem forceL_off {p l : Int} {val : Bool} (h0 : 0 ≤ l) (hp : 1 ≤ p) : 0 ≤ forceL p val l ∧ forceL p val l / 2 ≠ p := by
  unfold forceL
  split
  · cases val <;> simp <;> omega
  · omega
theorem fstU_lt {c : Cir} {k : Nat} {val : Bool} (h : fstU c = some (k, val)) : k < c.gates.length := frstU_lt h
theorem step_len {c : Cir} (hv : c.valid) {k : Nat} {val : Bool} (h : fstU c = some (k, val)) : (optC (c.mapC (forceL ((c.first.toNat + k : Nat) : Int) val))).gates.length < c.gates.length := by
  have hk := fstU_lt h
  have hl := hv.lim.1
  have e1 : c.first = 1 + c.inp + c.next.length := rfl
  have e2 : (c.mapC (forceL ((c.first.toNat + k : Nat) : Int) val)).first = c.first := by unfold Cir.first Cir.mapC; simp
  have e3 : (c.mapC (forceL ((c.first.toNat + k : Nat) : Int) val)).gates.length = c.gates.length := by simp [Cir.mapC, mapG]
  have hg : ∀ g ∈ c.gates, 0 ≤ g.a ∧ 0 ≤ g.b := fun g hg => by
    obtain ⟨i, hi⟩ := List.mem_iff_getElem?.1 hg
    have := gatesP_at hv.gates hi
    exact ⟨this.1.1, this.2.1⟩
  have hu : (usedL (c.mapC (forceL ((c.first.toNat + k : Nat) : Int) val))).getD k false = false := by
    have e4 : c.first + (k : Int) = ((c.first.toNat + k : Nat) : Int) := by omega
    refine used_off ?_ ?_
    · intro g hgm
      rw [e2, e4]
      obtain ⟨g0, hg0, rfl⟩ := List.mem_map.1 (show g ∈ c.gates.map (fun g => ⟨forceL ((c.first.toNat + k : Nat) : Int) val g.a, forceL ((c.first.toNat + k : Nat) : Int) val g.b⟩) from hgm)
      exact ⟨forceL_off (hg g0 hg0).1 (by omega), forceL_off (hg g0 hg0).2 (by omega)⟩
    · intro l hl
      rw [e2, e4]
      rcases List.mem_append.1 hl with hl | hl
      · obtain ⟨l0, hl0, rfl⟩ := List.mem_map.1 (show l ∈ c.outs.map _ from hl)
        exact forceL_off (hv.outs l0 hl0).1 (by omega)
      · obtain ⟨l0, hl0, rfl⟩ := List.mem_map.1 (show l ∈ c.next.map _ from hl)
        exact forceL_off (hv.next l0 hl0).1 (by omega)
  have h1 := optC_len (c.mapC (forceL ((c.first.toNat + k : Nat) : Int) val))
  have h2 := cntU_lt _ hu (c.mapC (forceL ((c.first.toNat + k : Nat) : Int) val)).gates.length (by rw [e3]; exact hk)
  omega
theorem forceL_leU {p : Int} {val : Bool} {l : Int} (hp : 0 ≤ p) (h0 : 0 ≤ l) : 0 ≤ forceL p val l ∧ forceL p val l / 2 ≤ l / 2 := by
  unfold forceL
  by_cases e : l / 2 = p
  · rw [if_pos e]; cases val <;> simp <;> omega
  · rw [if_neg e]; omega
theorem mapC_validU {c : Cir} {p : Int} {val : Bool} (hv : c.valid) (hp : 0 ≤ p) : (c.mapC (forceL p val)).valid := by
  have eV : (c.mapC (forceL p val)).vars = c.vars := by simp [Cir.vars, Cir.mapC, mapG]
  have eF : (c.mapC (forceL p val)).first = c.first := by simp [Cir.first, Cir.mapC]
  obtain ⟨q1, q2, q3, q4, q5⟩ := hv.lim
  have key : ∀ {l b : Int}, litP l b → litP (forceL p val l) b := fun {l b} h => by
    obtain ⟨h0, h1⟩ := h
    have := forceL_leU (val := val) hp h0
    unfold litP; omega
  refine ⟨⟨q1, q2, ?_, ?_, ?_⟩, ?_, ?_, ?_⟩
  · simpa [Cir.mapC] using q3
  · simpa [Cir.mapC, mapG] using q4
  · simpa [Cir.mapC] using q5
  · rw [eF]
    intro i h
    have hi : i < c.gates.length := by simpa [Cir.mapC, mapG] using h
    have := hv.gates i hi
    simp only [Cir.mapC, mapG, List.getElem_map]
    exact ⟨key this.1, key this.2⟩
  · rw [eV]
    intro x hx
    simp only [Cir.mapC, List.mem_map] at hx
    obtain ⟨y, hy, rfl⟩ := hx
    exact key (hv.next y hy)
  · rw [eV]
    intro x hx
    simp only [Cir.mapC, List.mem_map] at hx
    obtain ⟨y, hy, rfl⟩ := hx
    exact key (hv.outs y hy)

theorem stepR_some {c : Cir} (hv : c.valid) (h : (fstU c).isSome = true) : (stepR c).valid ∧ (stepR c).gates.length < c.gates.length := by
  obtain ⟨⟨k, val⟩, hk⟩ := Option.isSome_iff_exists.1 h
  have hm : (c.mapC (forceL ((c.first.toNat + k : Nat) : Int) val)).valid := mapC_validU hv (by omega)
  have e : stepR c = optC (c.mapC (forceL ((c.first.toNat + k : Nat) : Int) val)) := by
    unfold stepR
    rw [hk]
    exact optR_yes ((Cir.validB_iff _).2 hm)
  rw [e]
  exact ⟨optC_valid hm, step_len hv hk⟩
theorem stepR_none {c : Cir} (h : (fstU c).isSome = false) : stepR c = c := by
  have : fstU c = none := by simpa using h
  unfold stepR
  rw [this]
/-- All steps. -/
def stepsR : Nat → Cir → Cir
  | 0, c => c
  | n + 1, c => stepsR n (stepR c)
theorem stepsR_fix {c : Cir} (h : (fstU c).isSome = false) : ∀ n, stepsR n c = c
  | 0 => rfl
  | n + 1 => by unfold stepsR; rw [stepR_none h, stepsR_fix h n]
/-- The steps end with a circuit that has no redundant gate. -/
def remR (c : Cir) : Cir := if c.validB then stepsR 15 (optC c) else ⟨0, [], [], []⟩
theorem stepsR_go {c : Cir} (hv : c.valid) : ∀ n m, c.gates.length ≤ n → c.gates.length ≤ m → stepsR n c = stepsR m c := by
  have : ∀ (k : Nat) (c : Cir), c.valid → c.gates.length ≤ k → ∀ n m, c.gates.length ≤ n → c.gates.length ≤ m → stepsR n c = stepsR m c := by
    intro k
    induction k with
    | zero =>
      intro c hv hk n m _ _
      have hf : (fstU c).isSome = false := by
        cases h : (fstU c).isSome with
        | false => rfl
        | true => have := (stepR_some hv h).2; omega
      rw [stepsR_fix hf, stepsR_fix hf]
    | succ k ih =>
      intro c hv hk n m hn hm
      cases h : (fstU c).isSome with
      | false => rw [stepsR_fix h, stepsR_fix h]
      | true =>
        obtain ⟨h1, h2⟩ := stepR_some hv h
        obtain ⟨n', rfl⟩ : ∃ n', n = n' + 1 := ⟨n - 1, by omega⟩
        obtain ⟨m', rfl⟩ : ∃ m', m = m' + 1 := ⟨m - 1, by omega⟩
        exact ih (stepR c) h1 (by omega) n' m' (by omega) (by omega)
  exact fun n m hn hm => this c.gates.length c hv (Nat.le_refl _) n m hn hm
theorem stepsR_step {c : Cir} (hv : c.valid) (h : (fstU c).isSome = true) : stepsR 15 (stepR c) = stepsR 15 c := by
  obtain ⟨h1, h2⟩ := stepR_some hv h
  have h3 := hv.lim.2.2.2.1
  show _ = stepsR 14 (stepR c)
  exact stepsR_go h1 _ _ (by omega) (by omega)
theorem remR_no {c : Cir} (h : c.validB = false) : remR c = ⟨0, [], [], []⟩ := by unfold remR; rw [if_neg (by simp [h])]
theorem remR_yes {c : Cir} (h : c.validB = true) : remR c = stepsR 15 (optC c) := by unfold remR; rw [if_pos h]
theorem stepsR_valid : ∀ (n : Nat) {c : Cir}, c.valid → (stepsR n c).valid ∧ (stepsR n c).gates.length ≤ c.gates.length
  | 0, c, hv => ⟨hv, Nat.le_refl _⟩
  | n + 1, c, hv => by
    cases h : (fstU c).isSome with
    | false => rw [stepsR_fix h]; exact ⟨hv, Nat.le_refl _⟩
    | true =>
      obtain ⟨h1, h2⟩ := stepR_some hv h
      have := stepsR_valid n h1
      exact ⟨this.1, by show (stepsR n (stepR c)).gates.length ≤ _; omega⟩
theorem remR_len (c : Cir) : (remR c).next.length ≤ 3 ∧ (remR c).gates.length ≤ 14 ∧ (remR c).outs.length ≤ 3 ∧ 0 ≤ (remR c).inp ∧ (remR c).inp ≤ 4 := by
  cases hv : c.validB
  · rw [remR_no hv]; simp
  · rw [remR_yes hv]
    obtain ⟨q1, q2, q3, q4, q5⟩ := (stepsR_valid 15 (optC_valid (c.validB_iff.1 hv))).1.lim
    exact ⟨q3, q4, q5, q1, q2⟩

end Go.Proofs.Ytindndcdpnpcmaa
