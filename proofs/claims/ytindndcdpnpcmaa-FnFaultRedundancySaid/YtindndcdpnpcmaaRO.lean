import Derived.Test.YtindndcdpnpcmaaRM
import Derived.Test.YtindndcdpnpcmaaOV
import Derived.Test.YtindndcdpnpcmaaRI
import Derived.Test.YtindndcdpnpcmaaS4
namespace Go.Proofs.Ytindndcdpnpcmaa
set_option linter.unusedVariables false
set_option linter.unusedSimpArgs false
open Go.RowKit

/-! The law FnFaultRedundancy. -/

theorem any_snoc {xs : List Int} {f : Int → Bool} {k : Nat} {x : Int} (h : xs[k]? = some x) : (xs.take (k + 1)).any f = ((xs.take k).any f || f x) := by
  rw [List.take_add_one, h]; simp

set_option maxRecDepth 100000 in
set_option maxHeartbeats 6400000 in
theorem FnFaultRedundancy_any (s : Option Addr) (cap : Nat) (xs : List Int) (w : World) (hs : Sl w s (u8s xs)) (hl : xs.length ≤ 9223372036854775807) (hcap : xs.length ≤ cap) (hcap2 : cap ≤ 9223372036854775807) (hr : ∀ x ∈ xs, 0 ≤ x ∧ x ≤ 255) :
    Calls Try.prog 10 #[.slice s xs.length cap] w fun e w' => e = .returned (.bool true) ∧ Below w.heap.size w w' := by
  by_cases hc : xs.length ≤ 1048576
  · have HD := Lib.hid (DrawRemoveRedundancy_any s cap xs w hs hc hcap hcap2 hr)
    clear hs hr
    go_enter Try.func10, Try.ntmps10
    go_upto_region 4 with (go_at_call 42; (with_reducible refine HD.out.mono ?_); rintro e w1 ⟨C, vn, vg, vo, rfl, h1, h2, h4⟩; obtain ⟨sn, cn, rfl⟩ := own_shape h1.n; obtain ⟨sg, cg, rfl⟩ := own_shape h1.g; obtain ⟨so, co, rfl⟩ := own_shape h1.o; have H1 := Lib.hid (And.intro h1 h4); obtain ⟨l1, l2, l3, l4, l5⟩ := h2; clear h1 h4)
    obtain ⟨B, hB⟩ : ∃ B, B = w1.heap.size := ⟨_, rfl⟩
    have hk := blk_new w1 (.cells #[.int .i64 C.inp, .slice sn C.next.length cn, .slice sg C.gates.length cg, .slice so C.outs.length co] 29)
    have hbb := below_al w1 (.cells #[.int .i64 C.inp, .slice sn C.next.length cn, .slice sg C.gates.length cg, .slice so C.outs.length co] 29)
    have hV : CirV (w1.alloc (.cells #[.int .i64 C.inp, .slice sn C.next.length cn, .slice sg C.gates.length cg, .slice so C.outs.length co] 29)) (.agg #[.int .i64 C.inp, .slice sn C.next.length cn, .slice sg C.gates.length cg, .slice so C.outs.length co]) C := own_cv (own_cbelow H1.out.1 hbb)
    have hbw := H1.out.2.trans (hbb.mono H1.out.2.size)
    rw [← hB] at hk
    rw [← hB]
    clear hbb hB H1 HD
    revert hV hbw hk
    generalize w1.alloc (.cells #[.int .i64 C.inp, .slice sn C.next.length cn, .slice sg C.gates.length cg, .slice so C.outs.length co] 29) = W1
    intro hk hV hbw
    have HC : Hid (∀ W, Below W1.heap.size W1 W → CirV W (.agg #[.int .i64 C.inp, .slice sn C.next.length cn, .slice sg C.gates.length cg, .slice so C.outs.length co]) C ∧ (∀ o, W.cell? ⟨B, o, none⟩ = #[Value.int .i64 C.inp, .slice sn C.next.length cn, .slice sg C.gates.length cg, .slice so C.outs.length co][o]?)) := fun W hW => ⟨hV.mono hW, (blk_all (blk_below hW (blk_lt hk) hk)).1⟩
    have HW := Lib.hid hbw
    clear hk hV hbw
    have cb := (HC.out _ (Below.refl _ _)).2
    obtain ⟨D, hD⟩ : ∃ D, D = remR C := ⟨_, rfl⟩
    have HDD := Lib.hid hD
    clear hD
    go_upto_region 5 with (go_at_call 18; ((with_reducible refine (RemoveRedundancy_i _ C _ (HC.out _ (Below.refl _ _)).1).mono ?_); rintro e w2 ⟨vn2, vg2, vo2, rfl, h1, hq⟩; rw [← HDD.out] at h1 ⊢; obtain ⟨xn, yn, rfl⟩ := own_shape h1.n; obtain ⟨xg, yg, rfl⟩ := own_shape h1.g; obtain ⟨xo, yo, rfl⟩ := own_shape h1.o; have H2 := Lib.hid (And.intro h1 hq); clear h1 hq cb))
    obtain ⟨X, hX⟩ : ∃ X, X = w2.heap.size := ⟨_, rfl⟩
    have kX := blk_new w2 (.cells #[.int .i64 D.inp, .slice xn D.next.length yn, .slice xg D.gates.length yg, .slice xo D.outs.length yo] 29)
    have bX := below_al w2 (.cells #[.int .i64 D.inp, .slice xn D.next.length yn, .slice xg D.gates.length yg, .slice xo D.outs.length yo] 29)
    have hb2 : Below W1.heap.size W1 (w2.alloc (.cells #[.int .i64 D.inp, .slice xn D.next.length yn, .slice xg D.gates.length yg, .slice xo D.outs.length yo] 29)) := H2.out.2.trans (bX.mono H2.out.2.size)
    have hV2 : CirV (w2.alloc (.cells #[.int .i64 D.inp, .slice xn D.next.length yn, .slice xg D.gates.length yg, .slice xo D.outs.length yo] 29)) (.agg #[.int .i64 D.inp, .slice xn D.next.length yn, .slice xg D.gates.length yg, .slice xo D.outs.length yo]) D := own_cv (own_cbelow H2.out.1 bX)
    rw [← hX] at kX
    rw [← hX]
    clear hX bX H2
    revert kX hb2 hV2
    generalize w2.alloc (.cells #[.int .i64 D.inp, .slice xn D.next.length yn, .slice xg D.gates.length yg, .slice xo D.outs.length yo] 29) = W2
    intro kX hb2 hV2
    have HC2 : Hid (∀ W, Below W2.heap.size W2 W → (CirV W (.agg #[.int .i64 C.inp, .slice sn C.next.length cn, .slice sg C.gates.length cg, .slice so C.outs.length co]) C ∧ (∀ o, W.cell? ⟨B, o, none⟩ = #[Value.int .i64 C.inp, .slice sn C.next.length cn, .slice sg C.gates.length cg, .slice so C.outs.length co][o]?)) ∧ (CirV W (.agg #[.int .i64 D.inp, .slice xn D.next.length yn, .slice xg D.gates.length yg, .slice xo D.outs.length yo]) D ∧ (∀ o, W.cell? ⟨X, o, none⟩ = #[Value.int .i64 D.inp, .slice xn D.next.length yn, .slice xg D.gates.length yg, .slice xo D.outs.length yo][o]?)) ∧ Below w.heap.size w W) := fun W hW => ⟨HC.out W (hb2.trans (hW.mono hb2.size)), ⟨hV2.mono hW, (blk_all (blk_below hW (blk_lt kX) kX)).1⟩, HW.out.trans ((hb2.trans (hW.mono hb2.size)).mono HW.out.size)⟩
    clear kX hb2 hV2
    refine wp_region_T (fun w' => (∀ o, w'.cell? ⟨B, o, none⟩ = #[Value.int .i64 C.inp, .slice sn C.next.length cn, .slice sg C.gates.length cg, .slice so C.outs.length co][o]?) ∧ (∀ o, w'.cell? ⟨X, o, none⟩ = #[Value.int .i64 D.inp, .slice xn D.next.length yn, .slice xg D.gates.length yg, .slice xo D.outs.length yo][o]?)) (.q 0 (.q 1 (.e 2 (.e 3 (.q 4 .nil))))) (by kernel_rfl) (by kernel_rfl) (by kernel_rfl) ⟨(HC2.out _ (Below.refl _ _).drew).1.2, (HC2.out _ (Below.refl _ _).drew).2.1.2⟩ ?_
    repeat (first | (refine ordt_s (o := ?_) ?_ ?_ ?_; rotate_left 1; (focus ((simp only [List.getElem?_toArray, List.getElem?_cons_succ, List.getElem?_cons_zero]) <;> rfl)); (focus rfl); simp only [Act.put, List.setIfInBounds_toArray, List.set_cons_zero, List.set_cons_succ]) | (refine ordt_q (o := ?_) (v := ?_) ?_ ?_ ?_ ?_; rotate_left 2; (focus ((simp only [List.getElem?_toArray, List.getElem?_cons_succ, List.getElem?_cons_zero]) <;> rfl)); (focus rfl); (focus (intro w' hS; (try dsimp only at hS); go_split_ands; go_simp; (try (with_reducible rfl)))); simp only [Act.put, List.setIfInBounds_toArray, List.set_cons_zero, List.set_cons_succ]))
    refine ordt_e ?_
    (refine op_e (o := ?_) ?_ ?_ (fun K hK => ?_); rotate_left 1; (focus ((simp only [List.getElem?_toArray, List.getElem?_cons_succ, List.getElem?_cons_zero]) <;> rfl)); (focus rfl); go_simp)
    refine (RemoveRedundancy_s _ C _ (HC2.out _ (Below.refl _ _).drew).1.1).mono ?_
    rintro e wa ⟨vna, vga, voa, rfl, h1, hq⟩
    rw [← HDD.out] at h1 ⊢
    have hba : Below W2.heap.size W2 wa := (Below.refl _ _).drew.trans hq
    refine hK.out _ _ ⟨(HC2.out _ hba).1.2, (HC2.out _ hba).2.1.2⟩ ?_
    clear hK K hq
    have HA := Lib.hid (And.intro (own_cv h1) hba)
    clear h1 hba
    (try simp only [Act.put, List.setIfInBounds_toArray, List.set_cons_zero, List.set_cons_succ])
    refine ordt_e ?_
    (refine op_e (o := ?_) ?_ ?_ (fun K hK => ?_); rotate_left 1; (focus ((simp only [List.getElem?_toArray, List.getElem?_cons_succ, List.getElem?_cons_zero]) <;> rfl)); (focus rfl); go_simp)
    refine (sameCircuitG_any _ _ D D _ (HC2.out _ HA.out.2).2.1.1 HA.out.1).mono ?_
    rintro e w4 ⟨rfl, hq⟩
    rw [cirB_self]
    have hb4 : Below W2.heap.size W2 w4 := HA.out.2.trans (hq.mono HA.out.2.size)
    refine hK.out _ _ ⟨(HC2.out _ hb4).1.2, (HC2.out _ hb4).2.1.2⟩ ?_
    clear hK K hq
    have H5 := Lib.hid hb4
    clear hb4 HA
    (try simp only [Act.put, List.setIfInBounds_toArray, List.set_cons_zero, List.set_cons_succ])
    repeat (first | (refine ordt_s (o := ?_) ?_ ?_ ?_; rotate_left 1; (focus ((simp only [List.getElem?_toArray, List.getElem?_cons_succ, List.getElem?_cons_zero]) <;> rfl)); (focus rfl); simp only [Act.put, List.setIfInBounds_toArray, List.set_cons_zero, List.set_cons_succ]) | (refine ordt_q (o := ?_) (v := ?_) ?_ ?_ ?_ ?_; rotate_left 2; (focus ((simp only [List.getElem?_toArray, List.getElem?_cons_succ, List.getElem?_cons_zero]) <;> rfl)); (focus rfl); (focus (intro w' hS; (try dsimp only at hS); go_split_ands; go_simp; (try (with_reducible rfl)))); simp only [Act.put, List.setIfInBounds_toArray, List.set_cons_zero, List.set_cons_succ]))
    refine ordt_nil ?_
    have cb := (HC2.out _ H5.out).1.2
    have cx := (HC2.out _ H5.out).2.1.2
    cases hv : C.validB
    · have HV := Lib.hid hv
      clear hv
      go_wp2_with (first | (go_at_call 26; ((with_reducible refine (CircuitValid_s _ C _ (HC2.out _ H5.out).1.1).mono ?_); rintro e w5 ⟨rfl, hq⟩; rw [HV.out]; have H5 := Lib.hid (H5.out.trans (hq.mono H5.out.size)); clear hq cb cx; have cb := (HC2.out _ H5.out).1.2; have cx := (HC2.out _ H5.out).2.1.2)) | (go_at_call 27; ((with_reducible refine (aliveR_any _).mono ?_); rintro e w7 ⟨rfl, hq⟩; have H5 := Lib.hid (H5.out.trans (hq.mono H5.out.size)); clear hq cb cx; have cb := (HC2.out _ H5.out).1.2; have cx := (HC2.out _ H5.out).2.1.2)))
      go_ret
      exact ⟨rfl, (HC2.out _ H5.out).2.2⟩
    · have hS := remR_says hv
      rw [← HDD.out] at hS
      have hval := (Cir.validB_iff _).1 hS.ok
      obtain ⟨q1, q2, q3, q4, q5⟩ := hval.lim
      obtain ⟨F, hF⟩ : ∃ F : Nat, 1 + D.inp + (D.next.length : Int) = F := ⟨(1 + D.inp + (D.next.length : Int)).toNat, by omega⟩
      obtain ⟨ni, hni⟩ : ∃ ni : Nat, D.inp = ni := ⟨D.inp.toNat, by omega⟩
      obtain ⟨G, hG⟩ : ∃ G, G = D.gates.length := ⟨_, rfl⟩
      have eFV : D.first = (F : Int) := hF
      have eVV : D.vars = ((F + G : Nat) : Int) := by unfold Cir.vars; omega
      obtain ⟨U, hU⟩ : ∃ U, U = testR D := ⟨_, rfl⟩
      have hUl : U.length ≤ 1000000 := by rw [hU]; exact testR_len D
      have hUm : ∀ x ∈ U, 0 ≤ x ∧ x < asgN D := fun x hx => testR_mem hS.ok (by rw [← hU]; exact hx)
      have hUh : ∀ (k : Nat) (v : Bool), k < G → U.any (detV D ((F + k : Nat) : Int) v) = true := fun k v hk => by
        obtain ⟨x, hx, h⟩ := testR_gate hS.ok hS.non (k := k) (by omega) v
        rw [eFV, Int.toNat_natCast] at h
        rw [hU]
        exact List.any_eq_true.2 ⟨x, hx, h⟩
      have HDT : Hid (∀ W (p : Int) (val : Bool) (k : Nat), Below W2.heap.size W2 W → 1 ≤ p → p < D.vars → k < asgN D → Calls Try.prog 44 #[.agg #[.int .i64 D.inp, .slice xn D.next.length yn, .slice xg D.gates.length yg, .slice xo D.outs.length yo], .agg #[.int .i64 p, .bool val], .int .i64 k] W fun e w' => e = .returned (.bool (detV D p val k)) ∧ Below W.heap.size W w') := fun W p val k hW h1 h2 h3 => by
        have hcv := (HC2.out W hW).2.1.1
        obtain ⟨_, _, _, _, _, _, e, a1, a2, a3, -⟩ := id hcv
        cases e
        have := Detects_any D ni hni xn xg xo yn yg yo p val k W hcv a1 a2 a3 hval h1 h2 h3
        rw [← hni] at this
        exact this
      have HS := Lib.hid (And.intro hS.ok (And.intro hF (And.intro eVV (And.intro hUm (And.intro hUh hU)))))
      have HV := Lib.hid hv
      have hF8 : F ≤ 8 := by omega
      have hF1 : 1 ≤ F := by omega
      have hG14 : G ≤ 14 := by omega
      clear hv hS hU hUh hUm hF hni hG eFV eVV hval
      go_upto_region 9 with (go_at_call 26; ((with_reducible refine (CircuitValid_s _ C _ (HC2.out _ H5.out).1.1).mono ?_); rintro e w5 ⟨rfl, hq⟩; rw [HV.out]; have H5 := Lib.hid (H5.out.trans (hq.mono H5.out.size)); clear hq cb cx; have cb := (HC2.out _ H5.out).1.2; have cx := (HC2.out _ H5.out).2.1.2))
      go_upto_region 10 with (go_at_call 43; ((with_reducible refine (TestSet_i _ D _ (HC2.out _ H5.out).2.1.1).mono ?_); rintro e w8 ⟨su, cu, rfl, h1, hq⟩; rw [← HS.out.2.2.2.2.2] at h1 ⊢; have HU := Lib.hid (And.intro (own_sl h1) (H5.out.trans (hq.mono H5.out.size))); clear h1 hq cb cx; have cx := (HC2.out _ HU.out.2).2.1.2))
      go_upto_region 11 with fail
      rw [HS.out.2.1]
      clear q1 q2 q3 q4 q5 cx H5
      go_upto_region 12 with fail
      go_loopw [7] (fun v7 wr => ∃ k : Nat, k ≤ G ∧ v7 = .int .i64 ((F + k : Nat) : Int) ∧ Below w8.heap.size w8 wr) (fun v7 _ => F + G - (intOf v7).toNat)
      case atStart => exact ⟨0, Nat.zero_le _, rfl, Below.refl _ _⟩
      case round =>
        obtain ⟨k, hk, rfl, hbl⟩ := hrel
        obtain ⟨p, hp⟩ : ∃ p, F + k = p := ⟨_, rfl⟩
        have hp22 : p ≤ 22 := by omega
        rw [hp]
        have HP := Lib.hid hp
        clear hp
        have H6 := Lib.hid hbl
        obtain ⟨ws, rfl⟩ : ∃ ws, ws = wr := ⟨_, rfl⟩
        clear hbl
        have H7 := Lib.hid (HU.out.2.trans (H6.out.mono HU.out.2.size))
        have cx := (HC2.out _ H7.out).2.1.2
        by_cases hlt : k < G
        · have hlp : (p : Int) < (F : Int) + (G : Int) := by have := HP.out; omega
          go_upto_region 13 with (go_at_call 28; ((with_reducible refine (VarCountR_any _ D _ (HC2.out _ H7.out).2.1.1 HS.out.1).mono ?_); rintro e w9 ⟨rfl, hq⟩; rw [HS.out.2.2.1]; have H8 := Lib.hid (H6.out.trans (hq.mono H6.out.size)); clear hq cx))
          go_upto_region 15 with fail
          clear hlp
          go_loopw [8] (fun v8 wr => ∃ j : Nat, j ≤ 2 ∧ v8 = .int .i64 j ∧ Below w8.heap.size w8 wr) (fun v8 _ => 2 - (intOf v8).toNat)
          case atStart => exact ⟨0, by omega, rfl, H8.out⟩
          case round =>
            clear H8 H7 H6
            obtain ⟨j, hj, rfl, hbl⟩ := hrel
            obtain ⟨wt, rfl⟩ : ∃ wt, wt = wr := ⟨_, rfl⟩
            have H6 := Lib.hid hbl
            clear hbl
            by_cases hlj : j < 2
            · obtain ⟨val, hval⟩ : ∃ val, val = ((j : Int) == 1) := ⟨_, rfl⟩
              have HVL := Lib.hid hval
              clear hval
              have hj2 : decide ((j : Int) < 2) = true := decide_eq_true (by omega)
              go_upto_region 19 with fail
              clear hj2
              go_loopw [9, 10] (fun v9 v10 wr => ∃ i : Nat, i ≤ U.length ∧ v10 = .int .i64 i ∧ v9 = .bool ((U.take i).any (detV D (p : Int) val)) ∧ Below w8.heap.size w8 wr) (fun _ v10 _ => U.length - (intOf v10).toNat)
              case atStart => exact ⟨0, Nat.zero_le _, rfl, rfl, H6.out⟩
              case round =>
                clear H6
                obtain ⟨i, hi, rfl, rfl, hbl⟩ := hrel
                have H6 := Lib.hid hbl
                have H7 := Lib.hid (HU.out.2.trans (hbl.mono HU.out.2.size))
                clear hbl
                by_cases hli : i < U.length
                · obtain ⟨x, hx⟩ := get_of_lt hli
                  have hxm := HS.out.2.2.2.1 x (List.mem_of_getElem? hx)
                  obtain ⟨xk, rfl⟩ : ∃ xk : Nat, x = xk := ⟨x.toNat, by omega⟩
                  have hsn := any_snoc (f := detV D (p : Int) val) hx
                  obtain ⟨b, hb⟩ : ∃ b, b = (U.take i).any (detV D (p : Int) val) := ⟨_, rfl⟩
                  rw [← hb] at hsn ⊢
                  have HX := Lib.hid (And.intro hsn (show xk < asgN D by omega))
                  have HUC : Hid (∀ W, Below w8.heap.size w8 W → ∃ ub uo, su = some ⟨ub, uo, none⟩ ∧ W.cell? ⟨ub, uo + i, none⟩ = some (.int .i64 xk)) := fun W hW => by
                    obtain ⟨b, o, e, _, z⟩ := HU.out.1.int hW hx
                    exact ⟨b, o, e, z⟩
                  obtain ⟨ub, uo, rfl, z1⟩ := HUC.out _ H6.out
                  have HUD : Hid (∀ W, Below w8.heap.size w8 W → W.cell? ⟨ub, uo + i, none⟩ = some (.int .i64 xk)) := fun W hW => by
                    obtain ⟨b, o, e, z⟩ := HUC.out W hW
                    cases e
                    exact z
                  have hpb : (1 : Int) ≤ (p : Int) ∧ (p : Int) < D.vars := by rw [HS.out.2.2.1]; have := HP.out; omega
                  have HPB := Lib.hid hpb
                  clear hx hxm hb hsn z1 HUC hpb
                  go_upto_region 21 with fail
                  cases b
                  · refine wp_region_T (fun w' => (∀ o, w'.cell? ⟨X, o, none⟩ = #[Value.int .i64 D.inp, .slice xn D.next.length yn, .slice xg D.gates.length yg, .slice xo D.outs.length yo][o]?) ∧ w'.cell? ⟨ub, uo + i, none⟩ = some (.int .i64 xk)) (.q 0 (.q 1 (.q 2 (.q 3 (.q 4 (.q 5 (.q 6 (.q 7 (.q 8 (.q 9 (.q 10 (.e 11 (.q 12 (.q 13 .nil)))))))))))))) (by kernel_rfl) (by kernel_rfl) (by kernel_rfl) ⟨(HC2.out _ H7.out.drew).2.1.2, HUD.out _ H6.out.drew⟩ ?_
                    repeat (first | (refine ordt_s (o := ?_) ?_ ?_ ?_; rotate_left 1; (focus ((simp only [List.getElem?_toArray, List.getElem?_cons_succ, List.getElem?_cons_zero]) <;> rfl)); (focus rfl); simp only [Act.put, List.setIfInBounds_toArray, List.set_cons_zero, List.set_cons_succ]) | (refine ordt_q (o := ?_) (v := ?_) ?_ ?_ ?_ ?_; rotate_left 2; (focus ((simp only [List.getElem?_toArray, List.getElem?_cons_succ, List.getElem?_cons_zero]) <;> rfl)); (focus rfl); (focus (intro w' hS; (try dsimp only at hS); go_split_ands; go_simp; (try (with_reducible rfl)))); simp only [Act.put, List.setIfInBounds_toArray, List.set_cons_zero, List.set_cons_succ]))
                    refine ordt_e ?_
                    (refine op_e (o := ?_) ?_ ?_ (fun K hK => ?_); rotate_left 1; (focus ((simp only [List.getElem?_toArray, List.getElem?_cons_succ, List.getElem?_cons_zero]) <;> rfl)); (focus rfl); go_simp)
                    rw [show ((j : Int) == 1) = val from HVL.out.symm]
                    refine (HDT.out _ (p : Int) val xk H7.out.drew HPB.out.1 HPB.out.2 HX.out.2).mono ?_
                    rintro e wa ⟨rfl, hq⟩
                    have hba : Below w8.heap.size w8 wa := H6.out.trans (((Below.refl _ _).drew.trans hq).mono H6.out.size)
                    have hbb : Below W2.heap.size W2 wa := HU.out.2.trans (hba.mono HU.out.2.size)
                    refine hK.out _ _ ⟨(HC2.out _ hbb).2.1.2, HUD.out _ hba⟩ ?_
                    clear hK K hq
                    have HA := Lib.hid hba
                    clear hba hbb
                    obtain ⟨dv, hdv⟩ : ∃ dv, dv = detV D (p : Int) val (xk : Int) := ⟨_, rfl⟩
                    rw [← hdv]
                    have HDV := Lib.hid hdv
                    clear hdv
                    (try simp only [Act.put, List.setIfInBounds_toArray, List.set_cons_zero, List.set_cons_succ])
                    repeat (first | (refine ordt_s (o := ?_) ?_ ?_ ?_; rotate_left 1; (focus ((simp only [List.getElem?_toArray, List.getElem?_cons_succ, List.getElem?_cons_zero]) <;> rfl)); (focus rfl); simp only [Act.put, List.setIfInBounds_toArray, List.set_cons_zero, List.set_cons_succ]) | (refine ordt_q (o := ?_) (v := ?_) ?_ ?_ ?_ ?_; rotate_left 2; (focus ((simp only [List.getElem?_toArray, List.getElem?_cons_succ, List.getElem?_cons_zero]) <;> rfl)); (focus rfl); (focus (intro w' hS; (try dsimp only at hS); go_split_ands; go_simp; (try (with_reducible rfl)))); simp only [Act.put, List.setIfInBounds_toArray, List.set_cons_zero, List.set_cons_succ]))
                    refine ordt_nil ?_
                    go_wp2_with fail
                    go_roundw
                    case rel => exact ⟨i + 1, by omega, by go_num, by rw [HX.out.1, ← HDV.out]; simp, HA.out⟩
                    case measure => simp [intOf]; omega
                  · go_quiet (fail)
                    go_wp2_with fail
                    go_roundw
                    case rel => exact ⟨i + 1, by omega, by go_num, by rw [HX.out.1]; simp, below_n H6.out _⟩
                    case measure => simp [intOf]; omega
                · obtain rfl : i = U.length := by omega
                  have ht : (U.take U.length).any (detV D (p : Int) val) = true := by
                    rw [List.take_length, show (p : Int) = ((F + k : Nat) : Int) by have := HP.out; omega]
                    exact HS.out.2.2.2.2.1 k val hlt
                  rw [ht]
                  clear ht
                  go_wp2_with fail
                  go_roundw
                  case rel => exact ⟨j + 1, by omega, by go_num, H6.out⟩
                  case measure => simp [intOf]; omega
            · obtain rfl : j = 2 := by omega
              go_wp2_with fail
              go_roundw
              case rel => exact ⟨k + 1, by omega, by have := HP.out; rw [← this]; go_num, H6.out⟩
              case measure => have := HP.out; simp [intOf]; omega
        · have hlp : ¬ (p : Int) < (F : Int) + (G : Int) := by have := HP.out; omega
          go_wp2_with (go_at_call 28; ((with_reducible refine (VarCountR_any _ D _ (HC2.out _ H7.out).2.1.1 HS.out.1).mono ?_); rintro e w9 ⟨rfl, hq⟩; rw [HS.out.2.2.1]; have H8 := Lib.hid (H6.out.trans (hq.mono H6.out.size)); clear hq cx))
          have H9 := Lib.hid (HU.out.2.trans (H8.out.mono HU.out.2.size))
          go_ret
          exact ⟨rfl, (HC2.out _ H9.out).2.2⟩
  · clear hs hr
    go_enter Try.func10, Try.ntmps10
    go_wp2
    go_ret
    exact ⟨rfl, Below.refl _ _⟩

end Go.Proofs.Ytindndcdpnpcmaa
