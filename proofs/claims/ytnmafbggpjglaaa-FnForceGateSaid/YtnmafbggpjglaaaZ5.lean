import Derived.Test.YtnmafbggpjglaaaZ3
import Derived.Test.YtnmafbggpjglaaaZ4
import Derived.Test.YtnmafbggpjglaaaQ6
import Derived.Test.YtnmafbggpjglaaaE1
namespace Go.Proofs.Ytnmafbggpjglaaa
set_option linter.unusedVariables false
set_option linter.unusedSimpArgs false
open Go.RowKit

/-! The law FnLeaves. -/

theorem asgN_le2 {c : Cir} (h : c.valid) : 1 ≤ asgN c ∧ asgN c ≤ 128 := by
  obtain ⟨q1, q2, q3, q4, q5⟩ := h.lim
  unfold asgN
  exact ⟨Nat.pow_pos (by omega), Nat.le_trans (Nat.pow_le_pow_right (by omega) (show c.inp.toNat + c.next.length ≤ 7 by omega)) (by decide)⟩

theorem VarCount_any (v : Value) (c : Cir) (w : World) (h : CirV w v c) (hv : c.validB = true) :
    Calls Try.prog 25 #[v] w fun e w' => e = .returned (.int .i64 c.vars) ∧ Below w.heap.size w w' := by
  have HC : Hid (∀ w', Below w.heap.size w w' → CirV w' v c) := fun w' hb => h.mono hb
  obtain ⟨sn, cn, sg, cg, so, co, rfl, h1, h2, h3, hl1, hl2, hl3⟩ := h
  have hL : Below w.heap.size w (w.alloc (.cells #[.int .i64 c.inp, .slice sn c.next.length cn, .slice sg c.gates.length cg, .slice so c.outs.length co] 26)) := by go_grown
  have hN := blk_new w (.cells #[.int .i64 c.inp, .slice sn c.next.length cn, .slice sg c.gates.length cg, .slice so c.outs.length co] 26)
  obtain ⟨q1, q2, q3, q4, q5⟩ := (c.validB_iff.1 hv).lim
  have HL := Lib.hid (And.intro hL (And.intro hN hv))
  clear h1 h2 h3 hL hN hv
  go_enter Try.func25, Try.ntmps25
  go_upto_region 1 with fail
  revert HL
  generalize (w.alloc (.cells #[.int .i64 c.inp, .slice sn c.next.length cn, .slice sg c.gates.length cg, .slice so c.outs.length co] 26)) = W1
  intro HL
  have cb := (blk_all HL.out.2.1).1
  go_wp2_with (first
    | (go_at_call 45; ((with_reducible refine (CircuitValid_i _ c _ (HC.out _ HL.out.1)).mono ?_); rintro e w1 ⟨rfl, hq⟩; rw [HL.out.2.2]; have H1 := Lib.hid (And.intro (HL.out.1.trans (hq.mono HL.out.1.size)) (blk_below hq (blk_lt HL.out.2.1) HL.out.2.1)); clear hq cb; have cb := (blk_all H1.out.2).1))
    | (go_at_call 60; ((refine (vars_any _ _ _ _ _ _ _ _ _ _ (CirAt.of_blk H1.out.2) (by omega) (by omega) (by omega)).mono ?_); rintro e w2 ⟨rfl, hd⟩; have H2 := Lib.hid (H1.out.1.trans ((hd.below _).mono H1.out.1.size)); clear hd)))
  go_ret
  exact ⟨rfl, H2.out⟩

set_option maxRecDepth 100000 in
set_option maxHeartbeats 3200000 in
theorem FnLeaves_any (s : Option Addr) (cap : Nat) (xs : List Int) (w : World) (hs : Sl w s (u8s xs)) (hl : xs.length ≤ 9223372036854775807) (hcap : xs.length ≤ cap) (hcap2 : cap ≤ 9223372036854775807) (hr : ∀ x ∈ xs, 0 ≤ x ∧ x ≤ 255) :
    Calls Try.prog 5 #[.slice s xs.length cap] w fun e w' => e = .returned (.bool true) ∧ Below w.heap.size w w' := by
  by_cases hc : xs.length ≤ 1048576
  · have HD := Lib.hid (DrawLeaves_any s cap xs w hs hc hcap hcap2 hr)
    clear hs hr
    go_enter Try.func5, Try.ntmps5
    go_upto_region 4 with (go_at_call 22; (with_reducible refine HD.out.mono ?_); rintro e w1 ⟨C, i, vn, vg, vo, rfl, h1, h2, h3, h4⟩; obtain ⟨sn, cn, rfl⟩ := own_shape h1.n; obtain ⟨sg, cg, rfl⟩ := own_shape h1.g; obtain ⟨so, co, rfl⟩ := own_shape h1.o; have H1 := Lib.hid (And.intro h1 h4); obtain ⟨l1, l2, l3, l4, l5⟩ := h2; obtain ⟨i1, i2⟩ := h3; clear h1 h4)
    obtain ⟨B, hB⟩ : ∃ B, B = w1.heap.size := ⟨_, rfl⟩
    have hk := blk_new w1 (.cells #[.int .i64 C.inp, .slice sn C.next.length cn, .slice sg C.gates.length cg, .slice so C.outs.length co] 26)
    have hbb := below_alloc w1 (.cells #[.int .i64 C.inp, .slice sn C.next.length cn, .slice sg C.gates.length cg, .slice so C.outs.length co] 26)
    have hV : CirV (w1.alloc (.cells #[.int .i64 C.inp, .slice sn C.next.length cn, .slice sg C.gates.length cg, .slice so C.outs.length co] 26)) (.agg #[.int .i64 C.inp, .slice sn C.next.length cn, .slice sg C.gates.length cg, .slice so C.outs.length co]) C :=
      ⟨_, _, _, _, _, _, rfl, own_sl (own_below H1.out.1.n hbb), own_sl (own_below H1.out.1.g hbb), own_sl (own_below H1.out.1.o hbb), by omega, by omega, by omega⟩
    have hgs := own_sl (own_below H1.out.1.g hbb)
    have hbw := H1.out.2.trans (hbb.mono H1.out.2.size)
    rw [← hB] at hk
    rw [← hB]
    clear hbb hB H1
    revert hV hgs hbw hk
    generalize w1.alloc (.cells #[.int .i64 C.inp, .slice sn C.next.length cn, .slice sg C.gates.length cg, .slice so C.outs.length co] 26) = W1
    intro hk hV hgs hbw
    have HC : Hid (∀ W, Below W1.heap.size W1 W → CirV W (.agg #[.int .i64 C.inp, .slice sn C.next.length cn, .slice sg C.gates.length cg, .slice so C.outs.length co]) C ∧ Sl W sg (gcells C.gates) ∧ (∀ o, W.cell? ⟨B, o, none⟩ = #[Value.int .i64 C.inp, .slice sn C.next.length cn, .slice sg C.gates.length cg, .slice so C.outs.length co][o]?)) := fun W hW => ⟨hV.mono hW, hgs.mono hW, (blk_all (blk_below hW (blk_lt hk) hk)).1⟩
    have HW := Lib.hid hbw
    clear hV hgs hbw hk
    have cb := (HC.out _ (Below.refl _ _)).2.2
    obtain ⟨Ls, hLs⟩ : ∃ Ls, Ls = leavesR C i := ⟨_, rfl⟩
    have hLl : Ls.length ≤ 1000000 := by rw [hLs]; exact leavesR_len _ _
    have HLs := Lib.hid hLs
    clear hLs
    have eF : C.first = 1 + C.inp + C.next.length := rfl
    have eV : C.vars = 1 + C.inp + C.next.length + C.gates.length := by unfold Cir.vars; omega
    obtain ⟨VV, hVV⟩ : ∃ VV, C.vars = VV := ⟨_, rfl⟩
    have HVV := Lib.hid hVV
    have hVe : VV = 1 + C.inp + C.next.length + C.gates.length := by omega
    by_cases hok : lvOk C i
    · obtain ⟨hvB, hF1, hF2⟩ := id hok
      have hval := C.validB_iff.1 hvB
      obtain ⟨q1, q2, q3, q4, q5⟩ := id hval.lim
      obtain ⟨n1, n2⟩ := asgN_le2 hval
      obtain ⟨ni, hni⟩ : ∃ ni : Nat, C.inp = ni := ⟨C.inp.toNat, by omega⟩
      obtain ⟨N, hN⟩ : ∃ N, N = asgN C := ⟨_, rfl⟩
      rw [← hN] at n1 n2
      have n4 : ni ≤ 4 := by omega
      obtain ⟨i0, hi0⟩ : ∃ i0 : Nat, i = C.first + i0 := ⟨(i - C.first).toNat, by omega⟩
      have hi0g : i0 < C.gates.length := by omega
      have hLv : Ls = Lv C i0 := by rw [HLs.out, leavesR_yes hok]; congr 1; omega
      have hall := fun x => Lv_all hval x i0 hi0g
      have hmem := Lv_mem hval i0 hi0g
      have hL2 : 2 ≤ Ls.length := by rw [hLv]; exact Lv_two hval i0 hi0g
      rw [← hLv] at hall hmem
      have hmem2 : ∀ l ∈ Ls, 0 ≤ l ∧ l / 2 < VV := fun l hl => by have := hmem l hl; omega
      have hwp : wrap64 (2 ^ (ni + C.next.length)) = (N : Int) := by rw [wrap_pow (by omega), hN]; unfold asgN; rw [hni]; simp
      have hto : ((ni : Int) + (C.next.length : Int)).toNat = ni + C.next.length := by omega
      have hi60 : i ≤ 60 := by omega
      have hi00 : 0 ≤ i := by omega
      have HM : Hid ((∀ l ∈ Ls, 0 ≤ l ∧ l / 2 < VV) ∧ (∀ x, Ls.all (litB (evalV C x (-1) false)) = litB (evalV C x (-1) false) (2 * i))) := ⟨hmem2, fun x => by rw [hall x, hi0]⟩
      have hF0 : 1 + (ni : Int) + C.next.length ≤ i := by omega
      have hiV : i < VV := by omega
      have HX := Lib.hid (And.intro hval (And.intro hni hVe))
      have HV := Lib.hid hvB
      rw [hni] at HC cb ⊢
      clear hok hvB hF1 hF2 hval q1 q2 hni hN hi0 hLv hall hmem hmem2 eF eV hVV hVe l1 l2
      go_upto_region 10 with (first | (go_at_call 23; ((with_reducible refine (Leaves_i _ _ _ _ (HC.out _ (Below.refl _ _)).1 ⟨by omega, by omega⟩).mono ?_); rintro e w2 ⟨s1, c1, rfl, h1, hq⟩; rw [← HLs.out] at h1 ⊢; have H2 := Lib.hid (And.intro (own_sl h1) hq); clear h1 hq cb; have cb := (HC.out _ H2.out.2).2.2)) | (go_at_call 24; ((with_reducible refine (Leaves_s _ _ _ _ (HC.out _ H2.out.2).1 ⟨by omega, by omega⟩).mono ?_); rintro e w3 ⟨s2, c2, rfl, h1, hq⟩; rw [← HLs.out] at h1 ⊢; have H3 := Lib.hid (And.intro (H2.out.1.mono hq) (And.intro h1 (H2.out.2.trans (hq.mono H2.out.2.size)))); clear h1 hq cb; have cb := (HC.out _ H3.out.2.2).2.2)) | (go_at_call 15; ((with_reducible refine (sameInts_any _ _ _ _ Ls Ls _ H3.out.1 H3.out.2.1 hLl hLl rfl).mono ?_); rintro e w4 ⟨rfl, hd⟩; have H4 := Lib.hid (And.intro (H3.out.1.mono (hd.below _)) (H3.out.2.2.trans ((hd.below _).mono H3.out.2.2.size))); clear hd cb; have cb := (HC.out _ H4.out.2).2.2)) | (go_at_call 17; ((with_reducible refine (CircuitValid_s _ C _ (HC.out _ H4.out.2).1).mono ?_); rintro e w5 ⟨rfl, hq⟩; rw [HV.out]; have H5 := Lib.hid (And.intro (H4.out.1.mono hq) (H4.out.2.trans (hq.mono H4.out.2.size))); clear hq cb; have cb := (HC.out _ H5.out.2).2.2)) | (go_at_call 25; ((with_reducible refine (VarCount_any _ C _ (HC.out _ H5.out.2).1 HV.out).mono ?_); rintro e w6 ⟨rfl, hq⟩; rw [HVV.out]; have H5 := Lib.hid (And.intro (H5.out.1.mono hq) (H5.out.2.trans (hq.mono H5.out.2.size))); clear hq cb; have cb := (HC.out _ H5.out.2).2.2)))
      clear cb
      go_loopw [6] (fun v6 wr => ∃ k : Nat, k ≤ N ∧ v6 = .int .i64 k ∧ Sl wr s1 (ints Ls) ∧ Below W1.heap.size W1 wr) (fun v6 _ => N - (intOf v6).toNat)
      case atStart => exact ⟨0, Nat.zero_le _, rfl, H5.out.1, H5.out.2⟩
      case round =>
        obtain ⟨k, hk, rfl, hls, hbl⟩ := hrel
        have cb := (HC.out _ hbl).2.2
        by_cases hlt : k < N
        · have HR := Lib.hid (And.intro hls hbl)
          obtain ⟨E, hE⟩ : ∃ E, E = litB (evalV C (k : Int) (-1) false) := ⟨_, rfl⟩
          have HE := Lib.hid hE
          clear hls hbl hE
          go_upto_region 14 with fail
          have k1000 : (k : Int) ≤ 1000 := Int.ofNat_le.2 (show k ≤ 1000 from Nat.le_trans (Nat.le_of_lt hlt) (Nat.le_trans n2 (by decide)))
          clear cb hwp hto
          go_loopw [7, 8] (fun v7 v8 wr => ∃ m : Nat, m ≤ Ls.length ∧ v8 = .int .i64 m ∧ v7 = .bool ((Ls.take m).all E) ∧ Sl wr s1 (ints Ls) ∧ Below W1.heap.size W1 wr) (fun _ v8 _ => Ls.length - (intOf v8).toNat)
          case atStart => exact ⟨0, Nat.zero_le _, rfl, rfl, HR.out.1, HR.out.2⟩
          case round =>
            obtain ⟨m, hm, rfl, rfl, hls, hbl⟩ := hrel
            have cb := (HC.out _ hbl).2.2
            by_cases hlt2 : m < Ls.length
            · obtain ⟨l, hlx⟩ := get_of_lt hlt2
              have hls0 := hls
              obtain ⟨lb, lo, rfl, hlb, zl⟩ := hls.int (Below.refl _ _) hlx
              obtain ⟨lA, lB⟩ := HM.out.1 l (List.mem_of_getElem? hlx)
              have hsu : Hid ((Ls.take (m + 1)).all E = ((Ls.take m).all E && E l)) := by
                show _ = _
                rw [List.take_add_one, hlx]; simp
              have hS : Hid (∀ W, Below wr.heap.size wr W → (∀ o, W.cell? ⟨B, o, none⟩ = #[Value.int .i64 ni, .slice sn C.next.length cn, .slice sg C.gates.length cg, .slice so C.outs.length co][o]?) ∧ W.cell? ⟨lb, lo + m, none⟩ = some (.int .i64 l)) := fun W hW => ⟨(HC.out _ (hbl.trans (hW.mono hbl.size))).2.2, (hW.cell hlb).trans zl⟩
              obtain ⟨A, hA⟩ : ∃ A, A = (Ls.take m).all E := ⟨_, rfl⟩
              rw [← hA]
              have HQ := Lib.hid (And.intro hls0 (And.intro hbl hA))
              clear hls hls0 hbl hA hlx
              go_upto_region 16 with fail
              clear cb zl
              cases A
              · go_quiet (fail)
                go_wp2_with fail
                go_roundw
                case rel =>
                  have hD : Below wr.heap.size wr (wr.drewN nq) := below_n (Below.refl _ _) _
                  exact ⟨m + 1, by omega, by go_num, (by have h := HQ.out.2.2; rw [hsu.out, ← h, Bool.false_and]), HQ.out.1.mono hD, HQ.out.2.1.trans (hD.mono HQ.out.2.1.size)⟩
                case measure => simp [intOf]; omega
              · refine wp_region_T (fun w' => (∀ o, w'.cell? ⟨B, o, none⟩ = #[Value.int .i64 ni, .slice sn C.next.length cn, .slice sg C.gates.length cg, .slice so C.outs.length co][o]?) ∧ w'.cell? ⟨lb, lo + m, none⟩ = some (.int .i64 l)) (.q 0 (.q 1 (.q 2 (.q 3 (.q 4 (.q 5 (.q 6 (.q 7 (.e 8 (.q 9 (.q 10 .nil))))))))))) (by kernel_rfl) (by kernel_rfl) (by kernel_rfl) (hS.out _ (Below.refl _ _).drew) ?_
                repeat (first | (refine ordt_s (o := ?_) ?_ ?_ ?_; rotate_left 1; (focus ((simp only [List.getElem?_toArray, List.getElem?_cons_succ, List.getElem?_cons_zero]) <;> rfl)); (focus rfl); simp only [Act.put, List.setIfInBounds_toArray, List.set_cons_zero, List.set_cons_succ]) | (refine ordt_q (o := ?_) (v := ?_) ?_ ?_ ?_ ?_; rotate_left 2; (focus ((simp only [List.getElem?_toArray, List.getElem?_cons_succ, List.getElem?_cons_zero]) <;> rfl)); (focus rfl); (focus (intro w' hS; (try dsimp only at hS); go_split_ands; go_simp; (try (with_reducible rfl)))); simp only [Act.put, List.setIfInBounds_toArray, List.set_cons_zero, List.set_cons_succ]))
                refine ordt_e ?_
                (refine op_e (o := ?_) ?_ ?_ (fun K hK => ?_); rotate_left 1; (focus ((simp only [List.getElem?_toArray, List.getElem?_cons_succ, List.getElem?_cons_zero]) <;> rfl)); (focus rfl); go_simp)
                refine (litValueL_any C sn sg so cn cg co ni HX.out.2.1 l (k : Int) _ (by rw [HX.out.2.1]; exact (HC.out _ HQ.out.2.1.drew).1) (HC.out _ HQ.out.2.1.drew).2.1 HX.out.1 lA (by rw [HVV.out]; exact lB) (Int.natCast_nonneg k) k1000).mono ?_
                rintro e wa ⟨rfl, hq⟩
                rw [show litB (evalV C (k : Int) (-1) false) l = E l by rw [HE.out]]
                have hba := (Below.refl wr.heap.size wr).drew.trans hq
                refine hK.out _ _ (hS.out _ hba) ?_
                clear hK K hq
                have HA := Lib.hid (And.intro (HQ.out.1.mono hba) (HQ.out.2.1.trans (hba.mono HQ.out.2.1.size)))
                clear hba
                (try simp only [Act.put, List.setIfInBounds_toArray, List.set_cons_zero, List.set_cons_succ])
                repeat (first | (refine ordt_s (o := ?_) ?_ ?_ ?_; rotate_left 1; (focus ((simp only [List.getElem?_toArray, List.getElem?_cons_succ, List.getElem?_cons_zero]) <;> rfl)); (focus rfl); simp only [Act.put, List.setIfInBounds_toArray, List.set_cons_zero, List.set_cons_succ]) | (refine ordt_q (o := ?_) (v := ?_) ?_ ?_ ?_ ?_; rotate_left 2; (focus ((simp only [List.getElem?_toArray, List.getElem?_cons_succ, List.getElem?_cons_zero]) <;> rfl)); (focus rfl); (focus (intro w' hS; (try dsimp only at hS); go_split_ands; go_simp; (try (with_reducible rfl)))); simp only [Act.put, List.setIfInBounds_toArray, List.set_cons_zero, List.set_cons_succ]))
                refine ordt_nil ?_
                go_wp2_with fail
                go_roundw
                case rel => exact ⟨m + 1, by omega, by go_num, (by have h := HQ.out.2.2; rw [hsu.out, ← h, Bool.true_and]), HA.out.1, HA.out.2⟩
                case measure => simp [intOf]; omega
            · obtain rfl : m = Ls.length := by omega
              rw [List.take_length]
              have HQ := Lib.hid (And.intro hls hbl)
              have hm2 := HM.out.2 (k : Int)
              rw [← HE.out] at hm2
              obtain ⟨A, hA⟩ : ∃ A, A = Ls.all E := ⟨_, rfl⟩
              rw [← hA] at hm2 ⊢
              have HA := Lib.hid hm2
              clear hls hbl hm2 hA
              go_wp2_with (go_at_call 26; ((with_reducible refine (litValueL_any C sn sg so cn cg co ni HX.out.2.1 (2 * i) (k : Int) _ (by rw [HX.out.2.1]; exact (HC.out _ HQ.out.2).1) (HC.out _ HQ.out.2).2.1 HX.out.1 (by omega) (by rw [HVV.out]; omega) (Int.natCast_nonneg k) k1000).mono ?_); rintro e w9 ⟨rfl, hq⟩; rw [← HE.out, ← HA.out]; have H9 := Lib.hid (And.intro (HQ.out.1.mono hq) (HQ.out.2.trans (hq.mono HQ.out.2.size))); clear hq cb))
              go_roundw
              case rel => exact ⟨k + 1, by omega, by go_num, H9.out.1, H9.out.2⟩
              case measure => simp [intOf]; omega
        · go_wp2_with fail
          go_ret
          exact ⟨by simp; omega, HW.out.trans (hbl.mono HW.out.size)⟩

    · have hno := leavesR_no hok
      have HN : Hid (Ls.length = 0) := by show _ = _; rw [HLs.out, hno]; rfl
      clear hno
      cases hv : C.validB
      · have HV := Lib.hid hv
        clear hv hok hVV hVe eV
        go_upto_region 8 with (first | (go_at_call 23; ((with_reducible refine (Leaves_i _ _ _ _ (HC.out _ (Below.refl _ _)).1 ⟨by omega, by omega⟩).mono ?_); rintro e w2 ⟨s1, c1, rfl, h1, hq⟩; rw [← HLs.out] at h1 ⊢; have H2 := Lib.hid (And.intro (own_sl h1) hq); clear h1 hq cb; have cb := (HC.out _ H2.out.2).2.2)) | (go_at_call 24; ((with_reducible refine (Leaves_s _ _ _ _ (HC.out _ H2.out.2).1 ⟨by omega, by omega⟩).mono ?_); rintro e w3 ⟨s2, c2, rfl, h1, hq⟩; rw [← HLs.out] at h1 ⊢; have H3 := Lib.hid (And.intro (H2.out.1.mono hq) (And.intro h1 (H2.out.2.trans (hq.mono H2.out.2.size)))); clear h1 hq cb; have cb := (HC.out _ H3.out.2.2).2.2)) | (go_at_call 15; ((with_reducible refine (sameInts_any _ _ _ _ Ls Ls _ H3.out.1 H3.out.2.1 hLl hLl rfl).mono ?_); rintro e w4 ⟨rfl, hd⟩; have H4 := Lib.hid (And.intro (H3.out.1.mono (hd.below _)) (H3.out.2.2.trans ((hd.below _).mono H3.out.2.2.size))); clear hd cb; have cb := (HC.out _ H4.out.2).2.2)) | (go_at_call 17; ((with_reducible refine (CircuitValid_s _ C _ (HC.out _ H4.out.2).1).mono ?_); rintro e w5 ⟨rfl, hq⟩; rw [HV.out]; have H5 := Lib.hid (And.intro (H4.out.1.mono hq) (H4.out.2.trans (hq.mono H4.out.2.size))); clear hq cb; have cb := (HC.out _ H5.out.2).2.2)))
        have hn0 := HN.out
        go_wp2_with (go_at_call 12; ((with_reducible refine (alive_any _).mono ?_); rintro e w7 ⟨rfl, hq⟩; have HA := Lib.hid (H5.out.2.trans (hq.mono H5.out.2.size)); clear hq))
        go_ret
        exact ⟨rfl, HW.out.trans (HA.out.mono HW.out.size)⟩
      · have hok2 : ¬ (C.first ≤ i ∧ i < C.vars) := fun h => hok ⟨hv, h.1, h.2⟩
        have HV := Lib.hid hv
        clear hok
        by_cases hF : i < 1 + C.inp + C.next.length
        · clear hok2 hVV hVe eV eF
          go_upto_region 8 with (first | (go_at_call 23; ((with_reducible refine (Leaves_i _ _ _ _ (HC.out _ (Below.refl _ _)).1 ⟨by omega, by omega⟩).mono ?_); rintro e w2 ⟨s1, c1, rfl, h1, hq⟩; rw [← HLs.out] at h1 ⊢; have H2 := Lib.hid (And.intro (own_sl h1) hq); clear h1 hq cb; have cb := (HC.out _ H2.out.2).2.2)) | (go_at_call 24; ((with_reducible refine (Leaves_s _ _ _ _ (HC.out _ H2.out.2).1 ⟨by omega, by omega⟩).mono ?_); rintro e w3 ⟨s2, c2, rfl, h1, hq⟩; rw [← HLs.out] at h1 ⊢; have H3 := Lib.hid (And.intro (H2.out.1.mono hq) (And.intro h1 (H2.out.2.trans (hq.mono H2.out.2.size)))); clear h1 hq cb; have cb := (HC.out _ H3.out.2.2).2.2)) | (go_at_call 15; ((with_reducible refine (sameInts_any _ _ _ _ Ls Ls _ H3.out.1 H3.out.2.1 hLl hLl rfl).mono ?_); rintro e w4 ⟨rfl, hd⟩; have H4 := Lib.hid (And.intro (H3.out.1.mono (hd.below _)) (H3.out.2.2.trans ((hd.below _).mono H3.out.2.2.size))); clear hd cb; have cb := (HC.out _ H4.out.2).2.2)) | (go_at_call 17; ((with_reducible refine (CircuitValid_s _ C _ (HC.out _ H4.out.2).1).mono ?_); rintro e w5 ⟨rfl, hq⟩; rw [HV.out]; have H5 := Lib.hid (And.intro (H4.out.1.mono hq) (H4.out.2.trans (hq.mono H4.out.2.size))); clear hq cb; have cb := (HC.out _ H5.out.2).2.2)) | (go_at_call 25; ((with_reducible refine (VarCount_any _ C _ (HC.out _ H5.out.2).1 HV.out).mono ?_); rintro e w6 ⟨rfl, hq⟩; rw [HVV.out]; have H5 := Lib.hid (And.intro (H5.out.1.mono hq) (H5.out.2.trans (hq.mono H5.out.2.size))); clear hq cb; have cb := (HC.out _ H5.out.2).2.2)))
          have hn0 := HN.out
          go_wp2_with (go_at_call 12; ((with_reducible refine (alive_any _).mono ?_); rintro e w7 ⟨rfl, hq⟩; have HA := Lib.hid (H5.out.2.trans (hq.mono H5.out.2.size)); clear hq))
          go_ret
          exact ⟨rfl, HW.out.trans (HA.out.mono HW.out.size)⟩
        · have hF3 : VV ≤ i := by omega
          clear hok2 hVV eV eF
          go_upto_region 8 with (first | (go_at_call 23; ((with_reducible refine (Leaves_i _ _ _ _ (HC.out _ (Below.refl _ _)).1 ⟨by omega, by omega⟩).mono ?_); rintro e w2 ⟨s1, c1, rfl, h1, hq⟩; rw [← HLs.out] at h1 ⊢; have H2 := Lib.hid (And.intro (own_sl h1) hq); clear h1 hq cb; have cb := (HC.out _ H2.out.2).2.2)) | (go_at_call 24; ((with_reducible refine (Leaves_s _ _ _ _ (HC.out _ H2.out.2).1 ⟨by omega, by omega⟩).mono ?_); rintro e w3 ⟨s2, c2, rfl, h1, hq⟩; rw [← HLs.out] at h1 ⊢; have H3 := Lib.hid (And.intro (H2.out.1.mono hq) (And.intro h1 (H2.out.2.trans (hq.mono H2.out.2.size)))); clear h1 hq cb; have cb := (HC.out _ H3.out.2.2).2.2)) | (go_at_call 15; ((with_reducible refine (sameInts_any _ _ _ _ Ls Ls _ H3.out.1 H3.out.2.1 hLl hLl rfl).mono ?_); rintro e w4 ⟨rfl, hd⟩; have H4 := Lib.hid (And.intro (H3.out.1.mono (hd.below _)) (H3.out.2.2.trans ((hd.below _).mono H3.out.2.2.size))); clear hd cb; have cb := (HC.out _ H4.out.2).2.2)) | (go_at_call 17; ((with_reducible refine (CircuitValid_s _ C _ (HC.out _ H4.out.2).1).mono ?_); rintro e w5 ⟨rfl, hq⟩; rw [HV.out]; have H5 := Lib.hid (And.intro (H4.out.1.mono hq) (H4.out.2.trans (hq.mono H4.out.2.size))); clear hq cb; have cb := (HC.out _ H5.out.2).2.2)) | (go_at_call 25; ((with_reducible refine (VarCount_any _ C _ (HC.out _ H5.out.2).1 HV.out).mono ?_); rintro e w6 ⟨rfl, hq⟩; rw [HVV.out]; have H5 := Lib.hid (And.intro (H5.out.1.mono hq) (H5.out.2.trans (hq.mono H5.out.2.size))); clear hq cb; have cb := (HC.out _ H5.out.2).2.2)))
          have hn0 := HN.out
          go_wp2_with (go_at_call 12; ((with_reducible refine (alive_any _).mono ?_); rintro e w7 ⟨rfl, hq⟩; have HA := Lib.hid (H5.out.2.trans (hq.mono H5.out.2.size)); clear hq))
          go_ret
          exact ⟨rfl, HW.out.trans (HA.out.mono HW.out.size)⟩
  · clear hs hr
    go_enter Try.func5, Try.ntmps5
    go_wp2
    go_ret
    exact ⟨rfl, Below.refl _ _⟩

end Go.Proofs.Ytnmafbggpjglaaa
