import Derived.Test.YtddmgphlhfilnaaBH
import Derived.Test.YtddmgphlhfilnaaBJ
import Derived.Test.YtddmgphlhfilnaaCC
import Derived.Test.YtddmgphlhfilnaaZ2
import Derived.Test.YtddmgphlhfilnaaZ8
namespace Go.Proofs.Ytddmgphlhfilnaa
set_option linter.unusedVariables false
set_option linter.unusedSimpArgs false
open Go.RowKit

/-! The law FnBddCanonical. -/

set_option maxRecDepth 100000 in
set_option maxHeartbeats 3200000 in
theorem FnBddCanonical_any (s : Option Addr) (cap : Nat) (xs : List Int) (sm : Option Addr) (capm : Nat) (ms : List Int) (w : World) (hs : Sl w s (u8s xs)) (hl : xs.length ≤ 9223372036854775807) (hcap : xs.length ≤ cap) (hcap2 : cap ≤ 9223372036854775807) (hr : ∀ x ∈ xs, 0 ≤ x ∧ x ≤ 255)
    (hsm : Sl w sm (u8s ms)) (hlm : ms.length ≤ 9223372036854775807) (hcapm : ms.length ≤ capm) (hcapm2 : capm ≤ 9223372036854775807) (hrm : ∀ x ∈ ms, 0 ≤ x ∧ x ≤ 255) :
    Calls Try.prog 8 #[.slice s xs.length cap, .slice sm ms.length capm] w fun e w' => e = .returned (.bool true) ∧ Below w.heap.size w w' := by
  clear hsm hrm hcapm hcapm2
  by_cases hc : xs.length ≤ 1048576
  · by_cases hm : ms.length ≤ 1048576
    · have HD := Lib.hid (DrawBuildBdd_any s cap xs w hs hc hcap hcap2 hr)
      clear hs hr
      go_enter Try.func8, Try.ntmps8
      go_upto_region 4 with (go_at_call 34; (with_reducible refine HD.out.mono ?_); rintro e w1 ⟨C, i, vn, vg, vo, rfl, h1, h2, h3, h4⟩; obtain ⟨sn, cn, rfl⟩ := own_shape h1.n; obtain ⟨sg, cg, rfl⟩ := own_shape h1.g; obtain ⟨so, co, rfl⟩ := own_shape h1.o; have H1 := Lib.hid (And.intro h1 h4); obtain ⟨l1, l2, l3, l4, l5⟩ := h2; obtain ⟨i1, i2⟩ := h3; clear h1 h4)
      obtain ⟨B, hB⟩ : ∃ B, B = w1.heap.size := ⟨_, rfl⟩
      have hk := blk_new w1 (.cells #[.int .i64 C.inp, .slice sn C.next.length cn, .slice sg C.gates.length cg, .slice so C.outs.length co] 44)
      have hbb := below_alloc w1 (.cells #[.int .i64 C.inp, .slice sn C.next.length cn, .slice sg C.gates.length cg, .slice so C.outs.length co] 44)
      have hV : CirV (w1.alloc (.cells #[.int .i64 C.inp, .slice sn C.next.length cn, .slice sg C.gates.length cg, .slice so C.outs.length co] 44)) (.agg #[.int .i64 C.inp, .slice sn C.next.length cn, .slice sg C.gates.length cg, .slice so C.outs.length co]) C :=
        ⟨_, _, _, _, _, _, rfl, own_sl (own_below H1.out.1.n hbb), own_sl (own_below H1.out.1.g hbb), own_sl (own_below H1.out.1.o hbb), by omega, by omega, by omega⟩
      have hgs := own_sl (own_below H1.out.1.g hbb)
      have hbw := H1.out.2.trans (hbb.mono H1.out.2.size)
      rw [← hB] at hk
      rw [← hB]
      clear hbb hB H1
      revert hV hgs hbw hk
      generalize w1.alloc (.cells #[.int .i64 C.inp, .slice sn C.next.length cn, .slice sg C.gates.length cg, .slice so C.outs.length co] 44) = W1
      intro hk hV hgs hbw
      have HC : Hid (∀ W, Below W1.heap.size W1 W → CirV W (.agg #[.int .i64 C.inp, .slice sn C.next.length cn, .slice sg C.gates.length cg, .slice so C.outs.length co]) C ∧ Sl W sg (gcells C.gates) ∧ (∀ o, W.cell? ⟨B, o, none⟩ = #[Value.int .i64 C.inp, .slice sn C.next.length cn, .slice sg C.gates.length cg, .slice so C.outs.length co][o]?) ∧ Below w.heap.size w W) := fun W hW => ⟨hV.mono hW, hgs.mono hW, (blk_all (blk_below hW (blk_lt hk) hk)).1, hbw.trans (hW.mono hbw.size)⟩
      clear hV hgs hbw hk
      have cb := (HC.out _ (Below.refl _ _)).2.2.1
      obtain ⟨d, hd⟩ : ∃ d, d = bdR C i := ⟨_, rfl⟩
      have hdl : d.nodes.length ≤ 200 := by rw [hd]; exact bdR_len C i
      have hdr : 0 ≤ d.root ∧ d.root ≤ 200 := by rw [hd]; exact bdR_root C i
      obtain ⟨hdr1, hdr2⟩ := hdr
      have HDD := Lib.hid hd
      clear hd
      by_cases hok : tsOk C i
      · have HT : Hid (decide (tsOk C i) = true) := decide_eq_true hok
        have hvB := hok.1
        have hval := C.validB_iff.1 hvB
        obtain ⟨q1, q2, q3, q4, q5⟩ := id hval.lim
        obtain ⟨n1, n2⟩ := asgN_le2 hval
        obtain ⟨ni, hni⟩ : ∃ ni : Nat, C.inp = ni := ⟨C.inp.toNat, by omega⟩
        obtain ⟨N, hN⟩ : ∃ N, N = asgN C := ⟨_, rfl⟩
        rw [← hN] at n1 n2
        have n4 : ni ≤ 4 := by omega
        have hi0 := hok.2
        have hwp : wrap64 (2 ^ (ni + C.next.length)) = (N : Int) := by rw [wrap_pow (by omega), hN]; unfold asgN; rw [hni]; simp
        have hto : ((ni : Int) + (C.next.length : Int)).toNat = ni + C.next.length := by omega
        have eV : C.vars = 1 + C.inp + C.next.length + C.gates.length := by unfold Cir.vars; rfl
        obtain ⟨V, hV⟩ : ∃ V : Nat, C.vars = V := ⟨C.vars.toNat, by omega⟩
        have v1 : 1 ≤ V := by omega
        have v22 : V ≤ 22 := by omega
        have HV := Lib.hid hV
        have htm : ((ms.length : Int)).tmod (2 * (V : Int)) = ((ms.length % (2 * V) : Nat) : Int) := by
          rw [Int.tmod_eq_emod_of_nonneg (by omega)]
          have : ((2 * V : Nat) : Int) = 2 * (V : Int) := by omega
          rw [← this]; exact (Int.natCast_emod _ _).symm
        obtain ⟨j, hj⟩ : ∃ j, j = ms.length % (2 * V) := ⟨_, rfl⟩
        rw [← hj] at htm
        have hjl : j < 2 * V := by rw [hj]; exact Nat.mod_lt _ (by omega)
        have j44 : j ≤ 44 := by omega
        obtain ⟨d', hd'⟩ : ∃ d', d' = bdR C j := ⟨_, rfl⟩
        have hdl' : d'.nodes.length ≤ 200 := by rw [hd']; exact bdR_len C j
        have hdr' : 0 ≤ d'.root ∧ d'.root ≤ 200 := by rw [hd']; exact bdR_root C j
        obtain ⟨hdr3, hdr4⟩ := hdr'
        have hokj : tsOk C (j : Int) := ⟨hvB, by unfold litP; omega⟩
        have hiff : eqAll (litF C i) (litF C j) N = true ↔ d = d' := by
          rw [HDD.out, hd', bdR_yes hok, bdR_yes hokj, bdK_iff _ _ (by omega)]
          rw [hN]; unfold eqAll asgN
          simp
        have HJ := Lib.hid (And.intro hd' (And.intro hokj hiff))
        clear hj hd' hV eV hokj hiff hjl
        have HX := Lib.hid (And.intro hval (And.intro hni (And.intro hN (And.intro hok (And.intro hvB hi0)))))
        rw [hni] at HC ⊢
        clear hok hval hni hN hvB hi0 l1 l2 q1 q2
        have hd0 := (Below.refl W1.heap.size W1).drew
        refine wp_region_T (fun w' => ∀ o, w'.cell? ⟨B, o, none⟩ = #[Value.int .i64 ni, .slice sn C.next.length cn, .slice sg C.gates.length cg, .slice so C.outs.length co][o]?) (.q 0 (.q 1 (.q 3 (.q 4 (.e 2 (.e 5 (.e 6 (.q 7 .nil)))))))) (by kernel_rfl) (by kernel_rfl) (by kernel_rfl) (HC.out _ hd0).2.2.1 ?_
        repeat (first | (refine ordt_s (o := ?_) ?_ ?_ ?_; rotate_left 1; (focus ((simp only [List.getElem?_toArray, List.getElem?_cons_succ, List.getElem?_cons_zero]) <;> rfl)); (focus rfl); simp only [Act.put, List.setIfInBounds_toArray, List.set_cons_zero, List.set_cons_succ]) | (refine ordt_q (o := ?_) (v := ?_) ?_ ?_ ?_ ?_; rotate_left 2; (focus ((simp only [List.getElem?_toArray, List.getElem?_cons_succ, List.getElem?_cons_zero]) <;> rfl)); (focus rfl); (focus (intro w' hS; (try dsimp only at hS); go_split_ands; go_simp; (try (with_reducible rfl)))); simp only [Act.put, List.setIfInBounds_toArray, List.set_cons_zero, List.set_cons_succ]))
        refine ordt_e ?_
        (refine op_e (o := ?_) ?_ ?_ (fun K hK => ?_); rotate_left 1; (focus ((simp only [List.getElem?_toArray, List.getElem?_cons_succ, List.getElem?_cons_zero]) <;> rfl)); (focus rfl); go_simp)
        refine (BuildBdd_i _ _ _ _ (HC.out _ hd0).1 ⟨by omega, by omega⟩).mono ?_
        rintro e w2 ⟨s2, c2, rfl, h2, hq⟩
        rw [← HDD.out] at h2 ⊢
        have hq2 := hd0.trans hq
        refine hK.out _ _ (HC.out _ hq2).2.2.1 ?_
        clear hK K
        have H2 := Lib.hid (And.intro hq2 (own_sl h2))
        clear hq2 h2 hq hd0
        (try simp only [Act.put, List.setIfInBounds_toArray, List.set_cons_zero, List.set_cons_succ])
        refine ordt_e ?_
        (refine op_e (o := ?_) ?_ ?_ (fun K hK => ?_); rotate_left 1; (focus ((simp only [List.getElem?_toArray, List.getElem?_cons_succ, List.getElem?_cons_zero]) <;> rfl)); (focus rfl); go_simp)
        refine (BuildBdd_s _ _ _ _ (HC.out _ H2.out.1).1 ⟨by omega, by omega⟩).mono ?_
        rintro e w3 ⟨s3, c3, rfl, h3, hq⟩
        rw [← HDD.out] at h3 ⊢
        have hq3 := H2.out.1.trans (hq.mono H2.out.1.size)
        refine hK.out _ _ (HC.out _ hq3).2.2.1 ?_
        clear hK K
        have H3 := Lib.hid (And.intro hq3 (And.intro h3 (H2.out.2.mono hq)))
        clear hq3 h3 hq
        (try simp only [Act.put, List.setIfInBounds_toArray, List.set_cons_zero, List.set_cons_succ])
        refine ordt_e ?_
        (refine op_e (o := ?_) ?_ ?_ (fun K hK => ?_); rotate_left 1; (focus ((simp only [List.getElem?_toArray, List.getElem?_cons_succ, List.getElem?_cons_zero]) <;> rfl)); (focus rfl); go_simp)
        refine (sameBdd_any s2 s3 c2 c3 d d true _ H3.out.2.2 H3.out.2.1 (by omega) (by omega) ⟨by omega, by omega⟩ ⟨by omega, by omega⟩ ⟨fun _ => rfl, fun _ => rfl⟩).mono ?_
        rintro e w4 ⟨rfl, hq⟩
        have hq4 := H3.out.1.trans (hq.mono H3.out.1.size)
        refine hK.out _ _ (HC.out _ hq4).2.2.1 ?_
        clear hK K hq
        have H4 := Lib.hid hq4
        clear hq4 H3 H2
        (try simp only [Act.put, List.setIfInBounds_toArray, List.set_cons_zero, List.set_cons_succ])
        repeat (first | (refine ordt_s (o := ?_) ?_ ?_ ?_; rotate_left 1; (focus ((simp only [List.getElem?_toArray, List.getElem?_cons_succ, List.getElem?_cons_zero]) <;> rfl)); (focus rfl); simp only [Act.put, List.setIfInBounds_toArray, List.set_cons_zero, List.set_cons_succ]) | (refine ordt_q (o := ?_) (v := ?_) ?_ ?_ ?_ ?_; rotate_left 2; (focus ((simp only [List.getElem?_toArray, List.getElem?_cons_succ, List.getElem?_cons_zero]) <;> rfl)); (focus rfl); (focus (intro w' hS; (try dsimp only at hS); go_split_ands; go_simp; (try (with_reducible rfl)))); simp only [Act.put, List.setIfInBounds_toArray, List.set_cons_zero, List.set_cons_succ]))
        refine ordt_nil ?_
        have cB := (HC.out _ H4.out).2.2.1
        go_upto_region 9 with (first | (go_at_call 36; ((with_reducible refine (litExists_any _ C _ _ (HC.out _ H4.out).1 ⟨by omega, by omega⟩).mono ?_); rintro e w5 ⟨rfl, hq⟩; rw [HT.out]; have H5 := Lib.hid (H4.out.trans (hq.mono H4.out.size)); clear hq cB; have cB := (HC.out _ H5.out).2.2.1)) | (go_at_call 38; ((with_reducible refine (VarCount_any _ C _ (HC.out _ H5.out).1 HX.out.2.2.2.2.1).mono ?_); rintro e w6 ⟨rfl, hq⟩; rw [HV.out]; have H6 := Lib.hid (H5.out.trans (hq.mono H5.out.size)); clear hq cB; have cB := (HC.out _ H6.out).2.2.1)))
        go_upto_region 11 with fail
        clear cB
        go_loopw [8, 9] (fun v8 v9 wr => ∃ k : Nat, k ≤ N ∧ v9 = .int .i64 k ∧ v8 = .bool (eqAll (litF C i) (litF C j) k) ∧ Below W1.heap.size W1 wr) (fun _ v9 _ => N - (intOf v9).toNat)
        case atStart => exact ⟨0, Nat.zero_le _, rfl, rfl, H6.out⟩
        case round =>
          obtain ⟨k, hk, rfl, rfl, hbl⟩ := hrel
          have cB := (HC.out _ hbl).2.2.1
          have HR := Lib.hid hbl
          clear hbl
          obtain ⟨E, hE⟩ : ∃ E, E = eqAll (litF C i) (litF C j) k := ⟨_, rfl⟩
          have hE2 := eqAll_succ (litF C i) (litF C j) k
          rw [← hE] at hE2 ⊢
          have HE := Lib.hid (And.intro hE hE2)
          clear hE hE2
          by_cases hlt : k < N
          · obtain ⟨y, hy⟩ : ∃ y, y = litF C i k := ⟨_, rfl⟩
            obtain ⟨z, hz⟩ : ∃ z, z = litF C j k := ⟨_, rfl⟩
            have HY := Lib.hid (And.intro hy hz)
            have k1000 : (k : Int) ≤ 1000 := Int.ofNat_le.2 (show k ≤ 1000 from Nat.le_trans (Nat.le_of_lt hlt) (Nat.le_trans n2 (by decide)))
            clear hy hz
            cases E
            · go_upto_region 13 with fail
              clear cB hwp hto htm
              go_quiet (fail)
              go_wp2_with fail
              go_roundw
              case rel => exact ⟨k + 1, by omega, by go_num, by rw [HE.out.2]; rfl, HR.out.trans ((below_n (Below.refl _ _) _))⟩
              case measure => simp [intOf]; omega
            · go_upto_region 13 with fail
              clear cB hwp hto htm
              have hd0 := HR.out.drew
              refine wp_region_T (fun w' => ∀ o, w'.cell? ⟨B, o, none⟩ = #[Value.int .i64 ni, .slice sn C.next.length cn, .slice sg C.gates.length cg, .slice so C.outs.length co][o]?) (.q 0 (.q 1 (.q 2 (.q 3 (.q 4 (.q 6 (.q 7 (.q 8 (.e 5 (.e 9 (.q 10 (.q 11 (.q 12 .nil))))))))))))) (by kernel_rfl) (by kernel_rfl) (by kernel_rfl) (HC.out _ hd0).2.2.1 ?_
              repeat (first | (refine ordt_s (o := ?_) ?_ ?_ ?_; rotate_left 1; (focus ((simp only [List.getElem?_toArray, List.getElem?_cons_succ, List.getElem?_cons_zero]) <;> rfl)); (focus rfl); simp only [Act.put, List.setIfInBounds_toArray, List.set_cons_zero, List.set_cons_succ]) | (refine ordt_q (o := ?_) (v := ?_) ?_ ?_ ?_ ?_; rotate_left 2; (focus ((simp only [List.getElem?_toArray, List.getElem?_cons_succ, List.getElem?_cons_zero]) <;> rfl)); (focus rfl); (focus (intro w' hS; (try dsimp only at hS); go_split_ands; go_simp; (try (with_reducible rfl)))); simp only [Act.put, List.setIfInBounds_toArray, List.set_cons_zero, List.set_cons_succ]))
              refine ordt_e ?_
              (refine op_e (o := ?_) ?_ ?_ (fun K hK => ?_); rotate_left 1; (focus ((simp only [List.getElem?_toArray, List.getElem?_cons_succ, List.getElem?_cons_zero]) <;> rfl)); (focus rfl); go_simp)
              refine (litValueL_any C sn sg so cn cg co ni HX.out.2.1 i (k : Int) _ (by rw [HX.out.2.1]; exact (HC.out _ hd0).1) (HC.out _ hd0).2.1 HX.out.1 HX.out.2.2.2.2.2.1 (by have := HX.out.2.2.2.2.2; unfold litP at this; omega) (Int.natCast_nonneg k) k1000).mono ?_
              rintro e wf ⟨rfl, hq⟩
              rw [show litB (evalV C (k : Int) (-1) false) i = y from HY.out.1.symm]
              have hqf := hd0.trans (hq.mono hd0.size)
              refine hK.out _ _ (HC.out _ hqf).2.2.1 ?_
              clear hK K hq hd0
              have HF := Lib.hid hqf
              clear hqf
              (try simp only [Act.put, List.setIfInBounds_toArray, List.set_cons_zero, List.set_cons_succ])
              refine ordt_e ?_
              (refine op_e (o := ?_) ?_ ?_ (fun K hK => ?_); rotate_left 1; (focus ((simp only [List.getElem?_toArray, List.getElem?_cons_succ, List.getElem?_cons_zero]) <;> rfl)); (focus rfl); go_simp)
              refine (litValueL_any C sn sg so cn cg co ni HX.out.2.1 (j : Int) (k : Int) _ (by rw [HX.out.2.1]; exact (HC.out _ HF.out).1) (HC.out _ HF.out).2.1 HX.out.1 (by omega) (by have := HJ.out.2.1.2; unfold litP at this; omega) (Int.natCast_nonneg k) k1000).mono ?_
              rintro e wg ⟨rfl, hq⟩
              rw [show litB (evalV C (k : Int) (-1) false) (j : Int) = z from HY.out.2.symm]
              have hqg := HF.out.trans (hq.mono HF.out.size)
              refine hK.out _ _ (HC.out _ hqg).2.2.1 ?_
              clear hK K hq
              have HG := Lib.hid hqg
              clear hqg
              (try simp only [Act.put, List.setIfInBounds_toArray, List.set_cons_zero, List.set_cons_succ])
              repeat (first | (refine ordt_s (o := ?_) ?_ ?_ ?_; rotate_left 1; (focus ((simp only [List.getElem?_toArray, List.getElem?_cons_succ, List.getElem?_cons_zero]) <;> rfl)); (focus rfl); simp only [Act.put, List.setIfInBounds_toArray, List.set_cons_zero, List.set_cons_succ]) | (refine ordt_q (o := ?_) (v := ?_) ?_ ?_ ?_ ?_; rotate_left 2; (focus ((simp only [List.getElem?_toArray, List.getElem?_cons_succ, List.getElem?_cons_zero]) <;> rfl)); (focus rfl); (focus (intro w' hS; (try dsimp only at hS); go_split_ands; go_simp; (try (with_reducible rfl)))); simp only [Act.put, List.setIfInBounds_toArray, List.set_cons_zero, List.set_cons_succ]))
              refine ordt_nil ?_
              go_wp2_with fail
              go_roundw
              case rel => exact ⟨k + 1, by omega, by go_num, by rw [HE.out.2, ← HY.out.1, ← HY.out.2]; cases y <;> cases z <;> rfl, HG.out⟩
              case measure => simp [intOf]; omega
          · obtain rfl : k = N := Nat.le_antisymm hk (Nat.le_of_not_lt hlt)
            go_upto_region 14 with fail
            clear cB hwp hto htm
            have hd0 := HR.out.drew
            refine wp_region_T (fun w' => ∀ o, w'.cell? ⟨B, o, none⟩ = #[Value.int .i64 ni, .slice sn C.next.length cn, .slice sg C.gates.length cg, .slice so C.outs.length co][o]?) (.q 0 (.q 1 (.q 3 (.q 4 (.q 7 (.e 2 (.e 5 (.e 6 (.q 8 (.q 9 .nil)))))))))) (by kernel_rfl) (by kernel_rfl) (by kernel_rfl) (HC.out _ hd0).2.2.1 ?_
            repeat (first | (refine ordt_s (o := ?_) ?_ ?_ ?_; rotate_left 1; (focus ((simp only [List.getElem?_toArray, List.getElem?_cons_succ, List.getElem?_cons_zero]) <;> rfl)); (focus rfl); simp only [Act.put, List.setIfInBounds_toArray, List.set_cons_zero, List.set_cons_succ]) | (refine ordt_q (o := ?_) (v := ?_) ?_ ?_ ?_ ?_; rotate_left 2; (focus ((simp only [List.getElem?_toArray, List.getElem?_cons_succ, List.getElem?_cons_zero]) <;> rfl)); (focus rfl); (focus (intro w' hS; (try dsimp only at hS); go_split_ands; go_simp; (try (with_reducible rfl)))); simp only [Act.put, List.setIfInBounds_toArray, List.set_cons_zero, List.set_cons_succ]))
            refine ordt_e ?_
            (refine op_e (o := ?_) ?_ ?_ (fun K hK => ?_); rotate_left 1; (focus ((simp only [List.getElem?_toArray, List.getElem?_cons_succ, List.getElem?_cons_zero]) <;> rfl)); (focus rfl); go_simp)
            refine (BuildBdd_i _ _ _ _ (HC.out _ hd0).1 ⟨by omega, by omega⟩).mono ?_
            rintro e w7 ⟨s7, c7, rfl, h7, hq⟩
            rw [← HDD.out] at h7 ⊢
            have hq7 := hd0.trans (hq.mono hd0.size)
            refine hK.out _ _ (HC.out _ hq7).2.2.1 ?_
            clear hK K hd0 hq
            have H7 := Lib.hid (And.intro hq7 (own_sl h7))
            clear hq7 h7
            (try simp only [Act.put, List.setIfInBounds_toArray, List.set_cons_zero, List.set_cons_succ])
            refine ordt_e ?_
            (refine op_e (o := ?_) ?_ ?_ (fun K hK => ?_); rotate_left 1; (focus ((simp only [List.getElem?_toArray, List.getElem?_cons_succ, List.getElem?_cons_zero]) <;> rfl)); (focus rfl); go_simp)
            refine (BuildBdd_i _ _ _ _ (HC.out _ H7.out.1).1 ⟨by omega, by omega⟩).mono ?_
            rintro e w8 ⟨s8, c8, rfl, h8, hq⟩
            rw [← HJ.out.1] at h8 ⊢
            have hq8 := H7.out.1.trans (hq.mono H7.out.1.size)
            refine hK.out _ _ (HC.out _ hq8).2.2.1 ?_
            clear hK K
            have H8 := Lib.hid (And.intro hq8 (And.intro (own_sl h8) (H7.out.2.mono hq)))
            clear hq8 h8 hq
            (try simp only [Act.put, List.setIfInBounds_toArray, List.set_cons_zero, List.set_cons_succ])
            refine ordt_e ?_
            (refine op_e (o := ?_) ?_ ?_ (fun K hK => ?_); rotate_left 1; (focus ((simp only [List.getElem?_toArray, List.getElem?_cons_succ, List.getElem?_cons_zero]) <;> rfl)); (focus rfl); go_simp)
            refine (sameBdd_any s7 s8 c7 c8 d d' E _ H8.out.2.2 H8.out.2.1 (by omega) (by omega) ⟨by omega, by omega⟩ ⟨by omega, by omega⟩ (by rw [HE.out.1]; exact HJ.out.2.2)).mono ?_
            rintro e w9 ⟨rfl, hq⟩
            have hq9 := H8.out.1.trans (hq.mono H8.out.1.size)
            refine hK.out _ _ (HC.out _ hq9).2.2.1 ?_
            clear hK K hq
            have H9 := Lib.hid hq9
            clear hq9
            (try simp only [Act.put, List.setIfInBounds_toArray, List.set_cons_zero, List.set_cons_succ])
            repeat (first | (refine ordt_s (o := ?_) ?_ ?_ ?_; rotate_left 1; (focus ((simp only [List.getElem?_toArray, List.getElem?_cons_succ, List.getElem?_cons_zero]) <;> rfl)); (focus rfl); simp only [Act.put, List.setIfInBounds_toArray, List.set_cons_zero, List.set_cons_succ]) | (refine ordt_q (o := ?_) (v := ?_) ?_ ?_ ?_ ?_; rotate_left 2; (focus ((simp only [List.getElem?_toArray, List.getElem?_cons_succ, List.getElem?_cons_zero]) <;> rfl)); (focus rfl); (focus (intro w' hS; (try dsimp only at hS); go_split_ands; go_simp; (try (with_reducible rfl)))); simp only [Act.put, List.setIfInBounds_toArray, List.set_cons_zero, List.set_cons_succ]))
            refine ordt_nil ?_
            cases E
            all_goals
              go_wp2_with fail
              go_ret
              exact ⟨rfl, (HC.out _ H9.out).2.2.2⟩
      · have HT : Hid (decide (tsOk C i) = false) := decide_eq_false hok
        clear hok
        have hd0 := (Below.refl W1.heap.size W1).drew
        refine wp_region_T (fun w' => ∀ o, w'.cell? ⟨B, o, none⟩ = #[Value.int .i64 C.inp, .slice sn C.next.length cn, .slice sg C.gates.length cg, .slice so C.outs.length co][o]?) (.q 0 (.q 1 (.q 3 (.q 4 (.e 2 (.e 5 (.e 6 (.q 7 .nil)))))))) (by kernel_rfl) (by kernel_rfl) (by kernel_rfl) (HC.out _ hd0).2.2.1 ?_
        repeat (first | (refine ordt_s (o := ?_) ?_ ?_ ?_; rotate_left 1; (focus ((simp only [List.getElem?_toArray, List.getElem?_cons_succ, List.getElem?_cons_zero]) <;> rfl)); (focus rfl); simp only [Act.put, List.setIfInBounds_toArray, List.set_cons_zero, List.set_cons_succ]) | (refine ordt_q (o := ?_) (v := ?_) ?_ ?_ ?_ ?_; rotate_left 2; (focus ((simp only [List.getElem?_toArray, List.getElem?_cons_succ, List.getElem?_cons_zero]) <;> rfl)); (focus rfl); (focus (intro w' hS; (try dsimp only at hS); go_split_ands; go_simp; (try (with_reducible rfl)))); simp only [Act.put, List.setIfInBounds_toArray, List.set_cons_zero, List.set_cons_succ]))
        refine ordt_e ?_
        (refine op_e (o := ?_) ?_ ?_ (fun K hK => ?_); rotate_left 1; (focus ((simp only [List.getElem?_toArray, List.getElem?_cons_succ, List.getElem?_cons_zero]) <;> rfl)); (focus rfl); go_simp)
        refine (BuildBdd_i _ _ _ _ (HC.out _ hd0).1 ⟨by omega, by omega⟩).mono ?_
        rintro e w2 ⟨s2, c2, rfl, h2, hq⟩
        rw [← HDD.out] at h2 ⊢
        have hq2 := hd0.trans hq
        refine hK.out _ _ (HC.out _ hq2).2.2.1 ?_
        clear hK K
        have H2 := Lib.hid (And.intro hq2 (own_sl h2))
        clear hq2 h2 hq hd0
        (try simp only [Act.put, List.setIfInBounds_toArray, List.set_cons_zero, List.set_cons_succ])
        refine ordt_e ?_
        (refine op_e (o := ?_) ?_ ?_ (fun K hK => ?_); rotate_left 1; (focus ((simp only [List.getElem?_toArray, List.getElem?_cons_succ, List.getElem?_cons_zero]) <;> rfl)); (focus rfl); go_simp)
        refine (BuildBdd_s _ _ _ _ (HC.out _ H2.out.1).1 ⟨by omega, by omega⟩).mono ?_
        rintro e w3 ⟨s3, c3, rfl, h3, hq⟩
        rw [← HDD.out] at h3 ⊢
        have hq3 := H2.out.1.trans (hq.mono H2.out.1.size)
        refine hK.out _ _ (HC.out _ hq3).2.2.1 ?_
        clear hK K
        have H3 := Lib.hid (And.intro hq3 (And.intro h3 (H2.out.2.mono hq)))
        clear hq3 h3 hq
        (try simp only [Act.put, List.setIfInBounds_toArray, List.set_cons_zero, List.set_cons_succ])
        refine ordt_e ?_
        (refine op_e (o := ?_) ?_ ?_ (fun K hK => ?_); rotate_left 1; (focus ((simp only [List.getElem?_toArray, List.getElem?_cons_succ, List.getElem?_cons_zero]) <;> rfl)); (focus rfl); go_simp)
        refine (sameBdd_any s2 s3 c2 c3 d d true _ H3.out.2.2 H3.out.2.1 (by omega) (by omega) ⟨by omega, by omega⟩ ⟨by omega, by omega⟩ ⟨fun _ => rfl, fun _ => rfl⟩).mono ?_
        rintro e w4 ⟨rfl, hq⟩
        have hq4 := H3.out.1.trans (hq.mono H3.out.1.size)
        refine hK.out _ _ (HC.out _ hq4).2.2.1 ?_
        clear hK K hq
        have H4 := Lib.hid hq4
        clear hq4 H3 H2
        (try simp only [Act.put, List.setIfInBounds_toArray, List.set_cons_zero, List.set_cons_succ])
        repeat (first | (refine ordt_s (o := ?_) ?_ ?_ ?_; rotate_left 1; (focus ((simp only [List.getElem?_toArray, List.getElem?_cons_succ, List.getElem?_cons_zero]) <;> rfl)); (focus rfl); simp only [Act.put, List.setIfInBounds_toArray, List.set_cons_zero, List.set_cons_succ]) | (refine ordt_q (o := ?_) (v := ?_) ?_ ?_ ?_ ?_; rotate_left 2; (focus ((simp only [List.getElem?_toArray, List.getElem?_cons_succ, List.getElem?_cons_zero]) <;> rfl)); (focus rfl); (focus (intro w' hS; (try dsimp only at hS); go_split_ands; go_simp; (try (with_reducible rfl)))); simp only [Act.put, List.setIfInBounds_toArray, List.set_cons_zero, List.set_cons_succ]))
        refine ordt_nil ?_
        have cB := (HC.out _ H4.out).2.2.1
        go_wp2_with (first | (go_at_call 36; ((with_reducible refine (litExists_any _ C _ _ (HC.out _ H4.out).1 ⟨by omega, by omega⟩).mono ?_); rintro e w5 ⟨rfl, hq⟩; rw [HT.out]; have H5 := Lib.hid (H4.out.trans (hq.mono H4.out.size)); clear hq cB; have cB := (HC.out _ H5.out).2.2.1)) | (go_at_call 21; ((with_reducible refine (alive_any _).mono ?_); rintro e w7 ⟨rfl, hq⟩; have HA := Lib.hid (H5.out.trans (hq.mono H5.out.size)); clear hq)))
        go_ret
        exact ⟨rfl, (HC.out _ HA.out).2.2.2⟩
    · clear hs hr
      go_enter Try.func8, Try.ntmps8
      go_wp2
      go_ret
      exact ⟨rfl, Below.refl _ _⟩
  · clear hs hr
    go_enter Try.func8, Try.ntmps8
    go_wp2
    go_ret
    exact ⟨rfl, Below.refl _ _⟩

end Go.Proofs.Ytddmgphlhfilnaa
