import Derived.Test.YtddmgphlhfilnaaBF
import Derived.Test.YtddmgphlhfilnaaBH
import Derived.Test.YtddmgphlhfilnaaBJ
import Derived.Test.YtddmgphlhfilnaaCC
import Derived.Test.YtddmgphlhfilnaaZ2
import Derived.Test.YtddmgphlhfilnaaZ8
namespace Go.Proofs.Ytddmgphlhfilnaa
set_option linter.unusedVariables false
set_option linter.unusedSimpArgs false
open Go.RowKit

/-! The law FnBuildBdd. -/

set_option maxRecDepth 100000 in
set_option maxHeartbeats 3200000 in
theorem FnBuildBdd_any (s : Option Addr) (cap : Nat) (xs : List Int) (w : World) (hs : Sl w s (u8s xs)) (hl : xs.length ≤ 9223372036854775807) (hcap : xs.length ≤ cap) (hcap2 : cap ≤ 9223372036854775807) (hr : ∀ x ∈ xs, 0 ≤ x ∧ x ≤ 255) :
    Calls Try.prog 7 #[.slice s xs.length cap] w fun e w' => e = .returned (.bool true) ∧ Below w.heap.size w w' := by
  by_cases hc : xs.length ≤ 1048576
  · have HD := Lib.hid (DrawBuildBdd_any s cap xs w hs hc hcap hcap2 hr)
    clear hs hr
    go_enter Try.func7, Try.ntmps7
    go_upto_region 4 with (go_at_call 34; (with_reducible refine HD.out.mono ?_); rintro e w1 ⟨C, i, vn, vg, vo, rfl, h1, h2, h3, h4⟩; obtain ⟨sn, cn, rfl⟩ := own_shape h1.n; obtain ⟨sg, cg, rfl⟩ := own_shape h1.g; obtain ⟨so, co, rfl⟩ := own_shape h1.o; have H1 := Lib.hid (And.intro h1 h4); obtain ⟨l1, l2, l3, l4, l5⟩ := h2; obtain ⟨i1, i2⟩ := h3; clear h1 h4)
    obtain ⟨B, hB⟩ : ∃ B, B = w1.heap.size := ⟨_, rfl⟩
    have hk := blk_new w1 (.cells #[.int .i64 C.inp, .slice sn C.next.length cn, .slice sg C.gates.length cg, .slice so C.outs.length co] 44)
    have hbb := below_alloc w1 (.cells #[.int .i64 C.inp, .slice sn C.next.length cn, .slice sg C.gates.length cg, .slice so C.outs.length co] 44)
    have hV : CirV (w1.alloc (.cells #[.int .i64 C.inp, .slice sn C.next.length cn, .slice sg C.gates.length cg, .slice so C.outs.length co] 44)) (.agg #[.int .i64 C.inp, .slice sn C.next.length cn, .slice sg C.gates.length cg, .slice so C.outs.length co]) C :=
      ⟨_, _, _, _, _, _, rfl, own_sl (own_below H1.out.1.n hbb), own_sl (own_below H1.out.1.g hbb), own_sl (own_below H1.out.1.o hbb), by omega, by omega, by omega⟩
    have hgs := own_sl (own_below H1.out.1.g hbb)
    have hbw := H1.out.2.trans (hbb.mono H1.out.2.size)
    rw [← hB] at hk
    rw [← hB]
    clear hbb hB H1
    revert hV hgs hbw hk
    generalize w1.alloc (.cells #[.int .i64 C.inp, .slice sn C.next.length cn, .slice sg C.gates.length cg, .slice so C.outs.length co] 44) = W1
    intro hk hV hgs hbw
    have HC : Hid (∀ W, Below W1.heap.size W1 W → CirV W (.agg #[.int .i64 C.inp, .slice sn C.next.length cn, .slice sg C.gates.length cg, .slice so C.outs.length co]) C ∧ Sl W sg (gcells C.gates) ∧ (∀ o, W.cell? ⟨B, o, none⟩ = #[Value.int .i64 C.inp, .slice sn C.next.length cn, .slice sg C.gates.length cg, .slice so C.outs.length co][o]?) ∧ Below w.heap.size w W) := fun W hW => ⟨hV.mono hW, hgs.mono hW, (blk_all (blk_below hW (blk_lt hk) hk)).1, hbw.trans (hW.mono hbw.size)⟩
    clear hV hgs hbw hk
    have cb := (HC.out _ (Below.refl _ _)).2.2.1
    obtain ⟨d, hd⟩ : ∃ d, d = bdR C i := ⟨_, rfl⟩
    have hdl : d.nodes.length ≤ 200 := by rw [hd]; exact bdR_len C i
    have hdr : 0 ≤ d.root ∧ d.root ≤ 200 := by rw [hd]; exact bdR_root C i
    obtain ⟨hdr1, hdr2⟩ := hdr
    have HDD := Lib.hid hd
    clear hd
    go_upto_region 5 with (go_at_call 28; ((with_reducible refine (BuildBdd_i _ _ _ _ (HC.out _ (Below.refl _ _)).1 ⟨by omega, by omega⟩).mono ?_); rintro e w2 ⟨sb, cb2, rfl, h1, hq⟩; rw [← HDD.out] at h1 ⊢; have H2 := Lib.hid (And.intro h1 hq); clear h1 hq cb))
    obtain ⟨D, hD⟩ : ∃ D, D = w2.heap.size := ⟨_, rfl⟩
    have hk := blk_new w2 (.cells #[.slice sb d.nodes.length cb2, .int .i64 d.root] 25)
    have hbb := below_alloc w2 (.cells #[.slice sb d.nodes.length cb2, .int .i64 d.root] 25)
    have hV := bdV_own (own_below H2.out.1 hbb) (by omega)
    have hbw := H2.out.2.trans (hbb.mono H2.out.2.size)
    have hsb := own_sl (own_below H2.out.1 hbb)
    rw [← hD] at hk
    rw [← hD]
    clear hbb hD H2
    revert hV hbw hk hsb
    generalize w2.alloc (.cells #[.slice sb d.nodes.length cb2, .int .i64 d.root] 25) = W2
    intro hk hV hbw hsb
    have HB : Hid (∀ W, Below W2.heap.size W2 W → (∀ o, W.cell? ⟨B, o, none⟩ = #[Value.int .i64 C.inp, .slice sn C.next.length cn, .slice sg C.gates.length cg, .slice so C.outs.length co][o]?) ∧ (∀ o, W.cell? ⟨D, o, none⟩ = #[Value.slice sb d.nodes.length cb2, .int .i64 d.root][o]?) ∧ BdV W (.agg #[.slice sb d.nodes.length cb2, .int .i64 d.root]) d ∧ Sl W sb (ncells d.nodes) ∧ Below W1.heap.size W1 W) := fun W hW => ⟨(HC.out _ (hbw.trans (hW.mono hbw.size))).2.2.1, (blk_all (blk_below hW (blk_lt hk) hk)).1, hV.mono hW, hsb.mono hW, hbw.trans (hW.mono hbw.size)⟩
    clear hV hbw hk hsb
    by_cases hok : tsOk C i
    · have HT : Hid (decide (tsOk C i) = true) := decide_eq_true hok
      have hvB := hok.1
      have hval := C.validB_iff.1 hvB
      obtain ⟨q1, q2, q3, q4, q5⟩ := id hval.lim
      obtain ⟨n1, n2⟩ := asgN_le2 hval
      obtain ⟨ni, hni⟩ : ∃ ni : Nat, C.inp = ni := ⟨C.inp.toNat, by omega⟩
      obtain ⟨N, hN⟩ : ∃ N, N = asgN C := ⟨_, rfl⟩
      rw [← hN] at n1 n2
      have n4 : ni ≤ 4 := by omega
      have hi0 := hok.2
      have hwp : wrap64 (2 ^ (ni + C.next.length)) = (N : Int) := by rw [wrap_pow (by omega), hN]; unfold asgN; rw [hni]; simp
      have hto : ((ni : Int) + (C.next.length : Int)).toNat = ni + C.next.length := by omega
      have HX := Lib.hid (And.intro hval (And.intro hni (And.intro hN (And.intro hok (And.intro hvB hi0)))))
      rw [hni] at HC HB ⊢
      clear hok hval hni hN hvB hi0 l1 l2 q1 q2
      have hd0 := (Below.refl W2.heap.size W2).drew
      refine wp_region_T (fun w' => (∀ o, w'.cell? ⟨B, o, none⟩ = #[Value.int .i64 ni, .slice sn C.next.length cn, .slice sg C.gates.length cg, .slice so C.outs.length co][o]?) ∧ (∀ o, w'.cell? ⟨D, o, none⟩ = #[Value.slice sb d.nodes.length cb2, .int .i64 d.root][o]?)) (.q 0 (.q 1 (.q 2 (.e 3 (.e 4 (.q 5 .nil)))))) (by kernel_rfl) (by kernel_rfl) (by kernel_rfl) ⟨(HB.out _ hd0).1, (HB.out _ hd0).2.1⟩ ?_
      repeat (first | (refine ordt_s (o := ?_) ?_ ?_ ?_; rotate_left 1; (focus ((simp only [List.getElem?_toArray, List.getElem?_cons_succ, List.getElem?_cons_zero]) <;> rfl)); (focus rfl); simp only [Act.put, List.setIfInBounds_toArray, List.set_cons_zero, List.set_cons_succ]) | (refine ordt_q (o := ?_) (v := ?_) ?_ ?_ ?_ ?_; rotate_left 2; (focus ((simp only [List.getElem?_toArray, List.getElem?_cons_succ, List.getElem?_cons_zero]) <;> rfl)); (focus rfl); (focus (intro w' hS; (try dsimp only at hS); go_split_ands; go_simp; (try (with_reducible rfl)))); simp only [Act.put, List.setIfInBounds_toArray, List.set_cons_zero, List.set_cons_succ]))
      refine ordt_e ?_
      (refine op_e (o := ?_) ?_ ?_ (fun K hK => ?_); rotate_left 1; (focus ((simp only [List.getElem?_toArray, List.getElem?_cons_succ, List.getElem?_cons_zero]) <;> rfl)); (focus rfl); go_simp)
      refine (BuildBdd_s _ _ _ _ (HC.out _ (HB.out _ hd0).2.2.2.2).1 ⟨by omega, by omega⟩).mono ?_
      rintro e w3 ⟨s3, c3, rfl, h3, hq⟩
      rw [← HDD.out] at h3 ⊢
      have hq3 := hd0.trans hq
      refine hK.out _ _ ⟨(HB.out _ hq3).1, (HB.out _ hq3).2.1⟩ ?_
      clear hK K
      have H3 := Lib.hid (And.intro hq3 h3)
      clear hq3 h3 hq hd0
      (try simp only [Act.put, List.setIfInBounds_toArray, List.set_cons_zero, List.set_cons_succ])
      refine ordt_e ?_
      (refine op_e (o := ?_) ?_ ?_ (fun K hK => ?_); rotate_left 1; (focus ((simp only [List.getElem?_toArray, List.getElem?_cons_succ, List.getElem?_cons_zero]) <;> rfl)); (focus rfl); go_simp)
      refine (sameBdd_any sb s3 cb2 c3 d d true _ (HB.out _ H3.out.1).2.2.2.1 H3.out.2 (by omega) (by omega) ⟨by omega, by omega⟩ ⟨by omega, by omega⟩ ⟨fun _ => rfl, fun _ => rfl⟩).mono ?_
      rintro e w4 ⟨rfl, hq⟩
      have hq4 := H3.out.1.trans (hq.mono H3.out.1.size)
      refine hK.out _ _ ⟨(HB.out _ hq4).1, (HB.out _ hq4).2.1⟩ ?_
      clear hK K hq
      have H4 := Lib.hid hq4
      clear hq4 H3
      (try simp only [Act.put, List.setIfInBounds_toArray, List.set_cons_zero, List.set_cons_succ])
      repeat (first | (refine ordt_s (o := ?_) ?_ ?_ ?_; rotate_left 1; (focus ((simp only [List.getElem?_toArray, List.getElem?_cons_succ, List.getElem?_cons_zero]) <;> rfl)); (focus rfl); simp only [Act.put, List.setIfInBounds_toArray, List.set_cons_zero, List.set_cons_succ]) | (refine ordt_q (o := ?_) (v := ?_) ?_ ?_ ?_ ?_; rotate_left 2; (focus ((simp only [List.getElem?_toArray, List.getElem?_cons_succ, List.getElem?_cons_zero]) <;> rfl)); (focus rfl); (focus (intro w' hS; (try dsimp only at hS); go_split_ands; go_simp; (try (with_reducible rfl)))); simp only [Act.put, List.setIfInBounds_toArray, List.set_cons_zero, List.set_cons_succ]))
      refine ordt_nil ?_
      have cB := (HB.out _ H4.out).1
      have cD := (HB.out _ H4.out).2.1
      go_upto_region 10 with (first | (go_at_call 36; ((with_reducible refine (litExists_any _ C _ _ (HC.out _ (HB.out _ H4.out).2.2.2.2).1 ⟨by omega, by omega⟩).mono ?_); rintro e w5 ⟨rfl, hq⟩; rw [HT.out]; have H5 := Lib.hid (H4.out.trans (hq.mono H4.out.size)); clear hq cB cD; have cB := (HB.out _ H5.out).1; have cD := (HB.out _ H5.out).2.1)))
      clear cB cD
      go_loopw [6] (fun v6 wr => ∃ k : Nat, k ≤ N ∧ v6 = .int .i64 k ∧ Below W2.heap.size W2 wr) (fun v6 _ => N - (intOf v6).toNat)
      case atStart => exact ⟨0, Nat.zero_le _, rfl, H5.out⟩
      case round =>
        obtain ⟨k, hk, rfl, hbl⟩ := hrel
        have cB := (HB.out _ hbl).1
        have cD := (HB.out _ hbl).2.1
        have HR := Lib.hid hbl
        clear hbl
        by_cases hlt : k < N
        · have he : d.evalB k = litF C i k := by rw [HDD.out]; exact bdR_eval HX.out.2.2.2.1 k (by rw [← HX.out.2.2.1]; exact hlt)
          obtain ⟨y, hy⟩ : ∃ y, y = litF C i k := ⟨_, rfl⟩
          rw [← hy] at he
          have HY := Lib.hid (And.intro hy he)
          have k1000 : (k : Int) ≤ 1000 := Int.ofNat_le.2 (show k ≤ 1000 from Nat.le_trans (Nat.le_of_lt hlt) (Nat.le_trans n2 (by decide)))
          clear hy he
          go_upto_region 12 with fail
          clear cB cD hwp hto
          have hd0 := HR.out.drew
          refine wp_region_T (fun w' => (∀ o, w'.cell? ⟨B, o, none⟩ = #[Value.int .i64 ni, .slice sn C.next.length cn, .slice sg C.gates.length cg, .slice so C.outs.length co][o]?) ∧ (∀ o, w'.cell? ⟨D, o, none⟩ = #[Value.slice sb d.nodes.length cb2, .int .i64 d.root][o]?)) (.q 0 (.q 1 (.q 3 (.q 4 (.q 5 (.e 2 (.e 6 (.q 7 .nil)))))))) (by kernel_rfl) (by kernel_rfl) (by kernel_rfl) ⟨(HB.out _ hd0).1, (HB.out _ hd0).2.1⟩ ?_
          repeat (first | (refine ordt_s (o := ?_) ?_ ?_ ?_; rotate_left 1; (focus ((simp only [List.getElem?_toArray, List.getElem?_cons_succ, List.getElem?_cons_zero]) <;> rfl)); (focus rfl); simp only [Act.put, List.setIfInBounds_toArray, List.set_cons_zero, List.set_cons_succ]) | (refine ordt_q (o := ?_) (v := ?_) ?_ ?_ ?_ ?_; rotate_left 2; (focus ((simp only [List.getElem?_toArray, List.getElem?_cons_succ, List.getElem?_cons_zero]) <;> rfl)); (focus rfl); (focus (intro w' hS; (try dsimp only at hS); go_split_ands; go_simp; (try (with_reducible rfl)))); simp only [Act.put, List.setIfInBounds_toArray, List.set_cons_zero, List.set_cons_succ]))
          refine ordt_e ?_
          (refine op_e (o := ?_) ?_ ?_ (fun K hK => ?_); rotate_left 1; (focus ((simp only [List.getElem?_toArray, List.getElem?_cons_succ, List.getElem?_cons_zero]) <;> rfl)); (focus rfl); go_simp)
          refine (EvalBdd_i _ d k _ (HB.out _ hd0).2.2.1 ⟨by omega, by omega⟩).mono ?_
          rintro e wa ⟨rfl, hq⟩
          rw [HY.out.2]
          have hqa := hd0.trans (hq.mono hd0.size)
          refine hK.out _ _ ⟨(HB.out _ hqa).1, (HB.out _ hqa).2.1⟩ ?_
          clear hK K hq hd0
          have HA := Lib.hid hqa
          clear hqa
          (try simp only [Act.put, List.setIfInBounds_toArray, List.set_cons_zero, List.set_cons_succ])
          refine ordt_e ?_
          (refine op_e (o := ?_) ?_ ?_ (fun K hK => ?_); rotate_left 1; (focus ((simp only [List.getElem?_toArray, List.getElem?_cons_succ, List.getElem?_cons_zero]) <;> rfl)); (focus rfl); go_simp)
          refine (litValueL_any C sn sg so cn cg co ni HX.out.2.1 i (k : Int) _ (by rw [HX.out.2.1]; exact (HC.out _ (HB.out _ HA.out).2.2.2.2).1) (HC.out _ (HB.out _ HA.out).2.2.2.2).2.1 HX.out.1 HX.out.2.2.2.2.2.1 (by have := HX.out.2.2.2.2.2; unfold litP at this; omega) (Int.natCast_nonneg k) k1000).mono ?_
          rintro e wf ⟨rfl, hq⟩
          rw [show litB (evalV C (k : Int) (-1) false) i = y from HY.out.1.symm]
          have hqf := HA.out.trans (hq.mono HA.out.size)
          refine hK.out _ _ ⟨(HB.out _ hqf).1, (HB.out _ hqf).2.1⟩ ?_
          clear hK K hq
          have HF := Lib.hid hqf
          clear hqf
          (try simp only [Act.put, List.setIfInBounds_toArray, List.set_cons_zero, List.set_cons_succ])
          repeat (first | (refine ordt_s (o := ?_) ?_ ?_ ?_; rotate_left 1; (focus ((simp only [List.getElem?_toArray, List.getElem?_cons_succ, List.getElem?_cons_zero]) <;> rfl)); (focus rfl); simp only [Act.put, List.setIfInBounds_toArray, List.set_cons_zero, List.set_cons_succ]) | (refine ordt_q (o := ?_) (v := ?_) ?_ ?_ ?_ ?_; rotate_left 2; (focus ((simp only [List.getElem?_toArray, List.getElem?_cons_succ, List.getElem?_cons_zero]) <;> rfl)); (focus rfl); (focus (intro w' hS; (try dsimp only at hS); go_split_ands; go_simp; (try (with_reducible rfl)))); simp only [Act.put, List.setIfInBounds_toArray, List.set_cons_zero, List.set_cons_succ]))
          refine ordt_nil ?_
          go_wp2_with fail
          go_roundw
          case rel => exact ⟨k + 1, by omega, by go_num, HF.out⟩
          case measure => simp [intOf]; omega
        · have hv := bdR_valid HX.out.2.2.2.1
          rw [← HDD.out] at hv
          have HV := Lib.hid hv
          clear hv
          go_wp2_with (go_at_call 16; ((with_reducible refine (BddValid_i _ d _ (HB.out _ HR.out).2.2.1).mono ?_); rintro e w9 ⟨rfl, hq⟩; rw [HV.out]; have H9 := Lib.hid (HR.out.trans (hq.mono HR.out.size)); clear hq))
          go_ret
          exact ⟨rfl, (HC.out _ (HB.out _ H9.out).2.2.2.2).2.2.2⟩
    · have HN : Hid (d.nodes.length = 0) := by show _ = _; rw [HDD.out, bdR_no hok]; rfl
      have HT : Hid (decide (tsOk C i) = false) := decide_eq_false hok
      clear hok
      have hd0 := (Below.refl W2.heap.size W2).drew
      refine wp_region_T (fun w' => (∀ o, w'.cell? ⟨B, o, none⟩ = #[Value.int .i64 C.inp, .slice sn C.next.length cn, .slice sg C.gates.length cg, .slice so C.outs.length co][o]?) ∧ (∀ o, w'.cell? ⟨D, o, none⟩ = #[Value.slice sb d.nodes.length cb2, .int .i64 d.root][o]?)) (.q 0 (.q 1 (.q 2 (.e 3 (.e 4 (.q 5 .nil)))))) (by kernel_rfl) (by kernel_rfl) (by kernel_rfl) ⟨(HB.out _ hd0).1, (HB.out _ hd0).2.1⟩ ?_
      repeat (first | (refine ordt_s (o := ?_) ?_ ?_ ?_; rotate_left 1; (focus ((simp only [List.getElem?_toArray, List.getElem?_cons_succ, List.getElem?_cons_zero]) <;> rfl)); (focus rfl); simp only [Act.put, List.setIfInBounds_toArray, List.set_cons_zero, List.set_cons_succ]) | (refine ordt_q (o := ?_) (v := ?_) ?_ ?_ ?_ ?_; rotate_left 2; (focus ((simp only [List.getElem?_toArray, List.getElem?_cons_succ, List.getElem?_cons_zero]) <;> rfl)); (focus rfl); (focus (intro w' hS; (try dsimp only at hS); go_split_ands; go_simp; (try (with_reducible rfl)))); simp only [Act.put, List.setIfInBounds_toArray, List.set_cons_zero, List.set_cons_succ]))
      refine ordt_e ?_
      (refine op_e (o := ?_) ?_ ?_ (fun K hK => ?_); rotate_left 1; (focus ((simp only [List.getElem?_toArray, List.getElem?_cons_succ, List.getElem?_cons_zero]) <;> rfl)); (focus rfl); go_simp)
      refine (BuildBdd_s _ _ _ _ (HC.out _ (HB.out _ hd0).2.2.2.2).1 ⟨by omega, by omega⟩).mono ?_
      rintro e w3 ⟨s3, c3, rfl, h3, hq⟩
      rw [← HDD.out] at h3 ⊢
      have hq3 := hd0.trans hq
      refine hK.out _ _ ⟨(HB.out _ hq3).1, (HB.out _ hq3).2.1⟩ ?_
      clear hK K
      have H3 := Lib.hid (And.intro hq3 h3)
      clear hq3 h3 hq hd0
      (try simp only [Act.put, List.setIfInBounds_toArray, List.set_cons_zero, List.set_cons_succ])
      refine ordt_e ?_
      (refine op_e (o := ?_) ?_ ?_ (fun K hK => ?_); rotate_left 1; (focus ((simp only [List.getElem?_toArray, List.getElem?_cons_succ, List.getElem?_cons_zero]) <;> rfl)); (focus rfl); go_simp)
      refine (sameBdd_any sb s3 cb2 c3 d d true _ (HB.out _ H3.out.1).2.2.2.1 H3.out.2 (by omega) (by omega) ⟨by omega, by omega⟩ ⟨by omega, by omega⟩ ⟨fun _ => rfl, fun _ => rfl⟩).mono ?_
      rintro e w4 ⟨rfl, hq⟩
      have hq4 := H3.out.1.trans (hq.mono H3.out.1.size)
      refine hK.out _ _ ⟨(HB.out _ hq4).1, (HB.out _ hq4).2.1⟩ ?_
      clear hK K hq
      have H4 := Lib.hid hq4
      clear hq4 H3
      (try simp only [Act.put, List.setIfInBounds_toArray, List.set_cons_zero, List.set_cons_succ])
      repeat (first | (refine ordt_s (o := ?_) ?_ ?_ ?_; rotate_left 1; (focus ((simp only [List.getElem?_toArray, List.getElem?_cons_succ, List.getElem?_cons_zero]) <;> rfl)); (focus rfl); simp only [Act.put, List.setIfInBounds_toArray, List.set_cons_zero, List.set_cons_succ]) | (refine ordt_q (o := ?_) (v := ?_) ?_ ?_ ?_ ?_; rotate_left 2; (focus ((simp only [List.getElem?_toArray, List.getElem?_cons_succ, List.getElem?_cons_zero]) <;> rfl)); (focus rfl); (focus (intro w' hS; (try dsimp only at hS); go_split_ands; go_simp; (try (with_reducible rfl)))); simp only [Act.put, List.setIfInBounds_toArray, List.set_cons_zero, List.set_cons_succ]))
      refine ordt_nil ?_
      have cB := (HB.out _ H4.out).1
      have cD := (HB.out _ H4.out).2.1
      have hn0 := HN.out
      go_wp2_with (first | (go_at_call 36; ((with_reducible refine (litExists_any _ C _ _ (HC.out _ (HB.out _ H4.out).2.2.2.2).1 ⟨by omega, by omega⟩).mono ?_); rintro e w5 ⟨rfl, hq⟩; rw [HT.out]; have H5 := Lib.hid (H4.out.trans (hq.mono H4.out.size)); clear hq cB cD; have cB := (HB.out _ H5.out).1; have cD := (HB.out _ H5.out).2.1)) | (go_at_call 21; ((with_reducible refine (alive_any _).mono ?_); rintro e w7 ⟨rfl, hq⟩; have HA := Lib.hid (H5.out.trans (hq.mono H5.out.size)); clear hq)))
      go_ret
      exact ⟨rfl, (HC.out _ (HB.out _ HA.out).2.2.2.2).2.2.2⟩
  · clear hs hr
    go_enter Try.func7, Try.ntmps7
    go_wp2
    go_ret
    exact ⟨rfl, Below.refl _ _⟩

end Go.Proofs.Ytddmgphlhfilnaa
