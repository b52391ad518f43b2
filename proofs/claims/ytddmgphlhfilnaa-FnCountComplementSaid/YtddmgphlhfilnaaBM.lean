import Derived.Test.YtddmgphlhfilnaaBH
import Derived.Test.YtddmgphlhfilnaaBL
import Derived.Test.YtddmgphlhfilnaaCC
import Derived.Test.YtddmgphlhfilnaaZ8
namespace Go.Proofs.Ytddmgphlhfilnaa
set_option linter.unusedVariables false
set_option linter.unusedSimpArgs false
open Go.RowKit

/-! The law FnCountComplement. -/

theorem wrap_two (M : Nat) (h : M ≤ 7) : IntKind.i64.wrap (2 ^ M) = wrap64 (2 ^ M) := by
  have : ∀ m : Fin 9, IntKind.i64.wrap (2 ^ m.val) = wrap64 (2 ^ m.val) := by decide +kernel
  exact this ⟨M, by omega⟩
theorem wrap_sum {a b : Int} {N : Nat} (h : a + b = N) (hn : N ≤ 128) : IntKind.i64.wrap (a + b) = (N : Int) := by
  rw [IntWalk.i64_in _ ⟨by omega, by omega⟩]; exact h

set_option maxRecDepth 100000 in
set_option maxHeartbeats 3200000 in
theorem FnCountComplement_any (s : Option Addr) (cap : Nat) (xs : List Int) (w : World) (hs : Sl w s (u8s xs)) (hl : xs.length ≤ 9223372036854775807) (hcap : xs.length ≤ cap) (hcap2 : cap ≤ 9223372036854775807) (hr : ∀ x ∈ xs, 0 ≤ x ∧ x ≤ 255) :
    Calls Try.prog 10 #[.slice s xs.length cap] w fun e w' => e = .returned (.bool true) ∧ Below w.heap.size w w' := by
  by_cases hc : xs.length ≤ 1048576
  · have HD := Lib.hid (DrawBuildBdd_any s cap xs w hs hc hcap hcap2 hr)
    clear hs hr
    go_enter Try.func10, Try.ntmps10
    go_upto_region 4 with (go_at_call 34; (with_reducible refine HD.out.mono ?_); rintro e w1 ⟨C, i, vn, vg, vo, rfl, h1, h2, h3, h4⟩; obtain ⟨sn, cn, rfl⟩ := own_shape h1.n; obtain ⟨sg, cg, rfl⟩ := own_shape h1.g; obtain ⟨so, co, rfl⟩ := own_shape h1.o; have H1 := Lib.hid (And.intro h1 h4); obtain ⟨l1, l2, l3, l4, l5⟩ := h2; obtain ⟨i1, i2⟩ := h3; clear h1 h4)
    obtain ⟨B, hB⟩ : ∃ B, B = w1.heap.size := ⟨_, rfl⟩
    have hk := blk_new w1 (.cells #[.int .i64 C.inp, .slice sn C.next.length cn, .slice sg C.gates.length cg, .slice so C.outs.length co] 44)
    have hbb := below_alloc w1 (.cells #[.int .i64 C.inp, .slice sn C.next.length cn, .slice sg C.gates.length cg, .slice so C.outs.length co] 44)
    have hV : CirV (w1.alloc (.cells #[.int .i64 C.inp, .slice sn C.next.length cn, .slice sg C.gates.length cg, .slice so C.outs.length co] 44)) (.agg #[.int .i64 C.inp, .slice sn C.next.length cn, .slice sg C.gates.length cg, .slice so C.outs.length co]) C :=
      ⟨_, _, _, _, _, _, rfl, own_sl (own_below H1.out.1.n hbb), own_sl (own_below H1.out.1.g hbb), own_sl (own_below H1.out.1.o hbb), by omega, by omega, by omega⟩
    have hgs := own_sl (own_below H1.out.1.g hbb)
    have hbw := H1.out.2.trans (hbb.mono H1.out.2.size)
    rw [← hB] at hk
    rw [← hB]
    clear hbb hB H1
    revert hV hgs hbw hk
    generalize w1.alloc (.cells #[.int .i64 C.inp, .slice sn C.next.length cn, .slice sg C.gates.length cg, .slice so C.outs.length co] 44) = W1
    intro hk hV hgs hbw
    have HC : Hid (∀ W, Below W1.heap.size W1 W → CirV W (.agg #[.int .i64 C.inp, .slice sn C.next.length cn, .slice sg C.gates.length cg, .slice so C.outs.length co]) C ∧ Sl W sg (gcells C.gates) ∧ (∀ o, W.cell? ⟨B, o, none⟩ = #[Value.int .i64 C.inp, .slice sn C.next.length cn, .slice sg C.gates.length cg, .slice so C.outs.length co][o]?) ∧ Below w.heap.size w W) := fun W hW => ⟨hV.mono hW, hgs.mono hW, (blk_all (blk_below hW (blk_lt hk) hk)).1, hbw.trans (hW.mono hbw.size)⟩
    clear hV hgs hbw hk
    have cb := (HC.out _ (Below.refl _ _)).2.2.1
    obtain ⟨d, hd⟩ : ∃ d, d = bdR C i := ⟨_, rfl⟩
    have hdl : d.nodes.length ≤ 200 := by rw [hd]; exact bdR_len C i
    have hdr : 0 ≤ d.root ∧ d.root ≤ 200 := by rw [hd]; exact bdR_root C i
    obtain ⟨hdr1, hdr2⟩ := hdr
    have HDD := Lib.hid hd
    clear hd
    go_upto_region 5 with (go_at_call 28; ((with_reducible refine (BuildBdd_i _ _ _ _ (HC.out _ (Below.refl _ _)).1 ⟨by omega, by omega⟩).mono ?_); rintro e w2 ⟨sb, cb2, rfl, h1, hq⟩; rw [← HDD.out] at h1 ⊢; have H2 := Lib.hid (And.intro h1 hq); clear h1 hq cb))
    obtain ⟨D, hD⟩ : ∃ D, D = w2.heap.size := ⟨_, rfl⟩
    have hk := blk_new w2 (.cells #[.slice sb d.nodes.length cb2, .int .i64 d.root] 25)
    have hbb := below_alloc w2 (.cells #[.slice sb d.nodes.length cb2, .int .i64 d.root] 25)
    have hV := bdV_own (own_below H2.out.1 hbb) (by omega)
    have hbw := H2.out.2.trans (hbb.mono H2.out.2.size)
    have hsb := own_sl (own_below H2.out.1 hbb)
    rw [← hD] at hk
    rw [← hD]
    clear hbb hD H2
    revert hV hbw hk hsb
    generalize w2.alloc (.cells #[.slice sb d.nodes.length cb2, .int .i64 d.root] 25) = W2
    intro hk hV hbw hsb
    have HB : Hid (∀ W, Below W2.heap.size W2 W → (∀ o, W.cell? ⟨B, o, none⟩ = #[Value.int .i64 C.inp, .slice sn C.next.length cn, .slice sg C.gates.length cg, .slice so C.outs.length co][o]?) ∧ (∀ o, W.cell? ⟨D, o, none⟩ = #[Value.slice sb d.nodes.length cb2, .int .i64 d.root][o]?) ∧ BdV W (.agg #[.slice sb d.nodes.length cb2, .int .i64 d.root]) d ∧ Sl W sb (ncells d.nodes) ∧ Below W1.heap.size W1 W) := fun W hW => ⟨(HC.out _ (hbw.trans (hW.mono hbw.size))).2.2.1, (blk_all (blk_below hW (blk_lt hk) hk)).1, hV.mono hW, hsb.mono hW, hbw.trans (hW.mono hbw.size)⟩
    clear hV hbw hk hsb
    by_cases hok : tsOk C i
    · have HT : Hid (decide (tsOk C i) = true) := decide_eq_true hok
      have hvB := hok.1
      have hval := C.validB_iff.1 hvB
      obtain ⟨q1, q2, q3, q4, q5⟩ := id hval.lim
      obtain ⟨n1, n2⟩ := asgN_le2 hval
      obtain ⟨ni, hni⟩ : ∃ ni : Nat, C.inp = ni := ⟨C.inp.toNat, by omega⟩
      obtain ⟨N, hN⟩ : ∃ N, N = asgN C := ⟨_, rfl⟩
      rw [← hN] at n1 n2
      have n4 : ni ≤ 4 := by omega
      have hi0 := hok.2
      have hwp : wrap64 (2 ^ (ni + C.next.length)) = (N : Int) := by rw [wrap_pow (by omega), hN]; unfold asgN; rw [hni]; simp
      have hcnt : ((ni : Int) + (C.next.length : Int)) = ((ni + C.next.length : Nat) : Int) := by omega
      have hto : ((ni : Int) + (C.next.length : Int)).toNat = ni + C.next.length := by omega
      have hcm := xor1_cmL (l := i) (by unfold litP at hi0; omega) (by unfold litP at hi0; omega)
      obtain ⟨j, hj⟩ : ∃ j, j = cmL i := ⟨_, rfl⟩
      rw [← hj] at hcm
      have hjb : 0 ≤ j ∧ j ≤ 600 := by rw [hj]; unfold cmL; unfold litP at hi0; split <;> omega
      obtain ⟨j0, j1⟩ := hjb
      obtain ⟨d', hd'⟩ : ∃ d', d' = bdR C j := ⟨_, rfl⟩
      have hdl' : d'.nodes.length ≤ 200 := by rw [hd']; exact bdR_len C j
      have hdr' : 0 ≤ d'.root ∧ d'.root ≤ 200 := by rw [hd']; exact bdR_root C j
      obtain ⟨hdr3, hdr4⟩ := hdr'
      have HJ := Lib.hid (And.intro hj hd')
      clear hj hd'
      have HX := Lib.hid (And.intro hval (And.intro hni (And.intro hN (And.intro hok (And.intro hvB hi0)))))
      rw [hni] at HC HB ⊢
      clear hok hval hni hN hvB hi0 l1 l2 q1 q2
      have hd0 := (Below.refl W2.heap.size W2).drew
      refine wp_region_T (fun w' => (∀ o, w'.cell? ⟨B, o, none⟩ = #[Value.int .i64 ni, .slice sn C.next.length cn, .slice sg C.gates.length cg, .slice so C.outs.length co][o]?) ∧ (∀ o, w'.cell? ⟨D, o, none⟩ = #[Value.slice sb d.nodes.length cb2, .int .i64 d.root][o]?)) (.q 0 (.q 1 (.q 2 (.e 3 (.e 4 (.q 5 .nil)))))) (by kernel_rfl) (by kernel_rfl) (by kernel_rfl) ⟨(HB.out _ hd0).1, (HB.out _ hd0).2.1⟩ ?_
      repeat (first | (refine ordt_s (o := ?_) ?_ ?_ ?_; rotate_left 1; (focus ((simp only [List.getElem?_toArray, List.getElem?_cons_succ, List.getElem?_cons_zero]) <;> rfl)); (focus rfl); simp only [Act.put, List.setIfInBounds_toArray, List.set_cons_zero, List.set_cons_succ]) | (refine ordt_q (o := ?_) (v := ?_) ?_ ?_ ?_ ?_; rotate_left 2; (focus ((simp only [List.getElem?_toArray, List.getElem?_cons_succ, List.getElem?_cons_zero]) <;> rfl)); (focus rfl); (focus (intro w' hS; (try dsimp only at hS); go_split_ands; go_simp; (try (with_reducible rfl)))); simp only [Act.put, List.setIfInBounds_toArray, List.set_cons_zero, List.set_cons_succ]))
      refine ordt_e ?_
      (refine op_e (o := ?_) ?_ ?_ (fun K hK => ?_); rotate_left 1; (focus ((simp only [List.getElem?_toArray, List.getElem?_cons_succ, List.getElem?_cons_zero]) <;> rfl)); (focus rfl); go_simp)
      refine (BuildBdd_s _ _ _ _ (HC.out _ (HB.out _ hd0).2.2.2.2).1 ⟨by omega, by omega⟩).mono ?_
      rintro e w3 ⟨s3, c3, rfl, h3, hq⟩
      rw [← HDD.out] at h3 ⊢
      have hq3 := hd0.trans hq
      refine hK.out _ _ ⟨(HB.out _ hq3).1, (HB.out _ hq3).2.1⟩ ?_
      clear hK K
      have H3 := Lib.hid (And.intro hq3 h3)
      clear hq3 h3 hq hd0
      (try simp only [Act.put, List.setIfInBounds_toArray, List.set_cons_zero, List.set_cons_succ])
      refine ordt_e ?_
      (refine op_e (o := ?_) ?_ ?_ (fun K hK => ?_); rotate_left 1; (focus ((simp only [List.getElem?_toArray, List.getElem?_cons_succ, List.getElem?_cons_zero]) <;> rfl)); (focus rfl); go_simp)
      refine (sameBdd_any sb s3 cb2 c3 d d true _ (HB.out _ H3.out.1).2.2.2.1 H3.out.2 (by omega) (by omega) ⟨by omega, by omega⟩ ⟨by omega, by omega⟩ ⟨fun _ => rfl, fun _ => rfl⟩).mono ?_
      rintro e w4 ⟨rfl, hq⟩
      have hq4 := H3.out.1.trans (hq.mono H3.out.1.size)
      refine hK.out _ _ ⟨(HB.out _ hq4).1, (HB.out _ hq4).2.1⟩ ?_
      clear hK K hq
      have H4 := Lib.hid hq4
      clear hq4 H3
      (try simp only [Act.put, List.setIfInBounds_toArray, List.set_cons_zero, List.set_cons_succ])
      repeat (first | (refine ordt_s (o := ?_) ?_ ?_ ?_; rotate_left 1; (focus ((simp only [List.getElem?_toArray, List.getElem?_cons_succ, List.getElem?_cons_zero]) <;> rfl)); (focus rfl); simp only [Act.put, List.setIfInBounds_toArray, List.set_cons_zero, List.set_cons_succ]) | (refine ordt_q (o := ?_) (v := ?_) ?_ ?_ ?_ ?_; rotate_left 2; (focus ((simp only [List.getElem?_toArray, List.getElem?_cons_succ, List.getElem?_cons_zero]) <;> rfl)); (focus rfl); (focus (intro w' hS; (try dsimp only at hS); go_split_ands; go_simp; (try (with_reducible rfl)))); simp only [Act.put, List.setIfInBounds_toArray, List.set_cons_zero, List.set_cons_succ]))
      refine ordt_nil ?_
      have cB := (HB.out _ H4.out).1
      have cD := (HB.out _ H4.out).2.1
      obtain ⟨M, hM⟩ : ∃ M, M = ni + C.next.length := ⟨_, rfl⟩
      rw [← hM] at hcnt hwp
      have m7 : M ≤ 7 := by omega
      have hsum : d.count M + d'.count M = (N : Int) := by
        rw [HJ.out.2, HJ.out.1, HDD.out, bdR_cm HX.out.2.2.2.1, bdR_yes HX.out.2.2.2.1, HX.out.2.1, Int.toNat_natCast, ← hM, bdK_count _ m7, HX.out.2.2.1]
        unfold asgN; rw [HX.out.2.1, Int.toNat_natCast, ← hM]; simp
      obtain ⟨k1, hk1⟩ : ∃ k1, k1 = d.count M := ⟨_, rfl⟩
      obtain ⟨k2, hk2⟩ : ∃ k2, k2 = d'.count M := ⟨_, rfl⟩
      rw [← hk1, ← hk2] at hsum
      have hkb : -1 ≤ k1 ∧ k1 ≤ 200 := by
        rw [hk1]
        by_cases hf : d.fine M
        · rw [count_yes hf]
          have h := cntB_le d (2 ^ (M : Int).toNat)
          have h7 : 2 ^ (M : Int).toNat ≤ 2 ^ 7 := Nat.pow_le_pow_right (by omega) (by omega)
          omega
        · rw [count_no hf]; omega
      have hto2 : ((M : Int)).toNat = M := Int.toNat_natCast M
      have HK := Lib.hid (And.intro hk1 (And.intro hk2 (And.intro hM hsum)))
      obtain ⟨hkb1, hkb2⟩ := hkb
      have ww : IntKind.i64.wrap (k1 + k2) = (N : Int) := wrap_sum hsum n2
      clear hk1 hk2 hM hto hsum
      go_upto_region 10 with (first | (go_at_call 36; ((with_reducible refine (litExists_any _ C _ _ (HC.out _ (HB.out _ H4.out).2.2.2.2).1 ⟨by omega, by omega⟩).mono ?_); rintro e w5 ⟨rfl, hq⟩; rw [HT.out]; have H5 := Lib.hid (H4.out.trans (hq.mono H4.out.size)); clear hq cB cD; have cB := (HB.out _ H5.out).1; have cD := (HB.out _ H5.out).2.1)))
      clear cB cD
      have hd0 := H5.out.drew
      refine wp_region_T (fun w' => (∀ o, w'.cell? ⟨B, o, none⟩ = #[Value.int .i64 ni, .slice sn C.next.length cn, .slice sg C.gates.length cg, .slice so C.outs.length co][o]?) ∧ (∀ o, w'.cell? ⟨D, o, none⟩ = #[Value.slice sb d.nodes.length cb2, .int .i64 d.root][o]?)) (.q 0 (.q 1 (.q 3 (.q 4 (.q 5 (.q 7 (.q 10 (.q 11 (.e 2 (.e 6 (.e 8 (.q 9 (.q 12 (.q 13 .nil)))))))))))))) (by kernel_rfl) (by kernel_rfl) (by kernel_rfl) ⟨(HB.out _ hd0).1, (HB.out _ hd0).2.1⟩ ?_
      repeat (first | (refine ordt_s (o := ?_) ?_ ?_ ?_; rotate_left 1; (focus ((simp only [List.getElem?_toArray, List.getElem?_cons_succ, List.getElem?_cons_zero]) <;> rfl)); (focus rfl); simp only [Act.put, List.setIfInBounds_toArray, List.set_cons_zero, List.set_cons_succ]) | (refine ordt_q (o := ?_) (v := ?_) ?_ ?_ ?_ ?_; rotate_left 2; (focus ((simp only [List.getElem?_toArray, List.getElem?_cons_succ, List.getElem?_cons_zero]) <;> rfl)); (focus rfl); (focus (intro w' hS; (try dsimp only at hS); go_split_ands; go_simp; (try (with_reducible rfl)))); simp only [Act.put, List.setIfInBounds_toArray, List.set_cons_zero, List.set_cons_succ]))
      refine ordt_e ?_
      (refine op_e (o := ?_) ?_ ?_ (fun K hK => ?_); rotate_left 1; (focus ((simp only [List.getElem?_toArray, List.getElem?_cons_succ, List.getElem?_cons_zero]) <;> rfl)); (focus rfl); go_simp)
      refine (CountBdd_i _ d M _ (HB.out _ hd0).2.2.1 ⟨by omega, by omega⟩).mono ?_
      rintro e wa ⟨rfl, hq⟩
      rw [← HK.out.1]
      have hqa := hd0.trans (hq.mono hd0.size)
      refine hK.out _ _ ⟨(HB.out _ hqa).1, (HB.out _ hqa).2.1⟩ ?_
      clear hK K hq hd0
      have HA := Lib.hid hqa
      clear hqa
      (try simp only [Act.put, List.setIfInBounds_toArray, List.set_cons_zero, List.set_cons_succ])
      refine ordt_e ?_
      (refine op_e (o := ?_) ?_ ?_ (fun K hK => ?_); rotate_left 1; (focus ((simp only [List.getElem?_toArray, List.getElem?_cons_succ, List.getElem?_cons_zero]) <;> rfl)); (focus rfl); go_simp)
      refine (BuildBdd_i _ C j _ (HC.out _ (HB.out _ HA.out).2.2.2.2).1 ⟨by omega, by omega⟩).mono ?_
      rintro e wb ⟨se, ce, rfl, h1, hq⟩
      rw [← HJ.out.2] at h1 ⊢
      have hqb := HA.out.trans (hq.mono HA.out.size)
      refine hK.out _ _ ⟨(HB.out _ hqb).1, (HB.out _ hqb).2.1⟩ ?_
      clear hK K hq
      have HBB := Lib.hid (And.intro hqb (bdV_own h1 (by omega)))
      clear hqb h1
      (try simp only [Act.put, List.setIfInBounds_toArray, List.set_cons_zero, List.set_cons_succ])
      refine ordt_e ?_
      (refine op_e (o := ?_) ?_ ?_ (fun K hK => ?_); rotate_left 1; (focus ((simp only [List.getElem?_toArray, List.getElem?_cons_succ, List.getElem?_cons_zero]) <;> rfl)); (focus rfl); go_simp)
      refine (CountBdd_i _ d' M _ HBB.out.2 ⟨by omega, by omega⟩).mono ?_
      rintro e wc ⟨rfl, hq⟩
      rw [← HK.out.2.1]
      have hqc := HBB.out.1.trans (hq.mono HBB.out.1.size)
      refine hK.out _ _ ⟨(HB.out _ hqc).1, (HB.out _ hqc).2.1⟩ ?_
      clear hK K hq
      have HCC := Lib.hid hqc
      clear hqc
      (try simp only [Act.put, List.setIfInBounds_toArray, List.set_cons_zero, List.set_cons_succ])
      repeat (first | (refine ordt_s (o := ?_) ?_ ?_ ?_; rotate_left 1; (focus ((simp only [List.getElem?_toArray, List.getElem?_cons_succ, List.getElem?_cons_zero]) <;> rfl)); (focus rfl); simp only [Act.put, List.setIfInBounds_toArray, List.set_cons_zero, List.set_cons_succ]) | (refine ordt_q (o := ?_) (v := ?_) ?_ ?_ ?_ ?_; rotate_left 2; (focus ((simp only [List.getElem?_toArray, List.getElem?_cons_succ, List.getElem?_cons_zero]) <;> rfl)); (focus rfl); (focus (intro w' hS; (try dsimp only at hS); go_split_ands; go_simp; (try (with_reducible rfl)))); simp only [Act.put, List.setIfInBounds_toArray, List.set_cons_zero, List.set_cons_succ]))
      refine ordt_nil ?_
      go_wp2_with fail
      go_ret
      exact ⟨ret_bool (by rw [show IntKind.i64.wrap (2 ^ M) = (N : Int) from (wrap_two M m7).trans hwp]; simp), (HC.out _ (HB.out _ HCC.out).2.2.2.2).2.2.2⟩
    · have HN : Hid (d.nodes.length = 0) := by show _ = _; rw [HDD.out, bdR_no hok]; rfl
      have HT : Hid (decide (tsOk C i) = false) := decide_eq_false hok
      clear hok
      have hd0 := (Below.refl W2.heap.size W2).drew
      refine wp_region_T (fun w' => (∀ o, w'.cell? ⟨B, o, none⟩ = #[Value.int .i64 C.inp, .slice sn C.next.length cn, .slice sg C.gates.length cg, .slice so C.outs.length co][o]?) ∧ (∀ o, w'.cell? ⟨D, o, none⟩ = #[Value.slice sb d.nodes.length cb2, .int .i64 d.root][o]?)) (.q 0 (.q 1 (.q 2 (.e 3 (.e 4 (.q 5 .nil)))))) (by kernel_rfl) (by kernel_rfl) (by kernel_rfl) ⟨(HB.out _ hd0).1, (HB.out _ hd0).2.1⟩ ?_
      repeat (first | (refine ordt_s (o := ?_) ?_ ?_ ?_; rotate_left 1; (focus ((simp only [List.getElem?_toArray, List.getElem?_cons_succ, List.getElem?_cons_zero]) <;> rfl)); (focus rfl); simp only [Act.put, List.setIfInBounds_toArray, List.set_cons_zero, List.set_cons_succ]) | (refine ordt_q (o := ?_) (v := ?_) ?_ ?_ ?_ ?_; rotate_left 2; (focus ((simp only [List.getElem?_toArray, List.getElem?_cons_succ, List.getElem?_cons_zero]) <;> rfl)); (focus rfl); (focus (intro w' hS; (try dsimp only at hS); go_split_ands; go_simp; (try (with_reducible rfl)))); simp only [Act.put, List.setIfInBounds_toArray, List.set_cons_zero, List.set_cons_succ]))
      refine ordt_e ?_
      (refine op_e (o := ?_) ?_ ?_ (fun K hK => ?_); rotate_left 1; (focus ((simp only [List.getElem?_toArray, List.getElem?_cons_succ, List.getElem?_cons_zero]) <;> rfl)); (focus rfl); go_simp)
      refine (BuildBdd_s _ _ _ _ (HC.out _ (HB.out _ hd0).2.2.2.2).1 ⟨by omega, by omega⟩).mono ?_
      rintro e w3 ⟨s3, c3, rfl, h3, hq⟩
      rw [← HDD.out] at h3 ⊢
      have hq3 := hd0.trans hq
      refine hK.out _ _ ⟨(HB.out _ hq3).1, (HB.out _ hq3).2.1⟩ ?_
      clear hK K
      have H3 := Lib.hid (And.intro hq3 h3)
      clear hq3 h3 hq hd0
      (try simp only [Act.put, List.setIfInBounds_toArray, List.set_cons_zero, List.set_cons_succ])
      refine ordt_e ?_
      (refine op_e (o := ?_) ?_ ?_ (fun K hK => ?_); rotate_left 1; (focus ((simp only [List.getElem?_toArray, List.getElem?_cons_succ, List.getElem?_cons_zero]) <;> rfl)); (focus rfl); go_simp)
      refine (sameBdd_any sb s3 cb2 c3 d d true _ (HB.out _ H3.out.1).2.2.2.1 H3.out.2 (by omega) (by omega) ⟨by omega, by omega⟩ ⟨by omega, by omega⟩ ⟨fun _ => rfl, fun _ => rfl⟩).mono ?_
      rintro e w4 ⟨rfl, hq⟩
      have hq4 := H3.out.1.trans (hq.mono H3.out.1.size)
      refine hK.out _ _ ⟨(HB.out _ hq4).1, (HB.out _ hq4).2.1⟩ ?_
      clear hK K hq
      have H4 := Lib.hid hq4
      clear hq4 H3
      (try simp only [Act.put, List.setIfInBounds_toArray, List.set_cons_zero, List.set_cons_succ])
      repeat (first | (refine ordt_s (o := ?_) ?_ ?_ ?_; rotate_left 1; (focus ((simp only [List.getElem?_toArray, List.getElem?_cons_succ, List.getElem?_cons_zero]) <;> rfl)); (focus rfl); simp only [Act.put, List.setIfInBounds_toArray, List.set_cons_zero, List.set_cons_succ]) | (refine ordt_q (o := ?_) (v := ?_) ?_ ?_ ?_ ?_; rotate_left 2; (focus ((simp only [List.getElem?_toArray, List.getElem?_cons_succ, List.getElem?_cons_zero]) <;> rfl)); (focus rfl); (focus (intro w' hS; (try dsimp only at hS); go_split_ands; go_simp; (try (with_reducible rfl)))); simp only [Act.put, List.setIfInBounds_toArray, List.set_cons_zero, List.set_cons_succ]))
      refine ordt_nil ?_
      have cB := (HB.out _ H4.out).1
      have cD := (HB.out _ H4.out).2.1
      have hn0 := HN.out
      go_wp2_with (first | (go_at_call 36; ((with_reducible refine (litExists_any _ C _ _ (HC.out _ (HB.out _ H4.out).2.2.2.2).1 ⟨by omega, by omega⟩).mono ?_); rintro e w5 ⟨rfl, hq⟩; rw [HT.out]; have H5 := Lib.hid (H4.out.trans (hq.mono H4.out.size)); clear hq cB cD; have cB := (HB.out _ H5.out).1; have cD := (HB.out _ H5.out).2.1)) | (go_at_call 21; ((with_reducible refine (alive_any _).mono ?_); rintro e w7 ⟨rfl, hq⟩; have HA := Lib.hid (H5.out.trans (hq.mono H5.out.size)); clear hq)))
      go_ret
      exact ⟨rfl, (HC.out _ (HB.out _ HA.out).2.2.2.2).2.2.2⟩
  · clear hs hr
    go_enter Try.func10, Try.ntmps10
    go_wp2
    go_ret
    exact ⟨rfl, Below.refl _ _⟩

end Go.Proofs.Ytddmgphlhfilnaa
