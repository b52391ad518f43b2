import Derived.Test.YtjggcojbgkpooaaCW
import Derived.Test.YtjggcojbgkpooaaCX
import Derived.Test.YtjggcojbgkpooaaCC
import Derived.Test.YtjggcojbgkpooaaBJ
namespace Go.Proofs.Ytjggcojbgkpooaa
set_option linter.unusedVariables false
set_option linter.unusedSimpArgs false
open Go.RowKit

/-! The law FnSameFunction. -/

theorem bdR_eqB {c : Cir} {p q : Int} {b : Bool} {P : Prop} (hb : b = true ↔ P) (h : P ↔ bdR c p = bdR c q) : b = true ↔ bdR c p = bdR c q := hb.trans h

set_option maxRecDepth 100000 in
set_option maxHeartbeats 3200000 in
theorem FnSameFunction_any (s : Option Addr) (cap : Nat) (xs : List Int) (w : World) (hs : Sl w s (u8s xs)) (hl : xs.length ≤ 9223372036854775807) (hcap : xs.length ≤ cap) (hcap2 : cap ≤ 9223372036854775807) (hr : ∀ x ∈ xs, 0 ≤ x ∧ x ≤ 255) :
    Calls Try.prog 3 #[.slice s xs.length cap] w fun e w' => e = .returned (.bool true) ∧ Below w.heap.size w w' := by
  by_cases hc : xs.length ≤ 1048576
  · have HD := Lib.hid (DrawSameFunction_any s cap xs w hs hc hcap hcap2 hr)
    clear hs hr
    go_enter Try.func3, Try.ntmps3
    go_upto_region 4 with (go_at_call 11; (with_reducible refine HD.out.mono ?_); rintro e w1 ⟨C, p, q, vn, vg, vo, rfl, h1, h2, h3, h4⟩; obtain ⟨sn, cn, rfl⟩ := own_shape h1.n; obtain ⟨sg, cg, rfl⟩ := own_shape h1.g; obtain ⟨so, co, rfl⟩ := own_shape h1.o; have H1 := Lib.hid (And.intro h1 h4); obtain ⟨l1, l2, l3, l4, l5⟩ := h2; obtain ⟨p1, p2, q1, q2, q3⟩ := h3; have HQV := Lib.hid q3; clear h1 h4 q3)
    obtain ⟨B, hB⟩ : ∃ B, B = w1.heap.size := ⟨_, rfl⟩
    have hk := blk_new w1 (.cells #[.int .i64 C.inp, .slice sn C.next.length cn, .slice sg C.gates.length cg, .slice so C.outs.length co] 26)
    have hbb := below_alloc w1 (.cells #[.int .i64 C.inp, .slice sn C.next.length cn, .slice sg C.gates.length cg, .slice so C.outs.length co] 26)
    have hV : CirV (w1.alloc (.cells #[.int .i64 C.inp, .slice sn C.next.length cn, .slice sg C.gates.length cg, .slice so C.outs.length co] 26)) (.agg #[.int .i64 C.inp, .slice sn C.next.length cn, .slice sg C.gates.length cg, .slice so C.outs.length co]) C :=
      ⟨_, _, _, _, _, _, rfl, own_sl (own_below H1.out.1.n hbb), own_sl (own_below H1.out.1.g hbb), own_sl (own_below H1.out.1.o hbb), by omega, by omega, by omega⟩
    have hgs := own_sl (own_below H1.out.1.g hbb)
    have hbw := H1.out.2.trans (hbb.mono H1.out.2.size)
    rw [← hB] at hk
    rw [← hB]
    clear hbb hB H1
    revert hV hgs hbw hk
    generalize w1.alloc (.cells #[.int .i64 C.inp, .slice sn C.next.length cn, .slice sg C.gates.length cg, .slice so C.outs.length co] 26) = W1
    intro hk hV hgs hbw
    have HC : Hid (∀ W, Below W1.heap.size W1 W → CirV W (.agg #[.int .i64 C.inp, .slice sn C.next.length cn, .slice sg C.gates.length cg, .slice so C.outs.length co]) C ∧ Sl W sg (gcells C.gates) ∧ (∀ o, W.cell? ⟨B, o, none⟩ = #[Value.int .i64 C.inp, .slice sn C.next.length cn, .slice sg C.gates.length cg, .slice so C.outs.length co][o]?) ∧ Below w.heap.size w W) := fun W hW => ⟨hV.mono hW, hgs.mono hW, (blk_all (blk_below hW (blk_lt hk) hk)).1, hbw.trans (hW.mono hbw.size)⟩
    clear hV hgs hbw hk
    have cb := (HC.out _ (Below.refl _ _)).2.2.1
    obtain ⟨S, hS⟩ : ∃ S, S = sfR C p q := ⟨_, rfl⟩
    have hSb := sfR_bd C p q
    rw [← hS] at hSb
    have HS := Lib.hid hS
    clear hS
    go_upto_region 7 with (first
      | (go_at_call 12; ((with_reducible refine (SameFunction_i _ C p q _ (HC.out _ (Below.refl _ _)).1).mono ?_); rintro e w2 ⟨rfl, hq⟩; rw [← HS.out]; have H2 := Lib.hid hq; clear hq cb; have cb := (HC.out _ H2.out).2.2.1))
      | (go_at_call 13; ((with_reducible refine (SameFunction_s _ C p q _ (HC.out _ H2.out).1).mono ?_); rintro e w3 ⟨rfl, hq⟩; rw [← HS.out]; have H3 := Lib.hid (H2.out.trans (hq.mono H2.out.size)); clear hq cb; have cb := (HC.out _ H3.out).2.2.1))
      | (go_at_call 12; ((with_reducible refine (SameFunction_i _ C q p _ (HC.out _ H3.out).1).mono ?_); rintro e w4 ⟨rfl, hq⟩; rw [← sfR_sym C p q, ← HS.out]; have H4 := Lib.hid (H3.out.trans (hq.mono H3.out.size)); clear hq cb; have cb := (HC.out _ H4.out).2.2.1)))
    clear H2 H3
    by_cases hv : C.validB = true
    · have HV := Lib.hid hv
      have hlim := (C.validB_iff.1 hv).lim
      obtain ⟨z1, z2, z3, z4, z5⟩ := id hlim
      clear hlim hv
      have eV : C.vars = 1 + C.inp + C.next.length + C.gates.length := by unfold Cir.vars; rfl
      obtain ⟨V, hV⟩ : ∃ V : Int, C.vars = V := ⟨_, rfl⟩
      rw [hV] at eV HQV
      have HVV := Lib.hid (And.intro hV eV)
      have v1 : 1 ≤ V := by omega
      have v2 : V ≤ 30 := by omega
      have hqV := HQV.out v1
      clear eV hV
      by_cases hp : 0 ≤ p ∧ p < V
      · obtain ⟨hp0, hpV⟩ := hp
        obtain ⟨pn, rfl⟩ : ∃ pn : Nat, p = pn := ⟨p.toNat, by omega⟩
        obtain ⟨qn, rfl⟩ : ∃ qn : Nat, q = qn := ⟨q.toNat, by omega⟩
        have hPos := sf_pos (c := C) (p := pn) (q := qn) HV.out (by rw [HVV.out.1]; exact hpV) (by rw [HVV.out.1]; exact hqV)
        rw [← HS.out] at hPos
        have HP := Lib.hid hPos
        have HSF := Lib.hid (sfR_self (c := C) (p := (pn : Int)) HV.out hp0 (by rw [HVV.out.1]; exact hpV))
        clear hPos
        obtain ⟨d, hd⟩ : ∃ d, d = bdR C (2 * (qn : Int)) := ⟨_, rfl⟩
        have hdl : d.nodes.length ≤ 200 := by rw [hd]; exact bdR_len C _
        have hdr : 0 ≤ d.root ∧ d.root ≤ 200 := by rw [hd]; exact bdR_root C _
        obtain ⟨hdr1, hdr2⟩ := hdr
        have HDD := Lib.hid hd
        clear hd
        go_upto_region 9 with (first
          | (go_at_call 14; ((with_reducible refine (CircuitValid_s _ C _ (HC.out _ H4.out).1).mono ?_); rintro e w5 ⟨rfl, hq⟩; rw [HV.out]; have H5 := Lib.hid (H4.out.trans (hq.mono H4.out.size)); clear hq cb; have cb := (HC.out _ H5.out).2.2.1))
          | (go_at_call 15; ((with_reducible refine (VarCount_any _ C _ (HC.out _ H5.out).1 HV.out).mono ?_); rintro e w6 ⟨rfl, hq⟩; rw [HVV.out.1]; have H6 := Lib.hid (H5.out.trans (hq.mono H5.out.size)); clear hq cb; have cb := (HC.out _ H6.out).2.2.1)))
        go_upto_region 10 with (go_at_call 17; ((with_reducible refine (BuildBdd_i _ C (2 * (qn : Int)) _ (HC.out _ H6.out).1 ⟨by omega, by omega⟩).mono ?_); rintro e w7 ⟨sb, cb2, rfl, h1, hq⟩; rw [← HDD.out] at h1 ⊢; have H7 := Lib.hid (And.intro h1 (H6.out.trans (hq.mono H6.out.size))); clear h1 hq cb))
        obtain ⟨D, hD⟩ : ∃ D, D = w7.heap.size := ⟨_, rfl⟩
        have hk := blk_new w7 (.cells #[.slice sb d.nodes.length cb2, .int .i64 d.root] 35)
        have hbb := below_alloc w7 (.cells #[.slice sb d.nodes.length cb2, .int .i64 d.root] 35)
        have hV := bdV_own (own_below H7.out.1 hbb) (by omega)
        have hbw := H7.out.2.trans (hbb.mono H7.out.2.size)
        have hsb := own_sl (own_below H7.out.1 hbb)
        rw [← hD] at hk
        rw [← hD]
        clear hbb hD H7
        revert hV hbw hk hsb
        generalize w7.alloc (.cells #[.slice sb d.nodes.length cb2, .int .i64 d.root] 35) = W2
        intro hk hV hbw hsb
        have HB : Hid (∀ W, Below W2.heap.size W2 W → (∀ o, W.cell? ⟨B, o, none⟩ = #[Value.int .i64 C.inp, .slice sn C.next.length cn, .slice sg C.gates.length cg, .slice so C.outs.length co][o]?) ∧ (∀ o, W.cell? ⟨D, o, none⟩ = #[Value.slice sb d.nodes.length cb2, .int .i64 d.root][o]?) ∧ BdV W (.agg #[.slice sb d.nodes.length cb2, .int .i64 d.root]) d ∧ Sl W sb (ncells d.nodes) ∧ Below W1.heap.size W1 W) := fun W hW => ⟨(HC.out _ (hbw.trans (hW.mono hbw.size))).2.2.1, (blk_all (blk_below hW (blk_lt hk) hk)).1, hV.mono hW, hsb.mono hW, hbw.trans (hW.mono hbw.size)⟩
        clear hV hbw hk hsb
        have hd0 := (Below.refl W2.heap.size W2).drew
        have hw1 : IntKind.i64.wrap (2 * (pn : Int)) = 2 * (pn : Int) := IntWalk.i64_in _ ⟨by omega, by omega⟩
        have hw2 : IntKind.i64.wrap (2 * (pn : Int) + 1) = 2 * (pn : Int) + 1 := IntWalk.i64_in _ ⟨by omega, by omega⟩
        rcases (show S = 1 ∨ S = 0 ∨ S = -1 by omega) with rfl | rfl | rfl
        · refine wp_region_T (fun w' => (∀ o, w'.cell? ⟨B, o, none⟩ = #[Value.int .i64 C.inp, .slice sn C.next.length cn, .slice sg C.gates.length cg, .slice so C.outs.length co][o]?) ∧ (∀ o, w'.cell? ⟨D, o, none⟩ = #[Value.slice sb d.nodes.length cb2, .int .i64 d.root][o]?)) (.q 0 (.q 1 (.q 2 (.e 3 (.q 4 (.q 5 (.q 6 (.q 7 (.q 8 (.q 9 (.q 10 (.q 12 (.e 11 (.e 13 (.q 14 (.q 15 (.q 16 (.q 17 (.q 18 (.q 19 (.q 20 (.q 21 (.q 22 (.q 24 (.e 23 (.e 25 (.q 26 (.q 27 (.q 28 .nil))))))))))))))))))))))))))))) (by kernel_rfl) (by kernel_rfl) (by kernel_rfl) ⟨(HB.out _ hd0).1, (HB.out _ hd0).2.1⟩ ?_
          repeat (first | (refine ordt_s (o := ?_) ?_ ?_ ?_; rotate_left 1; (focus ((simp only [List.getElem?_toArray, List.getElem?_cons_succ, List.getElem?_cons_zero]) <;> rfl)); (focus rfl); simp only [Act.put, List.setIfInBounds_toArray, List.set_cons_zero, List.set_cons_succ]) | (refine ordt_q (o := ?_) (v := ?_) ?_ ?_ ?_ ?_; rotate_left 2; (focus ((simp only [List.getElem?_toArray, List.getElem?_cons_succ, List.getElem?_cons_zero]) <;> rfl)); (focus rfl); (focus (intro w' hS; (try dsimp only at hS); go_split_ands; go_simp; (try (with_reducible rfl)))); simp only [Act.put, List.setIfInBounds_toArray, List.set_cons_zero, List.set_cons_succ]))
          refine ordt_e ?_
          (refine op_e (o := ?_) ?_ ?_ (fun K hK => ?_); rotate_left 1; (focus ((simp only [List.getElem?_toArray, List.getElem?_cons_succ, List.getElem?_cons_zero]) <;> rfl)); (focus rfl); go_simp)
          refine (SameFunction_i _ C pn pn _ (HC.out _ (HB.out _ hd0).2.2.2.2).1).mono ?_
          rintro e wa ⟨rfl, hq⟩
          rw [HSF.out]
          have hqa := hd0.trans hq
          refine hK.out _ _ ⟨(HB.out _ hqa).1, (HB.out _ hqa).2.1⟩ ?_
          clear hK K hq
          have Ha := Lib.hid hqa
          clear hqa
          (try simp only [Act.put, List.setIfInBounds_toArray, List.set_cons_zero, List.set_cons_succ])
          repeat (first | (refine ordt_s (o := ?_) ?_ ?_ ?_; rotate_left 1; (focus ((simp only [List.getElem?_toArray, List.getElem?_cons_succ, List.getElem?_cons_zero]) <;> rfl)); (focus rfl); simp only [Act.put, List.setIfInBounds_toArray, List.set_cons_zero, List.set_cons_succ]) | (refine ordt_q (o := ?_) (v := ?_) ?_ ?_ ?_ ?_; rotate_left 2; (focus ((simp only [List.getElem?_toArray, List.getElem?_cons_succ, List.getElem?_cons_zero]) <;> rfl)); (focus rfl); (focus (intro w' hS; (try dsimp only at hS); go_split_ands; go_simp; (try (with_reducible rfl)))); simp only [Act.put, List.setIfInBounds_toArray, List.set_cons_zero, List.set_cons_succ]))
          refine ordt_e ?_
          (refine op_e (o := ?_) ?_ ?_ (fun K hK => ?_); rotate_left 1; (focus ((simp only [List.getElem?_toArray, List.getElem?_cons_succ, List.getElem?_cons_zero]) <;> rfl)); (focus rfl); go_simp)
          refine (BuildBdd_i _ C (2 * (pn : Int)) _ (HC.out _ (HB.out _ Ha.out).2.2.2.2).1 ⟨by omega, by omega⟩).mono ?_
          rintro e wb ⟨s3, c3, rfl, h3, hq⟩
          have hqb := Ha.out.trans (hq.mono Ha.out.size)
          refine hK.out _ _ ⟨(HB.out _ hqb).1, (HB.out _ hqb).2.1⟩ ?_
          clear hK K hq
          have Hb := Lib.hid (And.intro hqb (own_sl h3))
          clear hqb h3
          (try simp only [Act.put, List.setIfInBounds_toArray, List.set_cons_zero, List.set_cons_succ])
          repeat (first | (refine ordt_s (o := ?_) ?_ ?_ ?_; rotate_left 1; (focus ((simp only [List.getElem?_toArray, List.getElem?_cons_succ, List.getElem?_cons_zero]) <;> rfl)); (focus rfl); simp only [Act.put, List.setIfInBounds_toArray, List.set_cons_zero, List.set_cons_succ]) | (refine ordt_q (o := ?_) (v := ?_) ?_ ?_ ?_ ?_; rotate_left 2; (focus ((simp only [List.getElem?_toArray, List.getElem?_cons_succ, List.getElem?_cons_zero]) <;> rfl)); (focus rfl); (focus (intro w' hS; (try dsimp only at hS); go_split_ands; go_simp; (try (with_reducible rfl)))); simp only [Act.put, List.setIfInBounds_toArray, List.set_cons_zero, List.set_cons_succ]))
          refine ordt_e ?_
          (refine op_e (o := ?_) ?_ ?_ (fun K hK => ?_); rotate_left 1; (focus ((simp only [List.getElem?_toArray, List.getElem?_cons_succ, List.getElem?_cons_zero]) <;> rfl)); (focus rfl); go_simp)
          refine (sameBdd_any s3 sb c3 cb2 (bdR C (2 * (pn : Int))) d true _ Hb.out.2 (HB.out _ Hb.out.1).2.2.2.1 (by have := bdR_len C (2 * (pn : Int)); omega) (by omega) (by have := bdR_root C (2 * (pn : Int)); omega) ⟨by omega, by omega⟩ (by rw [HDD.out]; exact bdR_eqB (by simp) HP.out.1)).mono ?_
          rintro e wc ⟨rfl, hq⟩
          have hqc := Hb.out.1.trans (hq.mono Hb.out.1.size)
          refine hK.out _ _ ⟨(HB.out _ hqc).1, (HB.out _ hqc).2.1⟩ ?_
          clear hK K hq
          have Hc := Lib.hid hqc
          clear hqc
          (try simp only [Act.put, List.setIfInBounds_toArray, List.set_cons_zero, List.set_cons_succ])
          repeat (first | (refine ordt_s (o := ?_) ?_ ?_ ?_; rotate_left 1; (focus ((simp only [List.getElem?_toArray, List.getElem?_cons_succ, List.getElem?_cons_zero]) <;> rfl)); (focus rfl); simp only [Act.put, List.setIfInBounds_toArray, List.set_cons_zero, List.set_cons_succ]) | (refine ordt_q (o := ?_) (v := ?_) ?_ ?_ ?_ ?_; rotate_left 2; (focus ((simp only [List.getElem?_toArray, List.getElem?_cons_succ, List.getElem?_cons_zero]) <;> rfl)); (focus rfl); (focus (intro w' hS; (try dsimp only at hS); go_split_ands; go_simp; (try (with_reducible rfl)))); simp only [Act.put, List.setIfInBounds_toArray, List.set_cons_zero, List.set_cons_succ]))
          refine ordt_e ?_
          (refine op_e (o := ?_) ?_ ?_ (fun K hK => ?_); rotate_left 1; (focus ((simp only [List.getElem?_toArray, List.getElem?_cons_succ, List.getElem?_cons_zero]) <;> rfl)); (focus rfl); go_simp)
          refine (BuildBdd_i _ C (2 * (pn : Int) + 1) _ (HC.out _ (HB.out _ Hc.out).2.2.2.2).1 ⟨by omega, by omega⟩).mono ?_
          rintro e we ⟨s4, c4, rfl, h3, hq⟩
          have hqb := Hc.out.trans (hq.mono Hc.out.size)
          refine hK.out _ _ ⟨(HB.out _ hqb).1, (HB.out _ hqb).2.1⟩ ?_
          clear hK K hq
          have He := Lib.hid (And.intro hqb (own_sl h3))
          clear hqb h3
          (try simp only [Act.put, List.setIfInBounds_toArray, List.set_cons_zero, List.set_cons_succ])
          repeat (first | (refine ordt_s (o := ?_) ?_ ?_ ?_; rotate_left 1; (focus ((simp only [List.getElem?_toArray, List.getElem?_cons_succ, List.getElem?_cons_zero]) <;> rfl)); (focus rfl); simp only [Act.put, List.setIfInBounds_toArray, List.set_cons_zero, List.set_cons_succ]) | (refine ordt_q (o := ?_) (v := ?_) ?_ ?_ ?_ ?_; rotate_left 2; (focus ((simp only [List.getElem?_toArray, List.getElem?_cons_succ, List.getElem?_cons_zero]) <;> rfl)); (focus rfl); (focus (intro w' hS; (try dsimp only at hS); go_split_ands; go_simp; (try (with_reducible rfl)))); simp only [Act.put, List.setIfInBounds_toArray, List.set_cons_zero, List.set_cons_succ]))
          refine ordt_e ?_
          (refine op_e (o := ?_) ?_ ?_ (fun K hK => ?_); rotate_left 1; (focus ((simp only [List.getElem?_toArray, List.getElem?_cons_succ, List.getElem?_cons_zero]) <;> rfl)); (focus rfl); go_simp)
          refine (sameBdd_any s4 sb c4 cb2 (bdR C (2 * (pn : Int) + 1)) d false _ He.out.2 (HB.out _ He.out.1).2.2.2.1 (by have := bdR_len C (2 * (pn : Int) + 1); omega) (by omega) (by have := bdR_root C (2 * (pn : Int) + 1); omega) ⟨by omega, by omega⟩ (by rw [HDD.out]; exact bdR_eqB (by simp) HP.out.2)).mono ?_
          rintro e wf ⟨rfl, hq⟩
          have hqf := He.out.1.trans (hq.mono He.out.1.size)
          refine hK.out _ _ ⟨(HB.out _ hqf).1, (HB.out _ hqf).2.1⟩ ?_
          clear hK K hq
          have Hf := Lib.hid hqf
          clear hqf
          (try simp only [Act.put, List.setIfInBounds_toArray, List.set_cons_zero, List.set_cons_succ])
          repeat (first | (refine ordt_s (o := ?_) ?_ ?_ ?_; rotate_left 1; (focus ((simp only [List.getElem?_toArray, List.getElem?_cons_succ, List.getElem?_cons_zero]) <;> rfl)); (focus rfl); simp only [Act.put, List.setIfInBounds_toArray, List.set_cons_zero, List.set_cons_succ]) | (refine ordt_q (o := ?_) (v := ?_) ?_ ?_ ?_ ?_; rotate_left 2; (focus ((simp only [List.getElem?_toArray, List.getElem?_cons_succ, List.getElem?_cons_zero]) <;> rfl)); (focus rfl); (focus (intro w' hS; (try dsimp only at hS); go_split_ands; go_simp; (try (with_reducible rfl)))); simp only [Act.put, List.setIfInBounds_toArray, List.set_cons_zero, List.set_cons_succ]))
          refine ordt_nil ?_
          go_wp2_with fail
          go_ret
          exact ⟨rfl, (HC.out _ (HB.out _ Hf.out).2.2.2.2).2.2.2⟩
        · refine wp_region_T (fun w' => (∀ o, w'.cell? ⟨B, o, none⟩ = #[Value.int .i64 C.inp, .slice sn C.next.length cn, .slice sg C.gates.length cg, .slice so C.outs.length co][o]?) ∧ (∀ o, w'.cell? ⟨D, o, none⟩ = #[Value.slice sb d.nodes.length cb2, .int .i64 d.root][o]?)) (.q 0 (.q 1 (.q 2 (.e 3 (.q 4 (.q 5 (.q 6 (.q 7 (.q 8 (.q 9 (.q 10 (.q 12 (.e 11 (.e 13 (.q 14 (.q 15 (.q 16 (.q 17 (.q 18 (.q 19 (.q 20 (.q 21 (.q 22 (.q 24 (.e 23 (.e 25 (.q 26 (.q 27 (.q 28 .nil))))))))))))))))))))))))))))) (by kernel_rfl) (by kernel_rfl) (by kernel_rfl) ⟨(HB.out _ hd0).1, (HB.out _ hd0).2.1⟩ ?_
          repeat (first | (refine ordt_s (o := ?_) ?_ ?_ ?_; rotate_left 1; (focus ((simp only [List.getElem?_toArray, List.getElem?_cons_succ, List.getElem?_cons_zero]) <;> rfl)); (focus rfl); simp only [Act.put, List.setIfInBounds_toArray, List.set_cons_zero, List.set_cons_succ]) | (refine ordt_q (o := ?_) (v := ?_) ?_ ?_ ?_ ?_; rotate_left 2; (focus ((simp only [List.getElem?_toArray, List.getElem?_cons_succ, List.getElem?_cons_zero]) <;> rfl)); (focus rfl); (focus (intro w' hS; (try dsimp only at hS); go_split_ands; go_simp; (try (with_reducible rfl)))); simp only [Act.put, List.setIfInBounds_toArray, List.set_cons_zero, List.set_cons_succ]))
          refine ordt_e ?_
          (refine op_e (o := ?_) ?_ ?_ (fun K hK => ?_); rotate_left 1; (focus ((simp only [List.getElem?_toArray, List.getElem?_cons_succ, List.getElem?_cons_zero]) <;> rfl)); (focus rfl); go_simp)
          refine (SameFunction_i _ C pn pn _ (HC.out _ (HB.out _ hd0).2.2.2.2).1).mono ?_
          rintro e wa ⟨rfl, hq⟩
          rw [HSF.out]
          have hqa := hd0.trans hq
          refine hK.out _ _ ⟨(HB.out _ hqa).1, (HB.out _ hqa).2.1⟩ ?_
          clear hK K hq
          have Ha := Lib.hid hqa
          clear hqa
          (try simp only [Act.put, List.setIfInBounds_toArray, List.set_cons_zero, List.set_cons_succ])
          repeat (first | (refine ordt_s (o := ?_) ?_ ?_ ?_; rotate_left 1; (focus ((simp only [List.getElem?_toArray, List.getElem?_cons_succ, List.getElem?_cons_zero]) <;> rfl)); (focus rfl); simp only [Act.put, List.setIfInBounds_toArray, List.set_cons_zero, List.set_cons_succ]) | (refine ordt_q (o := ?_) (v := ?_) ?_ ?_ ?_ ?_; rotate_left 2; (focus ((simp only [List.getElem?_toArray, List.getElem?_cons_succ, List.getElem?_cons_zero]) <;> rfl)); (focus rfl); (focus (intro w' hS; (try dsimp only at hS); go_split_ands; go_simp; (try (with_reducible rfl)))); simp only [Act.put, List.setIfInBounds_toArray, List.set_cons_zero, List.set_cons_succ]))
          refine ordt_e ?_
          (refine op_e (o := ?_) ?_ ?_ (fun K hK => ?_); rotate_left 1; (focus ((simp only [List.getElem?_toArray, List.getElem?_cons_succ, List.getElem?_cons_zero]) <;> rfl)); (focus rfl); go_simp)
          refine (BuildBdd_i _ C (2 * (pn : Int)) _ (HC.out _ (HB.out _ Ha.out).2.2.2.2).1 ⟨by omega, by omega⟩).mono ?_
          rintro e wb ⟨s3, c3, rfl, h3, hq⟩
          have hqb := Ha.out.trans (hq.mono Ha.out.size)
          refine hK.out _ _ ⟨(HB.out _ hqb).1, (HB.out _ hqb).2.1⟩ ?_
          clear hK K hq
          have Hb := Lib.hid (And.intro hqb (own_sl h3))
          clear hqb h3
          (try simp only [Act.put, List.setIfInBounds_toArray, List.set_cons_zero, List.set_cons_succ])
          repeat (first | (refine ordt_s (o := ?_) ?_ ?_ ?_; rotate_left 1; (focus ((simp only [List.getElem?_toArray, List.getElem?_cons_succ, List.getElem?_cons_zero]) <;> rfl)); (focus rfl); simp only [Act.put, List.setIfInBounds_toArray, List.set_cons_zero, List.set_cons_succ]) | (refine ordt_q (o := ?_) (v := ?_) ?_ ?_ ?_ ?_; rotate_left 2; (focus ((simp only [List.getElem?_toArray, List.getElem?_cons_succ, List.getElem?_cons_zero]) <;> rfl)); (focus rfl); (focus (intro w' hS; (try dsimp only at hS); go_split_ands; go_simp; (try (with_reducible rfl)))); simp only [Act.put, List.setIfInBounds_toArray, List.set_cons_zero, List.set_cons_succ]))
          refine ordt_e ?_
          (refine op_e (o := ?_) ?_ ?_ (fun K hK => ?_); rotate_left 1; (focus ((simp only [List.getElem?_toArray, List.getElem?_cons_succ, List.getElem?_cons_zero]) <;> rfl)); (focus rfl); go_simp)
          refine (sameBdd_any s3 sb c3 cb2 (bdR C (2 * (pn : Int))) d false _ Hb.out.2 (HB.out _ Hb.out.1).2.2.2.1 (by have := bdR_len C (2 * (pn : Int)); omega) (by omega) (by have := bdR_root C (2 * (pn : Int)); omega) ⟨by omega, by omega⟩ (by rw [HDD.out]; exact bdR_eqB (by simp) HP.out.1)).mono ?_
          rintro e wc ⟨rfl, hq⟩
          have hqc := Hb.out.1.trans (hq.mono Hb.out.1.size)
          refine hK.out _ _ ⟨(HB.out _ hqc).1, (HB.out _ hqc).2.1⟩ ?_
          clear hK K hq
          have Hc := Lib.hid hqc
          clear hqc
          (try simp only [Act.put, List.setIfInBounds_toArray, List.set_cons_zero, List.set_cons_succ])
          repeat (first | (refine ordt_s (o := ?_) ?_ ?_ ?_; rotate_left 1; (focus ((simp only [List.getElem?_toArray, List.getElem?_cons_succ, List.getElem?_cons_zero]) <;> rfl)); (focus rfl); simp only [Act.put, List.setIfInBounds_toArray, List.set_cons_zero, List.set_cons_succ]) | (refine ordt_q (o := ?_) (v := ?_) ?_ ?_ ?_ ?_; rotate_left 2; (focus ((simp only [List.getElem?_toArray, List.getElem?_cons_succ, List.getElem?_cons_zero]) <;> rfl)); (focus rfl); (focus (intro w' hS; (try dsimp only at hS); go_split_ands; go_simp; (try (with_reducible rfl)))); simp only [Act.put, List.setIfInBounds_toArray, List.set_cons_zero, List.set_cons_succ]))
          refine ordt_e ?_
          (refine op_e (o := ?_) ?_ ?_ (fun K hK => ?_); rotate_left 1; (focus ((simp only [List.getElem?_toArray, List.getElem?_cons_succ, List.getElem?_cons_zero]) <;> rfl)); (focus rfl); go_simp)
          refine (BuildBdd_i _ C (2 * (pn : Int) + 1) _ (HC.out _ (HB.out _ Hc.out).2.2.2.2).1 ⟨by omega, by omega⟩).mono ?_
          rintro e we ⟨s4, c4, rfl, h3, hq⟩
          have hqb := Hc.out.trans (hq.mono Hc.out.size)
          refine hK.out _ _ ⟨(HB.out _ hqb).1, (HB.out _ hqb).2.1⟩ ?_
          clear hK K hq
          have He := Lib.hid (And.intro hqb (own_sl h3))
          clear hqb h3
          (try simp only [Act.put, List.setIfInBounds_toArray, List.set_cons_zero, List.set_cons_succ])
          repeat (first | (refine ordt_s (o := ?_) ?_ ?_ ?_; rotate_left 1; (focus ((simp only [List.getElem?_toArray, List.getElem?_cons_succ, List.getElem?_cons_zero]) <;> rfl)); (focus rfl); simp only [Act.put, List.setIfInBounds_toArray, List.set_cons_zero, List.set_cons_succ]) | (refine ordt_q (o := ?_) (v := ?_) ?_ ?_ ?_ ?_; rotate_left 2; (focus ((simp only [List.getElem?_toArray, List.getElem?_cons_succ, List.getElem?_cons_zero]) <;> rfl)); (focus rfl); (focus (intro w' hS; (try dsimp only at hS); go_split_ands; go_simp; (try (with_reducible rfl)))); simp only [Act.put, List.setIfInBounds_toArray, List.set_cons_zero, List.set_cons_succ]))
          refine ordt_e ?_
          (refine op_e (o := ?_) ?_ ?_ (fun K hK => ?_); rotate_left 1; (focus ((simp only [List.getElem?_toArray, List.getElem?_cons_succ, List.getElem?_cons_zero]) <;> rfl)); (focus rfl); go_simp)
          refine (sameBdd_any s4 sb c4 cb2 (bdR C (2 * (pn : Int) + 1)) d false _ He.out.2 (HB.out _ He.out.1).2.2.2.1 (by have := bdR_len C (2 * (pn : Int) + 1); omega) (by omega) (by have := bdR_root C (2 * (pn : Int) + 1); omega) ⟨by omega, by omega⟩ (by rw [HDD.out]; exact bdR_eqB (by simp) HP.out.2)).mono ?_
          rintro e wf ⟨rfl, hq⟩
          have hqf := He.out.1.trans (hq.mono He.out.1.size)
          refine hK.out _ _ ⟨(HB.out _ hqf).1, (HB.out _ hqf).2.1⟩ ?_
          clear hK K hq
          have Hf := Lib.hid hqf
          clear hqf
          (try simp only [Act.put, List.setIfInBounds_toArray, List.set_cons_zero, List.set_cons_succ])
          repeat (first | (refine ordt_s (o := ?_) ?_ ?_ ?_; rotate_left 1; (focus ((simp only [List.getElem?_toArray, List.getElem?_cons_succ, List.getElem?_cons_zero]) <;> rfl)); (focus rfl); simp only [Act.put, List.setIfInBounds_toArray, List.set_cons_zero, List.set_cons_succ]) | (refine ordt_q (o := ?_) (v := ?_) ?_ ?_ ?_ ?_; rotate_left 2; (focus ((simp only [List.getElem?_toArray, List.getElem?_cons_succ, List.getElem?_cons_zero]) <;> rfl)); (focus rfl); (focus (intro w' hS; (try dsimp only at hS); go_split_ands; go_simp; (try (with_reducible rfl)))); simp only [Act.put, List.setIfInBounds_toArray, List.set_cons_zero, List.set_cons_succ]))
          refine ordt_nil ?_
          go_wp2_with fail
          go_ret
          exact ⟨rfl, (HC.out _ (HB.out _ Hf.out).2.2.2.2).2.2.2⟩
        · refine wp_region_T (fun w' => (∀ o, w'.cell? ⟨B, o, none⟩ = #[Value.int .i64 C.inp, .slice sn C.next.length cn, .slice sg C.gates.length cg, .slice so C.outs.length co][o]?) ∧ (∀ o, w'.cell? ⟨D, o, none⟩ = #[Value.slice sb d.nodes.length cb2, .int .i64 d.root][o]?)) (.q 0 (.q 1 (.q 2 (.e 3 (.q 4 (.q 5 (.q 6 (.q 7 (.q 8 (.q 9 (.q 10 (.q 12 (.e 11 (.e 13 (.q 14 (.q 15 (.q 16 (.q 17 (.q 18 (.q 19 (.q 20 (.q 21 (.q 22 (.q 24 (.e 23 (.e 25 (.q 26 (.q 27 (.q 28 .nil))))))))))))))))))))))))))))) (by kernel_rfl) (by kernel_rfl) (by kernel_rfl) ⟨(HB.out _ hd0).1, (HB.out _ hd0).2.1⟩ ?_
          repeat (first | (refine ordt_s (o := ?_) ?_ ?_ ?_; rotate_left 1; (focus ((simp only [List.getElem?_toArray, List.getElem?_cons_succ, List.getElem?_cons_zero]) <;> rfl)); (focus rfl); simp only [Act.put, List.setIfInBounds_toArray, List.set_cons_zero, List.set_cons_succ]) | (refine ordt_q (o := ?_) (v := ?_) ?_ ?_ ?_ ?_; rotate_left 2; (focus ((simp only [List.getElem?_toArray, List.getElem?_cons_succ, List.getElem?_cons_zero]) <;> rfl)); (focus rfl); (focus (intro w' hS; (try dsimp only at hS); go_split_ands; go_simp; (try (with_reducible rfl)))); simp only [Act.put, List.setIfInBounds_toArray, List.set_cons_zero, List.set_cons_succ]))
          refine ordt_e ?_
          (refine op_e (o := ?_) ?_ ?_ (fun K hK => ?_); rotate_left 1; (focus ((simp only [List.getElem?_toArray, List.getElem?_cons_succ, List.getElem?_cons_zero]) <;> rfl)); (focus rfl); go_simp)
          refine (SameFunction_i _ C pn pn _ (HC.out _ (HB.out _ hd0).2.2.2.2).1).mono ?_
          rintro e wa ⟨rfl, hq⟩
          rw [HSF.out]
          have hqa := hd0.trans hq
          refine hK.out _ _ ⟨(HB.out _ hqa).1, (HB.out _ hqa).2.1⟩ ?_
          clear hK K hq
          have Ha := Lib.hid hqa
          clear hqa
          (try simp only [Act.put, List.setIfInBounds_toArray, List.set_cons_zero, List.set_cons_succ])
          repeat (first | (refine ordt_s (o := ?_) ?_ ?_ ?_; rotate_left 1; (focus ((simp only [List.getElem?_toArray, List.getElem?_cons_succ, List.getElem?_cons_zero]) <;> rfl)); (focus rfl); simp only [Act.put, List.setIfInBounds_toArray, List.set_cons_zero, List.set_cons_succ]) | (refine ordt_q (o := ?_) (v := ?_) ?_ ?_ ?_ ?_; rotate_left 2; (focus ((simp only [List.getElem?_toArray, List.getElem?_cons_succ, List.getElem?_cons_zero]) <;> rfl)); (focus rfl); (focus (intro w' hS; (try dsimp only at hS); go_split_ands; go_simp; (try (with_reducible rfl)))); simp only [Act.put, List.setIfInBounds_toArray, List.set_cons_zero, List.set_cons_succ]))
          refine ordt_e ?_
          (refine op_e (o := ?_) ?_ ?_ (fun K hK => ?_); rotate_left 1; (focus ((simp only [List.getElem?_toArray, List.getElem?_cons_succ, List.getElem?_cons_zero]) <;> rfl)); (focus rfl); go_simp)
          refine (BuildBdd_i _ C (2 * (pn : Int)) _ (HC.out _ (HB.out _ Ha.out).2.2.2.2).1 ⟨by omega, by omega⟩).mono ?_
          rintro e wb ⟨s3, c3, rfl, h3, hq⟩
          have hqb := Ha.out.trans (hq.mono Ha.out.size)
          refine hK.out _ _ ⟨(HB.out _ hqb).1, (HB.out _ hqb).2.1⟩ ?_
          clear hK K hq
          have Hb := Lib.hid (And.intro hqb (own_sl h3))
          clear hqb h3
          (try simp only [Act.put, List.setIfInBounds_toArray, List.set_cons_zero, List.set_cons_succ])
          repeat (first | (refine ordt_s (o := ?_) ?_ ?_ ?_; rotate_left 1; (focus ((simp only [List.getElem?_toArray, List.getElem?_cons_succ, List.getElem?_cons_zero]) <;> rfl)); (focus rfl); simp only [Act.put, List.setIfInBounds_toArray, List.set_cons_zero, List.set_cons_succ]) | (refine ordt_q (o := ?_) (v := ?_) ?_ ?_ ?_ ?_; rotate_left 2; (focus ((simp only [List.getElem?_toArray, List.getElem?_cons_succ, List.getElem?_cons_zero]) <;> rfl)); (focus rfl); (focus (intro w' hS; (try dsimp only at hS); go_split_ands; go_simp; (try (with_reducible rfl)))); simp only [Act.put, List.setIfInBounds_toArray, List.set_cons_zero, List.set_cons_succ]))
          refine ordt_e ?_
          (refine op_e (o := ?_) ?_ ?_ (fun K hK => ?_); rotate_left 1; (focus ((simp only [List.getElem?_toArray, List.getElem?_cons_succ, List.getElem?_cons_zero]) <;> rfl)); (focus rfl); go_simp)
          refine (sameBdd_any s3 sb c3 cb2 (bdR C (2 * (pn : Int))) d false _ Hb.out.2 (HB.out _ Hb.out.1).2.2.2.1 (by have := bdR_len C (2 * (pn : Int)); omega) (by omega) (by have := bdR_root C (2 * (pn : Int)); omega) ⟨by omega, by omega⟩ (by rw [HDD.out]; exact bdR_eqB (by simp) HP.out.1)).mono ?_
          rintro e wc ⟨rfl, hq⟩
          have hqc := Hb.out.1.trans (hq.mono Hb.out.1.size)
          refine hK.out _ _ ⟨(HB.out _ hqc).1, (HB.out _ hqc).2.1⟩ ?_
          clear hK K hq
          have Hc := Lib.hid hqc
          clear hqc
          (try simp only [Act.put, List.setIfInBounds_toArray, List.set_cons_zero, List.set_cons_succ])
          repeat (first | (refine ordt_s (o := ?_) ?_ ?_ ?_; rotate_left 1; (focus ((simp only [List.getElem?_toArray, List.getElem?_cons_succ, List.getElem?_cons_zero]) <;> rfl)); (focus rfl); simp only [Act.put, List.setIfInBounds_toArray, List.set_cons_zero, List.set_cons_succ]) | (refine ordt_q (o := ?_) (v := ?_) ?_ ?_ ?_ ?_; rotate_left 2; (focus ((simp only [List.getElem?_toArray, List.getElem?_cons_succ, List.getElem?_cons_zero]) <;> rfl)); (focus rfl); (focus (intro w' hS; (try dsimp only at hS); go_split_ands; go_simp; (try (with_reducible rfl)))); simp only [Act.put, List.setIfInBounds_toArray, List.set_cons_zero, List.set_cons_succ]))
          refine ordt_e ?_
          (refine op_e (o := ?_) ?_ ?_ (fun K hK => ?_); rotate_left 1; (focus ((simp only [List.getElem?_toArray, List.getElem?_cons_succ, List.getElem?_cons_zero]) <;> rfl)); (focus rfl); go_simp)
          refine (BuildBdd_i _ C (2 * (pn : Int) + 1) _ (HC.out _ (HB.out _ Hc.out).2.2.2.2).1 ⟨by omega, by omega⟩).mono ?_
          rintro e we ⟨s4, c4, rfl, h3, hq⟩
          have hqb := Hc.out.trans (hq.mono Hc.out.size)
          refine hK.out _ _ ⟨(HB.out _ hqb).1, (HB.out _ hqb).2.1⟩ ?_
          clear hK K hq
          have He := Lib.hid (And.intro hqb (own_sl h3))
          clear hqb h3
          (try simp only [Act.put, List.setIfInBounds_toArray, List.set_cons_zero, List.set_cons_succ])
          repeat (first | (refine ordt_s (o := ?_) ?_ ?_ ?_; rotate_left 1; (focus ((simp only [List.getElem?_toArray, List.getElem?_cons_succ, List.getElem?_cons_zero]) <;> rfl)); (focus rfl); simp only [Act.put, List.setIfInBounds_toArray, List.set_cons_zero, List.set_cons_succ]) | (refine ordt_q (o := ?_) (v := ?_) ?_ ?_ ?_ ?_; rotate_left 2; (focus ((simp only [List.getElem?_toArray, List.getElem?_cons_succ, List.getElem?_cons_zero]) <;> rfl)); (focus rfl); (focus (intro w' hS; (try dsimp only at hS); go_split_ands; go_simp; (try (with_reducible rfl)))); simp only [Act.put, List.setIfInBounds_toArray, List.set_cons_zero, List.set_cons_succ]))
          refine ordt_e ?_
          (refine op_e (o := ?_) ?_ ?_ (fun K hK => ?_); rotate_left 1; (focus ((simp only [List.getElem?_toArray, List.getElem?_cons_succ, List.getElem?_cons_zero]) <;> rfl)); (focus rfl); go_simp)
          refine (sameBdd_any s4 sb c4 cb2 (bdR C (2 * (pn : Int) + 1)) d true _ He.out.2 (HB.out _ He.out.1).2.2.2.1 (by have := bdR_len C (2 * (pn : Int) + 1); omega) (by omega) (by have := bdR_root C (2 * (pn : Int) + 1); omega) ⟨by omega, by omega⟩ (by rw [HDD.out]; exact bdR_eqB (by simp) HP.out.2)).mono ?_
          rintro e wf ⟨rfl, hq⟩
          have hqf := He.out.1.trans (hq.mono He.out.1.size)
          refine hK.out _ _ ⟨(HB.out _ hqf).1, (HB.out _ hqf).2.1⟩ ?_
          clear hK K hq
          have Hf := Lib.hid hqf
          clear hqf
          (try simp only [Act.put, List.setIfInBounds_toArray, List.set_cons_zero, List.set_cons_succ])
          repeat (first | (refine ordt_s (o := ?_) ?_ ?_ ?_; rotate_left 1; (focus ((simp only [List.getElem?_toArray, List.getElem?_cons_succ, List.getElem?_cons_zero]) <;> rfl)); (focus rfl); simp only [Act.put, List.setIfInBounds_toArray, List.set_cons_zero, List.set_cons_succ]) | (refine ordt_q (o := ?_) (v := ?_) ?_ ?_ ?_ ?_; rotate_left 2; (focus ((simp only [List.getElem?_toArray, List.getElem?_cons_succ, List.getElem?_cons_zero]) <;> rfl)); (focus rfl); (focus (intro w' hS; (try dsimp only at hS); go_split_ands; go_simp; (try (with_reducible rfl)))); simp only [Act.put, List.setIfInBounds_toArray, List.set_cons_zero, List.set_cons_succ]))
          refine ordt_nil ?_
          go_wp2_with fail
          go_ret
          exact ⟨rfl, (HC.out _ (HB.out _ Hf.out).2.2.2.2).2.2.2⟩
      · have hS0 : S = 0 := by rw [HS.out]; exact sfR_no fun h => hp ⟨h.2.1.1, by rw [← HVV.out.1]; exact h.2.1.2⟩
        subst hS0
        by_cases hp0 : p < 0
        · go_wp2_with (first
            | (go_at_call 14; ((with_reducible refine (CircuitValid_s _ C _ (HC.out _ H4.out).1).mono ?_); rintro e w5 ⟨rfl, hq⟩; rw [HV.out]; have H5 := Lib.hid (H4.out.trans (hq.mono H4.out.size)); clear hq cb; have cb := (HC.out _ H5.out).2.2.1))
            | (go_at_call 16; ((with_reducible refine (alive_any _).mono ?_); rintro e w6 ⟨rfl, hq⟩; have H6 := Lib.hid (H5.out.trans (hq.mono H5.out.size)); clear hq)))
          go_ret
          exact ⟨rfl, (HC.out _ H6.out).2.2.2⟩
        · have hpV : V ≤ p := by
            by_cases h : V ≤ p
            · exact h
            · exact absurd ⟨by omega, by omega⟩ hp
          go_wp2_with (first
            | (go_at_call 14; ((with_reducible refine (CircuitValid_s _ C _ (HC.out _ H4.out).1).mono ?_); rintro e w5 ⟨rfl, hq⟩; rw [HV.out]; have H5 := Lib.hid (H4.out.trans (hq.mono H4.out.size)); clear hq cb; have cb := (HC.out _ H5.out).2.2.1))
            | (go_at_call 15; ((with_reducible refine (VarCount_any _ C _ (HC.out _ H5.out).1 HV.out).mono ?_); rintro e w6 ⟨rfl, hq⟩; rw [HVV.out.1]; have H6 := Lib.hid (H5.out.trans (hq.mono H5.out.size)); clear hq cb; have cb := (HC.out _ H6.out).2.2.1))
            | (go_at_call 16; ((with_reducible refine (alive_any _).mono ?_); rintro e w7 ⟨rfl, hq⟩; have H7 := Lib.hid (H6.out.trans (hq.mono H6.out.size)); clear hq)))
          go_ret
          exact ⟨rfl, (HC.out _ H7.out).2.2.2⟩
    · have hS0 : S = 0 := by rw [HS.out]; exact sfR_no fun h => hv h.1
      subst hS0
      have HV := Lib.hid (show C.validB = false from by simpa using hv)
      clear hv
      go_wp2_with (first
        | (go_at_call 14; ((with_reducible refine (CircuitValid_s _ C _ (HC.out _ H4.out).1).mono ?_); rintro e w5 ⟨rfl, hq⟩; rw [HV.out]; have H5 := Lib.hid (H4.out.trans (hq.mono H4.out.size)); clear hq cb; have cb := (HC.out _ H5.out).2.2.1))
        | (go_at_call 16; ((with_reducible refine (alive_any _).mono ?_); rintro e w6 ⟨rfl, hq⟩; have H6 := Lib.hid (H5.out.trans (hq.mono H5.out.size)); clear hq)))
      go_ret
      exact ⟨rfl, (HC.out _ H6.out).2.2.2⟩
  · clear hs hr
    go_enter Try.func3, Try.ntmps3
    go_wp2
    go_ret
    exact ⟨rfl, Below.refl _ _⟩

end Go.Proofs.Ytjggcojbgkpooaa
