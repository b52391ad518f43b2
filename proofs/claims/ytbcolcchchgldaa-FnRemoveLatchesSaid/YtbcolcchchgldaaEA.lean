import Derived.Test.YtbcolcchchgldaaDY
import Derived.Test.YtbcolcchchgldaaDM
import Derived.Test.YtbcolcchchgldaaOX
import Derived.Test.YtbcolcchchgldaaRI
namespace Go.Proofs.Ytbcolcchchgldaa
set_option linter.unusedVariables false
set_option linter.unusedSimpArgs false
open Go.RowKit

/-! The law FnRemoveLatches. -/

set_option maxRecDepth 100000 in
set_option maxHeartbeats 6400000 in
theorem FnRemoveLatches_any (s : Option Addr) (cap : Nat) (xs : List Int) (w : World) (hs : Sl w s (u8s xs)) (hl : xs.length ≤ 9223372036854775807) (hcap : xs.length ≤ cap) (hcap2 : cap ≤ 9223372036854775807) (hr : ∀ x ∈ xs, 0 ≤ x ∧ x ≤ 255) :
    Calls Try.prog 12 #[.slice s xs.length cap] w fun e w' => e = .returned (.bool true) ∧ Below w.heap.size w w' := by
  by_cases hc : xs.length ≤ 1048576
  · have HD := Lib.hid (DrawRemoveLatches_any s cap xs w hs hc hcap hcap2 hr)
    clear hs hr
    go_enter Try.func12, Try.ntmps12
    go_upto_region 4 with (go_at_call 56; (with_reducible refine HD.out.mono ?_); rintro e w1 ⟨C, vn, vg, vo, rfl, h1, h2, h4⟩; obtain ⟨sn, cn, rfl⟩ := own_shape h1.n; obtain ⟨sg, cg, rfl⟩ := own_shape h1.g; obtain ⟨so, co, rfl⟩ := own_shape h1.o; have H1 := Lib.hid (And.intro h1 h4); obtain ⟨l1, l2, l3, l4, l5⟩ := h2; clear h1 h4)
    obtain ⟨B, hB⟩ : ∃ B, B = w1.heap.size := ⟨_, rfl⟩
    have hk := blk_new w1 (.cells #[.int .i64 C.inp, .slice sn C.next.length cn, .slice sg C.gates.length cg, .slice so C.outs.length co] 26)
    have hbb := below_al w1 (.cells #[.int .i64 C.inp, .slice sn C.next.length cn, .slice sg C.gates.length cg, .slice so C.outs.length co] 26)
    have hV : CirV (w1.alloc (.cells #[.int .i64 C.inp, .slice sn C.next.length cn, .slice sg C.gates.length cg, .slice so C.outs.length co] 26)) (.agg #[.int .i64 C.inp, .slice sn C.next.length cn, .slice sg C.gates.length cg, .slice so C.outs.length co]) C := own_cv (own_cbelow H1.out.1 hbb)
    have hbw := H1.out.2.trans (hbb.mono H1.out.2.size)
    rw [← hB] at hk
    rw [← hB]
    clear hbb hB H1 HD
    revert hV hbw hk
    generalize w1.alloc (.cells #[.int .i64 C.inp, .slice sn C.next.length cn, .slice sg C.gates.length cg, .slice so C.outs.length co] 26) = W1
    intro hk hV hbw
    have HC : Hid (∀ W, Below W1.heap.size W1 W → CirV W (.agg #[.int .i64 C.inp, .slice sn C.next.length cn, .slice sg C.gates.length cg, .slice so C.outs.length co]) C ∧ (∀ o, W.cell? ⟨B, o, none⟩ = #[Value.int .i64 C.inp, .slice sn C.next.length cn, .slice sg C.gates.length cg, .slice so C.outs.length co][o]?)) := fun W hW => ⟨hV.mono hW, (blk_all (blk_below hW (blk_lt hk) hk)).1⟩
    have HW := Lib.hid hbw
    clear hk hV hbw
    have cb := (HC.out _ (Below.refl _ _)).2
    obtain ⟨D, hD⟩ : ∃ D, D = rmR C := ⟨_, rfl⟩
    have HDD := Lib.hid hD
    clear hD
    go_upto_region 5 with (go_at_call 29; ((with_reducible refine (RemoveLatches_i _ C _ (HC.out _ (Below.refl _ _)).1).mono ?_); rintro e w2 ⟨vn2, vg2, vo2, rfl, h1, hq⟩; rw [← HDD.out] at h1 ⊢; obtain ⟨xn, yn, rfl⟩ := own_shape h1.n; obtain ⟨xg, yg, rfl⟩ := own_shape h1.g; obtain ⟨xo, yo, rfl⟩ := own_shape h1.o; have H2 := Lib.hid (And.intro h1 hq); clear h1 hq cb))
    obtain ⟨X, hX⟩ : ∃ X, X = w2.heap.size := ⟨_, rfl⟩
    have kX := blk_new w2 (.cells #[.int .i64 D.inp, .slice xn D.next.length yn, .slice xg D.gates.length yg, .slice xo D.outs.length yo] 26)
    have bX := below_al w2 (.cells #[.int .i64 D.inp, .slice xn D.next.length yn, .slice xg D.gates.length yg, .slice xo D.outs.length yo] 26)
    have hb2 : Below W1.heap.size W1 (w2.alloc (.cells #[.int .i64 D.inp, .slice xn D.next.length yn, .slice xg D.gates.length yg, .slice xo D.outs.length yo] 26)) := H2.out.2.trans (bX.mono H2.out.2.size)
    have hV2 : CirV (w2.alloc (.cells #[.int .i64 D.inp, .slice xn D.next.length yn, .slice xg D.gates.length yg, .slice xo D.outs.length yo] 26)) (.agg #[.int .i64 D.inp, .slice xn D.next.length yn, .slice xg D.gates.length yg, .slice xo D.outs.length yo]) D := own_cv (own_cbelow H2.out.1 bX)
    rw [← hX] at kX
    rw [← hX]
    clear hX bX H2
    revert kX hb2 hV2
    generalize w2.alloc (.cells #[.int .i64 D.inp, .slice xn D.next.length yn, .slice xg D.gates.length yg, .slice xo D.outs.length yo] 26) = W2
    intro kX hb2 hV2
    have HC2 : Hid (∀ W, Below W2.heap.size W2 W → (CirV W (.agg #[.int .i64 C.inp, .slice sn C.next.length cn, .slice sg C.gates.length cg, .slice so C.outs.length co]) C ∧ (∀ o, W.cell? ⟨B, o, none⟩ = #[Value.int .i64 C.inp, .slice sn C.next.length cn, .slice sg C.gates.length cg, .slice so C.outs.length co][o]?)) ∧ (CirV W (.agg #[.int .i64 D.inp, .slice xn D.next.length yn, .slice xg D.gates.length yg, .slice xo D.outs.length yo]) D ∧ (∀ o, W.cell? ⟨X, o, none⟩ = #[Value.int .i64 D.inp, .slice xn D.next.length yn, .slice xg D.gates.length yg, .slice xo D.outs.length yo][o]?)) ∧ Below w.heap.size w W) := fun W hW => ⟨HC.out W (hb2.trans (hW.mono hb2.size)), ⟨hV2.mono hW, (blk_all (blk_below hW (blk_lt kX) kX)).1⟩, HW.out.trans ((hb2.trans (hW.mono hb2.size)).mono HW.out.size)⟩
    clear kX hb2 hV2
    refine wp_region_T (fun w' => (∀ o, w'.cell? ⟨B, o, none⟩ = #[Value.int .i64 C.inp, .slice sn C.next.length cn, .slice sg C.gates.length cg, .slice so C.outs.length co][o]?) ∧ (∀ o, w'.cell? ⟨X, o, none⟩ = #[Value.int .i64 D.inp, .slice xn D.next.length yn, .slice xg D.gates.length yg, .slice xo D.outs.length yo][o]?)) (.q 0 (.q 1 (.e 2 (.e 3 (.q 4 .nil))))) (by kernel_rfl) (by kernel_rfl) (by kernel_rfl) ⟨(HC2.out _ (Below.refl _ _).drew).1.2, (HC2.out _ (Below.refl _ _).drew).2.1.2⟩ ?_
    repeat (first | (refine ordt_s (o := ?_) ?_ ?_ ?_; rotate_left 1; (focus ((simp only [List.getElem?_toArray, List.getElem?_cons_succ, List.getElem?_cons_zero]) <;> rfl)); (focus rfl); simp only [Act.put, List.setIfInBounds_toArray, List.set_cons_zero, List.set_cons_succ]) | (refine ordt_q (o := ?_) (v := ?_) ?_ ?_ ?_ ?_; rotate_left 2; (focus ((simp only [List.getElem?_toArray, List.getElem?_cons_succ, List.getElem?_cons_zero]) <;> rfl)); (focus rfl); (focus (intro w' hS; (try dsimp only at hS); go_split_ands; go_simp; (try (with_reducible rfl)))); simp only [Act.put, List.setIfInBounds_toArray, List.set_cons_zero, List.set_cons_succ]))
    refine ordt_e ?_
    (refine op_e (o := ?_) ?_ ?_ (fun K hK => ?_); rotate_left 1; (focus ((simp only [List.getElem?_toArray, List.getElem?_cons_succ, List.getElem?_cons_zero]) <;> rfl)); (focus rfl); go_simp)
    refine (RemoveLatches_s _ C _ (HC2.out _ (Below.refl _ _).drew).1.1).mono ?_
    rintro e wa ⟨vna, vga, voa, rfl, h1, hq⟩
    rw [← HDD.out] at h1 ⊢
    have hba : Below W2.heap.size W2 wa := (Below.refl _ _).drew.trans hq
    refine hK.out _ _ ⟨(HC2.out _ hba).1.2, (HC2.out _ hba).2.1.2⟩ ?_
    clear hK K hq
    have HA := Lib.hid (And.intro (own_cv h1) hba)
    clear h1 hba
    (try simp only [Act.put, List.setIfInBounds_toArray, List.set_cons_zero, List.set_cons_succ])
    refine ordt_e ?_
    (refine op_e (o := ?_) ?_ ?_ (fun K hK => ?_); rotate_left 1; (focus ((simp only [List.getElem?_toArray, List.getElem?_cons_succ, List.getElem?_cons_zero]) <;> rfl)); (focus rfl); go_simp)
    refine (sameCircuitG_any _ _ D D _ (HC2.out _ HA.out.2).2.1.1 HA.out.1).mono ?_
    rintro e w4 ⟨rfl, hq⟩
    rw [cirB_self]
    have hb4 : Below W2.heap.size W2 w4 := HA.out.2.trans (hq.mono HA.out.2.size)
    refine hK.out _ _ ⟨(HC2.out _ hb4).1.2, (HC2.out _ hb4).2.1.2⟩ ?_
    clear hK K hq
    have H5 := Lib.hid hb4
    clear hb4 HA
    (try simp only [Act.put, List.setIfInBounds_toArray, List.set_cons_zero, List.set_cons_succ])
    repeat (first | (refine ordt_s (o := ?_) ?_ ?_ ?_; rotate_left 1; (focus ((simp only [List.getElem?_toArray, List.getElem?_cons_succ, List.getElem?_cons_zero]) <;> rfl)); (focus rfl); simp only [Act.put, List.setIfInBounds_toArray, List.set_cons_zero, List.set_cons_succ]) | (refine ordt_q (o := ?_) (v := ?_) ?_ ?_ ?_ ?_; rotate_left 2; (focus ((simp only [List.getElem?_toArray, List.getElem?_cons_succ, List.getElem?_cons_zero]) <;> rfl)); (focus rfl); (focus (intro w' hS; (try dsimp only at hS); go_split_ands; go_simp; (try (with_reducible rfl)))); simp only [Act.put, List.setIfInBounds_toArray, List.set_cons_zero, List.set_cons_succ]))
    refine ordt_nil ?_
    have cb := (HC2.out _ H5.out).1.2
    have cx := (HC2.out _ H5.out).2.1.2
    cases hv : C.validB
    · have hz : cirB D ⟨0, [], [], []⟩ = true := by rw [HDD.out, rmR_no hv]; rfl
      have HV := Lib.hid hv
      have HZ := Lib.hid hz
      clear hv hz
      go_wp2_with (first | (go_at_call 42; ((with_reducible refine (CircuitValid_s _ C _ (HC2.out _ H5.out).1.1).mono ?_); rintro e w5 ⟨rfl, hq⟩; rw [HV.out]; have H5 := Lib.hid (H5.out.trans (hq.mono H5.out.size)); clear hq cb cx; have cb := (HC2.out _ H5.out).1.2; have cx := (HC2.out _ H5.out).2.1.2)) | (go_at_call 23; ((refine (sameCircuitG_any _ _ D ⟨0, [], [], []⟩ _ (HC2.out _ H5.out).2.1.1 (zeroV _)).mono ?_); rintro e w6 ⟨rfl, hq⟩; rw [HZ.out]; have H5 := Lib.hid (H5.out.trans (hq.mono H5.out.size)); clear hq cb cx; have cb := (HC2.out _ H5.out).1.2; have cx := (HC2.out _ H5.out).2.1.2)) | (go_at_call 20; ((with_reducible refine (aliveR_any _).mono ?_); rintro e w7 ⟨rfl, hq⟩; have H5 := Lib.hid (H5.out.trans (hq.mono H5.out.size)); clear hq cb cx; have cb := (HC2.out _ H5.out).1.2; have cx := (HC2.out _ H5.out).2.1.2)))
      go_ret
      exact ⟨rfl, (HC2.out _ H5.out).2.2⟩
    · have HV := Lib.hid hv
      have hok : D.validB = true := by rw [HDD.out, rmR_yes hv]; exact (Cir.validB_iff _).2 (optC_valid (rmC_valid (C.validB_iff.1 hv)))
      have hseq : seqB C D = true := by rw [HDD.out]; exact rmR_seq hv
      have hn : D.next.length ≤ C.next.length := by
        rw [HDD.out, rmR_yes hv, show (optC (rmC C)).next.length = (rmC C).next.length by simp [optC, buildC], rmC_next]
        exact kpW_le _ _
      have hg : D.gates.length ≤ C.gates.length := by
        rw [HDD.out, rmR_yes hv]
        exact Nat.le_trans (optC_len_le _) (by simp [rmC, mapG])
      have d1 : decide ((D.next.length : Int) ≤ (C.next.length : Int)) = true := decide_eq_true (by omega)
      have d2 : decide (D.next.length ≤ C.next.length) = true := decide_eq_true hn
      have d3 : decide ((D.gates.length : Int) ≤ (C.gates.length : Int)) = true := decide_eq_true (by omega)
      have d4 : decide (D.gates.length ≤ C.gates.length) = true := decide_eq_true hg
      have HS := Lib.hid (And.intro hok hseq)
      clear hv hok hseq hn hg
      go_wp2_with (first
        | (go_at_call 42; ((with_reducible refine (CircuitValid_s _ C _ (HC2.out _ H5.out).1.1).mono ?_); rintro e w5 ⟨rfl, hq⟩; rw [HV.out]; have H5 := Lib.hid (H5.out.trans (hq.mono H5.out.size)); clear hq cb cx; have cb := (HC2.out _ H5.out).1.2; have cx := (HC2.out _ H5.out).2.1.2))
        | (go_at_call 18; ((with_reducible refine (CircuitValid_i _ D _ (HC2.out _ H5.out).2.1.1).mono ?_); rintro e w6 ⟨rfl, hq⟩; rw [HS.out.1]; have H5 := Lib.hid (H5.out.trans (hq.mono H5.out.size)); clear hq cb cx; have cb := (HC2.out _ H5.out).1.2; have cx := (HC2.out _ H5.out).2.1.2))
        | (go_at_call 26; ((with_reducible refine (SequentiallyEquivalent_i _ _ C D _ (HC2.out _ H5.out).1.1 (HC2.out _ H5.out).2.1.1).mono ?_); rintro e w7 ⟨rfl, hq⟩; rw [HS.out.2]; have H5 := Lib.hid (H5.out.trans (hq.mono H5.out.size)); clear hq cb cx)))
      go_ret
      exact ⟨rfl, (HC2.out _ H5.out).2.2⟩
  · clear hs hr
    go_enter Try.func12, Try.ntmps12
    go_wp2
    go_ret
    exact ⟨rfl, Below.refl _ _⟩

end Go.Proofs.Ytbcolcchchgldaa
