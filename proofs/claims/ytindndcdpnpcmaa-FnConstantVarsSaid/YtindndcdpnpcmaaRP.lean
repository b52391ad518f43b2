import Derived.Test.YtindndcdpnpcmaaRK
import Derived.Test.YtindndcdpnpcmaaV9
import Derived.Test.YtindndcdpnpcmaaCI
import Derived.Test.YtindndcdpnpcmaaRE
import Derived.Test.YtindndcdpnpcmaaRI
namespace Go.Proofs.Ytindndcdpnpcmaa
set_option linter.unusedVariables false
set_option linter.unusedSimpArgs false
open Go.RowKit

/-! The law FnConstantVars. -/

theorem cvL_mem (c : Cir) (v : Nat) : ∀ m : Nat, (2 * (v : Int) ∈ cvL c m ↔ 1 ≤ v ∧ v ≤ m ∧ sameV c v 0 = -1) ∧ (2 * (v : Int) + 1 ∈ cvL c m ↔ 1 ≤ v ∧ v ≤ m ∧ sameV c v 0 = 1)
  | 0 => by simp [cvL]; omega
  | m + 1 => by
    obtain ⟨h1, h2⟩ := cvL_mem c v m
    rcases sameV_tri c (m + 1) 0 with h | h | h
    · rw [cvL_1 h]
      simp only [List.mem_append, List.mem_singleton, h1, h2]
      by_cases e : v = m + 1
      · subst e
        rw [h]
        exact ⟨⟨fun h => by omega, fun h => by omega⟩, ⟨fun _ => ⟨by omega, by omega, rfl⟩, fun _ => .inr (by omega)⟩⟩
      · exact ⟨⟨fun h => by omega, fun h => .inl (by omega)⟩, ⟨fun h => by omega, fun h => .inl (by omega)⟩⟩
    · rw [cvL_m h]
      simp only [List.mem_append, List.mem_singleton, h1, h2]
      by_cases e : v = m + 1
      · subst e
        rw [h]
        exact ⟨⟨fun _ => ⟨by omega, by omega, rfl⟩, fun _ => .inr (by omega)⟩, ⟨fun h => by omega, fun h => by omega⟩⟩
      · exact ⟨⟨fun h => by omega, fun h => .inl (by omega)⟩, ⟨fun h => by omega, fun h => .inl (by omega)⟩⟩
    · rw [cvL_0 h]
      by_cases e : v = m + 1
      · subst e
        rw [h1, h2, h]
        exact ⟨⟨fun h => by omega, fun h => by omega⟩, ⟨fun h => by omega, fun h => by omega⟩⟩
      · rw [h1, h2]
        exact ⟨⟨fun h => by omega, fun h => by omega⟩, ⟨fun h => by omega, fun h => by omega⟩⟩
theorem colV_zero {c : Cir} (hv : c.valid) (x : Nat) : colV c 0 x = false := by
  unfold colV
  rw [evalV_vN]
  exact (asgV_Bs hv (x : Int)).z _
theorem litF_even (c : Cir) (v x : Nat) : litF c (2 * (v : Int)) x = colV c v x := by
  unfold litF colV
  rw [litB_nat]
theorem litF_odd (c : Cir) (v x : Nat) : litF c (2 * (v : Int) + 1) x = !colV c v x := by
  unfold litF colV
  rw [litB_not (by omega), litB_nat]
theorem const_even {c : Cir} (hvb : c.validB = true) {v V : Nat} (hV : c.vars = V) (h1 : 1 ≤ v) (h2 : v < V) : decide (2 * (v : Int) ∈ constR c) = !cbR c (2 * (v : Int) + 1) := by
  have hv := c.validB_iff.1 hvb
  have hok : tsOk c (2 * (v : Int) + 1) := ⟨hvb, ⟨by omega, by rw [hV]; omega⟩⟩
  rw [constR_yes hvb hV]
  have hm := (cvL_mem c v (V - 1)).1
  unfold cbR
  rw [decide_eq_true hok, Bool.true_and, Bool.eq_iff_iff, decide_eq_true_eq, hm, sameV_neg]
  simp only [Bool.not_eq_true', List.any_eq_false, List.mem_range, litF_odd, colV_zero hv]
  constructor
  · rintro ⟨-, -, h⟩ x hx
    have := h x hx
    simpa using this
  · intro h
    exact ⟨h1, by omega, fun x hx => by have := h x hx; simpa using this⟩
theorem const_odd {c : Cir} (hvb : c.validB = true) {v V : Nat} (hV : c.vars = V) (h1 : 1 ≤ v) (h2 : v < V) : decide (2 * (v : Int) + 1 ∈ constR c) = !cbR c (2 * (v : Int)) := by
  have hv := c.validB_iff.1 hvb
  have hok : tsOk c (2 * (v : Int)) := ⟨hvb, ⟨by omega, by rw [hV]; omega⟩⟩
  rw [constR_yes hvb hV]
  have hm := (cvL_mem c v (V - 1)).2
  unfold cbR
  rw [decide_eq_true hok, Bool.true_and, Bool.eq_iff_iff, decide_eq_true_eq, hm, sameV_one]
  simp only [Bool.not_eq_true', List.any_eq_false, List.mem_range, litF_even, colV_zero hv]
  constructor
  · rintro ⟨-, -, h⟩ x hx
    have := h x hx
    simpa using this
  · intro h
    exact ⟨h1, by omega, fun x hx => by have := h x hx; simpa using this⟩
/-- A swept circuit has no constant variables. -/
theorem constR_sweep {c : Cir} (hvb : c.validB = true) : constR (sweepR c) = [] := by
  have hs := sweepR_says hvb
  have hc := c.validB_iff.1 hvb
  have hv := (Cir.validB_iff _).1 hs.ok
  obtain ⟨V, hV⟩ : ∃ V : Nat, (sweepR c).vars = V := ⟨(sweepR c).vars.toNat, by have := hv.lim.1; unfold Cir.vars; omega⟩
  rw [constR_yes hs.ok hV]
  have : ∀ m : Nat, m < V → cvL (sweepR c) m = [] := fun m => by
    induction m with
    | zero => intro _; rfl
    | succ m ih =>
      intro hm
      have h : sameV (sweepR c) (m + 1) 0 = 0 := by
        have e := sweepR_yes hvb
        rw [e] at hV ⊢
        exact sweepC_diff hc (by omega) (by rw [hV]; omega)
      rw [cvL_0 h]
      exact ih (by omega)
  by_cases h0 : V = 0
  · subst h0; rfl
  · exact this (V - 1) (by omega)

set_option maxRecDepth 100000 in
set_option maxHeartbeats 6400000 in
theorem FnConstantVars_any (s : Option Addr) (cap : Nat) (xs : List Int) (w : World) (hs : Sl w s (u8s xs)) (hl : xs.length ≤ 9223372036854775807) (hcap : xs.length ≤ cap) (hcap2 : cap ≤ 9223372036854775807) (hr : ∀ x ∈ xs, 0 ≤ x ∧ x ≤ 255) :
    Calls Try.prog 6 #[.slice s xs.length cap] w fun e w' => e = .returned (.bool true) ∧ Below w.heap.size w w' := by
  by_cases hc : xs.length ≤ 1048576
  · have HD := Lib.hid (DrawConstantVars_any s cap xs w hs hc hcap hcap2 hr)
    clear hs hr
    go_enter Try.func6, Try.ntmps6
    go_upto_region 4 with (go_at_call 32; (with_reducible refine HD.out.mono ?_); rintro e w1 ⟨C, vn, vg, vo, rfl, h1, h2, h4⟩; obtain ⟨sn, cn, rfl⟩ := own_shape h1.n; obtain ⟨sg, cg, rfl⟩ := own_shape h1.g; obtain ⟨so, co, rfl⟩ := own_shape h1.o; have H1 := Lib.hid (And.intro h1 h4); obtain ⟨l1, l2, l3, l4, l5⟩ := h2; clear h1 h4)
    obtain ⟨B, hB⟩ : ∃ B, B = w1.heap.size := ⟨_, rfl⟩
    have hk := blk_new w1 (.cells #[.int .i64 C.inp, .slice sn C.next.length cn, .slice sg C.gates.length cg, .slice so C.outs.length co] 29)
    have hbb := below_al w1 (.cells #[.int .i64 C.inp, .slice sn C.next.length cn, .slice sg C.gates.length cg, .slice so C.outs.length co] 29)
    have hV : CirV (w1.alloc (.cells #[.int .i64 C.inp, .slice sn C.next.length cn, .slice sg C.gates.length cg, .slice so C.outs.length co] 29)) (.agg #[.int .i64 C.inp, .slice sn C.next.length cn, .slice sg C.gates.length cg, .slice so C.outs.length co]) C := own_cv (own_cbelow H1.out.1 hbb)
    have hbw := H1.out.2.trans (hbb.mono H1.out.2.size)
    rw [← hB] at hk
    rw [← hB]
    clear hbb hB H1 HD
    revert hV hbw hk
    generalize w1.alloc (.cells #[.int .i64 C.inp, .slice sn C.next.length cn, .slice sg C.gates.length cg, .slice so C.outs.length co] 29) = W1
    intro hk hV hbw
    have HC : Hid (∀ W, Below W1.heap.size W1 W → CirV W (.agg #[.int .i64 C.inp, .slice sn C.next.length cn, .slice sg C.gates.length cg, .slice so C.outs.length co]) C ∧ (∀ o, W.cell? ⟨B, o, none⟩ = #[Value.int .i64 C.inp, .slice sn C.next.length cn, .slice sg C.gates.length cg, .slice so C.outs.length co][o]?)) := fun W hW => ⟨hV.mono hW, (blk_all (blk_below hW (blk_lt hk) hk)).1⟩
    have HW := Lib.hid hbw
    clear hk hV hbw
    have cb := (HC.out _ (Below.refl _ _)).2
    obtain ⟨Ls, hLs⟩ : ∃ Ls, Ls = constR C := ⟨_, rfl⟩
    have hLl : Ls.length ≤ 1000000 := by rw [hLs]; exact constR_len _
    have HLs := Lib.hid hLs
    clear hLs
    go_upto_region 7 with (first
      | (go_at_call 33; ((with_reducible refine (ConstantVars_i _ C _ (HC.out _ (Below.refl _ _)).1).mono ?_); rintro e w2 ⟨s1, c1, rfl, h1, hq⟩; rw [← HLs.out] at h1 ⊢; have H2 := Lib.hid (And.intro (own_sl h1) hq); clear h1 hq cb; have cb := (HC.out _ H2.out.2).2))
      | (go_at_call 35; ((with_reducible refine (ConstantVars_s _ C _ (HC.out _ H2.out.2).1).mono ?_); rintro e w3 ⟨s2, c2, rfl, h1, hq⟩; rw [← HLs.out] at h1 ⊢; have H3 := Lib.hid (And.intro (H2.out.1.mono hq) (And.intro h1 (H2.out.2.trans (hq.mono H2.out.2.size)))); clear h1 hq cb; have cb := (HC.out _ H3.out.2.2).2))
      | (go_at_call 34; ((with_reducible refine (sameIntsG_any _ _ Ls Ls _ _ _ H3.out.1 H3.out.2.1 (by omega) (by omega)).mono ?_); rintro e w4 ⟨rfl, hd⟩; rw [decide_eq_true (rfl : Ls = Ls)]; have H4 := Lib.hid (And.intro (H3.out.1.mono (hd.below _)) (H3.out.2.2.trans (hd.below _))); clear hd cb; have cb := (HC.out _ H4.out.2).2)))
    have H5 := Lib.hid H4.out.2
    cases hv : C.validB
    · have hn : Ls.length = 0 := by rw [HLs.out, constR_no hv]; rfl
      have HV := Lib.hid hv
      clear hv
      have hn0 : ((Ls.length : Int) == 0) = true := beq_iff_eq.2 (by omega)
      clear hn
      go_wp2_with (first
        | (go_at_call 26; ((with_reducible refine (CircuitValid_s _ C _ (HC.out _ H5.out).1).mono ?_); rintro e w5 ⟨rfl, hq⟩; rw [HV.out]; have H5 := Lib.hid (H5.out.trans (hq.mono H5.out.size)); clear hq cb; have cb := (HC.out _ H5.out).2))
        | (go_at_call 27; ((with_reducible refine (aliveR_any _).mono ?_); rintro e w7 ⟨rfl, hq⟩; have H5 := Lib.hid (H5.out.trans (hq.mono H5.out.size)); clear hq cb; have cb := (HC.out _ H5.out).2)))
      go_ret
      exact ⟨rfl, HW.out.trans (H5.out.mono HW.out.size)⟩
    · have hval := C.validB_iff.1 hv
      obtain ⟨q1, q2, q3, q4, q5⟩ := hval.lim
      obtain ⟨V, hV⟩ : ∃ V : Nat, C.vars = V := ⟨C.vars.toNat, by unfold Cir.vars; omega⟩
      have hV22 : V ≤ 22 := by unfold Cir.vars at hV; omega
      have hV1 : 1 ≤ V := by unfold Cir.vars at hV; omega
      have hLs22 : Ls.length ≤ 22 := by
        rw [HLs.out, constR_yes hv hV]
        have := cvL_len C (V - 1)
        omega
      have HS := Lib.hid (And.intro hv hV)
      clear hv hV hval
      go_upto_region 9 with (go_at_call 26; ((with_reducible refine (CircuitValid_s _ C _ (HC.out _ H5.out).1).mono ?_); rintro e w5 ⟨rfl, hq⟩; rw [HS.out.1]; have H5S := Lib.hid hq; have H5 := Lib.hid (H5.out.trans (hq.mono H5.out.size)); clear hq cb; have cb := (HC.out _ H5.out).2))
      go_upto_region 10 with fail
      clear cb q1 q2 q3 q4 q5
      go_loopw [5] (fun v5 wr => ∃ k : Nat, 1 ≤ k ∧ k ≤ V ∧ v5 = .int .i64 k ∧ Below w4.heap.size w4 wr) (fun v5 _ => V - (intOf v5).toNat)
      case atStart => exact ⟨1, by omega, hV1, rfl, H5S.out⟩
      case round =>
        clear H5
        obtain ⟨k, hk1, hk, rfl, hbl⟩ := hrel
        have H6 := Lib.hid hbl
        have H5 := Lib.hid (H4.out.2.trans (hbl.mono H4.out.2.size))
        clear hbl
        have cb := (HC.out _ H5.out).2
        by_cases hlt : k < V
        · have hlp : decide ((k : Int) < (V : Int)) = true := decide_eq_true (by omega)
          go_upto_region 11 with (go_at_call 28; ((with_reducible refine (VarCountR_any _ C _ (HC.out _ H5.out).1 HS.out.1).mono ?_); rintro e w6 ⟨rfl, hq⟩; rw [HS.out.2]; have H6 := Lib.hid (H6.out.trans (hq.mono H6.out.size)); have H5 := Lib.hid (H5.out.trans (hq.mono H5.out.size)); clear hq cb; have cb := (HC.out _ H5.out).2))
          obtain ⟨b1, hb1⟩ : ∃ b, b = cbR C (2 * (k : Int) + 1) := ⟨_, rfl⟩
          obtain ⟨b2, hb2⟩ : ∃ b, b = cbR C (2 * (k : Int)) := ⟨_, rfl⟩
          have he := const_even HS.out.1 HS.out.2 hk1 hlt
          have ho := const_odd HS.out.1 HS.out.2 hk1 hlt
          rw [← hb1, ← HLs.out] at he
          rw [← hb2, ← HLs.out] at ho
          have HB := Lib.hid (And.intro hb1 (And.intro hb2 (And.intro he ho)))
          have ww1 : IntKind.i64.wrap (2 * (k : Int)) = 2 * (k : Int) := IntWalk.i64_in _ ⟨by omega, by omega⟩
          have ww2 : IntKind.i64.wrap (2 * (k : Int) + 1) = 2 * (k : Int) + 1 := IntWalk.i64_in _ ⟨by omega, by omega⟩
          clear hb1 hb2 he ho
          go_upto_region 12 with fail
          have hd6 := H6.out.drew
          cases b1 <;> cases b2
          all_goals
            refine wp_region_T (fun w' => ∀ o, w'.cell? ⟨B, o, none⟩ = #[Value.int .i64 C.inp, .slice sn C.next.length cn, .slice sg C.gates.length cg, .slice so C.outs.length co][o]?) (.q 0 (.q 1 (.q 2 (.q 4 (.q 5 (.q 6 (.q 7 (.e 3 (.e 8 (.q 9 (.q 10 (.q 11 (.q 12 (.q 13 (.q 14 (.q 15 (.q 17 (.q 18 (.q 19 (.e 16 (.e 20 (.q 21 (.q 22 (.q 23 .nil)))))))))))))))))))))))) (by kernel_rfl) (by kernel_rfl) (by kernel_rfl) (HC.out _ H5.out.drew).2 ?_
            repeat (first | (refine ordt_s (o := ?_) ?_ ?_ ?_; rotate_left 1; (focus ((simp only [List.getElem?_toArray, List.getElem?_cons_succ, List.getElem?_cons_zero]) <;> rfl)); (focus rfl); simp only [Act.put, List.setIfInBounds_toArray, List.set_cons_zero, List.set_cons_succ]) | (refine ordt_q (o := ?_) (v := ?_) ?_ ?_ ?_ ?_; rotate_left 2; (focus ((simp only [List.getElem?_toArray, List.getElem?_cons_succ, List.getElem?_cons_zero]) <;> rfl)); (focus rfl); (focus (intro w' hS; (try dsimp only at hS); go_split_ands; go_simp; (try (with_reducible rfl)))); simp only [Act.put, List.setIfInBounds_toArray, List.set_cons_zero, List.set_cons_succ]))
            refine ordt_e ?_
            (refine op_e (o := ?_) ?_ ?_ (fun K hK => ?_); rotate_left 1; (focus ((simp only [List.getElem?_toArray, List.getElem?_cons_succ, List.getElem?_cons_zero]) <;> rfl)); (focus rfl); go_simp)
            refine (containsR_any s1 c1 Ls (2 * (k : Int)) _ (H4.out.1.mono hd6) (by omega)).mono ?_
            rintro e wa ⟨rfl, rfl⟩
            rw [HB.out.2.2.1]
            refine hK.out _ _ (HC.out _ H5.out.drew).2 ?_
            clear hK K
            (try simp only [Act.put, List.setIfInBounds_toArray, List.set_cons_zero, List.set_cons_succ])
            refine ordt_e ?_
            (refine op_e (o := ?_) ?_ ?_ (fun K hK => ?_); rotate_left 1; (focus ((simp only [List.getElem?_toArray, List.getElem?_cons_succ, List.getElem?_cons_zero]) <;> rfl)); (focus rfl); go_simp)
            refine (CanBeTrue_i _ C (2 * (k : Int) + 1) _ (HC.out _ H5.out.drew).1).mono ?_
            rintro e wd ⟨rfl, hq⟩
            rw [← HB.out.1]
            have hb6 : Below w4.heap.size w4 wd := hd6.trans (hq.mono hd6.size)
            have hbd : Below W1.heap.size W1 wd := H4.out.2.trans (hb6.mono H4.out.2.size)
            refine hK.out _ _ (HC.out _ hbd).2 ?_
            clear hK K hq
            have HD := Lib.hid (And.intro hb6 hbd)
            clear hb6 hbd
            (try simp only [Act.put, List.setIfInBounds_toArray, List.set_cons_zero, List.set_cons_succ])
            repeat (first | (refine ordt_s (o := ?_) ?_ ?_ ?_; rotate_left 1; (focus ((simp only [List.getElem?_toArray, List.getElem?_cons_succ, List.getElem?_cons_zero]) <;> rfl)); (focus rfl); simp only [Act.put, List.setIfInBounds_toArray, List.set_cons_zero, List.set_cons_succ]) | (refine ordt_q (o := ?_) (v := ?_) ?_ ?_ ?_ ?_; rotate_left 2; (focus ((simp only [List.getElem?_toArray, List.getElem?_cons_succ, List.getElem?_cons_zero]) <;> rfl)); (focus rfl); (focus (intro w' hS; (try dsimp only at hS); go_split_ands; go_simp; (try (with_reducible rfl)))); simp only [Act.put, List.setIfInBounds_toArray, List.set_cons_zero, List.set_cons_succ]))
            refine ordt_e ?_
            (refine op_e (o := ?_) ?_ ?_ (fun K hK => ?_); rotate_left 1; (focus ((simp only [List.getElem?_toArray, List.getElem?_cons_succ, List.getElem?_cons_zero]) <;> rfl)); (focus rfl); go_simp)
            refine (containsR_any s1 c1 Ls (2 * (k : Int) + 1) _ (H4.out.1.mono HD.out.1) (by omega)).mono ?_
            rintro e wa ⟨rfl, rfl⟩
            rw [HB.out.2.2.2]
            refine hK.out _ _ (HC.out _ HD.out.2).2 ?_
            clear hK K
            (try simp only [Act.put, List.setIfInBounds_toArray, List.set_cons_zero, List.set_cons_succ])
            refine ordt_e ?_
            (refine op_e (o := ?_) ?_ ?_ (fun K hK => ?_); rotate_left 1; (focus ((simp only [List.getElem?_toArray, List.getElem?_cons_succ, List.getElem?_cons_zero]) <;> rfl)); (focus rfl); go_simp)
            refine (CanBeTrue_i _ C (2 * (k : Int)) _ (HC.out _ HD.out.2).1).mono ?_
            rintro e we ⟨rfl, hq⟩
            rw [← HB.out.2.1]
            have hb7 : Below w4.heap.size w4 we := HD.out.1.trans (hq.mono HD.out.1.size)
            have hbe : Below W1.heap.size W1 we := H4.out.2.trans (hb7.mono H4.out.2.size)
            refine hK.out _ _ (HC.out _ hbe).2 ?_
            clear hK K hq
            have HE := Lib.hid hb7
            clear hb7 hbe
            (try simp only [Act.put, List.setIfInBounds_toArray, List.set_cons_zero, List.set_cons_succ])
            repeat (first | (refine ordt_s (o := ?_) ?_ ?_ ?_; rotate_left 1; (focus ((simp only [List.getElem?_toArray, List.getElem?_cons_succ, List.getElem?_cons_zero]) <;> rfl)); (focus rfl); simp only [Act.put, List.setIfInBounds_toArray, List.set_cons_zero, List.set_cons_succ]) | (refine ordt_q (o := ?_) (v := ?_) ?_ ?_ ?_ ?_; rotate_left 2; (focus ((simp only [List.getElem?_toArray, List.getElem?_cons_succ, List.getElem?_cons_zero]) <;> rfl)); (focus rfl); (focus (intro w' hS; (try dsimp only at hS); go_split_ands; go_simp; (try (with_reducible rfl)))); simp only [Act.put, List.setIfInBounds_toArray, List.set_cons_zero, List.set_cons_succ]))
            refine ordt_nil ?_
            go_wp2_with fail
            go_roundw
            case rel => exact ⟨k + 1, by omega, by omega, by go_num, HE.out⟩
            case measure => simp [intOf]; omega
        · obtain rfl : k = V := by omega
          have hcs := constR_sweep HS.out.1
          have HCS := Lib.hid hcs
          clear hcs
          go_wp2_with (first
            | (go_at_call 28; ((with_reducible refine (VarCountR_any _ C _ (HC.out _ H5.out).1 HS.out.1).mono ?_); rintro e w6 ⟨rfl, hq⟩; rw [HS.out.2]; have H6 := Lib.hid (H6.out.trans (hq.mono H6.out.size)); have H5 := Lib.hid (H5.out.trans (hq.mono H5.out.size)); clear hq cb; have cb := (HC.out _ H5.out).2))
            | (go_at_call 23; ((with_reducible refine (Sweep_i _ C _ (HC.out _ H5.out).1).mono ?_); rintro e w7 ⟨vn, vg, vo, rfl, h1, hq⟩; have H7 := Lib.hid (And.intro (own_cv h1) (H5.out.trans (hq.mono H5.out.size))); clear h1 hq cb))
            | (go_at_call 33; ((refine (ConstantVars_i _ (sweepR C) _ H7.out.1).mono ?_); rintro e w8 ⟨s8, c8, rfl, h1, hq⟩; rw [HCS.out]; have H8 := Lib.hid (H7.out.2.trans (hq.mono H7.out.2.size)); clear h1 hq)))
          go_ret
          exact ⟨rfl, HW.out.trans (H8.out.mono HW.out.size)⟩
  · clear hs hr
    go_enter Try.func6, Try.ntmps6
    go_wp2
    go_ret
    exact ⟨rfl, Below.refl _ _⟩

end Go.Proofs.Ytindndcdpnpcmaa
