import Derived.Test.YtbcolcchchgldaaDR
import Derived.Test.YtbcolcchchgldaaDM
import Derived.Test.YtbcolcchchgldaaW8
import Derived.Test.YtbcolcchchgldaaW9
import Derived.Test.YtbcolcchchgldaaY2
import Derived.Test.YtbcolcchchgldaaRI
import Derived.Test.YtbcolcchchgldaaCC
namespace Go.Proofs.Ytbcolcchchgldaa
set_option linter.unusedVariables false
set_option linter.unusedSimpArgs false
open Go.RowKit

/-! DrawRetime; the law FnRetime. -/

/-- A circuit and a number that were drawn. -/
def DrawnCI (w : World) (e : Ending) (w' : World) : Prop :=
  ∃ (C : Cir) (i : Int) (vn vg vo : Value), e = .returned (.tuple #[.agg #[.int .i64 C.inp, vn, vg, vo], .int .i64 i]) ∧ CirOwn w' w.heap.size C vn vg vo ∧ (-10 ≤ C.inp ∧ C.inp ≤ 10 ∧ C.next.length ≤ 8 ∧ C.gates.length ≤ 40 ∧ C.outs.length ≤ 16) ∧ (-1 ≤ i ∧ i ≤ 100) ∧ Below w.heap.size w w'

set_option maxHeartbeats 800000 in
theorem DrawRetime_any (s : Option Addr) (cap : Nat) (xs : List Int) (w : World) (hs : Sl w s (u8s xs)) (hl : xs.length ≤ 1048576) (hcap : xs.length ≤ cap) (hcap2 : cap ≤ 9223372036854775807) (hr : ∀ x ∈ xs, 0 ≤ x ∧ x ≤ 255) :
    Calls Try.prog 21 #[.slice s xs.length cap] w (DrawnCI w) := by
  obtain ⟨W0, hW0⟩ : ∃ W0, W0 = w.alloc (.cells #[.int .i64 0, .slice none 0 0, .slice none 0 0, .slice none 0 0] 26) := ⟨_, rfl⟩
  have hz : W0.heap.size = w.heap.size + 1 := by rw [hW0]; simp
  have hb0 : Below w.heap.size w W0 := by rw [hW0]; exact below_alloc _ _
  have hk0 : W0.heap[w.heap.size]? = some (.cells #[.int .i64 0, .slice none 0 0, .slice none 0 0, .slice none 0 0] 26 (0, 0)) := by rw [hW0]; exact blk_new _ _
  have HH := Lib.hid (l20Open_any s cap xs W0 (hs.mono hb0) hl hcap hcap2 hr)
  have HW := Lib.hid (And.intro hW0 (And.intro hz (And.intro hb0 hk0)))
  clear hs hr hW0 hz hb0 hk0
  go_enter Try.func21, Try.ntmps21
  go_upto_region 1 with fail
  rw [← HW.out.1]
  go_wp2_with (first
    | (go_at_call 66; (with_reducible refine HH.out.mono ?_); rintro e w1 ⟨c, rfl, h1, h2, h3⟩; have H1 := Lib.hid (And.intro h1 (And.intro h2 h3)); clear h1 h2 h3)
    | (go_at_call 72; (with_reducible refine (l20Ring_any _ _ _ _ _ _ _ H1.out.1 (by omega) (by omega) (by omega)).mono ?_); rintro e w2 ⟨C, i, vn, vg, vo, p', rfl, h1, h2, h3, h4, h5, h6⟩; obtain ⟨sn, cn, rfl⟩ := own_shape h1.n; obtain ⟨sg, cg, rfl⟩ := own_shape h1.g; obtain ⟨so, co, rfl⟩ := own_shape h1.o; have h0 : w2.heap[w.heap.size]? = some (.cells #[.int .i64 0, .slice none 0 0, .slice none 0 0, .slice none 0 0] 26 (0, 0)) := (by have e1 := HW.out.2.1; have e2 := H1.out.2.2; rw [h6.block _ (by omega) (by omega)]; exact blk_below H1.out.2.1 (by omega) HW.out.2.2.2); obtain ⟨rc, rf⟩ := blk_all h0; have H2 := Lib.hid (And.intro h0 (And.intro h1 (And.intro h2 (And.intro h3 h6)))); clear h0 h1 h2 h3 h4 h5 h6))
  have hbl : Below w.heap.size w w2 := by
    have e1 := HW.out.2.1; have e2 := H1.out.2.2
    exact (HW.out.2.2.1.trans (H1.out.2.1.mono (by omega))).trans (H2.out.2.2.2.2.below (by omega) (by omega))
  have e1 := HW.out.2.1
  have e2 := H1.out.2.2
  have hZ : ((((w2.setCell ⟨w.heap.size, 0, none⟩ (.int .i64 C.inp)).setCell ⟨w.heap.size, 1, none⟩ (.slice sn C.next.length cn)).setCell ⟨w.heap.size, 2, none⟩ (.slice sg C.gates.length cg)).setCell ⟨w.heap.size, 3, none⟩ (.slice so C.outs.length co)).heap[w.heap.size]? = some (.cells #[.int .i64 C.inp, .slice sn C.next.length cn, .slice sg C.gates.length cg, .slice so C.outs.length co] 26 (0, 0)) := by
    simpa using blk_set (o := 3) (v := .slice so C.outs.length co) (blk_set (o := 2) (v := .slice sg C.gates.length cg) (blk_set (o := 1) (v := .slice sn C.next.length cn) (blk_set (o := 0) (v := .int .i64 C.inp) H2.out.1)))
  have hR := (H2.out.2.1).sets4 (r := w.heap.size) (by omega) (base := w.heap.size) (by omega) (a := .int .i64 C.inp) (b' := .slice sn C.next.length cn) (c' := .slice sg C.gates.length cg) (d := .slice so C.outs.length co)
  have hB := ((((hbl).setCell (p := ⟨w.heap.size, 0, none⟩) (by simp) (.int .i64 C.inp)).setCell (p := ⟨w.heap.size, 1, none⟩) (by simp) (.slice sn C.next.length cn)).setCell (p := ⟨w.heap.size, 2, none⟩) (by simp) (.slice sg C.gates.length cg)).setCell (p := ⟨w.heap.size, 3, none⟩) (by simp) (.slice so C.outs.length co)
  clear rc rf
  revert hZ hR hB
  generalize ((((w2.setCell ⟨w.heap.size, 0, none⟩ (.int .i64 C.inp)).setCell ⟨w.heap.size, 1, none⟩ (.slice sn C.next.length cn)).setCell ⟨w.heap.size, 2, none⟩ (.slice sg C.gates.length cg)).setCell ⟨w.heap.size, 3, none⟩ (.slice so C.outs.length co)) = WZ
  intro hZ hR hB
  have cr := (blk_all hZ).1
  exact bodyPost_ret (v := .tuple #[.agg #[.int .i64 C.inp, .slice sn C.next.length cn, .slice sg C.gates.length cg, .slice so C.outs.length co], .int .i64 i]) (by simp [results, Try.results21, go_sem, cr]) rfl ⟨C, i, _, _, _, rfl, hR, H2.out.2.2.1, H2.out.2.2.2.1, hB⟩

set_option maxRecDepth 100000 in
set_option maxHeartbeats 6400000 in
theorem FnRetime_any (s : Option Addr) (cap : Nat) (xs : List Int) (w : World) (hs : Sl w s (u8s xs)) (hl : xs.length ≤ 9223372036854775807) (hcap : xs.length ≤ cap) (hcap2 : cap ≤ 9223372036854775807) (hr : ∀ x ∈ xs, 0 ≤ x ∧ x ≤ 255) :
    Calls Try.prog 4 #[.slice s xs.length cap] w fun e w' => e = .returned (.bool true) ∧ Below w.heap.size w w' := by
  by_cases hc : xs.length ≤ 1048576
  · have HD := Lib.hid (DrawRetime_any s cap xs w hs hc hcap hcap2 hr)
    clear hs hr
    go_enter Try.func4, Try.ntmps4
    go_upto_region 4 with (go_at_call 21; (with_reducible refine HD.out.mono ?_); rintro e w1 ⟨C, i, vn, vg, vo, rfl, h1, h2, h3, h4⟩; obtain ⟨sn, cn, rfl⟩ := own_shape h1.n; obtain ⟨sg, cg, rfl⟩ := own_shape h1.g; obtain ⟨so, co, rfl⟩ := own_shape h1.o; have H1 := Lib.hid (And.intro h1 h4); obtain ⟨l1, l2, l3, l4, l5⟩ := h2; obtain ⟨i1, i2⟩ := h3; clear h1 h4)
    obtain ⟨B, hB⟩ : ∃ B, B = w1.heap.size := ⟨_, rfl⟩
    have hk := blk_new w1 (.cells #[.int .i64 C.inp, .slice sn C.next.length cn, .slice sg C.gates.length cg, .slice so C.outs.length co] 26)
    have hbb := below_al w1 (.cells #[.int .i64 C.inp, .slice sn C.next.length cn, .slice sg C.gates.length cg, .slice so C.outs.length co] 26)
    have hV : CirV (w1.alloc (.cells #[.int .i64 C.inp, .slice sn C.next.length cn, .slice sg C.gates.length cg, .slice so C.outs.length co] 26)) (.agg #[.int .i64 C.inp, .slice sn C.next.length cn, .slice sg C.gates.length cg, .slice so C.outs.length co]) C := own_cv (own_cbelow H1.out.1 hbb)
    have hbw := H1.out.2.trans (hbb.mono H1.out.2.size)
    rw [← hB] at hk
    rw [← hB]
    clear hbb hB H1 HD
    revert hV hbw hk
    generalize w1.alloc (.cells #[.int .i64 C.inp, .slice sn C.next.length cn, .slice sg C.gates.length cg, .slice so C.outs.length co] 26) = W1
    intro hk hV hbw
    have HC : Hid (∀ W, Below W1.heap.size W1 W → CirV W (.agg #[.int .i64 C.inp, .slice sn C.next.length cn, .slice sg C.gates.length cg, .slice so C.outs.length co]) C ∧ (∀ o, W.cell? ⟨B, o, none⟩ = #[Value.int .i64 C.inp, .slice sn C.next.length cn, .slice sg C.gates.length cg, .slice so C.outs.length co][o]?)) := fun W hW => ⟨hV.mono hW, (blk_all (blk_below hW (blk_lt hk) hk)).1⟩
    have HW := Lib.hid hbw
    clear hk hV hbw
    have cb := (HC.out _ (Below.refl _ _)).2
    obtain ⟨D, hD⟩ : ∃ D, D = retR C i := ⟨_, rfl⟩
    have HDD := Lib.hid hD
    clear hD
    go_upto_region 5 with (go_at_call 22; ((with_reducible refine (Retime_i _ C i _ (HC.out _ (Below.refl _ _)).1).mono ?_); rintro e w2 ⟨vn2, vg2, vo2, rfl, h1, hq⟩; rw [← HDD.out] at h1 ⊢; obtain ⟨xn, yn, rfl⟩ := own_shape h1.n; obtain ⟨xg, yg, rfl⟩ := own_shape h1.g; obtain ⟨xo, yo, rfl⟩ := own_shape h1.o; have H2 := Lib.hid (And.intro h1 hq); clear h1 hq cb))
    obtain ⟨X, hX⟩ : ∃ X, X = w2.heap.size := ⟨_, rfl⟩
    have kX := blk_new w2 (.cells #[.int .i64 D.inp, .slice xn D.next.length yn, .slice xg D.gates.length yg, .slice xo D.outs.length yo] 26)
    have bX := below_al w2 (.cells #[.int .i64 D.inp, .slice xn D.next.length yn, .slice xg D.gates.length yg, .slice xo D.outs.length yo] 26)
    have hb2 : Below W1.heap.size W1 (w2.alloc (.cells #[.int .i64 D.inp, .slice xn D.next.length yn, .slice xg D.gates.length yg, .slice xo D.outs.length yo] 26)) := H2.out.2.trans (bX.mono H2.out.2.size)
    have hV2 : CirV (w2.alloc (.cells #[.int .i64 D.inp, .slice xn D.next.length yn, .slice xg D.gates.length yg, .slice xo D.outs.length yo] 26)) (.agg #[.int .i64 D.inp, .slice xn D.next.length yn, .slice xg D.gates.length yg, .slice xo D.outs.length yo]) D := own_cv (own_cbelow H2.out.1 bX)
    rw [← hX] at kX
    rw [← hX]
    clear hX bX H2
    revert kX hb2 hV2
    generalize w2.alloc (.cells #[.int .i64 D.inp, .slice xn D.next.length yn, .slice xg D.gates.length yg, .slice xo D.outs.length yo] 26) = W2
    intro kX hb2 hV2
    have HC2 : Hid (∀ W, Below W2.heap.size W2 W → (CirV W (.agg #[.int .i64 C.inp, .slice sn C.next.length cn, .slice sg C.gates.length cg, .slice so C.outs.length co]) C ∧ (∀ o, W.cell? ⟨B, o, none⟩ = #[Value.int .i64 C.inp, .slice sn C.next.length cn, .slice sg C.gates.length cg, .slice so C.outs.length co][o]?)) ∧ (CirV W (.agg #[.int .i64 D.inp, .slice xn D.next.length yn, .slice xg D.gates.length yg, .slice xo D.outs.length yo]) D ∧ (∀ o, W.cell? ⟨X, o, none⟩ = #[Value.int .i64 D.inp, .slice xn D.next.length yn, .slice xg D.gates.length yg, .slice xo D.outs.length yo][o]?)) ∧ Below w.heap.size w W) := fun W hW => ⟨HC.out W (hb2.trans (hW.mono hb2.size)), ⟨hV2.mono hW, (blk_all (blk_below hW (blk_lt kX) kX)).1⟩, HW.out.trans ((hb2.trans (hW.mono hb2.size)).mono HW.out.size)⟩
    clear kX hb2 hV2
    refine wp_region_T (fun w' => (∀ o, w'.cell? ⟨B, o, none⟩ = #[Value.int .i64 C.inp, .slice sn C.next.length cn, .slice sg C.gates.length cg, .slice so C.outs.length co][o]?) ∧ (∀ o, w'.cell? ⟨X, o, none⟩ = #[Value.int .i64 D.inp, .slice xn D.next.length yn, .slice xg D.gates.length yg, .slice xo D.outs.length yo][o]?)) (.q 0 (.q 1 (.q 2 (.e 3 (.e 4 (.q 5 .nil)))))) (by kernel_rfl) (by kernel_rfl) (by kernel_rfl) ⟨(HC2.out _ (Below.refl _ _).drew).1.2, (HC2.out _ (Below.refl _ _).drew).2.1.2⟩ ?_
    repeat (first | (refine ordt_s (o := ?_) ?_ ?_ ?_; rotate_left 1; (focus ((simp only [List.getElem?_toArray, List.getElem?_cons_succ, List.getElem?_cons_zero]) <;> rfl)); (focus rfl); simp only [Act.put, List.setIfInBounds_toArray, List.set_cons_zero, List.set_cons_succ]) | (refine ordt_q (o := ?_) (v := ?_) ?_ ?_ ?_ ?_; rotate_left 2; (focus ((simp only [List.getElem?_toArray, List.getElem?_cons_succ, List.getElem?_cons_zero]) <;> rfl)); (focus rfl); (focus (intro w' hS; (try dsimp only at hS); go_split_ands; go_simp; (try (with_reducible rfl)))); simp only [Act.put, List.setIfInBounds_toArray, List.set_cons_zero, List.set_cons_succ]))
    refine ordt_e ?_
    (refine op_e (o := ?_) ?_ ?_ (fun K hK => ?_); rotate_left 1; (focus ((simp only [List.getElem?_toArray, List.getElem?_cons_succ, List.getElem?_cons_zero]) <;> rfl)); (focus rfl); go_simp)
    refine (Retime_s _ C i _ (HC2.out _ (Below.refl _ _).drew).1.1).mono ?_
    rintro e wa ⟨vna, vga, voa, rfl, h1, hq⟩
    rw [← HDD.out] at h1 ⊢
    have hba : Below W2.heap.size W2 wa := (Below.refl _ _).drew.trans hq
    refine hK.out _ _ ⟨(HC2.out _ hba).1.2, (HC2.out _ hba).2.1.2⟩ ?_
    clear hK K hq
    have HA := Lib.hid (And.intro (own_cv h1) hba)
    clear h1 hba
    (try simp only [Act.put, List.setIfInBounds_toArray, List.set_cons_zero, List.set_cons_succ])
    refine ordt_e ?_
    (refine op_e (o := ?_) ?_ ?_ (fun K hK => ?_); rotate_left 1; (focus ((simp only [List.getElem?_toArray, List.getElem?_cons_succ, List.getElem?_cons_zero]) <;> rfl)); (focus rfl); go_simp)
    refine (sameCircuitG_any _ _ D D _ (HC2.out _ HA.out.2).2.1.1 HA.out.1).mono ?_
    rintro e w4 ⟨rfl, hq⟩
    rw [cirB_self]
    have hb4 : Below W2.heap.size W2 w4 := HA.out.2.trans (hq.mono HA.out.2.size)
    refine hK.out _ _ ⟨(HC2.out _ hb4).1.2, (HC2.out _ hb4).2.1.2⟩ ?_
    clear hK K hq
    have H5 := Lib.hid hb4
    clear hb4 HA
    (try simp only [Act.put, List.setIfInBounds_toArray, List.set_cons_zero, List.set_cons_succ])
    repeat (first | (refine ordt_s (o := ?_) ?_ ?_ ?_; rotate_left 1; (focus ((simp only [List.getElem?_toArray, List.getElem?_cons_succ, List.getElem?_cons_zero]) <;> rfl)); (focus rfl); simp only [Act.put, List.setIfInBounds_toArray, List.set_cons_zero, List.set_cons_succ]) | (refine ordt_q (o := ?_) (v := ?_) ?_ ?_ ?_ ?_; rotate_left 2; (focus ((simp only [List.getElem?_toArray, List.getElem?_cons_succ, List.getElem?_cons_zero]) <;> rfl)); (focus rfl); (focus (intro w' hS; (try dsimp only at hS); go_split_ands; go_simp; (try (with_reducible rfl)))); simp only [Act.put, List.setIfInBounds_toArray, List.set_cons_zero, List.set_cons_succ]))
    refine ordt_nil ?_
    have cb := (HC2.out _ H5.out).1.2
    have cx := (HC2.out _ H5.out).2.1.2
    cases hv : canRetimeB C i
    · have hz : cirB D ⟨0, [], [], []⟩ = true := by rw [HDD.out, retR_no hv]; rfl
      have HV := Lib.hid hv
      have HZ := Lib.hid hz
      clear hv hz
      go_wp2_with (first | (go_at_call 25; ((with_reducible refine (CanRetime_s _ C i _ (HC2.out _ H5.out).1.1).mono ?_); rintro e w5 ⟨rfl, hq⟩; rw [HV.out]; have H5 := Lib.hid (H5.out.trans (hq.mono H5.out.size)); clear hq cb cx; have cb := (HC2.out _ H5.out).1.2; have cx := (HC2.out _ H5.out).2.1.2)) | (go_at_call 23; ((refine (sameCircuitG_any _ _ D ⟨0, [], [], []⟩ _ (HC2.out _ H5.out).2.1.1 (zeroV _)).mono ?_); rintro e w6 ⟨rfl, hq⟩; rw [HZ.out]; have H5 := Lib.hid (H5.out.trans (hq.mono H5.out.size)); clear hq cb cx; have cb := (HC2.out _ H5.out).1.2; have cx := (HC2.out _ H5.out).2.1.2)) | (go_at_call 20; ((with_reducible refine (aliveR_any _).mono ?_); rintro e w7 ⟨rfl, hq⟩; have H5 := Lib.hid (H5.out.trans (hq.mono H5.out.size)); clear hq cb cx; have cb := (HC2.out _ H5.out).1.2; have cx := (HC2.out _ H5.out).2.1.2)))
      go_ret
      exact ⟨rfl, (HC2.out _ H5.out).2.2⟩
    · obtain ⟨k, g, rfl, hg, -⟩ := canRetime_yes hv
      have hDg : D = retG C k g := by rw [HDD.out]; exact retR_yes hv hg
      have hval : D.validB = true := by rw [hDg]; exact (Cir.validB_iff _).2 (retG_valid hv hg)
      have hseq : seqB C D = true := by rw [hDg]; exact ret_seq hv hg
      have hn : D.next.length = C.next.length + 1 := by rw [hDg]; unfold retG; simp
      have hgl : D.gates.length = C.gates.length + 1 := by rw [hDg]; unfold retG; simp [mapG]
      have HV := Lib.hid (And.intro hv (And.intro hval hseq))
      rw [hn, hgl] at HC2 cx
      rw [hn, hgl]
      clear hv hg hDg hval hseq hn hgl
      go_wp2_with (first | (go_at_call 25; ((with_reducible refine (CanRetime_s _ C k _ (HC2.out _ H5.out).1.1).mono ?_); rintro e w5 ⟨rfl, hq⟩; rw [HV.out.1]; have H5 := Lib.hid (H5.out.trans (hq.mono H5.out.size)); clear hq cb cx; have cb := (HC2.out _ H5.out).1.2; have cx := (HC2.out _ H5.out).2.1.2)) | (go_at_call 18; ((with_reducible refine (CircuitValid_i _ D _ (HC2.out _ H5.out).2.1.1).mono ?_); rintro e w6 ⟨rfl, hq⟩; rw [HV.out.2.1]; have H5 := Lib.hid (H5.out.trans (hq.mono H5.out.size)); clear hq cb cx; have cb := (HC2.out _ H5.out).1.2; have cx := (HC2.out _ H5.out).2.1.2)) | (go_at_call 26; ((with_reducible refine (SequentiallyEquivalent_i _ _ C D _ (HC2.out _ H5.out).1.1 (HC2.out _ H5.out).2.1.1).mono ?_); rintro e w7 ⟨rfl, hq⟩; rw [HV.out.2.2]; have H5 := Lib.hid (H5.out.trans (hq.mono H5.out.size)); clear hq cb cx)))
      go_ret
      exact ⟨rfl, (HC2.out _ H5.out).2.2⟩
  · clear hs hr
    go_enter Try.func4, Try.ntmps4
    go_wp2
    go_ret
    exact ⟨rfl, Below.refl _ _⟩

end Go.Proofs.Ytbcolcchchgldaa
