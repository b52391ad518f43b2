import Derived.Test.YtjggcojbgkpooaaY2
import Derived.Test.YtjggcojbgkpooaaZ8
namespace Go.Proofs.Ytjggcojbgkpooaa
set_option linter.unusedVariables false
set_option linter.unusedSimpArgs false
open Go.RowKit

/-! A circuit and two variables drawn out of bytes. -/

def DrawnCVW (w : World) (e : Ending) (w' : World) : Prop :=
  ∃ (C : Cir) (p q : Int) (vn vg vo : Value), e = .returned (.tuple #[.agg #[.int .i64 C.inp, vn, vg, vo], .int .i64 p, .int .i64 q]) ∧ CirOwn w' w.heap.size C vn vg vo ∧ (-10 ≤ C.inp ∧ C.inp ≤ 10 ∧ C.next.length ≤ 8 ∧ C.gates.length ≤ 40 ∧ C.outs.length ≤ 16) ∧ (-1 ≤ p ∧ p ≤ 100 ∧ 0 ≤ q ∧ q ≤ 100 ∧ (1 ≤ C.vars → q < C.vars)) ∧ Below w.heap.size w w'

set_option maxRecDepth 100000 in
set_option maxHeartbeats 1600000 in
theorem DrawSameFunction_any (s : Option Addr) (cap : Nat) (xs : List Int) (w : World) (hs : Sl w s (u8s xs)) (hl : xs.length ≤ 1048576) (hcap : xs.length ≤ cap) (hcap2 : cap ≤ 9223372036854775807) (hr : ∀ x ∈ xs, 0 ≤ x ∧ x ≤ 255) :
    Calls Try.prog 11 #[.slice s xs.length cap] w (DrawnCVW w) := by
  obtain ⟨W0, hW0⟩ : ∃ W0, W0 = w.alloc (.cells #[.int .i64 0, .slice none 0 0, .slice none 0 0, .slice none 0 0] 26) := ⟨_, rfl⟩
  have hz : W0.heap.size = w.heap.size + 1 := by rw [hW0]; simp
  have hb0 : Below w.heap.size w W0 := by rw [hW0]; exact below_alloc _ _
  have hk0 : W0.heap[w.heap.size]? = some (.cells #[.int .i64 0, .slice none 0 0, .slice none 0 0, .slice none 0 0] 26 (0, 0)) := by rw [hW0]; exact blk_new _ _
  have HH := Lib.hid (l20Open_any s cap xs W0 (hs.mono hb0) hl hcap hcap2 hr)
  have HW := Lib.hid (And.intro hW0 (And.intro hz (And.intro hb0 hk0)))
  clear hs hr hW0 hz hb0 hk0
  go_enter Try.func11, Try.ntmps11
  go_upto_region 1 with fail
  rw [← HW.out.1]
  go_upto_region 3 with (first
    | (go_at_call 43; (with_reducible refine HH.out.mono ?_); rintro e w1 ⟨c, rfl, h1, h2, h3⟩; have H1 := Lib.hid (And.intro h1 (And.intro h2 h3)); clear h1 h2 h3)
    | (go_at_call 44; (with_reducible refine (l20Circuit_any _ _ _ _ _ _ _ H1.out.1 (by omega) (by omega) (by omega)).mono ?_); rintro e w2 ⟨C, vn, vg, vo, p', rfl, h1, h2, h3, h4, h5⟩; obtain ⟨sn, cn, rfl⟩ := own_shape h1.n; obtain ⟨sg, cg, rfl⟩ := own_shape h1.g; obtain ⟨so, co, rfl⟩ := own_shape h1.o; have HI := Lib.hid (And.intro h1 (And.intro h3 h5)); obtain ⟨l1, l2, l3, l4, l5⟩ := h2; have hp' : p' ≤ 1000 := (by omega); clear h1 h3 h4 h5))
  obtain ⟨B, hB⟩ : ∃ B, B = w2.heap.size := ⟨_, rfl⟩
  have hk0 : KT W0.heap.size s c (xs.take 2000) w1 B C.inp C.next C.gates C.outs (.slice sn C.next.length cn) (.slice sg C.gates.length cg) (.slice so C.outs.length co) p' (w2.alloc (.cells #[.int .i64 C.inp, .slice sn C.next.length cn, .slice sg C.gates.length cg, .slice so C.outs.length co] 26)) :=
    ⟨⟨by rw [hB]; exact blk_new _ _, own_below HI.out.1.n (below_alloc _ _), own_below HI.out.1.g (below_alloc _ _), own_below HI.out.1.o (below_alloc _ _), HI.out.1.ne⟩, HI.out.2.1.mono (below_alloc _ _), HI.out.2.2.alloc (Nat.le_refl _) _, by have := H1.out.2.2; omega, by rw [hB]; exact HI.out.2.2.size⟩
  have HK := Lib.hid hk0
  clear hk0 HI HH
  rw [← hB]
  revert HK
  generalize w2.alloc (.cells #[.int .i64 C.inp, .slice sn C.next.length cn, .slice sg C.gates.length cg, .slice so C.outs.length co] 26) = W1
  intro HK
  clear hB
  have HRS : Hid (∀ W p, KT W0.heap.size s c (xs.take 2000) w1 B C.inp C.next C.gates C.outs (.slice sn C.next.length cn) (.slice sg C.gates.length cg) (.slice so C.outs.length co) p W → W.heap[w.heap.size]? = some (.cells #[.int .i64 0, .slice none 0 0, .slice none 0 0, .slice none 0 0] 26 (0, 0)) ∧ Below w.heap.size w W ∧ w.heap.size + 2 ≤ w1.heap.size) := fun W p hk => by
    have e1 := HW.out.2.1; have e2 := H1.out.2.2
    exact ⟨by rw [hk.kp.block _ (by omega) (by omega)]; exact blk_below H1.out.2.1 (by omega) HW.out.2.2.2, (HW.out.2.2.1.trans (H1.out.2.1.mono (by omega))).trans (hk.kp.below (by omega) (by omega)), by omega⟩
  obtain ⟨V, hV⟩ : ∃ V, 1 + C.inp + C.next.length + (C.gates.length : Int) = V := ⟨_, rfl⟩
  have ww0 : IntKind.i64.wrap V = V := IntWalk.i64_in _ ⟨by omega, by omega⟩
  have ww1 : IntKind.i64.wrap (V + 2) = V + 2 := IntWalk.i64_in _ ⟨by omega, by omega⟩
  have v1 : V ≤ 100 := by omega
  have v0 : -9 ≤ V := by omega
  have HVV := Lib.hid hV
  refine wp_region_T (fun w' => ∀ o, w'.cell? ⟨B, o, none⟩ = #[Value.int .i64 C.inp, .slice sn C.next.length cn, .slice sg C.gates.length cg, .slice so C.outs.length co][o]?) (.q 0 (.q 1 (.q 2 (.q 4 (.q 5 (.q 6 (.q 11 (.q 12 (.q 14 (.q 15 (.q 16 (.e 3 (.q 7 (.q 8 (.e 9 (.q 10 (.e 13 (.q 17 (.q 18 (.e 19 (.e 20 (.q 21 (.q 22 .nil))))))))))))))))))))))) (by kernel_rfl) (by kernel_rfl) (by kernel_rfl) HK.out.drew.cells.1 ?_
  repeat (first | (refine ordt_s (o := ?_) ?_ ?_ ?_; rotate_left 1; (focus ((simp only [List.getElem?_toArray, List.getElem?_cons_succ, List.getElem?_cons_zero]) <;> rfl)); (focus rfl); simp only [Act.put, List.setIfInBounds_toArray, List.set_cons_zero, List.set_cons_succ]) | (refine ordt_q (o := ?_) (v := ?_) ?_ ?_ ?_ ?_; rotate_left 2; (focus ((simp only [List.getElem?_toArray, List.getElem?_cons_succ, List.getElem?_cons_zero]) <;> rfl)); (focus rfl); (focus (intro w' hS; (try dsimp only at hS); go_split_ands; go_simp; (try (with_reducible rfl)))); simp only [Act.put, List.setIfInBounds_toArray, List.set_cons_zero, List.set_cons_succ]))
  refine ordt_e ?_
  (refine op_e (o := ?_) ?_ ?_ (fun K hK => ?_); rotate_left 1; (focus ((simp only [List.getElem?_toArray, List.getElem?_cons_succ, List.getElem?_cons_zero]) <;> rfl)); (focus rfl); go_simp)
  refine (l1First_any _ _ _ _ _ _ _ (by omega) (by omega)).mono ?_
  rintro e wa ⟨rfl, hq⟩
  have hk2 := HK.out.drew.below hq
  refine hK.out _ _ hk2.cells.1 ?_
  clear hK K hq
  have HKa := Lib.hid hk2
  clear hk2
  (try simp only [Act.put, List.setIfInBounds_toArray, List.set_cons_zero, List.set_cons_succ])
  repeat (first | (refine ordt_s (o := ?_) ?_ ?_ ?_; rotate_left 1; (focus ((simp only [List.getElem?_toArray, List.getElem?_cons_succ, List.getElem?_cons_zero]) <;> rfl)); (focus rfl); simp only [Act.put, List.setIfInBounds_toArray, List.set_cons_zero, List.set_cons_succ]) | (refine ordt_q (o := ?_) (v := ?_) ?_ ?_ ?_ ?_; rotate_left 2; (focus ((simp only [List.getElem?_toArray, List.getElem?_cons_succ, List.getElem?_cons_zero]) <;> rfl)); (focus rfl); (focus (intro w' hS; (try dsimp only at hS); go_split_ands; go_simp; (try (with_reducible rfl)))); simp only [Act.put, List.setIfInBounds_toArray, List.set_cons_zero, List.set_cons_succ]))
  refine ordt_e ?_
  (refine op_e (o := ?_) ?_ ?_ (fun K hK => ?_); rotate_left 1; (focus ((simp only [List.getElem?_toArray, List.getElem?_cons_succ, List.getElem?_cons_zero]) <;> rfl)); (focus rfl); go_simp)
  refine (pick_kt _ _ _ _ _ _ _ _ _ _ _ _ _ _ _ _ HKa.out (by omega) (by omega)).mono ?_
  rintro e wb ⟨q1, rfl, hp1, hk2, -, -⟩
  refine hK.out _ _ hk2.cells.1 ?_
  clear hK K
  have HKb := Lib.hid hk2
  have hq1 : q1 ≤ 101 := by have := hp1.2; omega
  clear hk2 hp1
  have ww2 : IntKind.i64.wrap ((q1 : Int) - 1) = (q1 : Int) - 1 := IntWalk.i64_in _ ⟨by omega, by omega⟩
  (try simp only [Act.put, List.setIfInBounds_toArray, List.set_cons_zero, List.set_cons_succ])
  repeat (first | (refine ordt_s (o := ?_) ?_ ?_ ?_; rotate_left 1; (focus ((simp only [List.getElem?_toArray, List.getElem?_cons_succ, List.getElem?_cons_zero]) <;> rfl)); (focus rfl); simp only [Act.put, List.setIfInBounds_toArray, List.set_cons_zero, List.set_cons_succ]) | (refine ordt_q (o := ?_) (v := ?_) ?_ ?_ ?_ ?_; rotate_left 2; (focus ((simp only [List.getElem?_toArray, List.getElem?_cons_succ, List.getElem?_cons_zero]) <;> rfl)); (focus rfl); (focus (intro w' hS; (try dsimp only at hS); go_split_ands; go_simp; (try (with_reducible rfl)))); simp only [Act.put, List.setIfInBounds_toArray, List.set_cons_zero, List.set_cons_succ]))
  refine ordt_e ?_
  (refine op_e (o := ?_) ?_ ?_ (fun K hK => ?_); rotate_left 1; (focus ((simp only [List.getElem?_toArray, List.getElem?_cons_succ, List.getElem?_cons_zero]) <;> rfl)); (focus rfl); go_simp)
  refine (l1First_any _ _ _ _ _ _ _ (by omega) (by omega)).mono ?_
  rintro e wc ⟨rfl, hq⟩
  have hk2 := HKb.out.below hq
  refine hK.out _ _ hk2.cells.1 ?_
  clear hK K hq
  have HKc := Lib.hid hk2
  clear hk2
  (try simp only [Act.put, List.setIfInBounds_toArray, List.set_cons_zero, List.set_cons_succ])
  repeat (first | (refine ordt_s (o := ?_) ?_ ?_ ?_; rotate_left 1; (focus ((simp only [List.getElem?_toArray, List.getElem?_cons_succ, List.getElem?_cons_zero]) <;> rfl)); (focus rfl); simp only [Act.put, List.setIfInBounds_toArray, List.set_cons_zero, List.set_cons_succ]) | (refine ordt_q (o := ?_) (v := ?_) ?_ ?_ ?_ ?_; rotate_left 2; (focus ((simp only [List.getElem?_toArray, List.getElem?_cons_succ, List.getElem?_cons_zero]) <;> rfl)); (focus rfl); (focus (intro w' hS; (try dsimp only at hS); go_split_ands; go_simp; (try (with_reducible rfl)))); simp only [Act.put, List.setIfInBounds_toArray, List.set_cons_zero, List.set_cons_succ]))
  all_goals
    refine ordt_e ?_
    (refine op_e (o := ?_) ?_ ?_ (fun K hK => ?_); rotate_left 1; (focus ((simp only [List.getElem?_toArray, List.getElem?_cons_succ, List.getElem?_cons_zero]) <;> rfl)); (focus rfl); go_simp)
    refine (pick_kt _ _ _ _ _ _ _ _ _ _ _ _ _ _ _ _ HKc.out (by omega) (by omega)).mono ?_
    rintro e wd ⟨q2, rfl, hp2, hk2, -, -⟩
    refine hK.out _ _ hk2.cells.1 ?_
    clear hK K
    have HKd := Lib.hid hk2
    have hq2 : (1 ≤ V → (q2 : Int) < V) ∧ (q2 : Int) ≤ 100 := by have := hp2.2; omega
    have HQ2 := Lib.hid hq2
    clear hq2
    clear hk2 hp2
    (try simp only [Act.put, List.setIfInBounds_toArray, List.set_cons_zero, List.set_cons_succ])
    repeat (first | (refine ordt_s (o := ?_) ?_ ?_ ?_; rotate_left 1; (focus ((simp only [List.getElem?_toArray, List.getElem?_cons_succ, List.getElem?_cons_zero]) <;> rfl)); (focus rfl); simp only [Act.put, List.setIfInBounds_toArray, List.set_cons_zero, List.set_cons_succ]) | (refine ordt_q (o := ?_) (v := ?_) ?_ ?_ ?_ ?_; rotate_left 2; (focus ((simp only [List.getElem?_toArray, List.getElem?_cons_succ, List.getElem?_cons_zero]) <;> rfl)); (focus rfl); (focus (intro w' hS; (try dsimp only at hS); go_split_ands; go_simp; (try (with_reducible rfl)))); simp only [Act.put, List.setIfInBounds_toArray, List.set_cons_zero, List.set_cons_succ]))
    obtain ⟨h0, hbl, h2s⟩ := HRS.out _ _ HKd.out
    obtain ⟨rc, rf⟩ := blk_all h0
    refine ordt_e ?_
    (refine op_e (o := ?_) ?_ ?_ (fun K hK => ?_); rotate_left 1; (focus ((simp only [List.getElem?_toArray, List.getElem?_cons_succ, List.getElem?_cons_zero]) <;> rfl)); (focus rfl); go_simp)
    have hB0 : B < wd.heap.size := blk_lt HKd.out.out.blk
    have hBw : w.heap.size < B := by have := HKd.out.hB; omega
    have hU : Upd w.heap.size wd ((((wd.setCell ⟨w.heap.size, 0, none⟩ (.int .i64 C.inp)).setCell ⟨w.heap.size, 1, none⟩ (.slice sn C.next.length cn)).setCell ⟨w.heap.size, 2, none⟩ (.slice sg C.gates.length cg)).setCell ⟨w.heap.size, 3, none⟩ (.slice so C.outs.length co)) := (((Upd.set _ _ _ _).trans (Upd.set _ _ _ _)).trans (Upd.set _ _ _ _)).trans (Upd.set _ _ _ _)
    have hZB : ((((wd.setCell ⟨w.heap.size, 0, none⟩ (.int .i64 C.inp)).setCell ⟨w.heap.size, 1, none⟩ (.slice sn C.next.length cn)).setCell ⟨w.heap.size, 2, none⟩ (.slice sg C.gates.length cg)).setCell ⟨w.heap.size, 3, none⟩ (.slice so C.outs.length co)).heap[B]? = some (.cells #[.int .i64 C.inp, .slice sn C.next.length cn, .slice sg C.gates.length cg, .slice so C.outs.length co] 26 (0, 0)) := by
      rw [hU.block B hB0 (by simp; omega)]; exact HKd.out.out.blk
    refine hK.out _ _ (blk_all hZB).1 ?_
    clear hK K hZB hU
    (try simp only [Act.put, List.setIfInBounds_toArray, List.set_cons_zero, List.set_cons_succ])
    repeat (first | (refine ordt_s (o := ?_) ?_ ?_ ?_; rotate_left 1; (focus ((simp only [List.getElem?_toArray, List.getElem?_cons_succ, List.getElem?_cons_zero]) <;> rfl)); (focus rfl); simp only [Act.put, List.setIfInBounds_toArray, List.set_cons_zero, List.set_cons_succ]) | (refine ordt_q (o := ?_) (v := ?_) ?_ ?_ ?_ ?_; rotate_left 2; (focus ((simp only [List.getElem?_toArray, List.getElem?_cons_succ, List.getElem?_cons_zero]) <;> rfl)); (focus rfl); (focus (intro w' hS; (try dsimp only at hS); go_split_ands; go_simp; (try (with_reducible rfl)))); simp only [Act.put, List.setIfInBounds_toArray, List.set_cons_zero, List.set_cons_succ]))
    refine ordt_nil ?_
    go_wp2_with fail
    all_goals
      have hown : CirOwn wd w1.heap.size C (.slice sn C.next.length cn) (.slice sg C.gates.length cg) (.slice so C.outs.length co) := ⟨HKd.out.out.n, HKd.out.out.g, HKd.out.out.o, HKd.out.out.ne, by omega, by omega, by omega⟩
      have hZ : ((((wd.setCell ⟨w.heap.size, 0, none⟩ (.int .i64 C.inp)).setCell ⟨w.heap.size, 1, none⟩ (.slice sn C.next.length cn)).setCell ⟨w.heap.size, 2, none⟩ (.slice sg C.gates.length cg)).setCell ⟨w.heap.size, 3, none⟩ (.slice so C.outs.length co)).heap[w.heap.size]? = some (.cells #[.int .i64 C.inp, .slice sn C.next.length cn, .slice sg C.gates.length cg, .slice so C.outs.length co] 26 (0, 0)) := by
        simpa using blk_set (o := 3) (v := .slice so C.outs.length co) (blk_set (o := 2) (v := .slice sg C.gates.length cg) (blk_set (o := 1) (v := .slice sn C.next.length cn) (blk_set (o := 0) (v := .int .i64 C.inp) h0)))
      have hR := (hown).sets4 (r := w.heap.size) (by omega) (base := w.heap.size) (by omega) (a := .int .i64 C.inp) (b' := .slice sn C.next.length cn) (c' := .slice sg C.gates.length cg) (d := .slice so C.outs.length co)
      have hB := ((((hbl).setCell (p := ⟨w.heap.size, 0, none⟩) (by simp) (.int .i64 C.inp)).setCell (p := ⟨w.heap.size, 1, none⟩) (by simp) (.slice sn C.next.length cn)).setCell (p := ⟨w.heap.size, 2, none⟩) (by simp) (.slice sg C.gates.length cg)).setCell (p := ⟨w.heap.size, 3, none⟩) (by simp) (.slice so C.outs.length co)
      clear rc rf
      revert hZ hR hB
      generalize ((((wd.setCell ⟨w.heap.size, 0, none⟩ (.int .i64 C.inp)).setCell ⟨w.heap.size, 1, none⟩ (.slice sn C.next.length cn)).setCell ⟨w.heap.size, 2, none⟩ (.slice sg C.gates.length cg)).setCell ⟨w.heap.size, 3, none⟩ (.slice so C.outs.length co)) = WZ
      intro hZ hR hB
      have cr := (blk_all hZ).1
      exact bodyPost_ret (v := .tuple #[.agg #[.int .i64 C.inp, .slice sn C.next.length cn, .slice sg C.gates.length cg, .slice so C.outs.length co], .int .i64 ((q1 : Int) - 1), .int .i64 (q2 : Int)]) (by simp [results, Try.results11, go_sem, cr]) rfl ⟨C, _, _, _, _, _, rfl, hR, ⟨by omega, by omega, by omega, by omega, by omega⟩, ⟨by omega, by omega, by omega, HQ2.out.2, fun h => by have := HVV.out; have h3 := HQ2.out.1 (by unfold Cir.vars at h; omega); unfold Cir.vars; omega⟩, hB⟩

end Go.Proofs.Ytjggcojbgkpooaa
