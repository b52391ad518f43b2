import Derived.Test.YtbbefoohelcokaaLC
import Derived.Test.YtbbefoohelcokaaLD
import Derived.Test.YtbbefoohelcokaaCC
namespace Go.Proofs.Ytbbefoohelcokaa
set_option linter.unusedVariables false
set_option linter.unusedSimpArgs false
open Go.RowKit

/-! The law FnCanScan. -/

theorem less_no (C : Cir) : canScanB ⟨C.inp, [], C.gates, C.outs⟩ = false := by
  unfold canScanB
  simp
theorem next_pos {C : Cir} (h : canScanB C = true) : 1 ≤ C.next.length := by
  unfold canScanB at h
  simp at h
  omega

set_option maxRecDepth 100000 in
set_option maxHeartbeats 6400000 in
theorem FnCanScan_any (s : Option Addr) (cap : Nat) (xs : List Int) (w : World) (hs : Sl w s (u8s xs)) (hl : xs.length ≤ 9223372036854775807) (hcap : xs.length ≤ cap) (hcap2 : cap ≤ 9223372036854775807) (hr : ∀ x ∈ xs, 0 ≤ x ∧ x ≤ 255) :
    Calls Try.prog 3 #[.slice s xs.length cap] w fun e w' => e = .returned (.bool true) ∧ Below w.heap.size w w' := by
  by_cases hc : xs.length ≤ 1048576
  · have HD := Lib.hid (DrawCanScan_any s cap xs w hs hc hcap hcap2 hr)
    clear hs hr
    go_enter Try.func3, Try.ntmps3
    go_upto_region 4 with (go_at_call 4; (with_reducible refine HD.out.mono ?_); rintro e w1 ⟨C, vn, vg, vo, rfl, h1, h2, h4⟩; obtain ⟨sn, cn, rfl⟩ := own_shape h1.n; obtain ⟨sg, cg, rfl⟩ := own_shape h1.g; obtain ⟨so, co, rfl⟩ := own_shape h1.o; have H1 := Lib.hid (And.intro h1 h4); obtain ⟨l1, l2, l3, l4, l5⟩ := h2; clear h1 h4)
    obtain ⟨B, hB⟩ : ∃ B, B = w1.heap.size := ⟨_, rfl⟩
    have hk := blk_new w1 (.cells #[.int .i64 C.inp, .slice sn C.next.length cn, .slice sg C.gates.length cg, .slice so C.outs.length co] 26)
    have hbb := below_al w1 (.cells #[.int .i64 C.inp, .slice sn C.next.length cn, .slice sg C.gates.length cg, .slice so C.outs.length co] 26)
    have hV : CirV (w1.alloc (.cells #[.int .i64 C.inp, .slice sn C.next.length cn, .slice sg C.gates.length cg, .slice so C.outs.length co] 26)) (.agg #[.int .i64 C.inp, .slice sn C.next.length cn, .slice sg C.gates.length cg, .slice so C.outs.length co]) C := own_cv (own_cbelow H1.out.1 hbb)
    have hbw := H1.out.2.trans (hbb.mono H1.out.2.size)
    rw [← hB] at hk
    rw [← hB]
    clear hbb hB H1 HD
    revert hV hbw hk
    generalize w1.alloc (.cells #[.int .i64 C.inp, .slice sn C.next.length cn, .slice sg C.gates.length cg, .slice so C.outs.length co] 26) = W1
    intro hk hV hbw
    have HC : Hid (∀ W, Below W1.heap.size W1 W → CirV W (.agg #[.int .i64 C.inp, .slice sn C.next.length cn, .slice sg C.gates.length cg, .slice so C.outs.length co]) C ∧ (∀ o, W.cell? ⟨B, o, none⟩ = #[Value.int .i64 C.inp, .slice sn C.next.length cn, .slice sg C.gates.length cg, .slice so C.outs.length co][o]?)) := fun W hW => ⟨hV.mono hW, (blk_all (blk_below hW (blk_lt hk) hk)).1⟩
    have HW := Lib.hid hbw
    clear hk hV hbw
    have cb := (HC.out _ (Below.refl _ _)).2
    have H5 := Lib.hid (Below.refl W1.heap.size W1)
    cases hB0 : canScanB C
    · have HB := Lib.hid hB0
      clear hB0
      go_upto_region 7 with (first
        | (go_at_call 5; ((with_reducible refine (CanScan_i _ C _ (HC.out _ H5.out).1).mono ?_); rintro e w2 ⟨rfl, hq⟩; rw [HB.out]; have H5 := Lib.hid (H5.out.trans (hq.mono H5.out.size)); clear hq cb; have cb := (HC.out _ H5.out).2))
        | (go_at_call 6; ((with_reducible refine (CanScan_s _ C _ (HC.out _ H5.out).1).mono ?_); rintro e w3 ⟨rfl, hq⟩; rw [HB.out]; have H5 := Lib.hid (H5.out.trans (hq.mono H5.out.size)); clear hq cb; have cb := (HC.out _ H5.out).2)))
      go_upto_region 8 with fail
      clear cb
      obtain ⟨Y, hY⟩ : ∃ Y, Y = w3.heap.size := ⟨_, rfl⟩
      have kY := blk_new w3 (.cells #[Value.int .i64 C.inp, .slice sn C.next.length cn, .slice sg C.gates.length cg, .slice so C.outs.length co] 26)
      have bY := below_al w3 (.cells #[Value.int .i64 C.inp, .slice sn C.next.length cn, .slice sg C.gates.length cg, .slice so C.outs.length co] 26)
      have hb2 := H5.out.trans (bY.mono H5.out.size)
      have hYs : W1.heap.size ≤ Y := by rw [hY]; exact H5.out.size
      rw [← hY] at kY
      rw [← hY]
      clear hY bY H5
      revert kY hb2
      generalize w3.alloc (.cells #[Value.int .i64 C.inp, .slice sn C.next.length cn, .slice sg C.gates.length cg, .slice so C.outs.length co] 26) = W2
      intro kY hb2
      obtain ⟨cy, fy⟩ := blk_all kY
      have hkY : (W2.setCell ⟨Y, 1, none⟩ (.slice none 0 0)).heap[Y]? = some (.cells #[Value.int .i64 C.inp, .slice none 0 0, .slice sg C.gates.length cg, .slice so C.outs.length co] 26 (0, 0)) := by simpa using blk_set (o := 1) (v := .slice none 0 0) kY
      have hb3 := hb2.setCell (p := ⟨Y, 1, none⟩) hYs (.slice none 0 0)
      have HY := Lib.hid (And.intro hkY hb3)
      clear kY hb2 hkY hb3
      go_upto_region 9 with fail
      clear cy fy
      revert HY
      generalize W2.setCell ⟨Y, 1, none⟩ (.slice none 0 0) = W3
      intro HY
      have HV : Hid (∀ W, Below W3.heap.size W3 W → CirV W (.agg #[Value.int .i64 C.inp, .slice sn C.next.length cn, .slice sg C.gates.length cg, .slice so C.outs.length co]) C ∧ (∀ o, W.cell? ⟨B, o, none⟩ = #[Value.int .i64 C.inp, .slice sn C.next.length cn, .slice sg C.gates.length cg, .slice so C.outs.length co][o]?) ∧ CirV W (.agg #[Value.int .i64 C.inp, .slice none 0 0, .slice sg C.gates.length cg, .slice so C.outs.length co]) ⟨C.inp, [], C.gates, C.outs⟩ ∧ (∀ o, W.cell? ⟨Y, o, none⟩ = #[Value.int .i64 C.inp, .slice none 0 0, .slice sg C.gates.length cg, .slice so C.outs.length co][o]?) ∧ Below w.heap.size w W) := fun W hW => by
        have hb := HY.out.2.trans (hW.mono HY.out.2.size)
        obtain ⟨f1, f2⟩ := HC.out W hb
        obtain ⟨_, _, _, _, _, _, e, g1, g2, g3, g4, g5, g6⟩ := id f1
        simp only [Value.agg.injEq, Array.mk.injEq, List.cons.injEq, Value.slice.injEq, and_true, true_and] at e
        obtain ⟨⟨rfl, rfl⟩, ⟨rfl, rfl⟩, ⟨rfl, rfl⟩⟩ := e
        exact ⟨f1, f2, ⟨none, 0, _, _, _, _, rfl, .inl rfl, g2, g3, Nat.zero_le _, g5, g6⟩, (blk_all (blk_below hW (blk_lt HY.out.1) HY.out.1)).1, HW.out.trans (hb.mono HW.out.size)⟩
      have H5 := Lib.hid (Below.refl W3.heap.size W3)
      have cb := (HV.out _ H5.out).2.1
      have cy := (HV.out _ H5.out).2.2.2.1
      clear HY
      go_wp2_with (first
        | (go_at_call 8; ((with_reducible refine (InsertScan_i _ C _ (HV.out _ H5.out).1 HB.out).mono ?_); rintro e w4 ⟨D, vn, vg, vo, rfl, h1, h2, hq⟩; obtain ⟨pn, qn, rfl⟩ := own_shape h1.n; obtain ⟨pg, qg, rfl⟩ := own_shape h1.g; obtain ⟨po, qo, rfl⟩ := own_shape h1.o; have HD := Lib.hid (And.intro (own_cv h1) h2); have H5 := Lib.hid (H5.out.trans (hq.mono H5.out.size)); clear hq cb cy h1 h2; have cb := (HV.out _ H5.out).2.1; have cy := (HV.out _ H5.out).2.2.2.1))
        | (go_at_call 7; ((with_reducible refine (CircuitValid_i _ D _ HD.out.1).mono ?_); rintro e w5 ⟨rfl, hq⟩; rw [HD.out.2]; have H5 := Lib.hid (H5.out.trans (hq.mono H5.out.size)); clear hq cb cy; have cb := (HV.out _ H5.out).2.1; have cy := (HV.out _ H5.out).2.2.2.1))
        | (go_at_call 5; ((with_reducible refine (CanScan_i _ ⟨C.inp, [], C.gates, C.outs⟩ _ (HV.out _ H5.out).2.2.1).mono ?_); rintro e w6 ⟨rfl, hq⟩; rw [less_no]; have H5 := Lib.hid (H5.out.trans (hq.mono H5.out.size)); clear hq cb cy; have cb := (HV.out _ H5.out).2.1; have cy := (HV.out _ H5.out).2.2.2.1))
        | (go_at_call 9; ((with_reducible refine (alive_any _).mono ?_); rintro e w7 ⟨rfl, hq⟩; have H5 := Lib.hid (H5.out.trans (hq.mono H5.out.size)); clear hq)))
      go_ret
      exact ⟨rfl, (HV.out _ H5.out).2.2.2.2⟩
    · have hnp := next_pos hB0
      have HB := Lib.hid hB0
      clear hB0
      go_upto_region 7 with (first
        | (go_at_call 5; ((with_reducible refine (CanScan_i _ C _ (HC.out _ H5.out).1).mono ?_); rintro e w2 ⟨rfl, hq⟩; rw [HB.out]; have H5 := Lib.hid (H5.out.trans (hq.mono H5.out.size)); clear hq cb; have cb := (HC.out _ H5.out).2))
        | (go_at_call 6; ((with_reducible refine (CanScan_s _ C _ (HC.out _ H5.out).1).mono ?_); rintro e w3 ⟨rfl, hq⟩; rw [HB.out]; have H5 := Lib.hid (H5.out.trans (hq.mono H5.out.size)); clear hq cb; have cb := (HC.out _ H5.out).2)))
      go_upto_region 8 with fail
      clear cb
      obtain ⟨Y, hY⟩ : ∃ Y, Y = w3.heap.size := ⟨_, rfl⟩
      have kY := blk_new w3 (.cells #[Value.int .i64 C.inp, .slice sn C.next.length cn, .slice sg C.gates.length cg, .slice so C.outs.length co] 26)
      have bY := below_al w3 (.cells #[Value.int .i64 C.inp, .slice sn C.next.length cn, .slice sg C.gates.length cg, .slice so C.outs.length co] 26)
      have hb2 := H5.out.trans (bY.mono H5.out.size)
      have hYs : W1.heap.size ≤ Y := by rw [hY]; exact H5.out.size
      rw [← hY] at kY
      rw [← hY]
      clear hY bY H5
      revert kY hb2
      generalize w3.alloc (.cells #[Value.int .i64 C.inp, .slice sn C.next.length cn, .slice sg C.gates.length cg, .slice so C.outs.length co] 26) = W2
      intro kY hb2
      obtain ⟨cy, fy⟩ := blk_all kY
      have hkY : (W2.setCell ⟨Y, 1, none⟩ (.slice none 0 0)).heap[Y]? = some (.cells #[Value.int .i64 C.inp, .slice none 0 0, .slice sg C.gates.length cg, .slice so C.outs.length co] 26 (0, 0)) := by simpa using blk_set (o := 1) (v := .slice none 0 0) kY
      have hb3 := hb2.setCell (p := ⟨Y, 1, none⟩) hYs (.slice none 0 0)
      have HY := Lib.hid (And.intro hkY hb3)
      clear kY hb2 hkY hb3
      go_upto_region 9 with fail
      clear cy fy
      revert HY
      generalize W2.setCell ⟨Y, 1, none⟩ (.slice none 0 0) = W3
      intro HY
      have HV : Hid (∀ W, Below W3.heap.size W3 W → CirV W (.agg #[Value.int .i64 C.inp, .slice sn C.next.length cn, .slice sg C.gates.length cg, .slice so C.outs.length co]) C ∧ (∀ o, W.cell? ⟨B, o, none⟩ = #[Value.int .i64 C.inp, .slice sn C.next.length cn, .slice sg C.gates.length cg, .slice so C.outs.length co][o]?) ∧ CirV W (.agg #[Value.int .i64 C.inp, .slice none 0 0, .slice sg C.gates.length cg, .slice so C.outs.length co]) ⟨C.inp, [], C.gates, C.outs⟩ ∧ (∀ o, W.cell? ⟨Y, o, none⟩ = #[Value.int .i64 C.inp, .slice none 0 0, .slice sg C.gates.length cg, .slice so C.outs.length co][o]?) ∧ Below w.heap.size w W) := fun W hW => by
        have hb := HY.out.2.trans (hW.mono HY.out.2.size)
        obtain ⟨f1, f2⟩ := HC.out W hb
        obtain ⟨_, _, _, _, _, _, e, g1, g2, g3, g4, g5, g6⟩ := id f1
        simp only [Value.agg.injEq, Array.mk.injEq, List.cons.injEq, Value.slice.injEq, and_true, true_and] at e
        obtain ⟨⟨rfl, rfl⟩, ⟨rfl, rfl⟩, ⟨rfl, rfl⟩⟩ := e
        exact ⟨f1, f2, ⟨none, 0, _, _, _, _, rfl, .inl rfl, g2, g3, Nat.zero_le _, g5, g6⟩, (blk_all (blk_below hW (blk_lt HY.out.1) HY.out.1)).1, HW.out.trans (hb.mono HW.out.size)⟩
      have H5 := Lib.hid (Below.refl W3.heap.size W3)
      have cb := (HV.out _ H5.out).2.1
      have cy := (HV.out _ H5.out).2.2.2.1
      clear HY
      go_wp2_with (first
        | (go_at_call 8; ((with_reducible refine (InsertScan_i _ C _ (HV.out _ H5.out).1 HB.out).mono ?_); rintro e w4 ⟨D, vn, vg, vo, rfl, h1, h2, hq⟩; obtain ⟨pn, qn, rfl⟩ := own_shape h1.n; obtain ⟨pg, qg, rfl⟩ := own_shape h1.g; obtain ⟨po, qo, rfl⟩ := own_shape h1.o; have HD := Lib.hid (And.intro (own_cv h1) h2); have H5 := Lib.hid (H5.out.trans (hq.mono H5.out.size)); clear hq cb cy h1 h2; have cb := (HV.out _ H5.out).2.1; have cy := (HV.out _ H5.out).2.2.2.1))
        | (go_at_call 7; ((with_reducible refine (CircuitValid_i _ D _ HD.out.1).mono ?_); rintro e w5 ⟨rfl, hq⟩; rw [HD.out.2]; have H5 := Lib.hid (H5.out.trans (hq.mono H5.out.size)); clear hq cb cy; have cb := (HV.out _ H5.out).2.1; have cy := (HV.out _ H5.out).2.2.2.1))
        | (go_at_call 5; ((with_reducible refine (CanScan_i _ ⟨C.inp, [], C.gates, C.outs⟩ _ (HV.out _ H5.out).2.2.1).mono ?_); rintro e w6 ⟨rfl, hq⟩; rw [less_no]; have H5 := Lib.hid (H5.out.trans (hq.mono H5.out.size)); clear hq cb cy; have cb := (HV.out _ H5.out).2.1; have cy := (HV.out _ H5.out).2.2.2.1))
        | (go_at_call 9; ((with_reducible refine (alive_any _).mono ?_); rintro e w7 ⟨rfl, hq⟩; have H5 := Lib.hid (H5.out.trans (hq.mono H5.out.size)); clear hq)))
      go_ret
      exact ⟨rfl, (HV.out _ H5.out).2.2.2.2⟩
  · clear hs hr
    go_enter Try.func3, Try.ntmps3
    go_wp2
    go_ret
    exact ⟨rfl, Below.refl _ _⟩

end Go.Proofs.Ytbbefoohelcokaa
