import Derived.Test.YtnmafbggpjglaaaY2
import Derived.Test.YtnmafbggpjglaaaB6
import Derived.Test.YtnmafbggpjglaaaE1
namespace Go.Proofs.Ytnmafbggpjglaaa
set_option linter.unusedVariables false
set_option linter.unusedSimpArgs false
open Go.RowKit

/-! A circuit and the number of a gate drawn out of bytes; the law FnCanRetime. -/

theorem canRetime_yes2 {c : Cir} {i : Int} (h : canRetimeB c i = true) : ∃ (k : Nat) (g : Gt), i = k ∧ c.gates[k]? = some g ∧ c.validB = true ∧ c.next.length < 3 ∧ c.gates.length < 14 ∧ latchLit c g.a ∧ latchLit c g.b := by
  unfold canRetimeB at h
  simp only [Bool.and_eq_true, decide_eq_true_eq] at h
  obtain ⟨h1, ⟨h2, h3, h4, h5⟩, h6⟩ := h
  obtain ⟨k, rfl⟩ : ∃ k : Nat, i = k := ⟨i.toNat, by omega⟩
  rw [Int.toNat_natCast] at h6
  cases hg : c.gates[k]? with
  | none => rw [hg] at h6; cases h6
  | some g =>
    rw [hg] at h6
    simp only [decide_eq_true_eq] at h6
    exact ⟨k, g, rfl, hg, h1, h4, h5, h6.1, h6.2⟩

/-- A circuit and a number that were drawn. -/
def DrawnCI (w : World) (e : Ending) (w' : World) : Prop :=
  ∃ (C : Cir) (i : Int) (vn vg vo : Value), e = .returned (.tuple #[.agg #[.int .i64 C.inp, vn, vg, vo], .int .i64 i]) ∧ CirOwn w' w.heap.size C vn vg vo ∧ (-10 ≤ C.inp ∧ C.inp ≤ 10 ∧ C.next.length ≤ 8 ∧ C.gates.length ≤ 40 ∧ C.outs.length ≤ 16) ∧ (-1 ≤ i ∧ i ≤ 100) ∧ Below w.heap.size w w'

set_option maxHeartbeats 800000 in
theorem DrawCanRetime_any (s : Option Addr) (cap : Nat) (xs : List Int) (w : World) (hs : Sl w s (u8s xs)) (hl : xs.length ≤ 1048576) (hcap : xs.length ≤ cap) (hcap2 : cap ≤ 9223372036854775807) (hr : ∀ x ∈ xs, 0 ≤ x ∧ x ≤ 255) :
    Calls Try.prog 9 #[.slice s xs.length cap] w (DrawnCI w) := by
  obtain ⟨W0, hW0⟩ : ∃ W0, W0 = w.alloc (.cells #[.int .i64 0, .slice none 0 0, .slice none 0 0, .slice none 0 0] 26) := ⟨_, rfl⟩
  have hz : W0.heap.size = w.heap.size + 1 := by rw [hW0]; simp
  have hb0 : Below w.heap.size w W0 := by rw [hW0]; exact below_alloc _ _
  have hk0 : W0.heap[w.heap.size]? = some (.cells #[.int .i64 0, .slice none 0 0, .slice none 0 0, .slice none 0 0] 26 (0, 0)) := by rw [hW0]; exact blk_new _ _
  have HH := Lib.hid (l20Open_any s cap xs W0 (hs.mono hb0) hl hcap hcap2 hr)
  have HW := Lib.hid (And.intro hW0 (And.intro hz (And.intro hb0 hk0)))
  clear hs hr hW0 hz hb0 hk0
  go_enter Try.func9, Try.ntmps9
  go_upto_region 1 with fail
  rw [← HW.out.1]
  go_wp2_with (first
    | (go_at_call 48; (with_reducible refine HH.out.mono ?_); rintro e w1 ⟨c, rfl, h1, h2, h3⟩; have H1 := Lib.hid (And.intro h1 (And.intro h2 h3)); clear h1 h2 h3)
    | (go_at_call 47; (with_reducible refine (l20Ring_any _ _ _ _ _ _ _ H1.out.1 (by omega) (by omega) (by omega)).mono ?_); rintro e w2 ⟨C, i, vn, vg, vo, p', rfl, h1, h2, h3, h4, h5, h6⟩; obtain ⟨sn, cn, rfl⟩ := own_shape h1.n; obtain ⟨sg, cg, rfl⟩ := own_shape h1.g; obtain ⟨so, co, rfl⟩ := own_shape h1.o; have h0 : w2.heap[w.heap.size]? = some (.cells #[.int .i64 0, .slice none 0 0, .slice none 0 0, .slice none 0 0] 26 (0, 0)) := (by have e1 := HW.out.2.1; have e2 := H1.out.2.2; rw [h6.block _ (by omega) (by omega)]; exact blk_below H1.out.2.1 (by omega) HW.out.2.2.2); obtain ⟨rc, rf⟩ := blk_all h0; have H2 := Lib.hid (And.intro h0 (And.intro h1 (And.intro h2 (And.intro h3 h6)))); clear h0 h1 h2 h3 h4 h5 h6))
  have hbl : Below w.heap.size w w2 := by
    have e1 := HW.out.2.1; have e2 := H1.out.2.2
    exact (HW.out.2.2.1.trans (H1.out.2.1.mono (by omega))).trans (H2.out.2.2.2.2.below (by omega) (by omega))
  have e1 := HW.out.2.1
  have e2 := H1.out.2.2
  have hZ : ((((w2.setCell ⟨w.heap.size, 0, none⟩ (.int .i64 C.inp)).setCell ⟨w.heap.size, 1, none⟩ (.slice sn C.next.length cn)).setCell ⟨w.heap.size, 2, none⟩ (.slice sg C.gates.length cg)).setCell ⟨w.heap.size, 3, none⟩ (.slice so C.outs.length co)).heap[w.heap.size]? = some (.cells #[.int .i64 C.inp, .slice sn C.next.length cn, .slice sg C.gates.length cg, .slice so C.outs.length co] 26 (0, 0)) := by
    simpa using blk_set (o := 3) (v := .slice so C.outs.length co) (blk_set (o := 2) (v := .slice sg C.gates.length cg) (blk_set (o := 1) (v := .slice sn C.next.length cn) (blk_set (o := 0) (v := .int .i64 C.inp) H2.out.1)))
  have hR := (H2.out.2.1).sets4 (r := w.heap.size) (by omega) (base := w.heap.size) (by omega) (a := .int .i64 C.inp) (b' := .slice sn C.next.length cn) (c' := .slice sg C.gates.length cg) (d := .slice so C.outs.length co)
  have hB := ((((hbl).setCell (p := ⟨w.heap.size, 0, none⟩) (by simp) (.int .i64 C.inp)).setCell (p := ⟨w.heap.size, 1, none⟩) (by simp) (.slice sn C.next.length cn)).setCell (p := ⟨w.heap.size, 2, none⟩) (by simp) (.slice sg C.gates.length cg)).setCell (p := ⟨w.heap.size, 3, none⟩) (by simp) (.slice so C.outs.length co)
  clear rc rf
  revert hZ hR hB
  generalize ((((w2.setCell ⟨w.heap.size, 0, none⟩ (.int .i64 C.inp)).setCell ⟨w.heap.size, 1, none⟩ (.slice sn C.next.length cn)).setCell ⟨w.heap.size, 2, none⟩ (.slice sg C.gates.length cg)).setCell ⟨w.heap.size, 3, none⟩ (.slice so C.outs.length co)) = WZ
  intro hZ hR hB
  have cr := (blk_all hZ).1
  exact bodyPost_ret (v := .tuple #[.agg #[.int .i64 C.inp, .slice sn C.next.length cn, .slice sg C.gates.length cg, .slice so C.outs.length co], .int .i64 i]) (by simp [results, Try.results9, go_sem, cr]) rfl ⟨C, i, _, _, _, rfl, hR, H2.out.2.2.1, H2.out.2.2.2.1, hB⟩

set_option maxHeartbeats 1600000 in
theorem FnCanRetime_any (s : Option Addr) (cap : Nat) (xs : List Int) (w : World) (hs : Sl w s (u8s xs)) (hl : xs.length ≤ 9223372036854775807) (hcap : xs.length ≤ cap) (hcap2 : cap ≤ 9223372036854775807) (hr : ∀ x ∈ xs, 0 ≤ x ∧ x ≤ 255) :
    Calls Try.prog 3 #[.slice s xs.length cap] w fun e w' => e = .returned (.bool true) ∧ Below w.heap.size w w' := by
  by_cases hc : xs.length ≤ 1048576
  · have HD := Lib.hid (DrawCanRetime_any s cap xs w hs hc hcap hcap2 hr)
    clear hs hr
    go_enter Try.func3, Try.ntmps3
    go_upto_region 4 with (go_at_call 9; (with_reducible refine HD.out.mono ?_); rintro e w1 ⟨C, i, vn, vg, vo, rfl, h1, h2, h3, h4⟩; obtain ⟨sn, cn, rfl⟩ := own_shape h1.n; obtain ⟨sg, cg, rfl⟩ := own_shape h1.g; obtain ⟨so, co, rfl⟩ := own_shape h1.o; have H1 := Lib.hid (And.intro h1 h4); obtain ⟨l1, l2, l3, l4, l5⟩ := h2; obtain ⟨i1, i2⟩ := h3; clear h1 h4)
    obtain ⟨B, hB⟩ : ∃ B, B = w1.heap.size := ⟨_, rfl⟩
    have hk := blk_new w1 (.cells #[.int .i64 C.inp, .slice sn C.next.length cn, .slice sg C.gates.length cg, .slice so C.outs.length co] 26)
    have hbb := below_alloc w1 (.cells #[.int .i64 C.inp, .slice sn C.next.length cn, .slice sg C.gates.length cg, .slice so C.outs.length co] 26)
    have hV : CirV (w1.alloc (.cells #[.int .i64 C.inp, .slice sn C.next.length cn, .slice sg C.gates.length cg, .slice so C.outs.length co] 26)) (.agg #[.int .i64 C.inp, .slice sn C.next.length cn, .slice sg C.gates.length cg, .slice so C.outs.length co]) C :=
      ⟨_, _, _, _, _, _, rfl, own_sl (own_below H1.out.1.n hbb), own_sl (own_below H1.out.1.g hbb), own_sl (own_below H1.out.1.o hbb), by omega, by omega, by omega⟩
    have hbw := H1.out.2.trans (hbb.mono H1.out.2.size)
    rw [← hB] at hk
    rw [← hB]
    clear hbb hB H1
    revert hk hV hbw
    generalize w1.alloc (.cells #[.int .i64 C.inp, .slice sn C.next.length cn, .slice sg C.gates.length cg, .slice so C.outs.length co] 26) = W1
    intro hk hV hbw
    have cb := (blk_all hk).1
    have HW := Lib.hid (And.intro hk (And.intro hV hbw))
    clear hk hbw
    cases hcr : canRetimeB C i
    · clear hV
      have HE := Lib.hid hcr
      clear hcr
      go_wp2_with (first
        | (go_at_call 10; ((with_reducible refine (CanRetime_i _ _ _ _ HW.out.2.1).mono ?_); rintro e w2 ⟨rfl, hq⟩; rw [HE.out]; have H2 := Lib.hid hq; clear hq cb; have cb := (blk_all (blk_below H2.out (blk_lt HW.out.1) HW.out.1)).1))
        | (go_at_call 11; ((with_reducible refine (CanRetime_s _ _ _ _ (HW.out.2.1.mono H2.out)).mono ?_); rintro e w3 ⟨rfl, hq⟩; rw [HE.out]; have H3 := Lib.hid (H2.out.trans (hq.mono H2.out.size)); clear hq cb; have cb := (blk_all (blk_below H3.out (blk_lt HW.out.1) HW.out.1)).1))
        | (go_at_call 12; ((with_reducible refine (alive_any _).mono ?_); rintro e w4 ⟨rfl, hq⟩; have H4 := Lib.hid (H3.out.trans (hq.mono H3.out.size)); clear hq)))
      go_ret
      exact ⟨rfl, HW.out.2.2.trans (H4.out.mono HW.out.2.2.size)⟩
    · obtain ⟨k, g, rfl, hg, hvB, hn3, hg14, ⟨la1, la2⟩, lb1, lb2⟩ := canRetime_yes2 hcr
      obtain ⟨ga0, ga1, gb0, gb1⟩ := Cir.gate_lit hvB hg
      have hkl : k < C.gates.length := (List.getElem?_eq_some_iff.1 hg).1
      have hi0 := (C.validB_iff.1 hvB).lim.1
      obtain ⟨_, _, _, _, _, _, he, -, hgs, -⟩ := hV
      simp only [Value.agg.injEq, Array.mk.injEq, List.cons.injEq, Value.slice.injEq, and_true, true_and] at he
      obtain ⟨⟨rfl, rfl⟩, ⟨rfl, rfl⟩, rfl, rfl⟩ := he
      obtain ⟨gb, gf, rfl, hgb, zx, zy⟩ := hgs.gate (Below.refl _ _) hg
      have HE := Lib.hid hcr
      have HQ : Hid (∀ W, Below W1.heap.size W1 W → (∀ o, W.cell? ⟨B, o, none⟩ = #[Value.int .i64 C.inp, .slice sn C.next.length cn, .slice (some ⟨gb, gf, none⟩) C.gates.length cg, .slice so C.outs.length co][o]?) ∧ W.cell? ⟨gb, gf + k * 2, none⟩ = some (.int .i64 g.a) ∧ W.cell? ⟨gb, gf + k * 2 + 1, none⟩ = some (.int .i64 g.b)) := fun W hW => ⟨(blk_all (blk_below hW (blk_lt HW.out.1) HW.out.1)).1, (hW.cell hgb).trans zx, (hW.cell hgb).trans zy⟩
      clear hcr hvB hg hgs zx zy hgb cb
      obtain ⟨cb, zx, zy⟩ := HQ.out _ (Below.refl _ _)
      go_upto_region 10 with (first
        | (go_at_call 10; ((with_reducible refine (CanRetime_i _ _ _ _ HW.out.2.1).mono ?_); rintro e w2 ⟨rfl, hq⟩; rw [HE.out]; have H2 := Lib.hid hq; clear hq cb zx zy; obtain ⟨cb, zx, zy⟩ := HQ.out _ H2.out))
        | (go_at_call 11; ((with_reducible refine (CanRetime_s _ _ _ _ (HW.out.2.1.mono H2.out)).mono ?_); rintro e w3 ⟨rfl, hq⟩; rw [HE.out]; have H3 := Lib.hid (H2.out.trans (hq.mono H2.out.size)); clear hq cb zx zy; obtain ⟨cb, zx, zy⟩ := HQ.out _ H3.out)))
      have hb3 := H3.out.trans ((below_alloc w3 (.cells #[.int .i64 g.a, .int .i64 g.b] 32)).mono H3.out.size)
      have hk3 := blk_new w3 (.cells #[.int .i64 g.a, .int .i64 g.b] 32)
      obtain ⟨G3, hG3⟩ : ∃ G3, G3 = w3.heap.size := ⟨_, rfl⟩
      rw [← hG3] at hk3
      rw [← hG3]
      clear cb zx zy hG3
      revert hb3 hk3
      generalize w3.alloc (.cells #[.int .i64 g.a, .int .i64 g.b] 32) = W4
      intro hb3 hk3
      have cb := (HQ.out _ hb3).1
      have c2 := (blk_all hk3).1
      have H4 := Lib.hid hb3
      clear hb3 hk3
      go_wp2_with fail
      go_ret
      exact ⟨by simp; omega, HW.out.2.2.trans (H4.out.mono HW.out.2.2.size)⟩
  · clear hs hr
    go_enter Try.func3, Try.ntmps3
    go_wp2
    go_ret
    exact ⟨rfl, Below.refl _ _⟩

end Go.Proofs.Ytnmafbggpjglaaa
