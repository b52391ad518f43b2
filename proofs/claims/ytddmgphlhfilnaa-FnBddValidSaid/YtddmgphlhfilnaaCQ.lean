import Derived.Test.YtddmgphlhfilnaaCP
import Derived.Test.YtddmgphlhfilnaaN3
namespace Go.Proofs.Ytddmgphlhfilnaa
set_option linter.unusedVariables false
set_option linter.unusedSimpArgs false
open Go.RowKit

/-! The law FnBddValid. -/

theorem far_bad (d : Bd) : (⟨d.nodes, (d.nodes.length : Int)⟩ : Bd).validB = false := Bd.validB_false fun h => by
  have := h.1.r1
  simp at this
theorem again_bad {d : Bd} (hv : d.validB = true) {g : Nd} (hg : d.nodes[d.nodes.length - 1]? = some g) : (⟨d.nodes ++ [g], d.root⟩ : Bd).validB = false := Bd.validB_false fun h => by
  have hh := (d.validB_iff.1 hv).1
  have l2 := hh.l2
  have hok := h.2 d.nodes.length (by simp) l2
  have e : (d.nodes ++ [g]).getD d.nodes.length default = g := by simp [List.getD]
  have hok' : okAt (d.nodes ++ [g]) d.nodes.length g := by have h0 := hok; simp only at h0; rw [e] at h0; exact h0
  by_cases h2 : d.nodes.length = 2
  · rw [h2] at hg
    have e2 : g = ⟨0, 0, 0⟩ := by
      have h1 := hh.n1
      rw [show 2 - 1 = 1 from rfl, h1] at hg
      exact (Option.some.inj hg).symm
    subst e2
    exact hok'.basic.2.2.2.2.2.2 rfl
  · exact hok'.fresh (d.nodes.length - 1) (by omega) (by omega) (by rw [List.getElem?_append_left (by omega)]; exact hg)
theorem two_ok (r : Int) (hr : r = 0 ∨ r = 1) : (⟨[⟨0, 0, 0⟩, ⟨0, 0, 0⟩], r⟩ : Bd).validB = true := by
  rcases hr with rfl | rfl <;> decide

set_option maxRecDepth 100000 in
set_option maxHeartbeats 3200000 in
theorem FnBddValid_any (s : Option Addr) (cap : Nat) (xs : List Int) (w : World) (hs : Sl w s (u8s xs)) (hl : xs.length ≤ 9223372036854775807) (hcap : xs.length ≤ cap) (hcap2 : cap ≤ 9223372036854775807) (hr : ∀ x ∈ xs, 0 ≤ x ∧ x ≤ 255) :
    Calls Try.prog 3 #[.slice s xs.length cap] w fun e w' => e = .returned (.bool true) ∧ Below w.heap.size w w' := by
  by_cases hc : xs.length ≤ 1048576
  · have HD := Lib.hid (DrawBddValid_any s cap xs w hs hc hcap hcap2 hr)
    clear hs hr
    go_enter Try.func3, Try.ntmps3
    go_upto_region 4 with (go_at_call 15; (with_reducible refine HD.out.mono ?_); rintro e w1 ⟨d, sb, kb, rfl, h1, h2, ⟨h3, h4⟩, h5⟩; have H1 := Lib.hid (And.intro h1 h5); clear h1 h5)
    obtain ⟨D, hD⟩ : ∃ D, D = w1.heap.size := ⟨_, rfl⟩
    have hk := blk_new w1 (.cells #[.slice sb d.nodes.length kb, .int .i64 d.root] 25)
    have hbb := below_alloc w1 (.cells #[.slice sb d.nodes.length kb, .int .i64 d.root] 25)
    have hV := bdV_own (own_below H1.out.1 hbb) (by omega)
    have hbw := H1.out.2.trans (hbb.mono H1.out.2.size)
    have hsb := own_sl (own_below H1.out.1 hbb)
    rw [← hD] at hk
    rw [← hD]
    clear hbb hD H1
    revert hV hbw hk hsb
    generalize w1.alloc (.cells #[.slice sb d.nodes.length kb, .int .i64 d.root] 25) = W2
    intro hk hV hbw hsb
    have HB : Hid (∀ W, Below W2.heap.size W2 W → (∀ o, W.cell? ⟨D, o, none⟩ = #[Value.slice sb d.nodes.length kb, .int .i64 d.root][o]?) ∧ BdV W (.agg #[.slice sb d.nodes.length kb, .int .i64 d.root]) d ∧ Sl W sb (ncells d.nodes) ∧ Below w.heap.size w W) := fun W hW => ⟨(blk_all (blk_below hW (blk_lt hk) hk)).1, hV.mono hW, hsb.mono hW, hbw.trans (hW.mono hbw.size)⟩
    clear hV hbw hk hsb
    have cb := (HB.out _ (Below.refl _ _)).1
    go_upto_region 5 with (go_at_call 16; ((with_reducible refine (BddValid_i _ d _ (HB.out _ (Below.refl _ _)).2.1).mono ?_); rintro e w3 ⟨rfl, hq⟩; have HQ := Lib.hid hq; clear hq))
    clear cb
    go_upto_region 6 with fail
    have hbb := below_alloc w3 (.cells #[.int .i64 0, .int .i64 0, .int .i64 0, .int .i64 0, .int .i64 0, .int .i64 0] 29)
    have hsl := Sl.new w3 #[.int .i64 0, .int .i64 0, .int .i64 0, .int .i64 0, .int .i64 0, .int .i64 0] 29
    have hbw := HQ.out.trans (hbb.mono HQ.out.size)
    obtain ⟨T, hT⟩ : ∃ T, T = w3.heap.size := ⟨_, rfl⟩
    rw [← hT] at hsl
    rw [← hT]
    clear hbb hT HQ
    revert hbw hsl
    generalize w3.alloc (.cells #[.int .i64 0, .int .i64 0, .int .i64 0, .int .i64 0, .int .i64 0, .int .i64 0] 29) = W4
    intro hbw hsl
    have HT : Hid (∀ W, Below W4.heap.size W4 W → Below W2.heap.size W2 W ∧ ∀ r : Int, BdV W (.agg #[.slice (some ⟨T, 0, none⟩) 2 2, .int .i64 r]) ⟨[⟨0, 0, 0⟩, ⟨0, 0, 0⟩], r⟩) := fun W hW => ⟨hbw.trans (hW.mono hbw.size), fun r => ⟨_, _, rfl, hsl.mono hW, by simp, by simp, by omega⟩⟩
    clear hsl hbw
    have cb := (HB.out _ (HT.out _ (Below.refl _ _)).1).1
    go_upto_region 8 with (first
      | (go_at_call 17; ((with_reducible refine (BddValid_s _ d _ (HB.out _ (HT.out _ (Below.refl _ _)).1).2.1).mono ?_); rintro e w5 ⟨rfl, hq⟩; have HQ := Lib.hid hq; clear hq cb))
      | (go_at_call 16; ((with_reducible refine (BddValid_i _ ⟨[⟨0, 0, 0⟩, ⟨0, 0, 0⟩], 0⟩ _ ((HT.out _ HQ.out).2 0)).mono ?_); rintro e w6 ⟨rfl, hq⟩; rw [two_ok 0 (.inl rfl)]; have HQ := Lib.hid (HQ.out.trans (hq.mono HQ.out.size)); clear hq))
      | (go_at_call 16; ((with_reducible refine (BddValid_i _ ⟨[⟨0, 0, 0⟩, ⟨0, 0, 0⟩], 1⟩ _ ((HT.out _ HQ.out).2 1)).mono ?_); rintro e w6 ⟨rfl, hq⟩; rw [two_ok 1 (.inr rfl)]; have HQ := Lib.hid (HQ.out.trans (hq.mono HQ.out.size)); clear hq)))
    cases hv : d.validB
    · go_wp2_with fail
      go_ret
      exact ⟨rfl, (HB.out _ (HT.out _ HQ.out).1).2.2.2⟩
    · have hh := (d.validB_iff.1 hv).1
      have l2 := hh.l2
      obtain ⟨g, hg⟩ := get_of_lt (l := d.nodes) (k := d.nodes.length - 1) (by omega)
      have HV := Lib.hid (And.intro hv hg)
      have hb6 := (HT.out _ HQ.out).1
      clear hv hh hg HT HQ
      have cb := (HB.out _ hb6).1
      have HQ := Lib.hid hb6
      clear hb6
      go_upto_region 12 with fail
      clear cb
      obtain ⟨W6, hW6, hq6⟩ : ∃ W6, W6 = w6 ∧ Below W2.heap.size W2 W6 := ⟨_, rfl, HQ.out⟩
      rw [← hW6]
      clear HQ hW6
      obtain ⟨E, hE⟩ : ∃ E, E = W6.heap.size := ⟨_, rfl⟩
      have hk := blk_new W6 (.cells #[.slice sb d.nodes.length kb, .int .i64 d.root] 25)
      have hbw := hq6.alloc hq6.size (.cells #[.slice sb d.nodes.length kb, .int .i64 d.root] 25)
      rw [← hE] at hk
      rw [← hE]
      have HE2 : Hid (W2.heap.size ≤ E) := (by rw [hE]; exact hq6.size : W2.heap.size ≤ E)
      clear hE hq6
      revert hbw hk
      generalize W6.alloc (.cells #[.slice sb d.nodes.length kb, .int .i64 d.root] 25) = W7
      intro hk hbw
      have HE : Hid (∀ W, Below W7.heap.size W7 W → Below W2.heap.size W2 W ∧ W.heap[E]? = some (.cells #[.slice sb d.nodes.length kb, .int .i64 d.root] 25 (0, 0)) ∧ E < W.heap.size) := fun W hW => ⟨hbw.trans (hW.mono hbw.size), blk_below hW (blk_lt hk) hk, Nat.lt_of_lt_of_le (blk_lt hk) hW.size⟩
      clear hbw hk
      go_cut [] from 41 to 54 (fun wx => ∃ (s7 : Option Addr) (c7 : Nat), wx.heap[E]? = some (.cells #[.slice s7 (d.nodes.length + 1) c7, .int .i64 d.root] 25 (0, 0)) ∧ BdV wx (.agg #[.slice s7 (d.nodes.length + 1) c7, .int .i64 d.root]) ⟨d.nodes ++ [g], d.root⟩ ∧ (∀ o, wx.cell? ⟨D, o, none⟩ = #[Value.slice sb d.nodes.length kb, .int .i64 d.root][o]?) ∧ BdV wx (.agg #[.slice sb d.nodes.length kb, .int .i64 d.root]) d ∧ Below w.heap.size w wx)
      case first =>
        obtain ⟨m, hm0⟩ : ∃ m, m = d.nodes.length - 1 := ⟨_, rfl⟩
        have hg0 := HV.out.2
        rw [← hm0] at hg0
        have HE3 : Hid (E < W7.heap.size) := (HE.out _ (Below.refl _ _)).2.2
        have hmi : (d.nodes.length : Int) - 1 = (m : Int) := by omega
        have hmlt : m < d.nodes.length := by omega
        have hwm : IntKind.i64.wrap (m : Int) = (m : Int) := IntWalk.i64_in _ ⟨by omega, by omega⟩
        have hmc : 0 ≤ (m : Int) ∧ (m : Int) < d.nodes.length := ⟨by omega, by omega⟩
        obtain ⟨b, off, rfl, hbw, z1, z2, z3⟩ := (HB.out _ (HE.out _ (Below.refl _ _)).1).2.2.1.node (Below.refl _ _) hg0
        have HG0 := Lib.hid hg0
        clear hm0 hg0
        have HZ : Hid (∀ W, Below W7.heap.size W7 W → (∀ o, W.cell? ⟨D, o, none⟩ = #[Value.slice (some ⟨b, off, none⟩) d.nodes.length kb, .int .i64 d.root][o]?) ∧ W.cell? ⟨b, off + m * 3, none⟩ = some (.int .i64 g.v) ∧ W.cell? ⟨b, off + m * 3 + 1, none⟩ = some (.int .i64 g.lo) ∧ W.cell? ⟨b, off + m * 3 + 2, none⟩ = some (.int .i64 g.hi)) := fun W hW => ⟨(HB.out _ (HE.out _ hW).1).1, by rw [hW.cell (by exact hbw)]; exact z1, by rw [hW.cell (by exact hbw)]; exact z2, by rw [hW.cell (by exact hbw)]; exact z3⟩
        have HL : Hid (∀ W, Below W7.heap.size W7 W → Sl W (some ⟨b, off, none⟩) (ncells d.nodes)) := fun W hW => (HB.out _ (HE.out _ hW).1).2.2.1
        clear z1 z2 z3 hbw
        refine wp_region_T (fun w' => (∀ o, w'.cell? ⟨D, o, none⟩ = #[Value.slice (some ⟨b, off, none⟩) d.nodes.length kb, .int .i64 d.root][o]?) ∧ w'.cell? ⟨b, off + m * 3, none⟩ = some (.int .i64 g.v) ∧ w'.cell? ⟨b, off + m * 3 + 1, none⟩ = some (.int .i64 g.lo) ∧ w'.cell? ⟨b, off + m * 3 + 2, none⟩ = some (.int .i64 g.hi)) (.q 1 (.q 2 (.q 4 (.q 5 (.q 6 (.q 7 (.q 8 (.q 9 (.two 0 (.two 3 (.e 10 (.e 11 (.q 12 (.e 13 .nil)))) 10 (.e 3 (.e 11 (.q 12 (.e 13 .nil))))) 10 (.e 0 (.e 3 (.e 11 (.q 12 (.e 13 .nil)))))))))))))) (by kernel_rfl) (by kernel_rfl) (by kernel_rfl) (HZ.out _ (Below.refl _ _).drew) ?_
        have hd := (Below.refl W7.heap.size W7).drew
        revert hd
        generalize W7.drew = Wd
        intro hd
        have HBK := Lib.hid hd
        clear hd
        repeat (first | (refine ordt_s (o := ?_) ?_ ?_ ?_; rotate_left 1; (focus ((simp only [List.getElem?_toArray, List.getElem?_cons_succ, List.getElem?_cons_zero]) <;> rfl)); (focus rfl); simp only [Act.put, List.setIfInBounds_toArray, List.set_cons_zero, List.set_cons_succ]) | (refine ordt_q (o := ?_) (v := ?_) ?_ ?_ ?_ ?_; rotate_left 2; (focus ((simp only [List.getElem?_toArray, List.getElem?_cons_succ, List.getElem?_cons_zero]) <;> rfl)); (focus rfl); (focus (intro w' hS; (try dsimp only at hS); go_split_ands; go_simp; (try (with_reducible rfl)))); simp only [Act.put, List.setIfInBounds_toArray, List.set_cons_zero, List.set_cons_succ]))
        refine ordt_two ?_ ?_
        · (refine op_e (o := ?_) ?_ ?_ (fun K hK => ?_); rotate_left 1; (focus ((simp only [List.getElem?_toArray, List.getElem?_cons_succ, List.getElem?_cons_zero]) <;> rfl)); (focus rfl); go_simp)
          have hb1 := HBK.out.alloc HBK.out.size (.cells #[] 29)
          have hk1 := blk_new Wd (.cells #[] 29)
          have hT1 := HBK.out.size
          obtain ⟨T0, hT0⟩ : ∃ T0, T0 = Wd.heap.size := ⟨_, rfl⟩
          rw [← hT0] at hk1 hT1
          rw [← hT0]
          clear hT0
          revert hb1 hk1
          generalize Wd.alloc (.cells #[] 29) = wa
          intro hb1 hk1
          refine hK.out _ _ (HZ.out _ hb1) ?_
          clear hK K
          have ho1 : World.ownsRow wa W7.heap.size 29 3 (.slice (some ⟨T0, 0, none⟩) 0 0) 0 [] := own_of_blk (size := 3) (n := 0) (cur := #[]) hk1 hT1 (by simp) (by unfold maxLen; omega)
          have HBK := Lib.hid hb1
          have HO := Lib.hid ho1
          have HT0 := Lib.hid (blk_lt hk1)
          clear hb1 ho1 hk1 hT1
          (try simp only [Act.put, List.setIfInBounds_toArray, List.set_cons_zero, List.set_cons_succ])
          repeat (first | (refine ordt_s (o := ?_) ?_ ?_ ?_; rotate_left 1; (focus ((simp only [List.getElem?_toArray, List.getElem?_cons_succ, List.getElem?_cons_zero]) <;> rfl)); (focus rfl); simp only [Act.put, List.setIfInBounds_toArray, List.set_cons_zero, List.set_cons_succ]) | (refine ordt_q (o := ?_) (v := ?_) ?_ ?_ ?_ ?_; rotate_left 2; (focus ((simp only [List.getElem?_toArray, List.getElem?_cons_succ, List.getElem?_cons_zero]) <;> rfl)); (focus rfl); (focus (intro w' hS; (try dsimp only at hS); go_split_ands; go_simp; (try (with_reducible rfl)))); simp only [Act.put, List.setIfInBounds_toArray, List.set_cons_zero, List.set_cons_succ]))
          refine ordt_two ?_ ?_
          · (refine op_e (o := ?_) ?_ ?_ (fun K hK => ?_); rotate_left 1; (focus ((simp only [List.getElem?_toArray, List.getElem?_cons_succ, List.getElem?_cons_zero]) <;> rfl)); (focus rfl))
            refine wp_app (.tmp 41) (.tmp 43) rfl elem_node HO.out rfl rfl (by rw [ncells_length]; omega) (HL.out _ HBK.out) (ncells_one _) d.nodes.length (by omega) (ncells d.nodes) (by simp) (by unfold maxLen; omega) (by omega) HBK.out.size ?_
            intro s6 c6 wb h6 hb6 hg6 _
            have hb1 := HBK.out.trans hb6
            refine hK.out _ _ (HZ.out _ hb1) ?_
            clear hK K
            have hlt0 : T0 < wb.heap.size := Nat.lt_of_lt_of_le HT0.out hb6.size
            have HT0 := Lib.hid hlt0
            have HBK := Lib.hid hb1
            have HO := Lib.hid h6
            clear hb1 h6 hb6 hg6 hlt0
            (try simp only [Act.put, List.setIfInBounds_toArray, List.set_cons_zero, List.set_cons_succ])
            repeat (first | (refine ordt_s (o := ?_) ?_ ?_ ?_; rotate_left 1; (focus ((simp only [List.getElem?_toArray, List.getElem?_cons_succ, List.getElem?_cons_zero]) <;> rfl)); (focus rfl); simp only [Act.put, List.setIfInBounds_toArray, List.set_cons_zero, List.set_cons_succ]) | (refine ordt_q (o := ?_) (v := ?_) ?_ ?_ ?_ ?_; rotate_left 2; (focus ((simp only [List.getElem?_toArray, List.getElem?_cons_succ, List.getElem?_cons_zero]) <;> rfl)); (focus rfl); (focus (intro w' hS; (try dsimp only at hS); go_split_ands; go_simp; (try (with_reducible rfl)))); simp only [Act.put, List.setIfInBounds_toArray, List.set_cons_zero, List.set_cons_succ]))
            refine ordt_e ?_
            (refine op_e (o := ?_) ?_ ?_ (fun K hK => ?_); rotate_left 1; (focus ((simp only [List.getElem?_toArray, List.getElem?_cons_succ, List.getElem?_cons_zero]) <;> rfl)); (focus rfl); go_simp)
            have hb1 := HBK.out.alloc HBK.out.size (.cells #[.int .i64 g.v, .int .i64 g.lo, .int .i64 g.hi] 29)
            have hk1 := blk_new wb (.cells #[.int .i64 g.v, .int .i64 g.lo, .int .i64 g.hi] 29)
            have ho1 := own_below HO.out (below_alloc wb (.cells #[.int .i64 g.v, .int .i64 g.lo, .int .i64 g.hi] 29))
            have hlt1 := HT0.out
            have hlt3 := Nat.lt_of_lt_of_le HT0.out (below_alloc wb (.cells #[.int .i64 g.v, .int .i64 g.lo, .int .i64 g.hi] 29)).size
            obtain ⟨TB, hTB⟩ : ∃ TB, TB = wb.heap.size := ⟨_, rfl⟩
            rw [← hTB] at hk1
            rw [← hTB]
            have HNE : Hid (TB ≠ T0) := (by omega : TB ≠ T0)
            clear hlt1
            clear hTB
            revert hb1 hk1 ho1 hlt3
            generalize wb.alloc (.cells #[.int .i64 g.v, .int .i64 g.lo, .int .i64 g.hi] 29) = wd
            intro hb1 ho1 hlt3 hk1
            refine hK.out _ _ (HZ.out _ hb1) ?_
            clear hK K
            have HBK := Lib.hid hb1
            have HS := Lib.hid hk1
            have HO := Lib.hid ho1
            have HT0 := Lib.hid hlt3
            clear ho1 hlt3
            clear hb1 hk1
            (try simp only [Act.put, List.setIfInBounds_toArray, List.set_cons_zero, List.set_cons_succ])
            repeat (first | (refine ordt_s (o := ?_) ?_ ?_ ?_; rotate_left 1; (focus ((simp only [List.getElem?_toArray, List.getElem?_cons_succ, List.getElem?_cons_zero]) <;> rfl)); (focus rfl); simp only [Act.put, List.setIfInBounds_toArray, List.set_cons_zero, List.set_cons_succ]) | (refine ordt_q (o := ?_) (v := ?_) ?_ ?_ ?_ ?_; rotate_left 2; (focus ((simp only [List.getElem?_toArray, List.getElem?_cons_succ, List.getElem?_cons_zero]) <;> rfl)); (focus rfl); (focus (intro w' hS; (try dsimp only at hS); go_split_ands; go_simp; (try (with_reducible rfl)))); simp only [Act.put, List.setIfInBounds_toArray, List.set_cons_zero, List.set_cons_succ]))
            refine ordt_e ?_
            (refine op_e (o := ?_) ?_ ?_ (fun K hK => ?_); rotate_left 1; (focus ((simp only [List.getElem?_toArray, List.getElem?_cons_succ, List.getElem?_cons_zero]) <;> rfl)); (focus rfl))
            refine wp_app (.tmp 44) (.tmp 51) rfl elem_node HO.out rfl rfl (by simp) (Sl.blk HS.out) (by simp [Value.oneCell']) (d.nodes.length + 1) rfl (ncells (d.nodes ++ [g])) (by rw [← ncells_append]; rfl) (by unfold maxLen; omega) (by omega) HBK.out.size ?_
            intro s7 c7 wz h7 hb7 _ _
            have hb1 := HBK.out.trans hb7
            refine hK.out _ _ (HZ.out _ hb1) ?_
            clear hK K
            have hE1 := (HE.out _ hb1).2.1
            obtain ⟨rc, rf⟩ := blk_all hE1
            have HBK := Lib.hid hb1
            have HO := Lib.hid h7
            have HE1 := Lib.hid hE1
            clear hb1 h7 hb7 hE1
            (try simp only [Act.put, List.setIfInBounds_toArray, List.set_cons_zero, List.set_cons_succ])
            repeat (first | (refine ordt_s (o := ?_) ?_ ?_ ?_; rotate_left 1; (focus ((simp only [List.getElem?_toArray, List.getElem?_cons_succ, List.getElem?_cons_zero]) <;> rfl)); (focus rfl); simp only [Act.put, List.setIfInBounds_toArray, List.set_cons_zero, List.set_cons_succ]) | (refine ordt_q (o := ?_) (v := ?_) ?_ ?_ ?_ ?_; rotate_left 2; (focus ((simp only [List.getElem?_toArray, List.getElem?_cons_succ, List.getElem?_cons_zero]) <;> rfl)); (focus rfl); (focus (intro w' hS; (try dsimp only at hS); go_split_ands; go_simp; (try (with_reducible rfl)))); simp only [Act.put, List.setIfInBounds_toArray, List.set_cons_zero, List.set_cons_succ]))
            refine ordt_e ?_
            (refine op_e (o := ?_) ?_ ?_ (fun K hK => ?_); rotate_left 1; (focus ((simp only [List.getElem?_toArray, List.getElem?_cons_succ, List.getElem?_cons_zero]) <;> rfl)); (focus rfl); go_simp)
            have hb9 := (HE.out _ HBK.out).1.setCell (p := ⟨E, 0, none⟩) HE2.out (.slice s7 (d.nodes.length + 1) c7)
            obtain ⟨b', off', e', -, y1, y2, y3⟩ := (HB.out _ hb9).2.2.1.node (Below.refl _ _) HG0.out
            cases e'
            refine hK.out _ _ ⟨(HB.out _ hb9).1, y1, y2, y3⟩ ?_
            clear hK K y1 y2 y3 rc rf
            have hE9 : (wz.setCell ⟨E, 0, none⟩ (.slice s7 (d.nodes.length + 1) c7)).heap[E]? = some (.cells #[.slice s7 (d.nodes.length + 1) c7, .int .i64 d.root] 25 (0, 0)) := by
              simpa using blk_set (o := 0) (v := .slice s7 (d.nodes.length + 1) c7) HE1.out
            have hown := own_set_ne (b := E) (o := 0) HO.out (by intro e; have h1 := (own_blk HO.out e).1; have h2 := HE3.out; omega) (.slice s7 (d.nodes.length + 1) c7)
            have hA9 : BdV (wz.setCell ⟨E, 0, none⟩ (.slice s7 (d.nodes.length + 1) c7)) (.agg #[.slice s7 (d.nodes.length + 1) c7, .int .i64 d.root]) ⟨d.nodes ++ [g], d.root⟩ := by
              have e : (d.nodes ++ [g]).length = d.nodes.length + 1 := by simp
              have := bdV_own (d := ⟨d.nodes ++ [g], d.root⟩) (s := s7) (c := c7) (by show World.ownsRow _ _ _ _ (.slice s7 (d.nodes ++ [g]).length c7) (d.nodes ++ [g]).length _; rw [e]; exact hown) (by show (d.nodes ++ [g]).length ≤ 1048576; omega)
              have h2 : BdV (wz.setCell ⟨E, 0, none⟩ (.slice s7 (d.nodes.length + 1) c7)) (.agg #[.slice s7 (d.nodes ++ [g]).length c7, .int .i64 d.root]) ⟨d.nodes ++ [g], d.root⟩ := this
              rw [e] at h2
              exact h2
            have hB9 := HB.out _ hb9
            (try simp only [Act.put, List.setIfInBounds_toArray, List.set_cons_zero, List.set_cons_succ])
            repeat (first | (refine ordt_s (o := ?_) ?_ ?_ ?_; rotate_left 1; (focus ((simp only [List.getElem?_toArray, List.getElem?_cons_succ, List.getElem?_cons_zero]) <;> rfl)); (focus rfl); simp only [Act.put, List.setIfInBounds_toArray, List.set_cons_zero, List.set_cons_succ]) | (refine ordt_q (o := ?_) (v := ?_) ?_ ?_ ?_ ?_; rotate_left 2; (focus ((simp only [List.getElem?_toArray, List.getElem?_cons_succ, List.getElem?_cons_zero]) <;> rfl)); (focus rfl); (focus (intro w' hS; (try dsimp only at hS); go_split_ands; go_simp; (try (with_reducible rfl)))); simp only [Act.put, List.setIfInBounds_toArray, List.set_cons_zero, List.set_cons_succ]))
            refine ordt_nil ?_
            go_wp2_with fail
            go_meet
            exact ⟨s7, c7, hE9, hA9, hB9.1, hB9.2.1, hB9.2.2.2⟩
          · (refine op_e (o := ?_) ?_ ?_ (fun K hK => ?_); rotate_left 1; (focus ((simp only [List.getElem?_toArray, List.getElem?_cons_succ, List.getElem?_cons_zero]) <;> rfl)); (focus rfl); go_simp)
            have hb1 := HBK.out.alloc HBK.out.size (.cells #[.int .i64 g.v, .int .i64 g.lo, .int .i64 g.hi] 29)
            have hk1 := blk_new wa (.cells #[.int .i64 g.v, .int .i64 g.lo, .int .i64 g.hi] 29)
            have ho1 := own_below HO.out (below_alloc wa (.cells #[.int .i64 g.v, .int .i64 g.lo, .int .i64 g.hi] 29))
            have hlt1 := HT0.out
            have hlt3 := Nat.lt_of_lt_of_le HT0.out (below_alloc wa (.cells #[.int .i64 g.v, .int .i64 g.lo, .int .i64 g.hi] 29)).size
            obtain ⟨TB, hTB⟩ : ∃ TB, TB = wa.heap.size := ⟨_, rfl⟩
            rw [← hTB] at hk1
            rw [← hTB]
            have HNE : Hid (TB ≠ T0) := (by omega : TB ≠ T0)
            clear hlt1
            clear hTB
            revert hb1 hk1 ho1 hlt3
            generalize wa.alloc (.cells #[.int .i64 g.v, .int .i64 g.lo, .int .i64 g.hi] 29) = wb
            intro hb1 ho1 hlt3 hk1
            refine hK.out _ _ (HZ.out _ hb1) ?_
            clear hK K
            have HBK := Lib.hid hb1
            have HS := Lib.hid hk1
            have HO := Lib.hid ho1
            have HT0 := Lib.hid hlt3
            clear ho1 hlt3
            clear hb1 hk1
            (try simp only [Act.put, List.setIfInBounds_toArray, List.set_cons_zero, List.set_cons_succ])
            repeat (first | (refine ordt_s (o := ?_) ?_ ?_ ?_; rotate_left 1; (focus ((simp only [List.getElem?_toArray, List.getElem?_cons_succ, List.getElem?_cons_zero]) <;> rfl)); (focus rfl); simp only [Act.put, List.setIfInBounds_toArray, List.set_cons_zero, List.set_cons_succ]) | (refine ordt_q (o := ?_) (v := ?_) ?_ ?_ ?_ ?_; rotate_left 2; (focus ((simp only [List.getElem?_toArray, List.getElem?_cons_succ, List.getElem?_cons_zero]) <;> rfl)); (focus rfl); (focus (intro w' hS; (try dsimp only at hS); go_split_ands; go_simp; (try (with_reducible rfl)))); simp only [Act.put, List.setIfInBounds_toArray, List.set_cons_zero, List.set_cons_succ]))
            refine ordt_e ?_
            (refine op_e (o := ?_) ?_ ?_ (fun K hK => ?_); rotate_left 1; (focus ((simp only [List.getElem?_toArray, List.getElem?_cons_succ, List.getElem?_cons_zero]) <;> rfl)); (focus rfl))
            refine wp_app (.tmp 41) (.tmp 43) rfl elem_node HO.out rfl rfl (by rw [ncells_length]; omega) (HL.out _ HBK.out) (ncells_one _) d.nodes.length (by omega) (ncells d.nodes) (by simp) (by unfold maxLen; omega) (by omega) HBK.out.size ?_
            intro s6 c6 wd h6 hb6 hg6 _
            have hb1 := HBK.out.trans hb6
            have hs2 : (wd).heap[TB]? = some (.cells #[.int .i64 g.v, .int .i64 g.lo, .int .i64 g.hi] 29 (0, 0)) := by
              rw [hg6.block TB (blk_lt HS.out) (fun e => by have := HNE.out; simp [Value.ownBlock] at e; omega)]; exact HS.out
            have HS := Lib.hid hs2
            clear hs2
            refine hK.out _ _ (HZ.out _ hb1) ?_
            clear hK K
            have hlt0 : T0 < wd.heap.size := Nat.lt_of_lt_of_le HT0.out hb6.size
            have HT0 := Lib.hid hlt0
            have HBK := Lib.hid hb1
            have HO := Lib.hid h6
            clear hb1 h6 hb6 hg6 hlt0
            (try simp only [Act.put, List.setIfInBounds_toArray, List.set_cons_zero, List.set_cons_succ])
            repeat (first | (refine ordt_s (o := ?_) ?_ ?_ ?_; rotate_left 1; (focus ((simp only [List.getElem?_toArray, List.getElem?_cons_succ, List.getElem?_cons_zero]) <;> rfl)); (focus rfl); simp only [Act.put, List.setIfInBounds_toArray, List.set_cons_zero, List.set_cons_succ]) | (refine ordt_q (o := ?_) (v := ?_) ?_ ?_ ?_ ?_; rotate_left 2; (focus ((simp only [List.getElem?_toArray, List.getElem?_cons_succ, List.getElem?_cons_zero]) <;> rfl)); (focus rfl); (focus (intro w' hS; (try dsimp only at hS); go_split_ands; go_simp; (try (with_reducible rfl)))); simp only [Act.put, List.setIfInBounds_toArray, List.set_cons_zero, List.set_cons_succ]))
            refine ordt_e ?_
            (refine op_e (o := ?_) ?_ ?_ (fun K hK => ?_); rotate_left 1; (focus ((simp only [List.getElem?_toArray, List.getElem?_cons_succ, List.getElem?_cons_zero]) <;> rfl)); (focus rfl))
            refine wp_app (.tmp 44) (.tmp 51) rfl elem_node HO.out rfl rfl (by simp) (Sl.blk HS.out) (by simp [Value.oneCell']) (d.nodes.length + 1) rfl (ncells (d.nodes ++ [g])) (by rw [← ncells_append]; rfl) (by unfold maxLen; omega) (by omega) HBK.out.size ?_
            intro s7 c7 wz h7 hb7 _ _
            have hb1 := HBK.out.trans hb7
            refine hK.out _ _ (HZ.out _ hb1) ?_
            clear hK K
            have hE1 := (HE.out _ hb1).2.1
            obtain ⟨rc, rf⟩ := blk_all hE1
            have HBK := Lib.hid hb1
            have HO := Lib.hid h7
            have HE1 := Lib.hid hE1
            clear hb1 h7 hb7 hE1
            (try simp only [Act.put, List.setIfInBounds_toArray, List.set_cons_zero, List.set_cons_succ])
            repeat (first | (refine ordt_s (o := ?_) ?_ ?_ ?_; rotate_left 1; (focus ((simp only [List.getElem?_toArray, List.getElem?_cons_succ, List.getElem?_cons_zero]) <;> rfl)); (focus rfl); simp only [Act.put, List.setIfInBounds_toArray, List.set_cons_zero, List.set_cons_succ]) | (refine ordt_q (o := ?_) (v := ?_) ?_ ?_ ?_ ?_; rotate_left 2; (focus ((simp only [List.getElem?_toArray, List.getElem?_cons_succ, List.getElem?_cons_zero]) <;> rfl)); (focus rfl); (focus (intro w' hS; (try dsimp only at hS); go_split_ands; go_simp; (try (with_reducible rfl)))); simp only [Act.put, List.setIfInBounds_toArray, List.set_cons_zero, List.set_cons_succ]))
            refine ordt_e ?_
            (refine op_e (o := ?_) ?_ ?_ (fun K hK => ?_); rotate_left 1; (focus ((simp only [List.getElem?_toArray, List.getElem?_cons_succ, List.getElem?_cons_zero]) <;> rfl)); (focus rfl); go_simp)
            have hb9 := (HE.out _ HBK.out).1.setCell (p := ⟨E, 0, none⟩) HE2.out (.slice s7 (d.nodes.length + 1) c7)
            obtain ⟨b', off', e', -, y1, y2, y3⟩ := (HB.out _ hb9).2.2.1.node (Below.refl _ _) HG0.out
            cases e'
            refine hK.out _ _ ⟨(HB.out _ hb9).1, y1, y2, y3⟩ ?_
            clear hK K y1 y2 y3 rc rf
            have hE9 : (wz.setCell ⟨E, 0, none⟩ (.slice s7 (d.nodes.length + 1) c7)).heap[E]? = some (.cells #[.slice s7 (d.nodes.length + 1) c7, .int .i64 d.root] 25 (0, 0)) := by
              simpa using blk_set (o := 0) (v := .slice s7 (d.nodes.length + 1) c7) HE1.out
            have hown := own_set_ne (b := E) (o := 0) HO.out (by intro e; have h1 := (own_blk HO.out e).1; have h2 := HE3.out; omega) (.slice s7 (d.nodes.length + 1) c7)
            have hA9 : BdV (wz.setCell ⟨E, 0, none⟩ (.slice s7 (d.nodes.length + 1) c7)) (.agg #[.slice s7 (d.nodes.length + 1) c7, .int .i64 d.root]) ⟨d.nodes ++ [g], d.root⟩ := by
              have e : (d.nodes ++ [g]).length = d.nodes.length + 1 := by simp
              have := bdV_own (d := ⟨d.nodes ++ [g], d.root⟩) (s := s7) (c := c7) (by show World.ownsRow _ _ _ _ (.slice s7 (d.nodes ++ [g]).length c7) (d.nodes ++ [g]).length _; rw [e]; exact hown) (by show (d.nodes ++ [g]).length ≤ 1048576; omega)
              have h2 : BdV (wz.setCell ⟨E, 0, none⟩ (.slice s7 (d.nodes.length + 1) c7)) (.agg #[.slice s7 (d.nodes ++ [g]).length c7, .int .i64 d.root]) ⟨d.nodes ++ [g], d.root⟩ := this
              rw [e] at h2
              exact h2
            have hB9 := HB.out _ hb9
            (try simp only [Act.put, List.setIfInBounds_toArray, List.set_cons_zero, List.set_cons_succ])
            repeat (first | (refine ordt_s (o := ?_) ?_ ?_ ?_; rotate_left 1; (focus ((simp only [List.getElem?_toArray, List.getElem?_cons_succ, List.getElem?_cons_zero]) <;> rfl)); (focus rfl); simp only [Act.put, List.setIfInBounds_toArray, List.set_cons_zero, List.set_cons_succ]) | (refine ordt_q (o := ?_) (v := ?_) ?_ ?_ ?_ ?_; rotate_left 2; (focus ((simp only [List.getElem?_toArray, List.getElem?_cons_succ, List.getElem?_cons_zero]) <;> rfl)); (focus rfl); (focus (intro w' hS; (try dsimp only at hS); go_split_ands; go_simp; (try (with_reducible rfl)))); simp only [Act.put, List.setIfInBounds_toArray, List.set_cons_zero, List.set_cons_succ]))
            refine ordt_nil ?_
            go_wp2_with fail
            go_meet
            exact ⟨s7, c7, hE9, hA9, hB9.1, hB9.2.1, hB9.2.2.2⟩
        · (refine op_e (o := ?_) ?_ ?_ (fun K hK => ?_); rotate_left 1; (focus ((simp only [List.getElem?_toArray, List.getElem?_cons_succ, List.getElem?_cons_zero]) <;> rfl)); (focus rfl); go_simp)
          have hb1 := HBK.out.alloc HBK.out.size (.cells #[.int .i64 g.v, .int .i64 g.lo, .int .i64 g.hi] 29)
          have hk1 := blk_new Wd (.cells #[.int .i64 g.v, .int .i64 g.lo, .int .i64 g.hi] 29)
          obtain ⟨TB, hTB⟩ : ∃ TB, TB = Wd.heap.size := ⟨_, rfl⟩
          rw [← hTB] at hk1
          rw [← hTB]
          clear hTB
          revert hb1 hk1
          generalize Wd.alloc (.cells #[.int .i64 g.v, .int .i64 g.lo, .int .i64 g.hi] 29) = wa
          intro hb1 hk1
          refine hK.out _ _ (HZ.out _ hb1) ?_
          clear hK K
          have HBK := Lib.hid hb1
          have HS := Lib.hid hk1
          clear hb1 hk1
          (try simp only [Act.put, List.setIfInBounds_toArray, List.set_cons_zero, List.set_cons_succ])
          repeat (first | (refine ordt_s (o := ?_) ?_ ?_ ?_; rotate_left 1; (focus ((simp only [List.getElem?_toArray, List.getElem?_cons_succ, List.getElem?_cons_zero]) <;> rfl)); (focus rfl); simp only [Act.put, List.setIfInBounds_toArray, List.set_cons_zero, List.set_cons_succ]) | (refine ordt_q (o := ?_) (v := ?_) ?_ ?_ ?_ ?_; rotate_left 2; (focus ((simp only [List.getElem?_toArray, List.getElem?_cons_succ, List.getElem?_cons_zero]) <;> rfl)); (focus rfl); (focus (intro w' hS; (try dsimp only at hS); go_split_ands; go_simp; (try (with_reducible rfl)))); simp only [Act.put, List.setIfInBounds_toArray, List.set_cons_zero, List.set_cons_succ]))
          refine ordt_e ?_
          (refine op_e (o := ?_) ?_ ?_ (fun K hK => ?_); rotate_left 1; (focus ((simp only [List.getElem?_toArray, List.getElem?_cons_succ, List.getElem?_cons_zero]) <;> rfl)); (focus rfl); go_simp)
          have hb1 := HBK.out.alloc HBK.out.size (.cells #[] 29)
          have hk1 := blk_new wa (.cells #[] 29)
          have hT1 := HBK.out.size
          have hs2 := blk_below (below_alloc wa (.cells #[] 29)) (blk_lt HS.out) HS.out
          have hlt2 := blk_lt HS.out
          obtain ⟨T0, hT0⟩ : ∃ T0, T0 = wa.heap.size := ⟨_, rfl⟩
          rw [← hT0] at hk1 hT1 hlt2
          rw [← hT0]
          clear hT0
          revert hb1 hk1 hs2
          generalize wa.alloc (.cells #[] 29) = wb
          intro hb1 hs2 hk1
          refine hK.out _ _ (HZ.out _ hb1) ?_
          clear hK K
          have ho1 : World.ownsRow wb W7.heap.size 29 3 (.slice (some ⟨T0, 0, none⟩) 0 0) 0 [] := own_of_blk (size := 3) (n := 0) (cur := #[]) hk1 hT1 (by simp) (by unfold maxLen; omega)
          have HBK := Lib.hid hb1
          have HO := Lib.hid ho1
          have HT0 := Lib.hid (blk_lt hk1)
          have HS := Lib.hid hs2
          have HNE : Hid (TB ≠ T0) := (by omega : TB ≠ T0)
          clear hs2 hlt2
          clear hb1 ho1 hk1 hT1
          (try simp only [Act.put, List.setIfInBounds_toArray, List.set_cons_zero, List.set_cons_succ])
          repeat (first | (refine ordt_s (o := ?_) ?_ ?_ ?_; rotate_left 1; (focus ((simp only [List.getElem?_toArray, List.getElem?_cons_succ, List.getElem?_cons_zero]) <;> rfl)); (focus rfl); simp only [Act.put, List.setIfInBounds_toArray, List.set_cons_zero, List.set_cons_succ]) | (refine ordt_q (o := ?_) (v := ?_) ?_ ?_ ?_ ?_; rotate_left 2; (focus ((simp only [List.getElem?_toArray, List.getElem?_cons_succ, List.getElem?_cons_zero]) <;> rfl)); (focus rfl); (focus (intro w' hS; (try dsimp only at hS); go_split_ands; go_simp; (try (with_reducible rfl)))); simp only [Act.put, List.setIfInBounds_toArray, List.set_cons_zero, List.set_cons_succ]))
          refine ordt_e ?_
          (refine op_e (o := ?_) ?_ ?_ (fun K hK => ?_); rotate_left 1; (focus ((simp only [List.getElem?_toArray, List.getElem?_cons_succ, List.getElem?_cons_zero]) <;> rfl)); (focus rfl))
          refine wp_app (.tmp 41) (.tmp 43) rfl elem_node HO.out rfl rfl (by rw [ncells_length]; omega) (HL.out _ HBK.out) (ncells_one _) d.nodes.length (by omega) (ncells d.nodes) (by simp) (by unfold maxLen; omega) (by omega) HBK.out.size ?_
          intro s6 c6 wd h6 hb6 hg6 _
          have hb1 := HBK.out.trans hb6
          have hs2 : (wd).heap[TB]? = some (.cells #[.int .i64 g.v, .int .i64 g.lo, .int .i64 g.hi] 29 (0, 0)) := by
            rw [hg6.block TB (blk_lt HS.out) (fun e => by have := HNE.out; simp [Value.ownBlock] at e; omega)]; exact HS.out
          have HS := Lib.hid hs2
          clear hs2
          refine hK.out _ _ (HZ.out _ hb1) ?_
          clear hK K
          have hlt0 : T0 < wd.heap.size := Nat.lt_of_lt_of_le HT0.out hb6.size
          have HT0 := Lib.hid hlt0
          have HBK := Lib.hid hb1
          have HO := Lib.hid h6
          clear hb1 h6 hb6 hg6 hlt0
          (try simp only [Act.put, List.setIfInBounds_toArray, List.set_cons_zero, List.set_cons_succ])
          repeat (first | (refine ordt_s (o := ?_) ?_ ?_ ?_; rotate_left 1; (focus ((simp only [List.getElem?_toArray, List.getElem?_cons_succ, List.getElem?_cons_zero]) <;> rfl)); (focus rfl); simp only [Act.put, List.setIfInBounds_toArray, List.set_cons_zero, List.set_cons_succ]) | (refine ordt_q (o := ?_) (v := ?_) ?_ ?_ ?_ ?_; rotate_left 2; (focus ((simp only [List.getElem?_toArray, List.getElem?_cons_succ, List.getElem?_cons_zero]) <;> rfl)); (focus rfl); (focus (intro w' hS; (try dsimp only at hS); go_split_ands; go_simp; (try (with_reducible rfl)))); simp only [Act.put, List.setIfInBounds_toArray, List.set_cons_zero, List.set_cons_succ]))
          refine ordt_e ?_
          (refine op_e (o := ?_) ?_ ?_ (fun K hK => ?_); rotate_left 1; (focus ((simp only [List.getElem?_toArray, List.getElem?_cons_succ, List.getElem?_cons_zero]) <;> rfl)); (focus rfl))
          refine wp_app (.tmp 44) (.tmp 51) rfl elem_node HO.out rfl rfl (by simp) (Sl.blk HS.out) (by simp [Value.oneCell']) (d.nodes.length + 1) rfl (ncells (d.nodes ++ [g])) (by rw [← ncells_append]; rfl) (by unfold maxLen; omega) (by omega) HBK.out.size ?_
          intro s7 c7 wz h7 hb7 _ _
          have hb1 := HBK.out.trans hb7
          refine hK.out _ _ (HZ.out _ hb1) ?_
          clear hK K
          have hE1 := (HE.out _ hb1).2.1
          obtain ⟨rc, rf⟩ := blk_all hE1
          have HBK := Lib.hid hb1
          have HO := Lib.hid h7
          have HE1 := Lib.hid hE1
          clear hb1 h7 hb7 hE1
          (try simp only [Act.put, List.setIfInBounds_toArray, List.set_cons_zero, List.set_cons_succ])
          repeat (first | (refine ordt_s (o := ?_) ?_ ?_ ?_; rotate_left 1; (focus ((simp only [List.getElem?_toArray, List.getElem?_cons_succ, List.getElem?_cons_zero]) <;> rfl)); (focus rfl); simp only [Act.put, List.setIfInBounds_toArray, List.set_cons_zero, List.set_cons_succ]) | (refine ordt_q (o := ?_) (v := ?_) ?_ ?_ ?_ ?_; rotate_left 2; (focus ((simp only [List.getElem?_toArray, List.getElem?_cons_succ, List.getElem?_cons_zero]) <;> rfl)); (focus rfl); (focus (intro w' hS; (try dsimp only at hS); go_split_ands; go_simp; (try (with_reducible rfl)))); simp only [Act.put, List.setIfInBounds_toArray, List.set_cons_zero, List.set_cons_succ]))
          refine ordt_e ?_
          (refine op_e (o := ?_) ?_ ?_ (fun K hK => ?_); rotate_left 1; (focus ((simp only [List.getElem?_toArray, List.getElem?_cons_succ, List.getElem?_cons_zero]) <;> rfl)); (focus rfl); go_simp)
          have hb9 := (HE.out _ HBK.out).1.setCell (p := ⟨E, 0, none⟩) HE2.out (.slice s7 (d.nodes.length + 1) c7)
          obtain ⟨b', off', e', -, y1, y2, y3⟩ := (HB.out _ hb9).2.2.1.node (Below.refl _ _) HG0.out
          cases e'
          refine hK.out _ _ ⟨(HB.out _ hb9).1, y1, y2, y3⟩ ?_
          clear hK K y1 y2 y3 rc rf
          have hE9 : (wz.setCell ⟨E, 0, none⟩ (.slice s7 (d.nodes.length + 1) c7)).heap[E]? = some (.cells #[.slice s7 (d.nodes.length + 1) c7, .int .i64 d.root] 25 (0, 0)) := by
            simpa using blk_set (o := 0) (v := .slice s7 (d.nodes.length + 1) c7) HE1.out
          have hown := own_set_ne (b := E) (o := 0) HO.out (by intro e; have h1 := (own_blk HO.out e).1; have h2 := HE3.out; omega) (.slice s7 (d.nodes.length + 1) c7)
          have hA9 : BdV (wz.setCell ⟨E, 0, none⟩ (.slice s7 (d.nodes.length + 1) c7)) (.agg #[.slice s7 (d.nodes.length + 1) c7, .int .i64 d.root]) ⟨d.nodes ++ [g], d.root⟩ := by
            have e : (d.nodes ++ [g]).length = d.nodes.length + 1 := by simp
            have := bdV_own (d := ⟨d.nodes ++ [g], d.root⟩) (s := s7) (c := c7) (by show World.ownsRow _ _ _ _ (.slice s7 (d.nodes ++ [g]).length c7) (d.nodes ++ [g]).length _; rw [e]; exact hown) (by show (d.nodes ++ [g]).length ≤ 1048576; omega)
            have h2 : BdV (wz.setCell ⟨E, 0, none⟩ (.slice s7 (d.nodes.length + 1) c7)) (.agg #[.slice s7 (d.nodes ++ [g]).length c7, .int .i64 d.root]) ⟨d.nodes ++ [g], d.root⟩ := this
            rw [e] at h2
            exact h2
          have hB9 := HB.out _ hb9
          (try simp only [Act.put, List.setIfInBounds_toArray, List.set_cons_zero, List.set_cons_succ])
          repeat (first | (refine ordt_s (o := ?_) ?_ ?_ ?_; rotate_left 1; (focus ((simp only [List.getElem?_toArray, List.getElem?_cons_succ, List.getElem?_cons_zero]) <;> rfl)); (focus rfl); simp only [Act.put, List.setIfInBounds_toArray, List.set_cons_zero, List.set_cons_succ]) | (refine ordt_q (o := ?_) (v := ?_) ?_ ?_ ?_ ?_; rotate_left 2; (focus ((simp only [List.getElem?_toArray, List.getElem?_cons_succ, List.getElem?_cons_zero]) <;> rfl)); (focus rfl); (focus (intro w' hS; (try dsimp only at hS); go_split_ands; go_simp; (try (with_reducible rfl)))); simp only [Act.put, List.setIfInBounds_toArray, List.set_cons_zero, List.set_cons_succ]))
          refine ordt_nil ?_
          go_wp2_with fail
          go_meet
          exact ⟨s7, c7, hE9, hA9, hB9.1, hB9.2.1, hB9.2.2.2⟩
      case rest =>
        obtain ⟨s7, c7, r1, r2, r3, r4, r5⟩ := hcut
        have HR := Lib.hid (And.intro r1 (And.intro r2 (And.intro r4 r5)))
        have cb := r3
        clear r1 r2 r3 r4 r5
        go_upto_region 14 with fail
        obtain ⟨F, hF⟩ : ∃ F, F = wc.heap.size := ⟨_, rfl⟩
        have hk := blk_new wc (.cells #[.slice sb d.nodes.length kb, .int .i64 d.root] 25)
        have hbb := below_alloc wc (.cells #[.slice sb d.nodes.length kb, .int .i64 d.root] 25)
        have hb9 := hbb.setCell (p := ⟨F, 1, none⟩) (by rw [hF]; exact Nat.le_refl _) (.int .i64 (d.nodes.length : Int))
        rw [← hF] at hk
        rw [← hF]
        have hF9 : ((wc.alloc (.cells #[.slice sb d.nodes.length kb, .int .i64 d.root] 25)).setCell ⟨F, 1, none⟩ (.int .i64 (d.nodes.length : Int))).heap[F]? = some (.cells #[.slice sb d.nodes.length kb, .int .i64 (d.nodes.length : Int)] 25 (0, 0)) := by
          simpa using blk_set (o := 1) (v := .int .i64 (d.nodes.length : Int)) hk
        have hE9 := blk_below hb9 (blk_lt HR.out.1) HR.out.1
        have hV9 : BdV ((wc.alloc (.cells #[.slice sb d.nodes.length kb, .int .i64 d.root] 25)).setCell ⟨F, 1, none⟩ (.int .i64 (d.nodes.length : Int))) (.agg #[.slice sb d.nodes.length kb, .int .i64 (d.nodes.length : Int)]) ⟨d.nodes, d.nodes.length⟩ := by
          obtain ⟨sn, cn, e, q1, q2⟩ := HR.out.2.2.1
          cases e
          exact ⟨sb, kb, rfl, q1.mono hb9, q2⟩
        have hA9 := HR.out.2.1.mono hb9
        have hW9 := HR.out.2.2.2.trans (hb9.mono HR.out.2.2.2.size)
        obtain ⟨rc, rf⟩ := blk_all hk
        have H9 := Lib.hid (And.intro hF9 (And.intro hE9 (And.intro hV9 (And.intro hA9 hW9))))
        clear hk hbb hb9 hF9 hE9 hV9 hA9 hW9 cb HR hF
        go_upto_region 15 with fail
        clear rc rf
        revert H9
        generalize (wc.alloc (.cells #[.slice sb d.nodes.length kb, .int .i64 d.root] 25)).setCell ⟨F, 1, none⟩ (.int .i64 (d.nodes.length : Int)) = W9
        intro H9
        have HX : Hid (∀ W, Below W9.heap.size W9 W → (∀ o, W.cell? ⟨E, o, none⟩ = #[Value.slice s7 (d.nodes.length + 1) c7, .int .i64 d.root][o]?) ∧ BdV W (.agg #[.slice s7 (d.nodes.length + 1) c7, .int .i64 d.root]) ⟨d.nodes ++ [g], d.root⟩ ∧ Below w.heap.size w W) := fun W hW => ⟨(blk_all (blk_below hW (blk_lt H9.out.2.1) H9.out.2.1)).1, H9.out.2.2.2.1.mono hW, H9.out.2.2.2.2.trans (hW.mono H9.out.2.2.2.2.size)⟩
        have cf := (blk_all H9.out.1).1
        go_wp2_with (first
          | (go_at_call 16; ((with_reducible refine (BddValid_i _ ⟨d.nodes, d.nodes.length⟩ _ H9.out.2.2.1).mono ?_); rintro e w8 ⟨rfl, hq⟩; rw [far_bad d]; have cb := (HX.out _ hq).1; have HQ := Lib.hid hq; clear hq cf))
          | (go_at_call 16; ((with_reducible refine (BddValid_i _ ⟨d.nodes ++ [g], d.root⟩ _ (HX.out _ HQ.out).2.1).mono ?_); rintro e w10 ⟨rfl, hq⟩; rw [again_bad HV.out.1 HV.out.2]; have HQ2 := Lib.hid (HQ.out.trans (hq.mono HQ.out.size)); clear hq)))
        go_ret
        exact ⟨rfl, (HX.out _ HQ2.out).2.2⟩
  · clear hs hr
    go_enter Try.func3, Try.ntmps3
    go_wp2
    go_ret
    exact ⟨rfl, Below.refl _ _⟩

end Go.Proofs.Ytddmgphlhfilnaa
