import Derived.Test.YtddmgphlhfilnaaCS
import Derived.Test.YtddmgphlhfilnaaCR
import Derived.Test.YtddmgphlhfilnaaCC
namespace Go.Proofs.Ytddmgphlhfilnaa
set_option linter.unusedVariables false
set_option linter.unusedSimpArgs false
open Go.RowKit

/-! The law FnEvalBdd. -/

set_option maxRecDepth 100000 in
set_option maxHeartbeats 3200000 in
theorem FnEvalBdd_any (s : Option Addr) (cap : Nat) (xs : List Int) (w : World) (hs : Sl w s (u8s xs)) (hl : xs.length ≤ 9223372036854775807) (hcap : xs.length ≤ cap) (hcap2 : cap ≤ 9223372036854775807) (hr : ∀ x ∈ xs, 0 ≤ x ∧ x ≤ 255) :
    Calls Try.prog 4 #[.slice s xs.length cap] w fun e w' => e = .returned (.bool true) ∧ Below w.heap.size w w' := by
  by_cases hc : xs.length ≤ 1048576
  · have HD := Lib.hid (DrawEvalBdd_any s cap xs w hs hc hcap hcap2 hr)
    clear hs hr
    go_enter Try.func4, Try.ntmps4
    go_upto_region 4 with (go_at_call 18; (with_reducible refine HD.out.mono ?_); rintro e w1 ⟨d, sb, kb, x, rfl, h1, h2, ⟨h3, h4⟩, ⟨x0, x1⟩, h5⟩; have H1 := Lib.hid (And.intro h1 h5); clear h1 h5)
    obtain ⟨D, hD⟩ : ∃ D, D = w1.heap.size := ⟨_, rfl⟩
    have hk := blk_new w1 (.cells #[.slice sb d.nodes.length kb, .int .i64 d.root] 25)
    have hbb := below_alloc w1 (.cells #[.slice sb d.nodes.length kb, .int .i64 d.root] 25)
    have hV := bdV_own (own_below H1.out.1 hbb) (by omega)
    have hbw := H1.out.2.trans (hbb.mono H1.out.2.size)
    have hsb := own_sl (own_below H1.out.1 hbb)
    rw [← hD] at hk
    rw [← hD]
    clear hbb hD H1
    revert hV hbw hk hsb
    generalize w1.alloc (.cells #[.slice sb d.nodes.length kb, .int .i64 d.root] 25) = W2
    intro hk hV hbw hsb
    have HB : Hid (∀ W, Below W2.heap.size W2 W → (∀ o, W.cell? ⟨D, o, none⟩ = #[Value.slice sb d.nodes.length kb, .int .i64 d.root][o]?) ∧ BdV W (.agg #[.slice sb d.nodes.length kb, .int .i64 d.root]) d ∧ Sl W sb (ncells d.nodes) ∧ Below w.heap.size w W) := fun W hW => ⟨(blk_all (blk_below hW (blk_lt hk) hk)).1, hV.mono hW, hsb.mono hW, hbw.trans (hW.mono hbw.size)⟩
    clear hV hbw hk hsb
    have cb := (HB.out _ (Below.refl _ _)).1
    obtain ⟨ev, hev⟩ : ∃ ev, ev = d.evalB x := ⟨_, rfl⟩
    have HEV := Lib.hid hev
    clear hev
    go_upto_region 7 with (first
      | (go_at_call 19; ((with_reducible refine (EvalBdd_i _ d x _ (HB.out _ (Below.refl _ _)).2.1 ⟨by omega, by omega⟩).mono ?_); rintro e w3 ⟨rfl, hq⟩; rw [← HEV.out]; have HQ := Lib.hid hq; clear hq cb; have cb := (HB.out _ HQ.out).1))
      | (go_at_call 20; ((with_reducible refine (EvalBdd_s _ d x _ (HB.out _ HQ.out).2.1 ⟨by omega, by omega⟩).mono ?_); rintro e w4 ⟨rfl, hq⟩; rw [← HEV.out]; have HQ2 := Lib.hid (HQ.out.trans (hq.mono HQ.out.size)); clear hq cb HQ; have cb := (HB.out _ HQ2.out).1)))
    by_cases hx : 0 ≤ x
    · cases hv : d.validB
      · have he : ev = false := by rw [HEV.out]; exact evalB_inv hv
        subst he
        have HVV := Lib.hid hv
        clear hv
        go_wp2_with (first
          | (go_at_call 17; ((with_reducible refine (BddValid_s _ d _ (HB.out _ HQ2.out).2.1).mono ?_); rintro e w5 ⟨rfl, hq⟩; rw [HVV.out]; have HQ3 := Lib.hid (HQ2.out.trans (hq.mono HQ2.out.size)); clear hq cb))
          | (go_at_call 21; ((with_reducible refine (alive_any _).mono ?_); rintro e w6 ⟨rfl, hq⟩; have HQ4 := Lib.hid (HQ3.out.trans (hq.mono HQ3.out.size)); clear hq)))
        go_ret
        exact ⟨rfl, (HB.out _ HQ4.out).2.2.2⟩
      · have HVV := Lib.hid hv
        clear hv
        obtain ⟨xn, rfl⟩ : ∃ xn : Nat, x = xn := ⟨x.toNat, by omega⟩
        have hlen := HVV.out
        have hl2 : 2 ≤ d.nodes.length := ((d.validB_iff.1 hlen).1).l2
        clear hlen
        go_upto_region 10 with (go_at_call 17; ((with_reducible refine (BddValid_s _ d _ (HB.out _ HQ2.out).2.1).mono ?_); rintro e w5 ⟨rfl, hq⟩; rw [HVV.out]; have HQ3 := Lib.hid (HQ2.out.trans (hq.mono HQ2.out.size)); clear hq cb))
        go_loopw [6] (fun s6 wr => ∃ k : Nat, k ≤ 7 ∧ s6 = .int .i64 k ∧ Below W2.heap.size W2 wr) (fun s6 _ => 7 - (intOf s6).toNat)
        case atStart => exact ⟨0, by omega, rfl, HQ3.out⟩
        case round =>
          obtain ⟨k, hk, rfl, hb⟩ := hrel
          have HK := Lib.hid hb
          clear hb
          by_cases hlt : k < 7
          · go_upto_region 14 with fail
            go_loopw [7, 8] (fun tv iv wx => ∃ (t : Bool) (j : Nat), 2 ≤ j ∧ j ≤ d.nodes.length ∧ tv = .bool t ∧ iv = .int .i64 j ∧ (t = false → d.free k j) ∧ Below W2.heap.size W2 wx) (fun _ iv _ => d.nodes.length - (intOf iv).toNat)
            case atStart => exact ⟨false, 2, by omega, hl2, rfl, rfl, fun _ => free_two d k, HK.out⟩
            case round =>
              obtain ⟨t, j, hj2, hj, rfl, rfl, hf, hb⟩ := hrel
              have HF := Lib.hid hf
              have HK2 := Lib.hid hb
              have cb2 := (HB.out _ HK2.out).1
              clear hf hb
              by_cases hjl : j < d.nodes.length
              · obtain ⟨g, hg⟩ := get_of_lt hjl
                obtain ⟨b, off, rfl, hbw, z1, z2, z3⟩ := (HB.out _ (Below.refl _ _)).2.2.1.node HK2.out hg
                have HG := Lib.hid hg
                clear hg
                cases t
                · by_cases hgv : g.v = (k : Int)
                  · go_wp2_with fail
                    go_roundw
                    case rel => exact ⟨true, j + 1, by omega, by omega, by first | rfl | simp [hgv], by go_num, fun h => (by cases h), HK2.out⟩
                    case measure => simp [intOf]; omega
                  · go_wp2_with fail
                    go_roundw
                    case rel => exact ⟨false, j + 1, by omega, by omega, by first | rfl | simp [hgv], by go_num, fun _ => free_snoc (HF.out rfl) HG.out hgv, HK2.out⟩
                    case measure => simp [intOf]; omega
                · go_wp2_with fail
                  go_roundw
                  case rel => exact ⟨true, j + 1, by omega, by omega, rfl, by go_num, fun h => (by cases h), HK2.out⟩
                  case measure => simp [intOf]; omega
              · obtain rfl : j = d.nodes.length := by omega
                cases t
                · obtain ⟨N, hN⟩ : ∃ N, N = 2 ^ k := ⟨_, rfl⟩
                  have hwq : wrap64 (2 ^ k) = (N : Int) := by rw [wrap_pow (by omega), hN]; simp
                  have hwq2 : IntKind.i64.wrap (2 ^ k) = (N : Int) := by rw [← hwq]; exact IntWalk.i64_left _
                  have hN8 : N ≤ 64 := by rw [hN]; exact Nat.le_trans (Nat.pow_le_pow_right (by omega) (show k ≤ 6 by omega)) (by decide)
                  obtain ⟨y, hy⟩ : ∃ y, y = xn ^^^ N := ⟨_, rfl⟩
                  have hxy : bits .xor .i64 (xn : Int) (N : Int) = (y : Int) := by rw [hy]; exact xor_i64 xn N (by omega) (by omega)
                  have hy8 : y < 256 := by rw [hy]; exact Nat.xor_lt_two_pow (n := 8) (by omega) (by omega)
                  have hey : d.evalB (y : Int) = ev := by rw [hy, hN, HEV.out]; exact evalB_flip HVV.out (HF.out rfl)
                  have HEY := Lib.hid hey
                  clear hey hy hN
                  go_upto_region 17 with fail
                  have hd := HK2.out.drew
                  refine wp_region_T (fun w' => ∀ o, w'.cell? ⟨D, o, none⟩ = #[Value.slice sb d.nodes.length kb, .int .i64 d.root][o]?) (.q 0 (.q 1 (.q 2 (.q 3 (.q 4 (.q 5 (.q 6 (.q 7 (.q 9 (.e 8 (.q 10 (.q 11 .nil)))))))))))) (by kernel_rfl) (by kernel_rfl) (by kernel_rfl) (HB.out _ hd).1 ?_
                  repeat (first | (refine ordt_s (o := ?_) ?_ ?_ ?_; rotate_left 1; (focus ((simp only [List.getElem?_toArray, List.getElem?_cons_succ, List.getElem?_cons_zero]) <;> rfl)); (focus rfl); simp only [Act.put, List.setIfInBounds_toArray, List.set_cons_zero, List.set_cons_succ]) | (refine ordt_q (o := ?_) (v := ?_) ?_ ?_ ?_ ?_; rotate_left 2; (focus ((simp only [List.getElem?_toArray, List.getElem?_cons_succ, List.getElem?_cons_zero]) <;> rfl)); (focus rfl); (focus (intro w' hS; (try dsimp only at hS); go_split_ands; go_simp; (try (with_reducible rfl)))); simp only [Act.put, List.setIfInBounds_toArray, List.set_cons_zero, List.set_cons_succ]))
                  refine ordt_e ?_
                  (refine op_e (o := ?_) ?_ ?_ (fun K hK => ?_); rotate_left 1; (focus ((simp only [List.getElem?_toArray, List.getElem?_cons_succ, List.getElem?_cons_zero]) <;> rfl)); (focus rfl); go_simp)
                  refine (EvalBdd_i _ d y _ (HB.out _ hd).2.1 ⟨by omega, by omega⟩).mono ?_
                  rintro e w9 ⟨rfl, hq⟩
                  rw [HEY.out]
                  have hb9 := hd.trans (hq.mono hd.size)
                  refine hK.out _ _ (HB.out _ hb9).1 ?_
                  clear hK K hq
                  have HK9 := Lib.hid hb9
                  clear hb9 hd
                  (try simp only [Act.put, List.setIfInBounds_toArray, List.set_cons_zero, List.set_cons_succ])
                  repeat (first | (refine ordt_s (o := ?_) ?_ ?_ ?_; rotate_left 1; (focus ((simp only [List.getElem?_toArray, List.getElem?_cons_succ, List.getElem?_cons_zero]) <;> rfl)); (focus rfl); simp only [Act.put, List.setIfInBounds_toArray, List.set_cons_zero, List.set_cons_succ]) | (refine ordt_q (o := ?_) (v := ?_) ?_ ?_ ?_ ?_; rotate_left 2; (focus ((simp only [List.getElem?_toArray, List.getElem?_cons_succ, List.getElem?_cons_zero]) <;> rfl)); (focus rfl); (focus (intro w' hS; (try dsimp only at hS); go_split_ands; go_simp; (try (with_reducible rfl)))); simp only [Act.put, List.setIfInBounds_toArray, List.set_cons_zero, List.set_cons_succ]))
                  refine ordt_nil ?_
                  go_wp2_with fail
                  go_roundw
                  case rel => exact ⟨k + 1, by omega, by go_num, HK9.out⟩
                  case measure => simp [intOf]; omega
                · go_upto_region 17 with fail
                  go_quiet (fail)
                  go_wp2_with fail
                  go_roundw
                  case rel => exact ⟨k + 1, by omega, by go_num, below_n HK2.out _⟩
                  case measure => simp [intOf]; omega
          · obtain rfl : k = 7 := by omega
            go_wp2_with fail
            go_ret
            exact ⟨rfl, (HB.out _ HK.out).2.2.2⟩
    · have he : ev = false := by rw [HEV.out]; exact evalB_neg hx
      subst he
      cases hv : d.validB
      all_goals
        have HVV := Lib.hid hv
        clear hv
        go_wp2_with (first
          | (go_at_call 17; ((with_reducible refine (BddValid_s _ d _ (HB.out _ HQ2.out).2.1).mono ?_); rintro e w5 ⟨rfl, hq⟩; rw [HVV.out]; have HQ3 := Lib.hid (HQ2.out.trans (hq.mono HQ2.out.size)); clear hq cb))
          | (go_at_call 21; ((with_reducible refine (alive_any _).mono ?_); rintro e w6 ⟨rfl, hq⟩; have HQ4 := Lib.hid (HQ3.out.trans (hq.mono HQ3.out.size)); clear hq)))
        go_ret
        exact ⟨rfl, (HB.out _ HQ4.out).2.2.2⟩
  · clear hs hr
    go_enter Try.func4, Try.ntmps4
    go_wp2
    go_ret
    exact ⟨rfl, Below.refl _ _⟩

end Go.Proofs.Ytddmgphlhfilnaa
