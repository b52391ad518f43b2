import Derived.Test.YtaboipnigeaopaaJA
import Derived.Test.YtaboipnigeaopaaH4
import Derived.Test.YtaboipnigeaopaaDB
namespace Go.Proofs.Ytaboipnigeaopaa
set_option linter.unusedVariables false
set_option linter.unusedSimpArgs false
open Go.RowKit

/-! The classes of states, of the reference. -/

set_option maxRecDepth 100000 in
set_option maxHeartbeats 6400000 in
theorem StateClasses_s (v : Value) (c : Cir) (w : World) (h : CirV w v c) :
    Calls Try.prog 16 #[v] w fun e w' => ∃ s cap, e = .returned (.slice s (clsR c).length cap) ∧ Sl w' s (ints (clsR c)) ∧ Below w.heap.size w w' := by
  have HC : Hid (∀ w', Below w.heap.size w w' → CirV w' v c) := fun w' hb => h.mono hb
  obtain ⟨sn, cn, sg, cg, so, co, rfl, h1, h2, h3, hl1, hl2, hl3⟩ := h
  have hL : Below w.heap.size w (w.alloc (.cells #[.int .i64 c.inp, .slice sn c.next.length cn, .slice sg c.gates.length cg, .slice so c.outs.length co] 26)) := by go_grown
  have hN := blk_new w (.cells #[.int .i64 c.inp, .slice sn c.next.length cn, .slice sg c.gates.length cg, .slice so c.outs.length co] 26)
  have HL := Lib.hid (And.intro hL hN)
  clear hL hN h1 h2 h3
  cases hv : c.validB
  · rw [clsR_no hv]
    have HE := Lib.hid hv
    clear hv
    go_enter Try.func16, Try.ntmps16
    go_wp2_with (go_at_call 17; ((with_reducible refine (CircuitValid_s _ _ _ (HC.out _ HL.out.1)).mono ?_); rintro e w1 ⟨rfl, hq⟩; have HQ := Lib.hid hq; clear hq; rw [HE.out]))
    go_ret
    exact ⟨_, _, rfl, Sl.nil _ _, (HL.out.1.trans (HQ.out.mono (by simp))).alloc (by have := HL.out.1.size; have := HQ.out.size; omega) _⟩
  · have hval := c.validB_iff.1 hv
    obtain ⟨q1, q2, q3, q4, q5⟩ := id hval.lim
    obtain ⟨ni, hni⟩ : ∃ ni : Nat, c.inp = ni := ⟨c.inp.toNat, by omega⟩
    have n4 : ni ≤ 4 := by omega
    rw [clsR_yes hv hni]
    obtain ⟨M, hM⟩ : ∃ M, M = 2 ^ ni := ⟨_, rfl⟩
    obtain ⟨N, hN⟩ : ∃ N, N = 2 ^ c.next.length := ⟨_, rfl⟩
    have M16 : M ≤ 16 := by rw [hM]; exact Nat.le_trans (Nat.pow_le_pow_right (by decide) n4) (by decide)
    have N8 : N ≤ 8 := by rw [hN]; exact Nat.le_trans (Nat.pow_le_pow_right (by decide) q3) (by decide)
    have N0 : 0 < N := by rw [hN]; exact Nat.pow_pos (by decide)
    have hwp : wrap64 (2 ^ ni) = (M : Int) := by rw [wrap_pow (by omega), hM]; simp
    have hwq : wrap64 (2 ^ c.next.length) = (N : Int) := by rw [wrap_pow (by omega), hN]; simp
    rw [← hM, ← hN]
    have hlI : (iterK c M N N).length = N := iterK_length _ _ _ _
    rw [hlI]
    have HH := Lib.hid (And.intro hv (And.intro hval (And.intro hN (And.intro hM hni))))
    rw [hni] at HL HC ⊢
    clear hv hval hM hN hni hlI
    go_enter Try.func16, Try.ntmps16
    go_upto_region 4 with (go_at_call 17; ((with_reducible refine (CircuitValid_s _ _ _ (HC.out _ HL.out.1)).mono ?_); rintro e w1 ⟨rfl, hq⟩; have HQ := Lib.hid (And.intro (HL.out.1.trans (hq.mono HL.out.1.size)) (blk_below hq (blk_lt HL.out.2) HL.out.2)); clear hq; rw [HH.out.1]))
    have hW := HQ.out.1.alloc HQ.out.1.size (.cells #[] 3)
    have hxW := blk_old (o := .cells #[] 3) HQ.out.2
    have hoW : (w1.alloc (.cells #[] 3)).ownsRow (w.heap.size + 1) 3 1 (.slice (some ⟨w1.heap.size, 0, none⟩) 0 0) 0 (ints []) := own_of_blk (n := 0) (cur := #[]) (blk_new _ _) (blk_lt HQ.out.2) (by simp) (by unfold maxLen; omega)
    revert hW hxW hoW
    generalize w1.alloc (.cells #[] 3) = W2
    intro hW hxW hoW
    have HW := Lib.hid (And.intro hW (And.intro hxW hoW))
    clear hW hxW hoW HQ HL
    have HB : Hid (∀ W, Below (w.heap.size + 1) W2 W → (∀ o, W.cell? ⟨w.heap.size, o, none⟩ = #[Value.int .i64 ni, .slice sn c.next.length cn, .slice sg c.gates.length cg, .slice so c.outs.length co][o]?) ∧ Below w.heap.size w W ∧ w.heap.size + 1 ≤ W.heap.size) := fun W hW => ⟨(blk_all (blk_below hW (Nat.lt_succ_self _) HW.out.2.1)).1, HW.out.1.trans (hW.mono (Nat.le_succ _)), by have := blk_lt HW.out.2.1; have := hW.size; omega⟩
    go_wp2_with fail
    go_loopw [4, 3] (fun i x wr => ∃ (k : Nat) (s : Option Addr) (cc : Nat), k ≤ N ∧ i = .int .i64 k ∧ x = .slice s k cc ∧ wr.ownsRow (w.heap.size + 1) 3 1 x k (ints (clsK (keyO c M) k)) ∧ Below (w.heap.size + 1) W2 wr) (fun i _ _ => N - (intOf i).toNat)
    case atStart => exact ⟨0, _, _, Nat.zero_le _, rfl, rfl, HW.out.2.2, Below.refl _ _⟩
    case round =>
      obtain ⟨k, s5, c5, hk, rfl, rfl, ho, hbl⟩ := hrel
      have cb := (HB.out _ hbl).1
      by_cases hlt : k < N
      · obtain ⟨WO, hWO⟩ : ∃ WO, WO = wr := ⟨_, rfl⟩
        subst hWO
        have HO := Lib.hid (And.intro ho hbl)
        have HBO : Hid (∀ W, Below WO.heap.size WO W → Below (w.heap.size + 1) W2 W) := fun W hW => hbl.trans (hW.mono (HB.out _ hbl).2.2)
        clear ho hbl
        obtain ⟨f, hf⟩ : ∃ f, f = fstK (keyO c M) k := ⟨_, rfl⟩
        have hfk : f ≤ k := by rw [hf]; exact (fstK_spec _ _).1
        have HF := Lib.hid hf
        clear hf
        go_upto_region 7 with fail
        rw [hwq]
        go_wp2_with fail
        clear cb
        go_loopw [6, 5] (fun t kv wr => ∃ (j z : Nat) (y : Int), j ≤ k ∧ y = (j : Int) - 1 ∧ t = .int .i64 y ∧ kv = .int .i64 z ∧ z ≤ k ∧ (z = k ∧ (∀ t' : Nat, j ≤ t' → t' < k → keyO c M t' ≠ keyO c M k) ∨ z = f) ∧ Below WO.heap.size WO wr) (fun t _ _ => ((intOf t) + 1).toNat)
        case atStart => exact ⟨k, k, (k : Int) - 1, Nat.le_refl _, rfl, by go_num, rfl, Nat.le_refl _, Or.inl ⟨rfl, fun t' h1 h2 => absurd h2 (by omega)⟩, Below.refl _ _⟩
        case round =>
          obtain ⟨j, z, y, hj, hy, rfl, rfl, hzk, hz, hbl⟩ := hrel
          have HL := Lib.hid (And.intro hbl hz)
          clear hbl hz
          by_cases hj0 : j = 0
          · subst hj0
            have hy0 : decide (y ≥ 0) = false := by simp; omega
            clear hy
            have hzf : z = f := by
              rcases HL.out.2 with ⟨h1, h2⟩ | h
              · rw [h1, HF.out]; exact (fstK_eq (Nat.le_refl _) rfl fun t' ht => h2 t' (Nat.zero_le _) ht).symm
              · exact h
            subst hzf
            have hsz := (HB.out _ (HBO.out _ HL.out.1)).2.2
            go_wp2_with (first
              | (at_builtin; refine wpl_app rfl _ _ rfl elem_int (own_below (own_below HO.out.1 HL.out.1) ((Below.refl _ _).alloc (Nat.le_refl _) _)) rfl rfl rfl (Sl.new _ _ _) (by simp [Value.oneCell']) (k + 1) rfl (ints (clsK (keyO c M) k ++ [(z : Int)])) (by rw [← ints_append]; rfl) (by unfold maxLen; omega) (by omega) (by simp; omega) ?_; intro s6 c6 w6 h6 hb6 _ _; have HA := Lib.hid (And.intro h6 (((HBO.out _ HL.out.1).alloc hsz _).trans hb6)); clear h6 hb6))
            go_roundw
            case rel => exact ⟨k + 1, s6, c6, by omega, by go_num, by simp, by have h := HA.out.1; rw [clsK_succ, ← HF.out]; simpa using h, HA.out.2⟩
            case measure => first | (simp [intOf]; done) | (simp [intOf]; omega)
          · obtain ⟨j, rfl⟩ : ∃ j', j = j' + 1 := ⟨j - 1, by omega⟩
            obtain rfl : y = (j : Int) := by omega
            clear hy hj0
            have hjk : j < k := by omega
            go_wp2_with fail
            go_loopw [8, 7] (fun xv bv wr => ∃ (m : Nat) (b : Bool), m ≤ M ∧ xv = .int .i64 m ∧ bv = .bool b ∧ (b = true ∧ (∀ y : Nat, y < m → outN c (k : Int) (y : Int) = outN c (j : Int) (y : Int)) ∨ b = false ∧ keyO c M k ≠ keyO c M j) ∧ Below WO.heap.size WO wr) (fun xv _ _ => M - (intOf xv).toNat)
            case atStart => exact ⟨0, true, Nat.zero_le _, rfl, rfl, Or.inl ⟨rfl, fun y hy => absurd hy (by omega)⟩, HL.out.1⟩
            case round =>
              obtain ⟨m, b, hm, rfl, rfl, hb, hbl⟩ := hrel
              have HI := Lib.hid hbl
              clear hbl
              have hbw := HBO.out _ HI.out
              have cb := (HB.out _ hbw).1
              rcases hb with ⟨rfl, hb⟩ | ⟨rfl, hb⟩
              · have HE := Lib.hid hb
                clear hb
                by_cases hmM : m < M
                · have HBW := Lib.hid hbw
                  clear hbw
                  obtain ⟨xs, hxs⟩ : ∃ xs, xs = c.outs.map (litB (cycV c k m)) := ⟨_, rfl⟩
                  obtain ⟨ys, hys⟩ : ∃ ys, ys = c.outs.map (litB (cycV c j m)) := ⟨_, rfl⟩
                  have HXY := Lib.hid (And.intro hxs (And.intro hys (And.intro (show xs.length = c.outs.length by rw [hxs]; simp) (show ys.length = c.outs.length by rw [hys]; simp))))
                  clear hxs hys
                  go_upto_region 15 with fail
                  clear cb
                  refine wp_region_T (fun w' => (∀ o, w'.cell? ⟨w.heap.size, o, none⟩ = #[Value.int .i64 ni, .slice sn c.next.length cn, .slice sg c.gates.length cg, .slice so c.outs.length co][o]?)) (.q 0 (.q 1 (.q 2 (.q 4 (.q 5 (.q 6 (.e 3 (.e 7 (.e 8 (.q 9 .nil)))))))))) (by kernel_rfl) (by kernel_rfl) (by kernel_rfl) (HB.out _ HBW.out.drew).1 ?_
                  repeat (first | (refine ordt_s (o := ?_) ?_ ?_ ?_; rotate_left 1; (focus ((simp only [List.getElem?_toArray, List.getElem?_cons_succ, List.getElem?_cons_zero]) <;> rfl)); (focus rfl); simp only [Act.put, List.setIfInBounds_toArray, List.set_cons_zero, List.set_cons_succ]) | (refine ordt_q (o := ?_) (v := ?_) ?_ ?_ ?_ ?_; rotate_left 2; (focus ((simp only [List.getElem?_toArray, List.getElem?_cons_succ, List.getElem?_cons_zero]) <;> rfl)); (focus rfl); (focus (intro w' hS; (try dsimp only at hS); go_split_ands; go_simp; (try (with_reducible rfl)))); simp only [Act.put, List.setIfInBounds_toArray, List.set_cons_zero, List.set_cons_succ]))
                  refine ordt_e ?_
                  (refine op_e (o := ?_) ?_ ?_ (fun K hK => ?_); rotate_left 1; (focus ((simp only [List.getElem?_toArray, List.getElem?_cons_succ, List.getElem?_cons_zero]) <;> rfl)); (focus rfl); go_simp)
                  refine (l16Outs_any _ c k m _ (HC.out _ (HB.out _ HBW.out.drew).2.1) HH.out.2.1 (by omega) (by omega) (by omega) (by omega)).mono ?_
                  rintro e wn ⟨sa, ca, rfl, hsa, hq⟩
                  rw [← HXY.out.1] at hsa
                  have hbn : Below WO.heap.size WO wn := HI.out.drew.trans (hq.mono HI.out.drew.size)
                  refine hK.out _ _ (HB.out _ (HBO.out _ hbn)).1 ?_
                  clear hK K hq
                  have HN := Lib.hid (And.intro hbn hsa)
                  clear hbn hsa
                  (try simp only [Act.put, List.setIfInBounds_toArray, List.set_cons_zero, List.set_cons_succ])
                  repeat (first | (refine ordt_s (o := ?_) ?_ ?_ ?_; rotate_left 1; (focus ((simp only [List.getElem?_toArray, List.getElem?_cons_succ, List.getElem?_cons_zero]) <;> rfl)); (focus rfl); simp only [Act.put, List.setIfInBounds_toArray, List.set_cons_zero, List.set_cons_succ]) | (refine ordt_q (o := ?_) (v := ?_) ?_ ?_ ?_ ?_; rotate_left 2; (focus ((simp only [List.getElem?_toArray, List.getElem?_cons_succ, List.getElem?_cons_zero]) <;> rfl)); (focus rfl); (focus (intro w' hS; (try dsimp only at hS); go_split_ands; go_simp; (try (with_reducible rfl)))); simp only [Act.put, List.setIfInBounds_toArray, List.set_cons_zero, List.set_cons_succ]))
                  refine ordt_e ?_
                  (refine op_e (o := ?_) ?_ ?_ (fun K hK => ?_); rotate_left 1; (focus ((simp only [List.getElem?_toArray, List.getElem?_cons_succ, List.getElem?_cons_zero]) <;> rfl)); (focus rfl); go_simp)
                  refine (l16Outs_any _ c j m _ (HC.out _ (HB.out _ (HBO.out _ HN.out.1)).2.1) HH.out.2.1 (by omega) (by omega) (by omega) (by omega)).mono ?_
                  rintro e wn2 ⟨sb, cb, rfl, hsb, hq⟩
                  rw [← HXY.out.2.1] at hsb
                  have hbn : Below WO.heap.size WO wn2 := HN.out.1.trans (hq.mono HN.out.1.size)
                  have hsa := HN.out.2.mono hq
                  refine hK.out _ _ (HB.out _ (HBO.out _ hbn)).1 ?_
                  clear hK K hq
                  have HN2 := Lib.hid (And.intro hbn (And.intro hsa hsb))
                  clear hbn hsa hsb
                  (try simp only [Act.put, List.setIfInBounds_toArray, List.set_cons_zero, List.set_cons_succ])
                  repeat (first | (refine ordt_s (o := ?_) ?_ ?_ ?_; rotate_left 1; (focus ((simp only [List.getElem?_toArray, List.getElem?_cons_succ, List.getElem?_cons_zero]) <;> rfl)); (focus rfl); simp only [Act.put, List.setIfInBounds_toArray, List.set_cons_zero, List.set_cons_succ]) | (refine ordt_q (o := ?_) (v := ?_) ?_ ?_ ?_ ?_; rotate_left 2; (focus ((simp only [List.getElem?_toArray, List.getElem?_cons_succ, List.getElem?_cons_zero]) <;> rfl)); (focus rfl); (focus (intro w' hS; (try dsimp only at hS); go_split_ands; go_simp; (try (with_reducible rfl)))); simp only [Act.put, List.setIfInBounds_toArray, List.set_cons_zero, List.set_cons_succ]))
                  refine ordt_e ?_
                  (refine op_e (o := ?_) ?_ ?_ (fun K hK => ?_); rotate_left 1; (focus ((simp only [List.getElem?_toArray, List.getElem?_cons_succ, List.getElem?_cons_zero]) <;> rfl)); (focus rfl); go_simp)
                  refine (l4Same_any sa sb xs ys c.outs.length _ _ _ HN2.out.2.1 HN2.out.2.2 HXY.out.2.2.1 HXY.out.2.2.2 (by omega)).mono ?_
                  rintro e wn3 ⟨rfl, hd⟩
                  have hbn : Below WO.heap.size WO wn3 := HN2.out.1.trans (hd.below _)
                  refine hK.out _ _ (HB.out _ (HBO.out _ hbn)).1 ?_
                  clear hK K hd
                  have HN3 := Lib.hid hbn
                  clear hbn
                  (try simp only [Act.put, List.setIfInBounds_toArray, List.set_cons_zero, List.set_cons_succ])
                  repeat (first | (refine ordt_s (o := ?_) ?_ ?_ ?_; rotate_left 1; (focus ((simp only [List.getElem?_toArray, List.getElem?_cons_succ, List.getElem?_cons_zero]) <;> rfl)); (focus rfl); simp only [Act.put, List.setIfInBounds_toArray, List.set_cons_zero, List.set_cons_succ]) | (refine ordt_q (o := ?_) (v := ?_) ?_ ?_ ?_ ?_; rotate_left 2; (focus ((simp only [List.getElem?_toArray, List.getElem?_cons_succ, List.getElem?_cons_zero]) <;> rfl)); (focus rfl); (focus (intro w' hS; (try dsimp only at hS); go_split_ands; go_simp; (try (with_reducible rfl)))); simp only [Act.put, List.setIfInBounds_toArray, List.set_cons_zero, List.set_cons_succ]))
                  refine ordt_nil ?_
                  go_wp2_with fail
                  go_roundw
                  case rel =>
                    refine ⟨m + 1, decide (xs = ys), by omega, by go_num, rfl, ?_, HN3.out⟩
                    obtain ⟨e1, e2, -⟩ := HXY.out
                    have ho : outN c (k : Int) (m : Int) = outN c (j : Int) (m : Int) ↔ xs = ys := by rw [outN_eq rfl, e1, e2]
                    by_cases e : xs = ys
                    · refine Or.inl ⟨decide_eq_true e, fun y hy => ?_⟩
                      by_cases hym : y < m
                      · exact HE.out y hym
                      · obtain rfl : y = m := by omega
                        exact ho.2 e
                    · exact Or.inr ⟨decide_eq_false e, fun he => e (ho.1 (keyO_iff.1 he m hmM))⟩
                  case measure => first | (simp [intOf]; done) | (simp [intOf]; omega)
                · obtain rfl : m = M := by omega
                  have hkey : keyO c m k = keyO c m j := keyO_iff.2 HE.out
                  obtain ⟨g, hg⟩ : ∃ g, s5 = some ⟨g, 0, none⟩ := by
                    rcases own_some HO.out.1 with ⟨_, e, _⟩ | ⟨g, e⟩
                    · omega
                    · exact ⟨g, e⟩
                  subst hg
                  have hcell : wr.cell? ⟨g, j, none⟩ = some (.int .i64 f) := by
                    have h1 := (own_below HO.out.1 HI.out).cellAt j (by omega)
                    rw [h1]
                    simp only [ints, List.getElem?_map, clsK_get hjk, Option.map_some]
                    congr 2
                    rw [HF.out, fstK_iff.2 hkey.symm]
                  clear hkey hbw
                  go_wp2_with fail
                  go_roundw
                  case rel => exact ⟨j, f, (j : Int) - 1, by omega, rfl, by go_num, rfl, hfk, Or.inr rfl, HI.out⟩
                  case measure => first | (simp [intOf]; done) | (simp [intOf]; omega)
              · have HE := Lib.hid hb
                clear hb hbw
                go_wp2_with fail
                go_roundw
                case rel =>
                  refine ⟨j, z, (j : Int) - 1, by omega, rfl, by go_num, rfl, hzk, ?_, HI.out⟩
                  rcases HL.out.2 with ⟨h1, h2⟩ | h
                  · refine Or.inl ⟨h1, fun t' h3 h4 => ?_⟩
                    by_cases h' : t' = j
                    · subst h'; exact fun e => HE.out e.symm
                    · exact h2 t' (by omega) h4
                  · exact Or.inr h
                case measure => first | (simp [intOf]; done) | (simp [intOf]; omega)
      · obtain rfl : k = N := by omega
        have HO := Lib.hid (And.intro ho hbl)
        clear ho hbl
        go_upto_region 19 with fail
        rw [hwq]
        go_wp2_with fail
        clear cb
        go_loopw [9, 3] (fun i x wr => ∃ (n : Nat) (s : Option Addr) (cc : Nat), n ≤ k ∧ i = .int .i64 n ∧ x = .slice s k cc ∧ Sl wr s (ints (iterK c M k n)) ∧ Below (w.heap.size + 1) W2 wr) (fun i _ _ => k - (intOf i).toNat)
        case atStart => exact ⟨0, _, _, Nat.zero_le _, rfl, rfl, own_sl HO.out.1, HO.out.2⟩
        case round =>
          obtain ⟨n, s6, c6, hn, rfl, rfl, hsl, hbl⟩ := hrel
          have cb := (HB.out _ hbl).1
          have HR := Lib.hid (And.intro hsl hbl)
          clear hsl hbl
          by_cases hnk : n < k
          · go_wp2_with (go_at_call 47; ((with_reducible refine (l16Refine_any _ c s6 c6 k M ni (iterK c M k n) _ (HC.out _ (HB.out _ HR.out.2).2.1) HH.out.2.1 HH.out.2.2.2.2 HH.out.2.2.2.1 HH.out.2.2.1 (iterK_length _ _ _ _) HR.out.1).mono ?_); rintro e w5 ⟨s7, c7, rfl, h5, hq⟩; have HA := Lib.hid (And.intro (own_sl h5) (HR.out.2.trans (hq.mono (HB.out _ HR.out.2).2.2))); clear h5 hq cb))
            go_roundw
            case rel => exact ⟨n + 1, s7, c7, by omega, by go_num, rfl, HA.out.1, HA.out.2⟩
            case measure => first | (simp [intOf]; done) | (simp [intOf]; omega)
          · obtain rfl : n = k := by omega
            clear cb
            go_wp2_with fail
            go_ret
            exact ⟨s6, c6, rfl, HR.out.1, (HB.out _ HR.out.2).2.1⟩

end Go.Proofs.Ytaboipnigeaopaa
