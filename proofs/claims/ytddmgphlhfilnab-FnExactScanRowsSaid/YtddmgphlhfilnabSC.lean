import Derived.Test.YtddmgphlhfilnabBB
import Derived.Test.YtddmgphlhfilnabB5
import Derived.Test.YtddmgphlhfilnabL3
import Derived.Deep.DeepCutAuto
import Derived.Deep.RegionHeld3
namespace Go.Proofs.Ytddmgphlhfilnab
set_option linter.unusedVariables false
set_option linter.unusedSimpArgs false
open Go.RowKit

/-! ScanRows, both. -/

theorem elem_bss : ElemOf Try.prog 37 35 (.slice none 0 0) 1 24 :=
  ⟨by kernel_rfl, info_parts (by kernel_rfl), rfl, by omega⟩
def scRow (n : Nat) (b : Bool) : List Bool := List.replicate n false ++ [true, b]
theorem scRow_length (n : Nat) (b : Bool) : (scRow n b).length = n + 2 := by simp [scRow]
def scRows (n : Nat) (st : List Bool) (j : Nat) : List (List Bool) := (st.reverse.take j).map (scRow n)
theorem scRows_length {n : Nat} {st : List Bool} {j : Nat} (h : j ≤ st.length) : (scRows n st j).length = j := by simp [scRows]; omega
theorem scRows_snoc {n : Nat} {st : List Bool} {j i : Nat} {x : Bool} (hi : i + j + 1 = st.length) (hx : st[i]? = some x) : scRows n st (j + 1) = scRows n st j ++ [scRow n x] := by
  unfold scRows
  have e : st.reverse[j]? = some x := by
    rw [List.getElem?_reverse (by omega)]
    rw [show st.length - 1 - j = i by omega]; exact hx
  rw [List.take_add_one, e]; simp
def scanR (c : Cir) (st : List Bool) : List (List Bool) := if canScanB c = true ∧ st.length = c.next.length then scRows c.inp.toNat st st.length else []
theorem scanR_no {c : Cir} {st : List Bool} (h : ¬ (canScanB c = true ∧ st.length = c.next.length)) : scanR c st = [] := by unfold scanR; rw [if_neg h]
theorem scanR_yes {c : Cir} {st : List Bool} (h : canScanB c = true) (h2 : st.length = c.next.length) : scanR c st = scRows c.inp.toNat st st.length := by unfold scanR; rw [if_pos ⟨h, h2⟩]
theorem canScan_yes {c : Cir} (h : canScanB c = true) : c.validB = true ∧ 0 ≤ c.inp ∧ c.inp ≤ 2 ∧ c.next.length ≤ 3 := by
  unfold canScanB at h
  simp at h
  obtain ⟨h1, h2, h3, h4, h5⟩ := h
  have := (c.validB_iff.1 h1).lim
  exact ⟨h1, this.1, h3, this.2.2.1⟩
theorem scanR_small (c : Cir) (st : List Bool) : (scanR c st).length ≤ 3 ∧ ∀ r ∈ scanR c st, r.length ≤ 4 := by
  by_cases h : canScanB c = true ∧ st.length = c.next.length
  · obtain ⟨-, h0, h2, h3⟩ := canScan_yes h.1
    rw [scanR_yes h.1 h.2]
    refine ⟨by rw [scRows_length (Nat.le_refl _)]; omega, fun r hr => ?_⟩
    unfold scRows at hr
    obtain ⟨b, -, rfl⟩ := List.mem_map.1 hr
    rw [scRow_length]; omega
  · rw [scanR_no h]; simp

set_option maxRecDepth 100000 in
set_option maxHeartbeats 1600000 in
theorem ScanRows_i (v : Value) (c : Cir) (ss : Option Addr) (cs : Nat) (st : List Bool) (w : World) (h : CirV w v c) (hs : Sl w ss (bools st)) (hsl : st.length ≤ 1048576) :
    Calls Try.prog 25 #[v, .slice ss st.length cs] w fun e w' => ∃ (s1 : Option Addr) (cap1 : Nat) (vs : List Value), e = .returned (.slice s1 (scanR c st).length cap1) ∧ OwnSB w' w.heap.size (.slice s1 (scanR c st).length cap1) vs (scanR c st) ∧ Below w.heap.size w w' := by
  have HV0 := Lib.hid h
  obtain ⟨sn, cn, sg, cg, so, co, rfl, -, -, -, k1, k2, k3⟩ := h
  have hN := blk_new w (.cells #[.int .i64 c.inp, .slice sn c.next.length cn, .slice sg c.gates.length cg, .slice so c.outs.length co] 26)
  have hbb := (Below.refl w.heap.size w).alloc (Nat.le_refl _) (.cells #[.int .i64 c.inp, .slice sn c.next.length cn, .slice sg c.gates.length cg, .slice so c.outs.length co] 26)
  have hz : (w.alloc (.cells #[.int .i64 c.inp, .slice sn c.next.length cn, .slice sg c.gates.length cg, .slice so c.outs.length co] 26)).heap.size = w.heap.size + 1 := by simp
  obtain ⟨W0, hW0⟩ : ∃ W0, W0 = w.alloc (.cells #[.int .i64 c.inp, .slice sn c.next.length cn, .slice sg c.gates.length cg, .slice so c.outs.length co] 26) := ⟨_, rfl⟩
  rw [← hW0] at hN hbb hz
  have HW := Lib.hid hW0
  have HA : Hid (∀ W, Below W0.heap.size W0 W → (∀ o, W.cell? ⟨w.heap.size, o, none⟩ = #[Value.int .i64 c.inp, .slice sn c.next.length cn, .slice sg c.gates.length cg, .slice so c.outs.length co][o]?) ∧ CirV W (.agg #[.int .i64 c.inp, .slice sn c.next.length cn, .slice sg c.gates.length cg, .slice so c.outs.length co]) c ∧ Below w.heap.size w W) :=
    fun W hW => ⟨(blk_all (blk_below hW (blk_lt hN) hN)).1, HV0.out.mono (hbb.trans (hW.mono hbb.size)), hbb.trans (hW.mono hbb.size)⟩
  have HZ := Lib.hid hz
  have HS := Lib.hid hs
  clear hW0 hN hbb hs hz
  by_cases hok : canScanB c = true
  · by_cases hln : st.length = c.next.length
    · have e := scanR_yes hok hln
      obtain ⟨-, i0, i2, i3⟩ := canScan_yes hok
      obtain ⟨ni, hni⟩ : ∃ ni : Nat, c.inp = ni := ⟨c.inp.toNat, by omega⟩
      rw [show c.inp.toNat = ni by omega] at e
      obtain ⟨n, hn⟩ : ∃ n, n = st.length := ⟨_, rfl⟩
      rw [← hn] at e
      have HX := Lib.hid (And.intro e (And.intro hok hn))
      have hn2 : c.next.length = n := by omega
      have hn3 : n ≤ 3 := by omega
      have hni2 : ni ≤ 2 := by omega
      rw [hni, hn2] at HA HW
      rw [hni, hn2, ← hn]
      clear e hok hln k1 k2 k3 i0 i2 i3 hn hn2 hni hsl
      have hmk := fun w => mkBools w ni (by omega)
      go_enter Try.func25, Try.ntmps25
      go_upto_region 1 with fail
      rw [← HW.out]
      have cb := (HA.out _ (Below.refl _ _)).1
      go_upto_region 5 with (go_at_call 16; ((with_reducible refine (CanScan_i _ c _ (HA.out _ (Below.refl _ _)).2.1).mono ?_); rintro e w1 ⟨rfl, hq⟩; rw [HX.out.2.1]; have HQ := Lib.hid (hq); clear hq; (try clear cb); have cb := (HA.out _ HQ.out).1))
      go_loopw [5, 6] (fun v5 v6 wr => ∃ (j : Nat) (s5 : Option Addr) (c5 : Nat) (vs : List Value), j ≤ n ∧ v6 = .int .i64 ((n : Int) - 1 - j) ∧ v5 = .slice s5 j c5 ∧ OwnSB wr W0.heap.size (.slice s5 j c5) vs (scRows ni st j) ∧ Below W0.heap.size W0 wr) (fun _ v6 _ => (intOf v6 + 1).toNat)
      case atStart => exact ⟨0, _, _, [], Nat.zero_le _, by simp, rfl, OwnSB.nil _ _, HQ.out⟩
      case round =>
        obtain ⟨j, s5, c5, vs, hj, rfl, rfl, ho, hb⟩ := hrel
        have HO := Lib.hid ho
        have HB := Lib.hid hb
        have cb := (HA.out _ hb).1
        clear ho hb
        by_cases hlt : j < n
        · obtain ⟨i, hi⟩ : ∃ i : Nat, (n : Int) - 1 - j = i := ⟨n - 1 - j, by omega⟩
          rw [hi]
          have hin : i < n := by omega
          obtain ⟨x, hx⟩ := get_of_lt (l := st) (k := i) (by have := HX.out.2.2; omega)
          obtain ⟨b, off, rfl, hbw, z0⟩ := HS.out.bool (HA.out _ HB.out).2.2 hx
          have HXI := Lib.hid (And.intro hx hi)
          have HC : Hid (∀ W, Below W0.heap.size W0 W → (∀ o, W.cell? ⟨w.heap.size, o, none⟩ = #[Value.int .i64 ni, .slice sn n cn, .slice sg c.gates.length cg, .slice so c.outs.length co][o]?) ∧ W.cell? ⟨b, off + i, none⟩ = some (.bool x)) := fun W hW =>
            ⟨(HA.out _ hW).1, by obtain ⟨b', off', e', -, z'⟩ := HS.out.bool (HA.out _ hW).2.2 hx; cases e'; exact z'⟩
          have hlen := scRows_length (n := ni) (st := st) (j := j) (by have := HX.out.2.2; omega)
          have HL := Lib.hid hlen
          clear hx hi z0 hlen cb hj
          go_upto_region 7 with fail
          refine wp_region_T (fun w' => (∀ o, w'.cell? ⟨w.heap.size, o, none⟩ = #[Value.int .i64 ni, .slice sn n cn, .slice sg c.gates.length cg, .slice so c.outs.length co][o]?) ∧ w'.cell? ⟨b, off + i, none⟩ = some (.bool x)) (.q 0 (.q 1 (.q 2 (.q 4 (.q 5 (.q 6 (.q 7 (.two 3 (.e 8 (.e 9 (.e 10 (.e 11 (.q 12 .nil))))) 8 (.e 3 (.e 9 (.e 10 (.e 11 (.q 12 .nil))))))))))))) (by kernel_rfl) (by kernel_rfl) (by kernel_rfl) (HC.out _ HB.out.drew) ?_
          have hd := (Below.refl wr.heap.size wr).drew
          revert hd
          generalize wr.drew = wd
          intro hd
          have HD := Lib.hid hd
          clear hd
          repeat (first | (refine ordt_s (o := ?_) ?_ ?_ ?_; rotate_left 1; (focus ((simp only [List.getElem?_toArray, List.getElem?_cons_succ, List.getElem?_cons_zero]) <;> rfl)); (focus rfl); simp only [Act.put, List.setIfInBounds_toArray, List.set_cons_zero, List.set_cons_succ]) | (refine ordt_q (o := ?_) (v := ?_) ?_ ?_ ?_ ?_; rotate_left 2; (focus ((simp only [List.getElem?_toArray, List.getElem?_cons_succ, List.getElem?_cons_zero]) <;> rfl)); (focus rfl); (focus (intro w' hS; (try dsimp only at hS); go_split_ands; go_simp; (try (with_reducible rfl)))); simp only [Act.put, List.setIfInBounds_toArray, List.set_cons_zero, List.set_cons_succ]))
          refine ordt_two ?_ ?_
          · (refine op_e (o := ?_) ?_ ?_ (fun K hK => ?_); rotate_left 1; (focus ((simp only [List.getElem?_toArray, List.getElem?_cons_succ, List.getElem?_cons_zero]) <;> rfl)); (focus rfl); go_simp)
            have hA := (HD.out).alloc (HD.out).size (.cells (bools (List.replicate ni false)).toArray 4)
            have hg := blk_new wd (.cells (bools (List.replicate ni false)).toArray 4)
            have hT := (HD.out).size
            obtain ⟨G, hG⟩ : ∃ G, G = wd.heap.size := ⟨_, rfl⟩
            rw [← hG] at hg hT
            rw [← hG]
            clear hG
            revert hA hg
            generalize wd.alloc (.cells (bools (List.replicate ni false)).toArray 4) = W1
            intro hA hg
            refine hK.out _ _ (HC.out _ (HB.out.trans (hA.mono HB.out.size))) ?_
            clear hK K
            have hrow : W1.ownsRow wr.heap.size 4 1 (.slice (some ⟨G, 0, none⟩) ni ni) ni (bools (List.replicate ni false)) := by
              have := own_of_blk (base := wr.heap.size) (size := 1) (n := ni) hg hT (by simp) (by unfold maxLen; omega)
              simpa using this
            have HOW := Lib.hid hrow
            have HD1 := Lib.hid hA
            clear hA hg hT hrow
            (try simp only [Act.put, List.setIfInBounds_toArray, List.set_cons_zero, List.set_cons_succ])
            repeat (first | (refine ordt_s (o := ?_) ?_ ?_ ?_; rotate_left 1; (focus ((simp only [List.getElem?_toArray, List.getElem?_cons_succ, List.getElem?_cons_zero]) <;> rfl)); (focus rfl); simp only [Act.put, List.setIfInBounds_toArray, List.set_cons_zero, List.set_cons_succ]) | (refine ordt_q (o := ?_) (v := ?_) ?_ ?_ ?_ ?_; rotate_left 2; (focus ((simp only [List.getElem?_toArray, List.getElem?_cons_succ, List.getElem?_cons_zero]) <;> rfl)); (focus rfl); (focus (intro w' hS; (try dsimp only at hS); go_split_ands; go_simp; (try (with_reducible rfl)))); simp only [Act.put, List.setIfInBounds_toArray, List.set_cons_zero, List.set_cons_succ]))
            refine ordt_e ?_
            (refine op_e (o := ?_) ?_ ?_ (fun K hK => ?_); rotate_left 1; (focus ((simp only [List.getElem?_toArray, List.getElem?_cons_succ, List.getElem?_cons_zero]) <;> rfl)); (focus rfl); go_simp)
            have hA := (HD1.out).alloc (HD1.out).size (.cells #[.bool true, .bool x] 4)
            have hs := Sl.new W1 #[.bool true, .bool x] 4
            have hrow := own_below HOW.out ((Below.refl W1.heap.size W1).alloc (Nat.le_refl _) (.cells #[.bool true, .bool x] 4))
            revert hA hs hrow
            generalize W1.alloc (.cells #[.bool true, .bool x] 4) = W2
            intro hA hs hrow
            refine hK.out _ _ (HC.out _ (HB.out.trans (hA.mono HB.out.size))) ?_
            clear hK K
            have HT := Lib.hid hs
            have HD2 := Lib.hid hA
            have HOW := Lib.hid hrow
            clear hrow
            clear hA hs
            (try simp only [Act.put, List.setIfInBounds_toArray, List.set_cons_zero, List.set_cons_succ])
            repeat (first | (refine ordt_s (o := ?_) ?_ ?_ ?_; rotate_left 1; (focus ((simp only [List.getElem?_toArray, List.getElem?_cons_succ, List.getElem?_cons_zero]) <;> rfl)); (focus rfl); simp only [Act.put, List.setIfInBounds_toArray, List.set_cons_zero, List.set_cons_succ]) | (refine ordt_q (o := ?_) (v := ?_) ?_ ?_ ?_ ?_; rotate_left 2; (focus ((simp only [List.getElem?_toArray, List.getElem?_cons_succ, List.getElem?_cons_zero]) <;> rfl)); (focus rfl); (focus (intro w' hS; (try dsimp only at hS); go_split_ands; go_simp; (try (with_reducible rfl)))); simp only [Act.put, List.setIfInBounds_toArray, List.set_cons_zero, List.set_cons_succ]))
            refine ordt_e ?_
            (refine op_e (o := ?_) ?_ ?_ (fun K hK => ?_); rotate_left 1; (focus ((simp only [List.getElem?_toArray, List.getElem?_cons_succ, List.getElem?_cons_zero]) <;> rfl)); (focus rfl))
            refine wp_app (.tmp 28) (.tmp 33) rfl elem_bool HOW.out rfl rfl (by simp) HT.out (by simp [Value.oneCell']) (ni + 2) rfl (bools (scRow ni x)) (by simp [scRow, bools]) (by unfold maxLen; omega) (by omega) (HD2.out).size ?_
            intro s6 c6 W3 h6 hb6 hg6 hob
            have hq6 := (HD2.out).trans hb6
            refine hK.out _ _ (HC.out _ (HB.out.trans (hq6.mono HB.out.size))) ?_
            clear hK K
            have h6' : W3.ownsRow wr.heap.size 4 1 (.slice s6 (ni + 2) c6) (scRow ni x).length (bools (scRow ni x)) := by rw [scRow_length]; exact h6
            have HOW := Lib.hid h6'
            have HQ6 := Lib.hid hq6
            clear h6 h6' hq6 hb6 hg6 hob
            (try simp only [Act.put, List.setIfInBounds_toArray, List.set_cons_zero, List.set_cons_succ])
            repeat (first | (refine ordt_s (o := ?_) ?_ ?_ ?_; rotate_left 1; (focus ((simp only [List.getElem?_toArray, List.getElem?_cons_succ, List.getElem?_cons_zero]) <;> rfl)); (focus rfl); simp only [Act.put, List.setIfInBounds_toArray, List.set_cons_zero, List.set_cons_succ]) | (refine ordt_q (o := ?_) (v := ?_) ?_ ?_ ?_ ?_; rotate_left 2; (focus ((simp only [List.getElem?_toArray, List.getElem?_cons_succ, List.getElem?_cons_zero]) <;> rfl)); (focus rfl); (focus (intro w' hS; (try dsimp only at hS); go_split_ands; go_simp; (try (with_reducible rfl)))); simp only [Act.put, List.setIfInBounds_toArray, List.set_cons_zero, List.set_cons_succ]))
            refine ordt_e ?_
            (refine op_e (o := ?_) ?_ ?_ (fun K hK => ?_); rotate_left 1; (focus ((simp only [List.getElem?_toArray, List.getElem?_cons_succ, List.getElem?_cons_zero]) <;> rfl)); (focus rfl); go_simp)
            have hA := HQ6.out.alloc HQ6.out.size (.cells #[.slice s6 (ni + 2) c6] 35)
            have hs := Sl.new W3 #[.slice s6 (ni + 2) c6] 35
            have ho1 := own_below HOW.out ((Below.refl W3.heap.size W3).alloc (Nat.le_refl _) (.cells #[.slice s6 (ni + 2) c6] 35))
            revert hA hs ho1
            generalize W3.alloc (.cells #[.slice s6 (ni + 2) c6] 35) = W4
            intro hA hs ho1
            refine hK.out _ _ (HC.out _ (HB.out.trans (hA.mono HB.out.size))) ?_
            clear hK K
            have HOW := Lib.hid ho1
            have HT := Lib.hid hs
            have HQ7 := Lib.hid hA
            have HO2 := Lib.hid (HO.out.below hA)
            clear hA hs ho1
            (try simp only [Act.put, List.setIfInBounds_toArray, List.set_cons_zero, List.set_cons_succ])
            repeat (first | (refine ordt_s (o := ?_) ?_ ?_ ?_; rotate_left 1; (focus ((simp only [List.getElem?_toArray, List.getElem?_cons_succ, List.getElem?_cons_zero]) <;> rfl)); (focus rfl); simp only [Act.put, List.setIfInBounds_toArray, List.set_cons_zero, List.set_cons_succ]) | (refine ordt_q (o := ?_) (v := ?_) ?_ ?_ ?_ ?_; rotate_left 2; (focus ((simp only [List.getElem?_toArray, List.getElem?_cons_succ, List.getElem?_cons_zero]) <;> rfl)); (focus rfl); (focus (intro w' hS; (try dsimp only at hS); go_split_ands; go_simp; (try (with_reducible rfl)))); simp only [Act.put, List.setIfInBounds_toArray, List.set_cons_zero, List.set_cons_succ]))
            refine ordt_e ?_
            (refine op_e (o := ?_) ?_ ?_ (fun K hK => ?_); rotate_left 1; (focus ((simp only [List.getElem?_toArray, List.getElem?_cons_succ, List.getElem?_cons_zero]) <;> rfl)); (focus rfl))
            have hout := HO2.out.out
            rw [HL.out] at hout
            refine wp_app (.tmp 25) (.tmp 35) rfl elem_bss hout rfl rfl (by simp) HT.out (by simp [Value.oneCell']) (j + 1) rfl (vs ++ [.slice s6 (ni + 2) c6]) (by simp) (by unfold maxLen; omega) (by omega) (Nat.le_trans HB.out.size HQ7.out.size) ?_
            intro s7 c7 W5 h7 hb7 hg7 hob7
            have hpush : OwnSB W5 W0.heap.size (.slice s7 (j + 1) c7) (vs ++ [.slice s6 (ni + 2) c6]) (scRows ni st j ++ [scRow ni x]) :=
              HO2.out.push (own_base HOW.out HB.out.size) (fun k u' hk hu e => by
                have h1 := (own_blk HOW.out hk).1
                obtain ⟨q, hq⟩ := List.mem_iff_getElem?.1 hu
                obtain ⟨r, hr⟩ := HO.out.rget hq
                have h2 := (own_blk (HO.out.row q u' r hq hr) e).2
                omega) hg7 (by rw [HL.out]; exact h7)
            have hb5 : Below W0.heap.size W0 W5 := (HB.out.trans (HQ7.out.mono HB.out.size)).trans hb7
            refine hK.out _ _ (HC.out _ hb5) ?_
            clear hK K hout
            have HR := Lib.hid (And.intro hpush hb5)
            clear hpush hb5 h7 hb7 hg7 hob7
            (try simp only [Act.put, List.setIfInBounds_toArray, List.set_cons_zero, List.set_cons_succ])
            repeat (first | (refine ordt_s (o := ?_) ?_ ?_ ?_; rotate_left 1; (focus ((simp only [List.getElem?_toArray, List.getElem?_cons_succ, List.getElem?_cons_zero]) <;> rfl)); (focus rfl); simp only [Act.put, List.setIfInBounds_toArray, List.set_cons_zero, List.set_cons_succ]) | (refine ordt_q (o := ?_) (v := ?_) ?_ ?_ ?_ ?_; rotate_left 2; (focus ((simp only [List.getElem?_toArray, List.getElem?_cons_succ, List.getElem?_cons_zero]) <;> rfl)); (focus rfl); (focus (intro w' hS; (try dsimp only at hS); go_split_ands; go_simp; (try (with_reducible rfl)))); simp only [Act.put, List.setIfInBounds_toArray, List.set_cons_zero, List.set_cons_succ]))
            refine ordt_nil ?_
            go_wp2_with fail
            go_roundw
            case rel =>
              refine ⟨j + 1, s7, c7, vs ++ [.slice s6 (ni + 2) c6], by omega, ?_, rfl, ?_, HR.out.2⟩
              · have := HXI.out.2; go_num
              · rw [scRows_snoc (i := i) (by have := HXI.out.2; have := HX.out.2.2; omega) HXI.out.1]; exact HR.out.1
            case measure => simp [intOf]; try omega
          · (refine op_e (o := ?_) ?_ ?_ (fun K hK => ?_); rotate_left 1; (focus ((simp only [List.getElem?_toArray, List.getElem?_cons_succ, List.getElem?_cons_zero]) <;> rfl)); (focus rfl); go_simp)
            have hA := (HD.out).alloc (HD.out).size (.cells #[.bool true, .bool x] 4)
            have hs := Sl.new wd #[.bool true, .bool x] 4
            revert hA hs
            generalize wd.alloc (.cells #[.bool true, .bool x] 4) = W1
            intro hA hs
            refine hK.out _ _ (HC.out _ (HB.out.trans (hA.mono HB.out.size))) ?_
            clear hK K
            have HT := Lib.hid hs
            have HD1 := Lib.hid hA
            clear hA hs
            (try simp only [Act.put, List.setIfInBounds_toArray, List.set_cons_zero, List.set_cons_succ])
            repeat (first | (refine ordt_s (o := ?_) ?_ ?_ ?_; rotate_left 1; (focus ((simp only [List.getElem?_toArray, List.getElem?_cons_succ, List.getElem?_cons_zero]) <;> rfl)); (focus rfl); simp only [Act.put, List.setIfInBounds_toArray, List.set_cons_zero, List.set_cons_succ]) | (refine ordt_q (o := ?_) (v := ?_) ?_ ?_ ?_ ?_; rotate_left 2; (focus ((simp only [List.getElem?_toArray, List.getElem?_cons_succ, List.getElem?_cons_zero]) <;> rfl)); (focus rfl); (focus (intro w' hS; (try dsimp only at hS); go_split_ands; go_simp; (try (with_reducible rfl)))); simp only [Act.put, List.setIfInBounds_toArray, List.set_cons_zero, List.set_cons_succ]))
            refine ordt_e ?_
            (refine op_e (o := ?_) ?_ ?_ (fun K hK => ?_); rotate_left 1; (focus ((simp only [List.getElem?_toArray, List.getElem?_cons_succ, List.getElem?_cons_zero]) <;> rfl)); (focus rfl); go_simp)
            have hA := (HD1.out).alloc (HD1.out).size (.cells (bools (List.replicate ni false)).toArray 4)
            have hg := blk_new W1 (.cells (bools (List.replicate ni false)).toArray 4)
            have hT := (HD1.out).size
            have hs2 := HT.out.mono ((Below.refl W1.heap.size W1).alloc (Nat.le_refl _) (.cells (bools (List.replicate ni false)).toArray 4))
            obtain ⟨G, hG⟩ : ∃ G, G = W1.heap.size := ⟨_, rfl⟩
            rw [← hG] at hg hT
            rw [← hG]
            clear hG
            revert hA hg hs2
            generalize W1.alloc (.cells (bools (List.replicate ni false)).toArray 4) = W2
            intro hA hs2 hg
            refine hK.out _ _ (HC.out _ (HB.out.trans (hA.mono HB.out.size))) ?_
            clear hK K
            have hrow : W2.ownsRow wr.heap.size 4 1 (.slice (some ⟨G, 0, none⟩) ni ni) ni (bools (List.replicate ni false)) := by
              have := own_of_blk (base := wr.heap.size) (size := 1) (n := ni) hg hT (by simp) (by unfold maxLen; omega)
              simpa using this
            have HOW := Lib.hid hrow
            have HD2 := Lib.hid hA
            have HT := Lib.hid hs2
            clear hs2
            clear hA hg hT hrow
            (try simp only [Act.put, List.setIfInBounds_toArray, List.set_cons_zero, List.set_cons_succ])
            repeat (first | (refine ordt_s (o := ?_) ?_ ?_ ?_; rotate_left 1; (focus ((simp only [List.getElem?_toArray, List.getElem?_cons_succ, List.getElem?_cons_zero]) <;> rfl)); (focus rfl); simp only [Act.put, List.setIfInBounds_toArray, List.set_cons_zero, List.set_cons_succ]) | (refine ordt_q (o := ?_) (v := ?_) ?_ ?_ ?_ ?_; rotate_left 2; (focus ((simp only [List.getElem?_toArray, List.getElem?_cons_succ, List.getElem?_cons_zero]) <;> rfl)); (focus rfl); (focus (intro w' hS; (try dsimp only at hS); go_split_ands; go_simp; (try (with_reducible rfl)))); simp only [Act.put, List.setIfInBounds_toArray, List.set_cons_zero, List.set_cons_succ]))
            refine ordt_e ?_
            (refine op_e (o := ?_) ?_ ?_ (fun K hK => ?_); rotate_left 1; (focus ((simp only [List.getElem?_toArray, List.getElem?_cons_succ, List.getElem?_cons_zero]) <;> rfl)); (focus rfl))
            refine wp_app (.tmp 28) (.tmp 33) rfl elem_bool HOW.out rfl rfl (by simp) HT.out (by simp [Value.oneCell']) (ni + 2) rfl (bools (scRow ni x)) (by simp [scRow, bools]) (by unfold maxLen; omega) (by omega) (HD2.out).size ?_
            intro s6 c6 W3 h6 hb6 hg6 hob
            have hq6 := (HD2.out).trans hb6
            refine hK.out _ _ (HC.out _ (HB.out.trans (hq6.mono HB.out.size))) ?_
            clear hK K
            have h6' : W3.ownsRow wr.heap.size 4 1 (.slice s6 (ni + 2) c6) (scRow ni x).length (bools (scRow ni x)) := by rw [scRow_length]; exact h6
            have HOW := Lib.hid h6'
            have HQ6 := Lib.hid hq6
            clear h6 h6' hq6 hb6 hg6 hob
            (try simp only [Act.put, List.setIfInBounds_toArray, List.set_cons_zero, List.set_cons_succ])
            repeat (first | (refine ordt_s (o := ?_) ?_ ?_ ?_; rotate_left 1; (focus ((simp only [List.getElem?_toArray, List.getElem?_cons_succ, List.getElem?_cons_zero]) <;> rfl)); (focus rfl); simp only [Act.put, List.setIfInBounds_toArray, List.set_cons_zero, List.set_cons_succ]) | (refine ordt_q (o := ?_) (v := ?_) ?_ ?_ ?_ ?_; rotate_left 2; (focus ((simp only [List.getElem?_toArray, List.getElem?_cons_succ, List.getElem?_cons_zero]) <;> rfl)); (focus rfl); (focus (intro w' hS; (try dsimp only at hS); go_split_ands; go_simp; (try (with_reducible rfl)))); simp only [Act.put, List.setIfInBounds_toArray, List.set_cons_zero, List.set_cons_succ]))
            refine ordt_e ?_
            (refine op_e (o := ?_) ?_ ?_ (fun K hK => ?_); rotate_left 1; (focus ((simp only [List.getElem?_toArray, List.getElem?_cons_succ, List.getElem?_cons_zero]) <;> rfl)); (focus rfl); go_simp)
            have hA := HQ6.out.alloc HQ6.out.size (.cells #[.slice s6 (ni + 2) c6] 35)
            have hs := Sl.new W3 #[.slice s6 (ni + 2) c6] 35
            have ho1 := own_below HOW.out ((Below.refl W3.heap.size W3).alloc (Nat.le_refl _) (.cells #[.slice s6 (ni + 2) c6] 35))
            revert hA hs ho1
            generalize W3.alloc (.cells #[.slice s6 (ni + 2) c6] 35) = W4
            intro hA hs ho1
            refine hK.out _ _ (HC.out _ (HB.out.trans (hA.mono HB.out.size))) ?_
            clear hK K
            have HOW := Lib.hid ho1
            have HT := Lib.hid hs
            have HQ7 := Lib.hid hA
            have HO2 := Lib.hid (HO.out.below hA)
            clear hA hs ho1
            (try simp only [Act.put, List.setIfInBounds_toArray, List.set_cons_zero, List.set_cons_succ])
            repeat (first | (refine ordt_s (o := ?_) ?_ ?_ ?_; rotate_left 1; (focus ((simp only [List.getElem?_toArray, List.getElem?_cons_succ, List.getElem?_cons_zero]) <;> rfl)); (focus rfl); simp only [Act.put, List.setIfInBounds_toArray, List.set_cons_zero, List.set_cons_succ]) | (refine ordt_q (o := ?_) (v := ?_) ?_ ?_ ?_ ?_; rotate_left 2; (focus ((simp only [List.getElem?_toArray, List.getElem?_cons_succ, List.getElem?_cons_zero]) <;> rfl)); (focus rfl); (focus (intro w' hS; (try dsimp only at hS); go_split_ands; go_simp; (try (with_reducible rfl)))); simp only [Act.put, List.setIfInBounds_toArray, List.set_cons_zero, List.set_cons_succ]))
            refine ordt_e ?_
            (refine op_e (o := ?_) ?_ ?_ (fun K hK => ?_); rotate_left 1; (focus ((simp only [List.getElem?_toArray, List.getElem?_cons_succ, List.getElem?_cons_zero]) <;> rfl)); (focus rfl))
            have hout := HO2.out.out
            rw [HL.out] at hout
            refine wp_app (.tmp 25) (.tmp 35) rfl elem_bss hout rfl rfl (by simp) HT.out (by simp [Value.oneCell']) (j + 1) rfl (vs ++ [.slice s6 (ni + 2) c6]) (by simp) (by unfold maxLen; omega) (by omega) (Nat.le_trans HB.out.size HQ7.out.size) ?_
            intro s7 c7 W5 h7 hb7 hg7 hob7
            have hpush : OwnSB W5 W0.heap.size (.slice s7 (j + 1) c7) (vs ++ [.slice s6 (ni + 2) c6]) (scRows ni st j ++ [scRow ni x]) :=
              HO2.out.push (own_base HOW.out HB.out.size) (fun k u' hk hu e => by
                have h1 := (own_blk HOW.out hk).1
                obtain ⟨q, hq⟩ := List.mem_iff_getElem?.1 hu
                obtain ⟨r, hr⟩ := HO.out.rget hq
                have h2 := (own_blk (HO.out.row q u' r hq hr) e).2
                omega) hg7 (by rw [HL.out]; exact h7)
            have hb5 : Below W0.heap.size W0 W5 := (HB.out.trans (HQ7.out.mono HB.out.size)).trans hb7
            refine hK.out _ _ (HC.out _ hb5) ?_
            clear hK K hout
            have HR := Lib.hid (And.intro hpush hb5)
            clear hpush hb5 h7 hb7 hg7 hob7
            (try simp only [Act.put, List.setIfInBounds_toArray, List.set_cons_zero, List.set_cons_succ])
            repeat (first | (refine ordt_s (o := ?_) ?_ ?_ ?_; rotate_left 1; (focus ((simp only [List.getElem?_toArray, List.getElem?_cons_succ, List.getElem?_cons_zero]) <;> rfl)); (focus rfl); simp only [Act.put, List.setIfInBounds_toArray, List.set_cons_zero, List.set_cons_succ]) | (refine ordt_q (o := ?_) (v := ?_) ?_ ?_ ?_ ?_; rotate_left 2; (focus ((simp only [List.getElem?_toArray, List.getElem?_cons_succ, List.getElem?_cons_zero]) <;> rfl)); (focus rfl); (focus (intro w' hS; (try dsimp only at hS); go_split_ands; go_simp; (try (with_reducible rfl)))); simp only [Act.put, List.setIfInBounds_toArray, List.set_cons_zero, List.set_cons_succ]))
            refine ordt_nil ?_
            go_wp2_with fail
            go_roundw
            case rel =>
              refine ⟨j + 1, s7, c7, vs ++ [.slice s6 (ni + 2) c6], by omega, ?_, rfl, ?_, HR.out.2⟩
              · have := HXI.out.2; go_num
              · rw [scRows_snoc (i := i) (by have := HXI.out.2; have := HX.out.2.2; omega) HXI.out.1]; exact HR.out.1
            case measure => simp [intOf]; try omega
        · obtain rfl : j = n := by omega
          go_wp2_with fail
          go_ret
          have e := HX.out.1
          have hl := scRows_length (n := ni) (st := st) (j := j) (by have := HX.out.2.2; omega)
          rw [e]
          exact ⟨s5, c5, vs, by rw [hl]; rfl, ⟨own_base (by rw [hl]; have := HO.out.out; rw [hl] at this; exact this) (HA.out _ (Below.refl _ _)).2.2.size, fun i u r h1 h2 => own_base (HO.out.row i u r h1 h2) (HA.out _ (Below.refl _ _)).2.2.size, HO.out.inj⟩, (HA.out _ HB.out).2.2⟩
    · have e := scanR_no (c := c) (st := st) fun h => hln h.2
      rw [e]
      have HE := Lib.hid hok
      clear e hok
      go_enter Try.func25, Try.ntmps25
      go_upto_region 1 with fail
      rw [← HW.out]
      have cb := (HA.out _ (Below.refl _ _)).1
      go_wp2_with (go_at_call 16; ((with_reducible refine (CanScan_i _ c _ (HA.out _ (Below.refl _ _)).2.1).mono ?_); rintro e w1 ⟨rfl, hq⟩; rw [HE.out]; have HQ := Lib.hid (hq); clear hq; (try clear cb); have cb := (HA.out _ HQ.out).1))
      go_ret
      exact ⟨_, _, [], rfl, OwnSB.nil _ _, (HA.out _ HQ.out).2.2⟩
  · have e := scanR_no (c := c) (st := st) fun h => hok h.1
    rw [e]
    have HE := Lib.hid (show canScanB c = false from by simpa using hok)
    clear e hok
    go_enter Try.func25, Try.ntmps25
    go_upto_region 1 with fail
    rw [← HW.out]
    have cb := (HA.out _ (Below.refl _ _)).1
    go_wp2_with (go_at_call 16; ((with_reducible refine (CanScan_i _ c _ (HA.out _ (Below.refl _ _)).2.1).mono ?_); rintro e w1 ⟨rfl, hq⟩; rw [HE.out]; have HQ := Lib.hid (hq); clear hq; (try clear cb); have cb := (HA.out _ HQ.out).1))
    go_ret
    exact ⟨_, _, [], rfl, OwnSB.nil _ _, (HA.out _ HQ.out).2.2⟩

set_option maxRecDepth 100000 in
set_option maxHeartbeats 1600000 in
theorem ScanRows_s (v : Value) (c : Cir) (ss : Option Addr) (cs : Nat) (st : List Bool) (w : World) (h : CirV w v c) (hs : Sl w ss (bools st)) (hsl : st.length ≤ 1048576) :
    Calls Try.prog 22 #[v, .slice ss st.length cs] w fun e w' => ∃ (s0 : Option Addr) (cap0 : Nat), e = .returned (.slice s0 (scanR c st).length cap0) ∧ SlB w' s0 (scanR c st) ∧ Below w.heap.size w w' := by
  have HV0 := Lib.hid h
  obtain ⟨sn, cn, sg, cg, so, co, rfl, -, -, -, k1, k2, k3⟩ := h
  have hN := blk_new w (.cells #[.int .i64 c.inp, .slice sn c.next.length cn, .slice sg c.gates.length cg, .slice so c.outs.length co] 26)
  have hbb := (Below.refl w.heap.size w).alloc (Nat.le_refl _) (.cells #[.int .i64 c.inp, .slice sn c.next.length cn, .slice sg c.gates.length cg, .slice so c.outs.length co] 26)
  have hz : (w.alloc (.cells #[.int .i64 c.inp, .slice sn c.next.length cn, .slice sg c.gates.length cg, .slice so c.outs.length co] 26)).heap.size = w.heap.size + 1 := by simp
  obtain ⟨W0, hW0⟩ : ∃ W0, W0 = w.alloc (.cells #[.int .i64 c.inp, .slice sn c.next.length cn, .slice sg c.gates.length cg, .slice so c.outs.length co] 26) := ⟨_, rfl⟩
  rw [← hW0] at hN hbb hz
  have HW := Lib.hid hW0
  have HA : Hid (∀ W, Below W0.heap.size W0 W → (∀ o, W.cell? ⟨w.heap.size, o, none⟩ = #[Value.int .i64 c.inp, .slice sn c.next.length cn, .slice sg c.gates.length cg, .slice so c.outs.length co][o]?) ∧ CirV W (.agg #[.int .i64 c.inp, .slice sn c.next.length cn, .slice sg c.gates.length cg, .slice so c.outs.length co]) c ∧ Below w.heap.size w W) :=
    fun W hW => ⟨(blk_all (blk_below hW (blk_lt hN) hN)).1, HV0.out.mono (hbb.trans (hW.mono hbb.size)), hbb.trans (hW.mono hbb.size)⟩
  have HZ := Lib.hid hz
  have HS := Lib.hid hs
  clear hW0 hN hbb hs hz
  by_cases hok : canScanB c = true
  · by_cases hln : st.length = c.next.length
    · have e := scanR_yes hok hln
      obtain ⟨-, i0, i2, i3⟩ := canScan_yes hok
      obtain ⟨ni, hni⟩ : ∃ ni : Nat, c.inp = ni := ⟨c.inp.toNat, by omega⟩
      rw [show c.inp.toNat = ni by omega] at e
      obtain ⟨n, hn⟩ : ∃ n, n = st.length := ⟨_, rfl⟩
      rw [← hn] at e
      have HX := Lib.hid (And.intro e (And.intro hok hn))
      have hn2 : c.next.length = n := by omega
      have hn3 : n ≤ 3 := by omega
      have hni2 : ni ≤ 2 := by omega
      rw [hni, hn2] at HA HW
      rw [hni, hn2, ← hn]
      clear e hok hln k1 k2 k3 i0 i2 i3 hn hn2 hni hsl
      have hmk := fun w => mkBools w ni (by omega)
      go_enter Try.func22, Try.ntmps22
      go_upto_region 1 with fail
      rw [← HW.out]
      have cb := (HA.out _ (Below.refl _ _)).1
      go_upto_region 2 with fail
      have hk1 := blk_new W0 (.cells #[] 35)
      have hA := (Below.refl W0.heap.size W0).alloc (Nat.le_refl _) (.cells #[] 35)
      obtain ⟨Z, hZ⟩ : ∃ Z, Z = W0.heap.size := ⟨_, rfl⟩
      have hT : W0.heap.size ≤ Z := by omega
      rw [← hZ] at hk1
      rw [← hZ]
      clear hZ cb
      revert hk1 hA
      generalize W0.alloc (.cells #[] 35) = W1
      intro hA hk1
      have cb := (HA.out _ hA).1
      have HN : Hid (∀ W, Below W1.heap.size W1 W → OwnSB W W0.heap.size (.slice (some ⟨Z, 0, none⟩) 0 0) [] []) := fun W hW => ⟨own_of_blk (size := 1) (n := 0) (cur := #[]) (blk_below hW (blk_lt hk1) hk1) hT (by simp) (by unfold maxLen; omega), by simp, by simp⟩
      have H1 := Lib.hid hA
      clear hk1 hA hT
      go_upto_region 5 with (go_at_call 17; ((with_reducible refine (CanScan_s _ c _ (HA.out _ (H1.out)).2.1).mono ?_); rintro e w1 ⟨rfl, hq⟩; rw [HX.out.2.1]; have HQ := Lib.hid (H1.out.trans (hq.mono H1.out.size)); have HM := Lib.hid hq; clear hq; (try clear cb); have cb := (HA.out _ HQ.out).1))
      go_loopw [5, 6] (fun v5 v6 wr => ∃ (j : Nat) (s5 : Option Addr) (c5 : Nat) (vs : List Value), j ≤ n ∧ v6 = .int .i64 ((n : Int) - 1 - j) ∧ v5 = .slice s5 j c5 ∧ OwnSB wr W0.heap.size (.slice s5 j c5) vs (scRows ni st j) ∧ Below W0.heap.size W0 wr) (fun _ v6 _ => (intOf v6 + 1).toNat)
      case atStart => exact ⟨0, _, _, [], Nat.zero_le _, by simp, rfl, HN.out _ HM.out, HQ.out⟩
      case round =>
        obtain ⟨j, s5, c5, vs, hj, rfl, rfl, ho, hb⟩ := hrel
        have HO := Lib.hid ho
        have HB := Lib.hid hb
        have cb := (HA.out _ hb).1
        clear ho hb
        by_cases hlt : j < n
        · obtain ⟨i, hi⟩ : ∃ i : Nat, (n : Int) - 1 - j = i := ⟨n - 1 - j, by omega⟩
          rw [hi]
          have hin : i < n := by omega
          obtain ⟨x, hx⟩ := get_of_lt (l := st) (k := i) (by have := HX.out.2.2; omega)
          obtain ⟨b, off, rfl, hbw, z0⟩ := HS.out.bool (HA.out _ HB.out).2.2 hx
          have HXI := Lib.hid (And.intro hx hi)
          have HC : Hid (∀ W, Below W0.heap.size W0 W → (∀ o, W.cell? ⟨w.heap.size, o, none⟩ = #[Value.int .i64 ni, .slice sn n cn, .slice sg c.gates.length cg, .slice so c.outs.length co][o]?) ∧ W.cell? ⟨b, off + i, none⟩ = some (.bool x)) := fun W hW =>
            ⟨(HA.out _ hW).1, by obtain ⟨b', off', e', -, z'⟩ := HS.out.bool (HA.out _ hW).2.2 hx; cases e'; exact z'⟩
          have hlen := scRows_length (n := ni) (st := st) (j := j) (by have := HX.out.2.2; omega)
          have HL := Lib.hid hlen
          clear hx hi z0 hlen cb hj
          have cb := (HC.out _ HB.out).1
          have hA := (Below.refl wr.heap.size wr).alloc (Nat.le_refl _) (.cells (bools (List.replicate ni false)).toArray 4)
          have hg := blk_new wr (.cells (bools (List.replicate ni false)).toArray 4)
          go_upto_region 8 with fail
          obtain ⟨G, hG⟩ : ∃ G, G = wr.heap.size := ⟨_, rfl⟩
          have hT : wr.heap.size ≤ G := by omega
          rw [← hG] at hg
          rw [← hG]
          clear hG
          revert hA hg
          generalize wr.alloc (.cells (bools (List.replicate ni false)).toArray 4) = W1
          intro hA hg
          have hrow : W1.ownsRow wr.heap.size 4 1 (.slice (some ⟨G, 0, none⟩) ni ni) ni (bools (List.replicate ni false)) := by
            have := own_of_blk (base := wr.heap.size) (size := 1) (n := ni) hg hT (by simp) (by unfold maxLen; omega)
            simpa using this
          have HOW := Lib.hid hrow
          have HD1 := Lib.hid hA
          clear hA hg hrow hT hmk cb
          obtain ⟨cb, z0⟩ := HC.out _ (HB.out.trans (HD1.out.mono HB.out.size))
          have HOX : Hid (∀ W, Below wr.heap.size wr W → W.ownsRow W0.heap.size 35 1 (.slice s5 j c5) j vs) := fun W hW => by
            have := (HO.out.below hW).out
            rwa [HL.out] at this
          go_wp2_with (first
            | (at_builtin; refine wpl_app rfl _ _ rfl elem_bool (own_below HOW.out ((Below.refl W1.heap.size W1).alloc (Nat.le_refl _) _)) rfl rfl (by simp) (Sl.new _ _ _) (by simp [Value.oneCell']) (ni + 2) rfl (bools (scRow ni x)) (by simp [scRow, bools]) (by unfold maxLen; omega) (by omega) (HD1.out.alloc HD1.out.size _).size ?_; intro s6 c6 W3 h6 hb6 hg6 hob; have hq6 := (HD1.out.alloc HD1.out.size (.cells #[.bool true, .bool x] 4)).trans hb6; have h6' : W3.ownsRow wr.heap.size 4 1 (.slice s6 (ni + 2) c6) (scRow ni x).length (bools (scRow ni x)) := (by rw [scRow_length]; exact h6); have HO6 := Lib.hid h6'; have HQ6 := Lib.hid hq6; clear h6 h6' hq6 hb6 hg6 hob)
            | (at_builtin; refine wpl_app rfl _ _ rfl elem_bss (HOX.out _ (HQ6.out.alloc HQ6.out.size _)) rfl rfl (by simp) (Sl.new _ _ _) (by simp [Value.oneCell']) (j + 1) rfl (vs ++ [.slice s6 (ni + 2) c6]) (by simp) (by unfold maxLen; omega) (by omega) (Nat.le_trans HB.out.size (HQ6.out.alloc HQ6.out.size _).size) ?_; intro s7 c7 W5 h7 hb7 hg7 hob7; have HQ7 := Lib.hid (HQ6.out.alloc HQ6.out.size (.cells #[.slice s6 (ni + 2) c6] 35)); have HR := Lib.hid (And.intro (show OwnSB W5 W0.heap.size (.slice s7 (j + 1) c7) (vs ++ [.slice s6 (ni + 2) c6]) (scRows ni st j ++ [scRow ni x]) from (HO.out.below HQ7.out).push (own_base (own_below HO6.out ((Below.refl W3.heap.size W3).alloc (Nat.le_refl _) _)) HB.out.size) (fun k u' hk hu e => by
                have h1 := (own_blk HO6.out hk).1
                obtain ⟨q, hq⟩ := List.mem_iff_getElem?.1 hu
                obtain ⟨r, hr⟩ := HO.out.rget hq
                have h2 := (own_blk (HO.out.row q u' r hq hr) e).2
                omega) hg7 (by rw [HL.out]; exact h7)) (show Below W0.heap.size W0 W5 from (HB.out.trans (HQ7.out.mono HB.out.size)).trans hb7)); clear h7 hb7 hg7 hob7))
          go_roundw
          case rel =>
            refine ⟨j + 1, s7, c7, vs ++ [.slice s6 (ni + 2) c6], by omega, ?_, rfl, ?_, HR.out.2⟩
            · have := HXI.out.2; go_num
            · rw [scRows_snoc (i := i) (by have := HXI.out.2; have := HX.out.2.2; omega) HXI.out.1]; exact HR.out.1
          case measure => simp [intOf]; try omega
        · obtain rfl : j = n := by omega
          go_wp2_with fail
          go_ret
          have e := HX.out.1
          have hl := scRows_length (n := ni) (st := st) (j := j) (by have := HX.out.2.2; omega)
          rw [e]
          exact ⟨s5, c5, by rw [hl]; rfl, HO.out.slb'  (by rw [hl]), (HA.out _ HB.out).2.2⟩
    · have e := scanR_no (c := c) (st := st) fun h => hln h.2
      rw [e]
      have HE := Lib.hid hok
      clear e hok
      go_enter Try.func22, Try.ntmps22
      go_upto_region 1 with fail
      rw [← HW.out]
      have cb := (HA.out _ (Below.refl _ _)).1
      go_upto_region 2 with fail
      have hk1 := blk_new W0 (.cells #[] 35)
      have hA := (Below.refl W0.heap.size W0).alloc (Nat.le_refl _) (.cells #[] 35)
      obtain ⟨Z, hZ⟩ : ∃ Z, Z = W0.heap.size := ⟨_, rfl⟩
      have hT : W0.heap.size ≤ Z := by omega
      rw [← hZ] at hk1
      rw [← hZ]
      clear hZ cb
      revert hk1 hA
      generalize W0.alloc (.cells #[] 35) = W1
      intro hA hk1
      have cb := (HA.out _ hA).1
      have HN : Hid (∀ W, Below W1.heap.size W1 W → OwnSB W W0.heap.size (.slice (some ⟨Z, 0, none⟩) 0 0) [] []) := fun W hW => ⟨own_of_blk (size := 1) (n := 0) (cur := #[]) (blk_below hW (blk_lt hk1) hk1) hT (by simp) (by unfold maxLen; omega), by simp, by simp⟩
      have H1 := Lib.hid hA
      clear hk1 hA hT
      go_wp2_with (go_at_call 17; ((with_reducible refine (CanScan_s _ c _ (HA.out _ (H1.out)).2.1).mono ?_); rintro e w1 ⟨rfl, hq⟩; rw [HE.out]; have HQ := Lib.hid (H1.out.trans (hq.mono H1.out.size)); clear hq; (try clear cb); have cb := (HA.out _ HQ.out).1))
      go_ret
      exact ⟨_, _, rfl, ⟨[], rfl, .inl rfl, by simp⟩, (HA.out _ HQ.out).2.2⟩
  · have e := scanR_no (c := c) (st := st) fun h => hok h.1
    rw [e]
    have HE := Lib.hid (show canScanB c = false from by simpa using hok)
    clear e hok
    go_enter Try.func22, Try.ntmps22
    go_upto_region 1 with fail
    rw [← HW.out]
    have cb := (HA.out _ (Below.refl _ _)).1
    go_upto_region 2 with fail
    have hk1 := blk_new W0 (.cells #[] 35)
    have hA := (Below.refl W0.heap.size W0).alloc (Nat.le_refl _) (.cells #[] 35)
    obtain ⟨Z, hZ⟩ : ∃ Z, Z = W0.heap.size := ⟨_, rfl⟩
    have hT : W0.heap.size ≤ Z := by omega
    rw [← hZ] at hk1
    rw [← hZ]
    clear hZ cb
    revert hk1 hA
    generalize W0.alloc (.cells #[] 35) = W1
    intro hA hk1
    have cb := (HA.out _ hA).1
    have HN : Hid (∀ W, Below W1.heap.size W1 W → OwnSB W W0.heap.size (.slice (some ⟨Z, 0, none⟩) 0 0) [] []) := fun W hW => ⟨own_of_blk (size := 1) (n := 0) (cur := #[]) (blk_below hW (blk_lt hk1) hk1) hT (by simp) (by unfold maxLen; omega), by simp, by simp⟩
    have H1 := Lib.hid hA
    clear hk1 hA hT
    go_wp2_with (go_at_call 17; ((with_reducible refine (CanScan_s _ c _ (HA.out _ (H1.out)).2.1).mono ?_); rintro e w1 ⟨rfl, hq⟩; rw [HE.out]; have HQ := Lib.hid (H1.out.trans (hq.mono H1.out.size)); clear hq; (try clear cb); have cb := (HA.out _ HQ.out).1))
    go_ret
    exact ⟨_, _, rfl, ⟨[], rfl, .inl rfl, by simp⟩, (HA.out _ HQ.out).2.2⟩

end Go.Proofs.Ytddmgphlhfilnab
