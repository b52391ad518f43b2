import Derived.Test.YtddmgphlhfilnaaBC
import Derived.Test.YtddmgphlhfilnaaBD
import Derived.Test.YtddmgphlhfilnaaR1
import Derived.Test.YtddmgphlhfilnaaV5
namespace Go.Proofs.Ytddmgphlhfilnaa
set_option linter.unusedVariables false
set_option linter.unusedSimpArgs false
open Go.RowKit

/-! BuildBdd of the program. -/

/-- The diagram that is built. -/
def bdR (c : Cir) (l : Int) : Bd := if tsOk c l then bdK (litF c l) (c.inp.toNat + c.next.length) else ⟨[], 0⟩
theorem bdR_no {c : Cir} {l : Int} (h : ¬ tsOk c l) : bdR c l = ⟨[], 0⟩ := by unfold bdR; rw [if_neg h]
theorem bdR_yes {c : Cir} {l : Int} (h : tsOk c l) : bdR c l = bdK (litF c l) (c.inp.toNat + c.next.length) := by unfold bdR; rw [if_pos h]
theorem bdR_len (c : Cir) (l : Int) : (bdR c l).nodes.length ≤ 200 := by
  by_cases h : tsOk c l
  · rw [bdR_yes h]
    obtain ⟨q1, q2, q3, q4, q5⟩ := (c.validB_iff.1 h.1).lim
    have := bdK_len (litF c l) (n := c.inp.toNat + c.next.length) (by omega)
    omega
  · rw [bdR_no h]; simp
theorem mkZZ (w : World) : (Instr.makeSlice 23 (.int .i64 2) (.int .i64 2)).run Try.prog w = .ok (.slice (some ⟨w.heap.size, 0, none⟩) 2 2) (w.alloc (.cells (ncells (zz [])).toArray 29)) := by
  have h := mkNd w 2 (by omega)
  rw [show madeCells #[Value.int .i64 0, .int .i64 0, .int .i64 0] (2 * 3) = (ncells (zz [])).toArray from by
    apply Array.ext'
    unfold madeCells
    rw [Array.toList_map, Array.toList_range]
    rfl] at h
  exact h
/-- The maker is laid. -/
def MkAt (W0 : World) (tb : List Bool) (n : Nat) (v : Value) (W : World) : Prop :=
  ∃ (b mb : Nat) (st : Option Addr) (ct : Nat) (vn : Value), v = .pointer (some ⟨b, 0, none⟩) ∧ BM W0 b mb st ct tb n W [] vn

set_option maxRecDepth 100000 in
set_option maxHeartbeats 3200000 in
theorem BuildBdd_i (v : Value) (c : Cir) (l : Int) (w : World) (h : CirV w v c) (hl : -9223372036854775808 ≤ l ∧ l ≤ 9223372036854775807) :
    Calls Try.prog 28 #[v, .int .i64 l] w fun e w' => ∃ s cap, e = .returned (.agg #[.slice s (bdR c l).nodes.length cap, .int .i64 (bdR c l).root]) ∧ w'.ownsRow w.heap.size 29 3 (.slice s (bdR c l).nodes.length cap) (bdR c l).nodes.length (ncells (bdR c l).nodes) ∧ Below w.heap.size w w' := by
  have HCV : Hid (∀ w', Below w.heap.size w w' → CirV w' v c) := fun w' hb => h.mono hb
  obtain ⟨sn, cn, sg, cg, so, co, rfl, h1, h2, h3, hl1, hl2, hl3⟩ := h
  have hL : Below w.heap.size w ((w.alloc (.cells #[.int .i64 c.inp, .slice sn c.next.length cn, .slice sg c.gates.length cg, .slice so c.outs.length co] 44)).alloc (.cells #[.slice none 0 0, .int .i64 0] 25)) := by go_grown
  have hN := blk_old (o := (.cells #[.slice none 0 0, .int .i64 0] 25)) (blk_new w (.cells #[.int .i64 c.inp, .slice sn c.next.length cn, .slice sg c.gates.length cg, .slice so c.outs.length co] 44))
  have hM : ((w.alloc (.cells #[.int .i64 c.inp, .slice sn c.next.length cn, .slice sg c.gates.length cg, .slice so c.outs.length co] 44)).alloc (.cells #[.slice none 0 0, .int .i64 0] 25)).heap[w.heap.size + 1]? = some (.cells #[.slice none 0 0, .int .i64 0] 25 (0, 0)) := blk_at (by simp)
  have hZ : ((w.alloc (.cells #[.int .i64 c.inp, .slice sn c.next.length cn, .slice sg c.gates.length cg, .slice so c.outs.length co] 44)).alloc (.cells #[.slice none 0 0, .int .i64 0] 25)).heap.size = w.heap.size + 2 := by simp
  have HL := Lib.hid (And.intro hL (And.intro hN (And.intro hM (And.intro hZ h2))))
  obtain ⟨k1, k2⟩ := hl
  clear hL hN hM hZ h1 h2 h3
  have hbad : ∀ (W : World), W.ownsRow (w.heap.size + 2) 29 3 (.slice none 0 0) 0 [] := fun W => World.ownsRow_nil _ _ _ _
  have HBad := Lib.hid hbad
  clear hbad
  cases hv : c.validB
  · have e : bdR c l = ⟨[], 0⟩ := bdR_no fun h => by rw [h.1] at hv; cases hv
    rw [e]
    have HE := Lib.hid hv
    clear hv e
    go_enter Try.func28, Try.ntmps28
    go_wp2_with (go_at_call 59; ((with_reducible refine (CircuitValid_i _ _ _ (HCV.out _ HL.out.1)).mono ?_); rintro e w1 ⟨rfl, hq⟩; have hm := blk_below hq (by have := HL.out.2.2.2.1; omega) HL.out.2.2.1; obtain ⟨rc, rf⟩ := blk_all hm; have HQ := Lib.hid (And.intro (HL.out.1.trans (hq.mono (by have := HL.out.2.2.2.1; omega))) hm); clear hq hm; rw [HE.out]))
    have hZ : ((w1.setCell ⟨w.heap.size + 1, 0, none⟩ (.slice none (0) 0)).setCell ⟨w.heap.size + 1, 1, none⟩ (.int .i64 0)).heap[w.heap.size + 1]? = some (.cells #[.slice none (0) 0, .int .i64 (0)] 25 (0, 0)) := by
      simpa using blk_set (o := 1) (v := .int .i64 (0)) (blk_set (o := 0) (v := .slice none (0) 0) HQ.out.2)
    have hR := own_set_ne (own_set_ne (b := w.heap.size + 1) (o := 0) (HBad.out w1) (by intro e; have := (own_blk (HBad.out w1) e).1; omega) (.slice none (0) 0)) (b := w.heap.size + 1) (o := 1) (by intro e; have := (own_blk (HBad.out w1) e).1; omega) (.int .i64 (0))
    have hB := (HQ.out.1.setCell (p := ⟨w.heap.size + 1, 0, none⟩) (by simp) (.slice none (0) 0)).setCell (p := ⟨w.heap.size + 1, 1, none⟩) (by simp) (.int .i64 (0))
    revert hZ hR hB
    generalize ((w1.setCell ⟨w.heap.size + 1, 0, none⟩ (.slice none (0) 0)).setCell ⟨w.heap.size + 1, 1, none⟩ (.int .i64 0)) = WZ
    intro hZ hR hB
    have cr := (blk_all hZ).1
    exact bodyPost_ret (v := .agg #[.slice none (0) 0, .int .i64 (0)]) (by simp [results, Try.results28, go_sem, cr]) rfl ⟨_, _, rfl, own_base hR (by omega), hB⟩
  · have hval := c.validB_iff.1 hv
    obtain ⟨f1, f2, f3, f4⟩ := valid_first hval
    obtain ⟨q1, q2, q3, q4, q5⟩ := id hval.lim
    have eC : c.first = 1 + c.inp + c.next.length := rfl
    obtain ⟨V, hV⟩ : ∃ V : Nat, c.vars = V := ⟨c.vars.toNat, by omega⟩
    obtain ⟨ni, hni⟩ : ∃ ni : Nat, c.inp = ni := ⟨c.inp.toNat, by omega⟩
    obtain ⟨N, hN⟩ : ∃ N, asgN c = N := ⟨_, rfl⟩
    have hN2 : N = 2 ^ (ni + c.next.length) := by rw [← hN]; unfold asgN; rw [hni, Int.toNat_natCast]
    have HN := Lib.hid hN
    have HN2 := Lib.hid hN2
    have n7 : ni + c.next.length ≤ 7 := by omega
    obtain ⟨M, hM⟩ : ∃ M, M = ni + c.next.length := ⟨_, rfl⟩
    rw [← hM] at hN2 HN2 n7
    have ww : IntKind.i64.wrap (c.inp + (c.next.length : Int)) = (M : Int) := by rw [IntWalk.i64_in _ ⟨by omega, by omega⟩]; omega
    have HM := Lib.hid hM
    have e2 : 1 + c.inp + (c.next.length : Int) + (c.gates.length : Int) = (V : Int) := hV
    have v22 : V ≤ 22 := by omega
    have HH := Lib.hid (And.intro hv (And.intro hval (And.intro hni (And.intro hV e2))))
    clear hv hval f1 f2 f3 f4 eC hV e2 hN hN2 hni hM
    by_cases hlit : 0 ≤ l ∧ l < 2 * (V : Int)
    · have e : bdR c l = bdK (litF c l) M := by
        rw [bdR_yes ⟨HH.out.1, by rw [HH.out.2.2.2.1]; exact hlit⟩, HH.out.2.2.1, Int.toNat_natCast, HM.out]
      have HD := Lib.hid (decide_eq_true hlit)
      obtain ⟨o1, o2⟩ := hlit
      have HE : Hid (l < 2 * c.vars) := by show _ < _; rw [HH.out.2.2.2.1]; exact o2
      obtain ⟨r, hr⟩ : ∃ r, r = bldK (litF c l) M 0 0 [] := ⟨_, rfl⟩
      have hd : bdK (litF c l) M = ⟨zz r.1, r.2⟩ := by rw [hr]; rfl
      have hlen := bldK_len (litF c l) M 0 0 []
      rw [← hr] at hlen
      have h7 : 2 ^ M ≤ 2 ^ 7 := Nat.pow_le_pow_right (by omega) n7
      have hrl : r.1.length ≤ 130 := by simp at hlen; omega
      have HRR := Lib.hid hr
      rw [e, hd]
      clear e hd hr hlen h7
      go_enter Try.func28, Try.ntmps28
      go_upto_region 3 with (first
        | (go_at_call 59; ((with_reducible refine (CircuitValid_i _ _ _ (HCV.out _ HL.out.1)).mono ?_); rintro e w1 ⟨rfl, hq⟩; have hm := blk_below hq (by have := HL.out.2.2.2.1; omega) HL.out.2.2.1; have HQ := Lib.hid (And.intro (HL.out.1.trans (hq.mono (by have := HL.out.2.2.2.1; omega))) (And.intro hm (blk_below hq (blk_lt HL.out.2.1) HL.out.2.1))); clear hq hm; rw [HH.out.1]))
        | (go_at_call 68; ((refine (vars_any _ _ _ _ _ _ _ _ _ _ (CirAt.of_blk HQ.out.2.2) (by omega) (by omega) (by omega)).mono ?_); rintro e w3 ⟨rfl, hd⟩; rw [HH.out.2.2.2.2]; have HQ := Lib.hid (And.intro (HQ.out.1.trans (hd.below _)) (And.intro (blk_below (hd.below _) (blk_lt HQ.out.2.1) HQ.out.2.1) (blk_below (hd.below _) (blk_lt HQ.out.2.2) HQ.out.2.2))); clear hd))
        | (go_at_call 67; ((refine (isLit_any _ _ _ (by omega)).mono ?_); rintro e w4 ⟨rfl, rfl⟩; rw [HD.out])))
      obtain ⟨W0, hW0⟩ : ∃ W, W = w3.drew := ⟨_, rfl⟩
      have hd0 : Below w3.heap.size w3 W0 := by rw [hW0]; exact (Below.refl _ _).drew
      have hsz0 : w.heap.size + 2 ≤ W0.heap.size := by have h1 := blk_lt HQ.out.2.1; have h2 := hd0.size; omega
      have hA := HQ.out.1.trans (hd0.mono HQ.out.1.size)
      have hA1 := blk_below hd0 (blk_lt HQ.out.2.1) HQ.out.2.1
      have hA2 := blk_below hd0 (blk_lt HQ.out.2.2) HQ.out.2.2
      have HC : Hid (∀ W, Below W0.heap.size W0 W → W.heap[w.heap.size]? = some (.cells #[.int .i64 c.inp, .slice sn c.next.length cn, .slice sg c.gates.length cg, .slice so c.outs.length co] 44 (0, 0)) ∧ Sl W sg (gcells c.gates)) := fun W hb => ⟨blk_below hb (blk_lt hA2) hA2, HL.out.2.2.2.2.mono (hA.trans (hb.mono (by omega)))⟩
      have HA := Lib.hid (And.intro hA (And.intro hA1 hW0))
      clear hA hA1 hA2 hd0 hW0 HQ
      have hmk := mkZZ
      have hmm : ∀ w, (Instr.makeMap 85 none).run Try.prog w = .ok (.map (some w.heap.size)) (w.alloc (.map #[] 0)) := fun w => by kernel_rfl
      have hbz := Below.refl W0.heap.size W0
      go_cut [5] from 18 to 28 (fun s5 wx => MkAt W0 (tabF (litF c l) N) M s5 wx)
      case first =>
        refine wp_region_T (fun w' => ∀ o, w'.cell? ⟨w.heap.size, o, none⟩ = #[Value.int .i64 c.inp, .slice sn c.next.length cn, .slice sg c.gates.length cg, .slice so c.outs.length co][o]?) (.q 0 (.q 2 (.q 3 (.q 4 (.q 5 (.q 6 (.q 7 (.thr 1 (.two 8 (.e 9 (.q 10 (.e 11 (.q 12 .nil)))) 9 (.e 8 (.q 10 (.e 11 (.q 12 .nil))))) 8 (.two 1 (.e 9 (.q 10 (.e 11 (.q 12 .nil)))) 9 (.e 1 (.q 10 (.e 11 (.q 12 .nil))))) 9 (.two 1 (.e 8 (.q 10 (.e 11 (.q 12 .nil)))) 8 (.e 1 (.q 10 (.e 11 (.q 12 .nil))))))))))))) (by kernel_rfl) (by kernel_rfl) (by kernel_rfl) (by rw [← HA.out.2.2]; exact (blk_all (HC.out _ hbz).1).1) ?_
        rw [← HA.out.2.2]
        repeat (first | (refine ordt_s (o := ?_) ?_ ?_ ?_; rotate_left 1; (focus ((simp only [List.getElem?_toArray, List.getElem?_cons_succ, List.getElem?_cons_zero]) <;> rfl)); (focus rfl); simp only [Act.put, List.setIfInBounds_toArray, List.set_cons_zero, List.set_cons_succ]) | (refine ordt_q (o := ?_) (v := ?_) ?_ ?_ ?_ ?_; rotate_left 2; (focus ((simp only [List.getElem?_toArray, List.getElem?_cons_succ, List.getElem?_cons_zero]) <;> rfl)); (focus rfl); (focus (intro w' hS; (try dsimp only at hS); go_split_ands; go_simp; (try (with_reducible rfl)))); simp only [Act.put, List.setIfInBounds_toArray, List.set_cons_zero, List.set_cons_succ]))
        refine ordt_thr ?_ ?_ ?_
        · (refine op_e (o := ?_) ?_ ?_ (fun K hK => ?_); rotate_left 1; (focus ((simp only [List.getElem?_toArray, List.getElem?_cons_succ, List.getElem?_cons_zero]) <;> rfl)); (focus rfl); go_simp)
          refine (litTable_any w.heap.size sn sg cn cg (.slice so c.outs.length co) c l W0 (CirAt.of_blk (HC.out _ hbz).1) (HC.out _ hbz).2 HH.out.2.1 o1 HE.out).mono ?_
          rintro e wx1 ⟨st, ct, rfl, ht, hq⟩
          rw [HN.out] at ht ⊢
          replace ht := own_base ht hbz.size
          have hbz := hbz.trans (hq.mono hbz.size)
          refine hK.out _ _ (blk_all (HC.out _ hbz).1).1 ?_
          clear hK K hq
          have HX := Lib.hid (And.intro hbz ht)
          clear hbz ht
          (try simp only [Act.put, List.setIfInBounds_toArray, List.set_cons_zero, List.set_cons_succ])
          obtain ⟨hbz, ht⟩ := HX.out
          clear HX
          refine ordt_two ?_ ?_
          · (refine op_e (o := ?_) ?_ ?_ (fun K hK => ?_); rotate_left 1; (focus ((simp only [List.getElem?_toArray, List.getElem?_cons_succ, List.getElem?_cons_zero]) <;> rfl)); (focus rfl); go_simp)
            obtain ⟨ns, hns⟩ : ∃ b, b = wx1.heap.size := ⟨_, rfl⟩
            have hnb : W0.heap.size ≤ ns := by rw [hns]; exact hbz.size
            have hq := (Below.refl wx1.heap.size wx1).alloc (Nat.le_refl _) (.cells (ncells (zz [])).toArray 29)
            have hs := blk_new wx1 (.cells (ncells (zz [])).toArray 29)
            rw [← hns] at hs
            rw [← hns]
            clear hns
            revert hq hs
            generalize wx1.alloc (.cells (ncells (zz [])).toArray 29) = wx2
            intro hq hs
            have ht := own_below ht hq
            have hbz := hbz.trans (hq.mono hbz.size)
            refine hK.out _ _ (blk_all (HC.out _ hbz).1).1 ?_
            clear hK K hq
            have HX := Lib.hid (And.intro hbz (And.intro ht hs))
            clear hbz ht hs
            (try simp only [Act.put, List.setIfInBounds_toArray, List.set_cons_zero, List.set_cons_succ])
            obtain ⟨hbz, ht, hs⟩ := HX.out
            clear HX
            refine ordt_e ?_
            (refine op_e (o := ?_) ?_ ?_ (fun K hK => ?_); rotate_left 1; (focus ((simp only [List.getElem?_toArray, List.getElem?_cons_succ, List.getElem?_cons_zero]) <;> rfl)); (focus rfl); go_simp)
            obtain ⟨mb, hmb⟩ : ∃ b, b = wx2.heap.size := ⟨_, rfl⟩
            have hmm : W0.heap.size ≤ mb := by rw [hmb]; exact hbz.size
            have hq := (Below.refl wx2.heap.size wx2).alloc (Nat.le_refl _) (.map #[] 0)
            have hm := MapN.new wx2
            rw [← hmb] at hm
            rw [← hmb]
            clear hmb
            revert hq hm
            generalize wx2.alloc (.map #[] 0) = wx3
            intro hq hm
            have ht := own_below ht hq
            have hs := blk_below hq (blk_lt hs) hs
            have hbz := hbz.trans (hq.mono hbz.size)
            refine hK.out _ _ (blk_all (HC.out _ hbz).1).1 ?_
            clear hK K hq
            have HX := Lib.hid (And.intro hbz (And.intro ht (And.intro hs hm)))
            clear hbz ht hs hm
            (try simp only [Act.put, List.setIfInBounds_toArray, List.set_cons_zero, List.set_cons_succ])
            obtain ⟨hbz, ht, hs, hm⟩ := HX.out
            clear HX
            repeat (first | (refine ordt_s (o := ?_) ?_ ?_ ?_; rotate_left 1; (focus ((simp only [List.getElem?_toArray, List.getElem?_cons_succ, List.getElem?_cons_zero]) <;> rfl)); (focus rfl); simp only [Act.put, List.setIfInBounds_toArray, List.set_cons_zero, List.set_cons_succ]) | (refine ordt_q (o := ?_) (v := ?_) ?_ ?_ ?_ ?_; rotate_left 2; (focus ((simp only [List.getElem?_toArray, List.getElem?_cons_succ, List.getElem?_cons_zero]) <;> rfl)); (focus rfl); (focus (intro w' hS; (try dsimp only at hS); go_split_ands; go_simp; (try (with_reducible rfl)))); simp only [Act.put, List.setIfInBounds_toArray, List.set_cons_zero, List.set_cons_succ]))
            refine ordt_e ?_
            (refine op_e (o := ?_) ?_ ?_ (fun K hK => ?_); rotate_left 1; (focus ((simp only [List.getElem?_toArray, List.getElem?_cons_succ, List.getElem?_cons_zero]) <;> rfl)); (focus rfl); go_simp)
            try rw [ww]
            obtain ⟨mk, hmk0⟩ : ∃ b, b = wx3.heap.size := ⟨_, rfl⟩
            have hmk1 : W0.heap.size ≤ mk := by rw [hmk0]; exact hbz.size
            have hq := (Below.refl wx3.heap.size wx3).alloc (Nat.le_refl _) (.cells #[.slice st N ct, .int .i64 (M : Int), .slice (some ⟨ns, 0, none⟩) 2 2, .map (some mb)] 87)
            have hk0 := blk_new wx3 (.cells #[.slice st N ct, .int .i64 (M : Int), .slice (some ⟨ns, 0, none⟩) 2 2, .map (some mb)] 87)
            rw [← hmk0] at hk0
            rw [← hmk0]
            clear hmk0
            revert hq hk0
            generalize wx3.alloc (.cells #[.slice st N ct, .int .i64 (M : Int), .slice (some ⟨ns, 0, none⟩) 2 2, .map (some mb)] 87) = wy
            intro hq hk0
            have hbm : BM W0 mk mb st ct (tabF (litF c l) N) M wy [] (.slice (some ⟨ns, 0, none⟩) 2 2) :=
              ⟨by rw [tabF_length]; exact hk0, own_of_blk (n := 2) (blk_below hq (blk_lt hs) hs) hnb (by rfl) (by unfold maxLen; omega), hm.below hq, by rw [tabF_length]; exact own_below ht hq, hbz.trans (hq.mono hbz.size), hmk1, hmm⟩
            refine hK.out _ _ (blk_all (HC.out _ hbm.bl).1).1 ?_
            clear hK K hq hk0 hs hm ht hbz
            have HBM := Lib.hid hbm
            clear hbm
            (try simp only [Act.put, List.setIfInBounds_toArray, List.set_cons_zero, List.set_cons_succ])
            repeat (first | (refine ordt_s (o := ?_) ?_ ?_ ?_; rotate_left 1; (focus ((simp only [List.getElem?_toArray, List.getElem?_cons_succ, List.getElem?_cons_zero]) <;> rfl)); (focus rfl); simp only [Act.put, List.setIfInBounds_toArray, List.set_cons_zero, List.set_cons_succ]) | (refine ordt_q (o := ?_) (v := ?_) ?_ ?_ ?_ ?_; rotate_left 2; (focus ((simp only [List.getElem?_toArray, List.getElem?_cons_succ, List.getElem?_cons_zero]) <;> rfl)); (focus rfl); (focus (intro w' hS; (try dsimp only at hS); go_split_ands; go_simp; (try (with_reducible rfl)))); simp only [Act.put, List.setIfInBounds_toArray, List.set_cons_zero, List.set_cons_succ]))
            refine ordt_nil ?_
            go_wp2_with fail
            go_meet
            exact ⟨mk, mb, st, ct, _, rfl, HBM.out⟩
          · (refine op_e (o := ?_) ?_ ?_ (fun K hK => ?_); rotate_left 1; (focus ((simp only [List.getElem?_toArray, List.getElem?_cons_succ, List.getElem?_cons_zero]) <;> rfl)); (focus rfl); go_simp)
            obtain ⟨mb, hmb⟩ : ∃ b, b = wx1.heap.size := ⟨_, rfl⟩
            have hmm : W0.heap.size ≤ mb := by rw [hmb]; exact hbz.size
            have hq := (Below.refl wx1.heap.size wx1).alloc (Nat.le_refl _) (.map #[] 0)
            have hm := MapN.new wx1
            rw [← hmb] at hm
            rw [← hmb]
            clear hmb
            revert hq hm
            generalize wx1.alloc (.map #[] 0) = wx2
            intro hq hm
            have ht := own_below ht hq
            have hbz := hbz.trans (hq.mono hbz.size)
            refine hK.out _ _ (blk_all (HC.out _ hbz).1).1 ?_
            clear hK K hq
            have HX := Lib.hid (And.intro hbz (And.intro ht hm))
            clear hbz ht hm
            (try simp only [Act.put, List.setIfInBounds_toArray, List.set_cons_zero, List.set_cons_succ])
            obtain ⟨hbz, ht, hm⟩ := HX.out
            clear HX
            refine ordt_e ?_
            (refine op_e (o := ?_) ?_ ?_ (fun K hK => ?_); rotate_left 1; (focus ((simp only [List.getElem?_toArray, List.getElem?_cons_succ, List.getElem?_cons_zero]) <;> rfl)); (focus rfl); go_simp)
            obtain ⟨ns, hns⟩ : ∃ b, b = wx2.heap.size := ⟨_, rfl⟩
            have hnb : W0.heap.size ≤ ns := by rw [hns]; exact hbz.size
            have hq := (Below.refl wx2.heap.size wx2).alloc (Nat.le_refl _) (.cells (ncells (zz [])).toArray 29)
            have hs := blk_new wx2 (.cells (ncells (zz [])).toArray 29)
            rw [← hns] at hs
            rw [← hns]
            clear hns
            revert hq hs
            generalize wx2.alloc (.cells (ncells (zz [])).toArray 29) = wx3
            intro hq hs
            have ht := own_below ht hq
            have hm := hm.below hq
            have hbz := hbz.trans (hq.mono hbz.size)
            refine hK.out _ _ (blk_all (HC.out _ hbz).1).1 ?_
            clear hK K hq
            have HX := Lib.hid (And.intro hbz (And.intro ht (And.intro hm hs)))
            clear hbz ht hm hs
            (try simp only [Act.put, List.setIfInBounds_toArray, List.set_cons_zero, List.set_cons_succ])
            obtain ⟨hbz, ht, hm, hs⟩ := HX.out
            clear HX
            repeat (first | (refine ordt_s (o := ?_) ?_ ?_ ?_; rotate_left 1; (focus ((simp only [List.getElem?_toArray, List.getElem?_cons_succ, List.getElem?_cons_zero]) <;> rfl)); (focus rfl); simp only [Act.put, List.setIfInBounds_toArray, List.set_cons_zero, List.set_cons_succ]) | (refine ordt_q (o := ?_) (v := ?_) ?_ ?_ ?_ ?_; rotate_left 2; (focus ((simp only [List.getElem?_toArray, List.getElem?_cons_succ, List.getElem?_cons_zero]) <;> rfl)); (focus rfl); (focus (intro w' hS; (try dsimp only at hS); go_split_ands; go_simp; (try (with_reducible rfl)))); simp only [Act.put, List.setIfInBounds_toArray, List.set_cons_zero, List.set_cons_succ]))
            refine ordt_e ?_
            (refine op_e (o := ?_) ?_ ?_ (fun K hK => ?_); rotate_left 1; (focus ((simp only [List.getElem?_toArray, List.getElem?_cons_succ, List.getElem?_cons_zero]) <;> rfl)); (focus rfl); go_simp)
            try rw [ww]
            obtain ⟨mk, hmk0⟩ : ∃ b, b = wx3.heap.size := ⟨_, rfl⟩
            have hmk1 : W0.heap.size ≤ mk := by rw [hmk0]; exact hbz.size
            have hq := (Below.refl wx3.heap.size wx3).alloc (Nat.le_refl _) (.cells #[.slice st N ct, .int .i64 (M : Int), .slice (some ⟨ns, 0, none⟩) 2 2, .map (some mb)] 87)
            have hk0 := blk_new wx3 (.cells #[.slice st N ct, .int .i64 (M : Int), .slice (some ⟨ns, 0, none⟩) 2 2, .map (some mb)] 87)
            rw [← hmk0] at hk0
            rw [← hmk0]
            clear hmk0
            revert hq hk0
            generalize wx3.alloc (.cells #[.slice st N ct, .int .i64 (M : Int), .slice (some ⟨ns, 0, none⟩) 2 2, .map (some mb)] 87) = wy
            intro hq hk0
            have hbm : BM W0 mk mb st ct (tabF (litF c l) N) M wy [] (.slice (some ⟨ns, 0, none⟩) 2 2) :=
              ⟨by rw [tabF_length]; exact hk0, own_of_blk (n := 2) (blk_below hq (blk_lt hs) hs) hnb (by rfl) (by unfold maxLen; omega), hm.below hq, by rw [tabF_length]; exact own_below ht hq, hbz.trans (hq.mono hbz.size), hmk1, hmm⟩
            refine hK.out _ _ (blk_all (HC.out _ hbm.bl).1).1 ?_
            clear hK K hq hk0 hs hm ht hbz
            have HBM := Lib.hid hbm
            clear hbm
            (try simp only [Act.put, List.setIfInBounds_toArray, List.set_cons_zero, List.set_cons_succ])
            repeat (first | (refine ordt_s (o := ?_) ?_ ?_ ?_; rotate_left 1; (focus ((simp only [List.getElem?_toArray, List.getElem?_cons_succ, List.getElem?_cons_zero]) <;> rfl)); (focus rfl); simp only [Act.put, List.setIfInBounds_toArray, List.set_cons_zero, List.set_cons_succ]) | (refine ordt_q (o := ?_) (v := ?_) ?_ ?_ ?_ ?_; rotate_left 2; (focus ((simp only [List.getElem?_toArray, List.getElem?_cons_succ, List.getElem?_cons_zero]) <;> rfl)); (focus rfl); (focus (intro w' hS; (try dsimp only at hS); go_split_ands; go_simp; (try (with_reducible rfl)))); simp only [Act.put, List.setIfInBounds_toArray, List.set_cons_zero, List.set_cons_succ]))
            refine ordt_nil ?_
            go_wp2_with fail
            go_meet
            exact ⟨mk, mb, st, ct, _, rfl, HBM.out⟩
        · (refine op_e (o := ?_) ?_ ?_ (fun K hK => ?_); rotate_left 1; (focus ((simp only [List.getElem?_toArray, List.getElem?_cons_succ, List.getElem?_cons_zero]) <;> rfl)); (focus rfl); go_simp)
          obtain ⟨ns, hns⟩ : ∃ b, b = W0.heap.size := ⟨_, rfl⟩
          have hnb : W0.heap.size ≤ ns := by rw [hns]; exact hbz.size
          have hq := (Below.refl W0.heap.size W0).alloc (Nat.le_refl _) (.cells (ncells (zz [])).toArray 29)
          have hs := blk_new W0 (.cells (ncells (zz [])).toArray 29)
          rw [← hns] at hs
          rw [← hns]
          clear hns
          revert hq hs
          generalize W0.alloc (.cells (ncells (zz [])).toArray 29) = wx1
          intro hq hs
          have hbz := hbz.trans (hq.mono hbz.size)
          refine hK.out _ _ (blk_all (HC.out _ hbz).1).1 ?_
          clear hK K hq
          have HX := Lib.hid (And.intro hbz hs)
          clear hbz hs
          (try simp only [Act.put, List.setIfInBounds_toArray, List.set_cons_zero, List.set_cons_succ])
          obtain ⟨hbz, hs⟩ := HX.out
          clear HX
          refine ordt_two ?_ ?_
          · (refine op_e (o := ?_) ?_ ?_ (fun K hK => ?_); rotate_left 1; (focus ((simp only [List.getElem?_toArray, List.getElem?_cons_succ, List.getElem?_cons_zero]) <;> rfl)); (focus rfl); go_simp)
            refine (litTable_any w.heap.size sn sg cn cg (.slice so c.outs.length co) c l wx1 (CirAt.of_blk (HC.out _ hbz).1) (HC.out _ hbz).2 HH.out.2.1 o1 HE.out).mono ?_
            rintro e wx2 ⟨st, ct, rfl, ht, hq⟩
            rw [HN.out] at ht ⊢
            replace ht := own_base ht hbz.size
            have hs := blk_below hq (blk_lt hs) hs
            have hbz := hbz.trans (hq.mono hbz.size)
            refine hK.out _ _ (blk_all (HC.out _ hbz).1).1 ?_
            clear hK K hq
            have HX := Lib.hid (And.intro hbz (And.intro hs ht))
            clear hbz hs ht
            (try simp only [Act.put, List.setIfInBounds_toArray, List.set_cons_zero, List.set_cons_succ])
            obtain ⟨hbz, hs, ht⟩ := HX.out
            clear HX
            refine ordt_e ?_
            (refine op_e (o := ?_) ?_ ?_ (fun K hK => ?_); rotate_left 1; (focus ((simp only [List.getElem?_toArray, List.getElem?_cons_succ, List.getElem?_cons_zero]) <;> rfl)); (focus rfl); go_simp)
            obtain ⟨mb, hmb⟩ : ∃ b, b = wx2.heap.size := ⟨_, rfl⟩
            have hmm : W0.heap.size ≤ mb := by rw [hmb]; exact hbz.size
            have hq := (Below.refl wx2.heap.size wx2).alloc (Nat.le_refl _) (.map #[] 0)
            have hm := MapN.new wx2
            rw [← hmb] at hm
            rw [← hmb]
            clear hmb
            revert hq hm
            generalize wx2.alloc (.map #[] 0) = wx3
            intro hq hm
            have hs := blk_below hq (blk_lt hs) hs
            have ht := own_below ht hq
            have hbz := hbz.trans (hq.mono hbz.size)
            refine hK.out _ _ (blk_all (HC.out _ hbz).1).1 ?_
            clear hK K hq
            have HX := Lib.hid (And.intro hbz (And.intro hs (And.intro ht hm)))
            clear hbz hs ht hm
            (try simp only [Act.put, List.setIfInBounds_toArray, List.set_cons_zero, List.set_cons_succ])
            obtain ⟨hbz, hs, ht, hm⟩ := HX.out
            clear HX
            repeat (first | (refine ordt_s (o := ?_) ?_ ?_ ?_; rotate_left 1; (focus ((simp only [List.getElem?_toArray, List.getElem?_cons_succ, List.getElem?_cons_zero]) <;> rfl)); (focus rfl); simp only [Act.put, List.setIfInBounds_toArray, List.set_cons_zero, List.set_cons_succ]) | (refine ordt_q (o := ?_) (v := ?_) ?_ ?_ ?_ ?_; rotate_left 2; (focus ((simp only [List.getElem?_toArray, List.getElem?_cons_succ, List.getElem?_cons_zero]) <;> rfl)); (focus rfl); (focus (intro w' hS; (try dsimp only at hS); go_split_ands; go_simp; (try (with_reducible rfl)))); simp only [Act.put, List.setIfInBounds_toArray, List.set_cons_zero, List.set_cons_succ]))
            refine ordt_e ?_
            (refine op_e (o := ?_) ?_ ?_ (fun K hK => ?_); rotate_left 1; (focus ((simp only [List.getElem?_toArray, List.getElem?_cons_succ, List.getElem?_cons_zero]) <;> rfl)); (focus rfl); go_simp)
            try rw [ww]
            obtain ⟨mk, hmk0⟩ : ∃ b, b = wx3.heap.size := ⟨_, rfl⟩
            have hmk1 : W0.heap.size ≤ mk := by rw [hmk0]; exact hbz.size
            have hq := (Below.refl wx3.heap.size wx3).alloc (Nat.le_refl _) (.cells #[.slice st N ct, .int .i64 (M : Int), .slice (some ⟨ns, 0, none⟩) 2 2, .map (some mb)] 87)
            have hk0 := blk_new wx3 (.cells #[.slice st N ct, .int .i64 (M : Int), .slice (some ⟨ns, 0, none⟩) 2 2, .map (some mb)] 87)
            rw [← hmk0] at hk0
            rw [← hmk0]
            clear hmk0
            revert hq hk0
            generalize wx3.alloc (.cells #[.slice st N ct, .int .i64 (M : Int), .slice (some ⟨ns, 0, none⟩) 2 2, .map (some mb)] 87) = wy
            intro hq hk0
            have hbm : BM W0 mk mb st ct (tabF (litF c l) N) M wy [] (.slice (some ⟨ns, 0, none⟩) 2 2) :=
              ⟨by rw [tabF_length]; exact hk0, own_of_blk (n := 2) (blk_below hq (blk_lt hs) hs) hnb (by rfl) (by unfold maxLen; omega), hm.below hq, by rw [tabF_length]; exact own_below ht hq, hbz.trans (hq.mono hbz.size), hmk1, hmm⟩
            refine hK.out _ _ (blk_all (HC.out _ hbm.bl).1).1 ?_
            clear hK K hq hk0 hs hm ht hbz
            have HBM := Lib.hid hbm
            clear hbm
            (try simp only [Act.put, List.setIfInBounds_toArray, List.set_cons_zero, List.set_cons_succ])
            repeat (first | (refine ordt_s (o := ?_) ?_ ?_ ?_; rotate_left 1; (focus ((simp only [List.getElem?_toArray, List.getElem?_cons_succ, List.getElem?_cons_zero]) <;> rfl)); (focus rfl); simp only [Act.put, List.setIfInBounds_toArray, List.set_cons_zero, List.set_cons_succ]) | (refine ordt_q (o := ?_) (v := ?_) ?_ ?_ ?_ ?_; rotate_left 2; (focus ((simp only [List.getElem?_toArray, List.getElem?_cons_succ, List.getElem?_cons_zero]) <;> rfl)); (focus rfl); (focus (intro w' hS; (try dsimp only at hS); go_split_ands; go_simp; (try (with_reducible rfl)))); simp only [Act.put, List.setIfInBounds_toArray, List.set_cons_zero, List.set_cons_succ]))
            refine ordt_nil ?_
            go_wp2_with fail
            go_meet
            exact ⟨mk, mb, st, ct, _, rfl, HBM.out⟩
          · (refine op_e (o := ?_) ?_ ?_ (fun K hK => ?_); rotate_left 1; (focus ((simp only [List.getElem?_toArray, List.getElem?_cons_succ, List.getElem?_cons_zero]) <;> rfl)); (focus rfl); go_simp)
            obtain ⟨mb, hmb⟩ : ∃ b, b = wx1.heap.size := ⟨_, rfl⟩
            have hmm : W0.heap.size ≤ mb := by rw [hmb]; exact hbz.size
            have hq := (Below.refl wx1.heap.size wx1).alloc (Nat.le_refl _) (.map #[] 0)
            have hm := MapN.new wx1
            rw [← hmb] at hm
            rw [← hmb]
            clear hmb
            revert hq hm
            generalize wx1.alloc (.map #[] 0) = wx2
            intro hq hm
            have hs := blk_below hq (blk_lt hs) hs
            have hbz := hbz.trans (hq.mono hbz.size)
            refine hK.out _ _ (blk_all (HC.out _ hbz).1).1 ?_
            clear hK K hq
            have HX := Lib.hid (And.intro hbz (And.intro hs hm))
            clear hbz hs hm
            (try simp only [Act.put, List.setIfInBounds_toArray, List.set_cons_zero, List.set_cons_succ])
            obtain ⟨hbz, hs, hm⟩ := HX.out
            clear HX
            refine ordt_e ?_
            (refine op_e (o := ?_) ?_ ?_ (fun K hK => ?_); rotate_left 1; (focus ((simp only [List.getElem?_toArray, List.getElem?_cons_succ, List.getElem?_cons_zero]) <;> rfl)); (focus rfl); go_simp)
            refine (litTable_any w.heap.size sn sg cn cg (.slice so c.outs.length co) c l wx2 (CirAt.of_blk (HC.out _ hbz).1) (HC.out _ hbz).2 HH.out.2.1 o1 HE.out).mono ?_
            rintro e wx3 ⟨st, ct, rfl, ht, hq⟩
            rw [HN.out] at ht ⊢
            replace ht := own_base ht hbz.size
            have hs := blk_below hq (blk_lt hs) hs
            have hm := hm.below hq
            have hbz := hbz.trans (hq.mono hbz.size)
            refine hK.out _ _ (blk_all (HC.out _ hbz).1).1 ?_
            clear hK K hq
            have HX := Lib.hid (And.intro hbz (And.intro hs (And.intro hm ht)))
            clear hbz hs hm ht
            (try simp only [Act.put, List.setIfInBounds_toArray, List.set_cons_zero, List.set_cons_succ])
            obtain ⟨hbz, hs, hm, ht⟩ := HX.out
            clear HX
            repeat (first | (refine ordt_s (o := ?_) ?_ ?_ ?_; rotate_left 1; (focus ((simp only [List.getElem?_toArray, List.getElem?_cons_succ, List.getElem?_cons_zero]) <;> rfl)); (focus rfl); simp only [Act.put, List.setIfInBounds_toArray, List.set_cons_zero, List.set_cons_succ]) | (refine ordt_q (o := ?_) (v := ?_) ?_ ?_ ?_ ?_; rotate_left 2; (focus ((simp only [List.getElem?_toArray, List.getElem?_cons_succ, List.getElem?_cons_zero]) <;> rfl)); (focus rfl); (focus (intro w' hS; (try dsimp only at hS); go_split_ands; go_simp; (try (with_reducible rfl)))); simp only [Act.put, List.setIfInBounds_toArray, List.set_cons_zero, List.set_cons_succ]))
            refine ordt_e ?_
            (refine op_e (o := ?_) ?_ ?_ (fun K hK => ?_); rotate_left 1; (focus ((simp only [List.getElem?_toArray, List.getElem?_cons_succ, List.getElem?_cons_zero]) <;> rfl)); (focus rfl); go_simp)
            try rw [ww]
            obtain ⟨mk, hmk0⟩ : ∃ b, b = wx3.heap.size := ⟨_, rfl⟩
            have hmk1 : W0.heap.size ≤ mk := by rw [hmk0]; exact hbz.size
            have hq := (Below.refl wx3.heap.size wx3).alloc (Nat.le_refl _) (.cells #[.slice st N ct, .int .i64 (M : Int), .slice (some ⟨ns, 0, none⟩) 2 2, .map (some mb)] 87)
            have hk0 := blk_new wx3 (.cells #[.slice st N ct, .int .i64 (M : Int), .slice (some ⟨ns, 0, none⟩) 2 2, .map (some mb)] 87)
            rw [← hmk0] at hk0
            rw [← hmk0]
            clear hmk0
            revert hq hk0
            generalize wx3.alloc (.cells #[.slice st N ct, .int .i64 (M : Int), .slice (some ⟨ns, 0, none⟩) 2 2, .map (some mb)] 87) = wy
            intro hq hk0
            have hbm : BM W0 mk mb st ct (tabF (litF c l) N) M wy [] (.slice (some ⟨ns, 0, none⟩) 2 2) :=
              ⟨by rw [tabF_length]; exact hk0, own_of_blk (n := 2) (blk_below hq (blk_lt hs) hs) hnb (by rfl) (by unfold maxLen; omega), hm.below hq, by rw [tabF_length]; exact own_below ht hq, hbz.trans (hq.mono hbz.size), hmk1, hmm⟩
            refine hK.out _ _ (blk_all (HC.out _ hbm.bl).1).1 ?_
            clear hK K hq hk0 hs hm ht hbz
            have HBM := Lib.hid hbm
            clear hbm
            (try simp only [Act.put, List.setIfInBounds_toArray, List.set_cons_zero, List.set_cons_succ])
            repeat (first | (refine ordt_s (o := ?_) ?_ ?_ ?_; rotate_left 1; (focus ((simp only [List.getElem?_toArray, List.getElem?_cons_succ, List.getElem?_cons_zero]) <;> rfl)); (focus rfl); simp only [Act.put, List.setIfInBounds_toArray, List.set_cons_zero, List.set_cons_succ]) | (refine ordt_q (o := ?_) (v := ?_) ?_ ?_ ?_ ?_; rotate_left 2; (focus ((simp only [List.getElem?_toArray, List.getElem?_cons_succ, List.getElem?_cons_zero]) <;> rfl)); (focus rfl); (focus (intro w' hS; (try dsimp only at hS); go_split_ands; go_simp; (try (with_reducible rfl)))); simp only [Act.put, List.setIfInBounds_toArray, List.set_cons_zero, List.set_cons_succ]))
            refine ordt_nil ?_
            go_wp2_with fail
            go_meet
            exact ⟨mk, mb, st, ct, _, rfl, HBM.out⟩
        · (refine op_e (o := ?_) ?_ ?_ (fun K hK => ?_); rotate_left 1; (focus ((simp only [List.getElem?_toArray, List.getElem?_cons_succ, List.getElem?_cons_zero]) <;> rfl)); (focus rfl); go_simp)
          obtain ⟨mb, hmb⟩ : ∃ b, b = W0.heap.size := ⟨_, rfl⟩
          have hmm : W0.heap.size ≤ mb := by rw [hmb]; exact hbz.size
          have hq := (Below.refl W0.heap.size W0).alloc (Nat.le_refl _) (.map #[] 0)
          have hm := MapN.new W0
          rw [← hmb] at hm
          rw [← hmb]
          clear hmb
          revert hq hm
          generalize W0.alloc (.map #[] 0) = wx1
          intro hq hm
          have hbz := hbz.trans (hq.mono hbz.size)
          refine hK.out _ _ (blk_all (HC.out _ hbz).1).1 ?_
          clear hK K hq
          have HX := Lib.hid (And.intro hbz hm)
          clear hbz hm
          (try simp only [Act.put, List.setIfInBounds_toArray, List.set_cons_zero, List.set_cons_succ])
          obtain ⟨hbz, hm⟩ := HX.out
          clear HX
          refine ordt_two ?_ ?_
          · (refine op_e (o := ?_) ?_ ?_ (fun K hK => ?_); rotate_left 1; (focus ((simp only [List.getElem?_toArray, List.getElem?_cons_succ, List.getElem?_cons_zero]) <;> rfl)); (focus rfl); go_simp)
            refine (litTable_any w.heap.size sn sg cn cg (.slice so c.outs.length co) c l wx1 (CirAt.of_blk (HC.out _ hbz).1) (HC.out _ hbz).2 HH.out.2.1 o1 HE.out).mono ?_
            rintro e wx2 ⟨st, ct, rfl, ht, hq⟩
            rw [HN.out] at ht ⊢
            replace ht := own_base ht hbz.size
            have hm := hm.below hq
            have hbz := hbz.trans (hq.mono hbz.size)
            refine hK.out _ _ (blk_all (HC.out _ hbz).1).1 ?_
            clear hK K hq
            have HX := Lib.hid (And.intro hbz (And.intro hm ht))
            clear hbz hm ht
            (try simp only [Act.put, List.setIfInBounds_toArray, List.set_cons_zero, List.set_cons_succ])
            obtain ⟨hbz, hm, ht⟩ := HX.out
            clear HX
            refine ordt_e ?_
            (refine op_e (o := ?_) ?_ ?_ (fun K hK => ?_); rotate_left 1; (focus ((simp only [List.getElem?_toArray, List.getElem?_cons_succ, List.getElem?_cons_zero]) <;> rfl)); (focus rfl); go_simp)
            obtain ⟨ns, hns⟩ : ∃ b, b = wx2.heap.size := ⟨_, rfl⟩
            have hnb : W0.heap.size ≤ ns := by rw [hns]; exact hbz.size
            have hq := (Below.refl wx2.heap.size wx2).alloc (Nat.le_refl _) (.cells (ncells (zz [])).toArray 29)
            have hs := blk_new wx2 (.cells (ncells (zz [])).toArray 29)
            rw [← hns] at hs
            rw [← hns]
            clear hns
            revert hq hs
            generalize wx2.alloc (.cells (ncells (zz [])).toArray 29) = wx3
            intro hq hs
            have hm := hm.below hq
            have ht := own_below ht hq
            have hbz := hbz.trans (hq.mono hbz.size)
            refine hK.out _ _ (blk_all (HC.out _ hbz).1).1 ?_
            clear hK K hq
            have HX := Lib.hid (And.intro hbz (And.intro hm (And.intro ht hs)))
            clear hbz hm ht hs
            (try simp only [Act.put, List.setIfInBounds_toArray, List.set_cons_zero, List.set_cons_succ])
            obtain ⟨hbz, hm, ht, hs⟩ := HX.out
            clear HX
            repeat (first | (refine ordt_s (o := ?_) ?_ ?_ ?_; rotate_left 1; (focus ((simp only [List.getElem?_toArray, List.getElem?_cons_succ, List.getElem?_cons_zero]) <;> rfl)); (focus rfl); simp only [Act.put, List.setIfInBounds_toArray, List.set_cons_zero, List.set_cons_succ]) | (refine ordt_q (o := ?_) (v := ?_) ?_ ?_ ?_ ?_; rotate_left 2; (focus ((simp only [List.getElem?_toArray, List.getElem?_cons_succ, List.getElem?_cons_zero]) <;> rfl)); (focus rfl); (focus (intro w' hS; (try dsimp only at hS); go_split_ands; go_simp; (try (with_reducible rfl)))); simp only [Act.put, List.setIfInBounds_toArray, List.set_cons_zero, List.set_cons_succ]))
            refine ordt_e ?_
            (refine op_e (o := ?_) ?_ ?_ (fun K hK => ?_); rotate_left 1; (focus ((simp only [List.getElem?_toArray, List.getElem?_cons_succ, List.getElem?_cons_zero]) <;> rfl)); (focus rfl); go_simp)
            try rw [ww]
            obtain ⟨mk, hmk0⟩ : ∃ b, b = wx3.heap.size := ⟨_, rfl⟩
            have hmk1 : W0.heap.size ≤ mk := by rw [hmk0]; exact hbz.size
            have hq := (Below.refl wx3.heap.size wx3).alloc (Nat.le_refl _) (.cells #[.slice st N ct, .int .i64 (M : Int), .slice (some ⟨ns, 0, none⟩) 2 2, .map (some mb)] 87)
            have hk0 := blk_new wx3 (.cells #[.slice st N ct, .int .i64 (M : Int), .slice (some ⟨ns, 0, none⟩) 2 2, .map (some mb)] 87)
            rw [← hmk0] at hk0
            rw [← hmk0]
            clear hmk0
            revert hq hk0
            generalize wx3.alloc (.cells #[.slice st N ct, .int .i64 (M : Int), .slice (some ⟨ns, 0, none⟩) 2 2, .map (some mb)] 87) = wy
            intro hq hk0
            have hbm : BM W0 mk mb st ct (tabF (litF c l) N) M wy [] (.slice (some ⟨ns, 0, none⟩) 2 2) :=
              ⟨by rw [tabF_length]; exact hk0, own_of_blk (n := 2) (blk_below hq (blk_lt hs) hs) hnb (by rfl) (by unfold maxLen; omega), hm.below hq, by rw [tabF_length]; exact own_below ht hq, hbz.trans (hq.mono hbz.size), hmk1, hmm⟩
            refine hK.out _ _ (blk_all (HC.out _ hbm.bl).1).1 ?_
            clear hK K hq hk0 hs hm ht hbz
            have HBM := Lib.hid hbm
            clear hbm
            (try simp only [Act.put, List.setIfInBounds_toArray, List.set_cons_zero, List.set_cons_succ])
            repeat (first | (refine ordt_s (o := ?_) ?_ ?_ ?_; rotate_left 1; (focus ((simp only [List.getElem?_toArray, List.getElem?_cons_succ, List.getElem?_cons_zero]) <;> rfl)); (focus rfl); simp only [Act.put, List.setIfInBounds_toArray, List.set_cons_zero, List.set_cons_succ]) | (refine ordt_q (o := ?_) (v := ?_) ?_ ?_ ?_ ?_; rotate_left 2; (focus ((simp only [List.getElem?_toArray, List.getElem?_cons_succ, List.getElem?_cons_zero]) <;> rfl)); (focus rfl); (focus (intro w' hS; (try dsimp only at hS); go_split_ands; go_simp; (try (with_reducible rfl)))); simp only [Act.put, List.setIfInBounds_toArray, List.set_cons_zero, List.set_cons_succ]))
            refine ordt_nil ?_
            go_wp2_with fail
            go_meet
            exact ⟨mk, mb, st, ct, _, rfl, HBM.out⟩
          · (refine op_e (o := ?_) ?_ ?_ (fun K hK => ?_); rotate_left 1; (focus ((simp only [List.getElem?_toArray, List.getElem?_cons_succ, List.getElem?_cons_zero]) <;> rfl)); (focus rfl); go_simp)
            obtain ⟨ns, hns⟩ : ∃ b, b = wx1.heap.size := ⟨_, rfl⟩
            have hnb : W0.heap.size ≤ ns := by rw [hns]; exact hbz.size
            have hq := (Below.refl wx1.heap.size wx1).alloc (Nat.le_refl _) (.cells (ncells (zz [])).toArray 29)
            have hs := blk_new wx1 (.cells (ncells (zz [])).toArray 29)
            rw [← hns] at hs
            rw [← hns]
            clear hns
            revert hq hs
            generalize wx1.alloc (.cells (ncells (zz [])).toArray 29) = wx2
            intro hq hs
            have hm := hm.below hq
            have hbz := hbz.trans (hq.mono hbz.size)
            refine hK.out _ _ (blk_all (HC.out _ hbz).1).1 ?_
            clear hK K hq
            have HX := Lib.hid (And.intro hbz (And.intro hm hs))
            clear hbz hm hs
            (try simp only [Act.put, List.setIfInBounds_toArray, List.set_cons_zero, List.set_cons_succ])
            obtain ⟨hbz, hm, hs⟩ := HX.out
            clear HX
            refine ordt_e ?_
            (refine op_e (o := ?_) ?_ ?_ (fun K hK => ?_); rotate_left 1; (focus ((simp only [List.getElem?_toArray, List.getElem?_cons_succ, List.getElem?_cons_zero]) <;> rfl)); (focus rfl); go_simp)
            refine (litTable_any w.heap.size sn sg cn cg (.slice so c.outs.length co) c l wx2 (CirAt.of_blk (HC.out _ hbz).1) (HC.out _ hbz).2 HH.out.2.1 o1 HE.out).mono ?_
            rintro e wx3 ⟨st, ct, rfl, ht, hq⟩
            rw [HN.out] at ht ⊢
            replace ht := own_base ht hbz.size
            have hm := hm.below hq
            have hs := blk_below hq (blk_lt hs) hs
            have hbz := hbz.trans (hq.mono hbz.size)
            refine hK.out _ _ (blk_all (HC.out _ hbz).1).1 ?_
            clear hK K hq
            have HX := Lib.hid (And.intro hbz (And.intro hm (And.intro hs ht)))
            clear hbz hm hs ht
            (try simp only [Act.put, List.setIfInBounds_toArray, List.set_cons_zero, List.set_cons_succ])
            obtain ⟨hbz, hm, hs, ht⟩ := HX.out
            clear HX
            repeat (first | (refine ordt_s (o := ?_) ?_ ?_ ?_; rotate_left 1; (focus ((simp only [List.getElem?_toArray, List.getElem?_cons_succ, List.getElem?_cons_zero]) <;> rfl)); (focus rfl); simp only [Act.put, List.setIfInBounds_toArray, List.set_cons_zero, List.set_cons_succ]) | (refine ordt_q (o := ?_) (v := ?_) ?_ ?_ ?_ ?_; rotate_left 2; (focus ((simp only [List.getElem?_toArray, List.getElem?_cons_succ, List.getElem?_cons_zero]) <;> rfl)); (focus rfl); (focus (intro w' hS; (try dsimp only at hS); go_split_ands; go_simp; (try (with_reducible rfl)))); simp only [Act.put, List.setIfInBounds_toArray, List.set_cons_zero, List.set_cons_succ]))
            refine ordt_e ?_
            (refine op_e (o := ?_) ?_ ?_ (fun K hK => ?_); rotate_left 1; (focus ((simp only [List.getElem?_toArray, List.getElem?_cons_succ, List.getElem?_cons_zero]) <;> rfl)); (focus rfl); go_simp)
            try rw [ww]
            obtain ⟨mk, hmk0⟩ : ∃ b, b = wx3.heap.size := ⟨_, rfl⟩
            have hmk1 : W0.heap.size ≤ mk := by rw [hmk0]; exact hbz.size
            have hq := (Below.refl wx3.heap.size wx3).alloc (Nat.le_refl _) (.cells #[.slice st N ct, .int .i64 (M : Int), .slice (some ⟨ns, 0, none⟩) 2 2, .map (some mb)] 87)
            have hk0 := blk_new wx3 (.cells #[.slice st N ct, .int .i64 (M : Int), .slice (some ⟨ns, 0, none⟩) 2 2, .map (some mb)] 87)
            rw [← hmk0] at hk0
            rw [← hmk0]
            clear hmk0
            revert hq hk0
            generalize wx3.alloc (.cells #[.slice st N ct, .int .i64 (M : Int), .slice (some ⟨ns, 0, none⟩) 2 2, .map (some mb)] 87) = wy
            intro hq hk0
            have hbm : BM W0 mk mb st ct (tabF (litF c l) N) M wy [] (.slice (some ⟨ns, 0, none⟩) 2 2) :=
              ⟨by rw [tabF_length]; exact hk0, own_of_blk (n := 2) (blk_below hq (blk_lt hs) hs) hnb (by rfl) (by unfold maxLen; omega), hm.below hq, by rw [tabF_length]; exact own_below ht hq, hbz.trans (hq.mono hbz.size), hmk1, hmm⟩
            refine hK.out _ _ (blk_all (HC.out _ hbm.bl).1).1 ?_
            clear hK K hq hk0 hs hm ht hbz
            have HBM := Lib.hid hbm
            clear hbm
            (try simp only [Act.put, List.setIfInBounds_toArray, List.set_cons_zero, List.set_cons_succ])
            repeat (first | (refine ordt_s (o := ?_) ?_ ?_ ?_; rotate_left 1; (focus ((simp only [List.getElem?_toArray, List.getElem?_cons_succ, List.getElem?_cons_zero]) <;> rfl)); (focus rfl); simp only [Act.put, List.setIfInBounds_toArray, List.set_cons_zero, List.set_cons_succ]) | (refine ordt_q (o := ?_) (v := ?_) ?_ ?_ ?_ ?_; rotate_left 2; (focus ((simp only [List.getElem?_toArray, List.getElem?_cons_succ, List.getElem?_cons_zero]) <;> rfl)); (focus rfl); (focus (intro w' hS; (try dsimp only at hS); go_split_ands; go_simp; (try (with_reducible rfl)))); simp only [Act.put, List.setIfInBounds_toArray, List.set_cons_zero, List.set_cons_succ]))
            refine ordt_nil ?_
            go_wp2_with fail
            go_meet
            exact ⟨mk, mb, st, ct, _, rfl, HBM.out⟩
      case rest =>
        obtain ⟨b, mb, st, ct, vn, rfl, hbm⟩ := hcut
        have HB := Lib.hid hbm
        have hbu := build_any W0 b mb st ct (tabF (litF c l) N) M n7 (by rw [tabF_length]; exact HN2.out) M 0 0 [] vn _ hbm (by omega) (by simp) (by have h7 : 2 ^ M ≤ 2 ^ 7 := Nat.pow_le_pow_right (by omega) n7; simp; omega)
        have hcg : bldK (fun j => (tabF (litF c l) N).getD j false) M 0 0 [] = bldK (litF c l) M 0 0 [] := bldK_congr _ _ _ _ _ _ (by simp) (fun y hy => tabF_getD _ (by rw [HN2.out]; simpa using hy))
        rw [hcg] at hbu
        rw [← HRR.out, show (((0 : Nat)) : Int) = 0 from rfl] at hbu
        have HBU := Lib.hid hbu
        clear hbm hbu hcg hbz hmk hmm
        go_wp2_with (go_at_call 70; ((with_reducible refine HBU.out.mono ?_); rintro e w5 ⟨vn5, rfl, h5⟩; obtain ⟨s5, c5, rfl⟩ := h5.shape; have H5 := Lib.hid h5; have cb := (blk_all h5.blk).1; have hm := blk_below h5.bl (blk_lt HA.out.2.1) HA.out.2.1; obtain ⟨rc, rf⟩ := blk_all hm; have HM := Lib.hid hm; clear h5 hm))
        have hRO := H5.out.own
        have hBL := HA.out.1.trans (H5.out.bl.mono (by omega))
        have hZ : ((w5.setCell ⟨w.heap.size + 1, 0, none⟩ (.slice s5 (r.1.length + 2) c5)).setCell ⟨w.heap.size + 1, 1, none⟩ (.int .i64 r.2)).heap[w.heap.size + 1]? = some (.cells #[.slice s5 (r.1.length + 2) c5, .int .i64 (r.2)] 25 (0, 0)) := by
          simpa using blk_set (o := 1) (v := .int .i64 (r.2)) (blk_set (o := 0) (v := .slice s5 (r.1.length + 2) c5) HM.out)
        have hR := own_set_ne (own_set_ne (b := w.heap.size + 1) (o := 0) hRO (by intro e; have := (own_blk hRO e).1; omega) (.slice s5 (r.1.length + 2) c5)) (b := w.heap.size + 1) (o := 1) (by intro e; have := (own_blk hRO e).1; omega) (.int .i64 (r.2))
        have hB := (hBL.setCell (p := ⟨w.heap.size + 1, 0, none⟩) (by simp) (.slice s5 (r.1.length + 2) c5)).setCell (p := ⟨w.heap.size + 1, 1, none⟩) (by simp) (.int .i64 (r.2))
        revert hZ hR hB
        generalize ((w5.setCell ⟨w.heap.size + 1, 0, none⟩ (.slice s5 (r.1.length + 2) c5)).setCell ⟨w.heap.size + 1, 1, none⟩ (.int .i64 r.2)) = WZ
        intro hZ hR hB
        have cr := (blk_all hZ).1
        exact bodyPost_ret (v := .agg #[.slice s5 (r.1.length + 2) c5, .int .i64 (r.2)]) (by simp [results, Try.results28, go_sem, cr]) rfl ⟨_, _, rfl, own_base hR (by omega), hB⟩
    · have e : bdR c l = ⟨[], 0⟩ := bdR_no fun h => hlit (by rw [← HH.out.2.2.2.1]; exact h.2)
      have HD := Lib.hid (decide_eq_false hlit)
      rw [e]
      clear e hlit
      go_enter Try.func28, Try.ntmps28
      go_wp2_with (first
        | (go_at_call 59; ((with_reducible refine (CircuitValid_i _ _ _ (HCV.out _ HL.out.1)).mono ?_); rintro e w1 ⟨rfl, hq⟩; have hm := blk_below hq (by have := HL.out.2.2.2.1; omega) HL.out.2.2.1; have HQ := Lib.hid (And.intro (HL.out.1.trans (hq.mono (by have := HL.out.2.2.2.1; omega))) (And.intro hm (blk_below hq (blk_lt HL.out.2.1) HL.out.2.1))); clear hq hm; rw [HH.out.1]))
        | (go_at_call 68; ((refine (vars_any _ _ _ _ _ _ _ _ _ _ (CirAt.of_blk HQ.out.2.2) (by omega) (by omega) (by omega)).mono ?_); rintro e w3 ⟨rfl, hd⟩; rw [HH.out.2.2.2.2]; have HQ := Lib.hid (And.intro (HQ.out.1.trans (hd.below _)) (And.intro (blk_below (hd.below _) (blk_lt HQ.out.2.1) HQ.out.2.1) (blk_below (hd.below _) (blk_lt HQ.out.2.2) HQ.out.2.2))); obtain ⟨rc, rf⟩ := blk_all HQ.out.2.1; clear hd))
        | (go_at_call 67; ((refine (isLit_any _ _ _ (by omega)).mono ?_); rintro e w4 ⟨rfl, rfl⟩; rw [HD.out])))
      have hZ : ((w3.setCell ⟨w.heap.size + 1, 0, none⟩ (.slice none (0) 0)).setCell ⟨w.heap.size + 1, 1, none⟩ (.int .i64 0)).heap[w.heap.size + 1]? = some (.cells #[.slice none (0) 0, .int .i64 (0)] 25 (0, 0)) := by
        simpa using blk_set (o := 1) (v := .int .i64 (0)) (blk_set (o := 0) (v := .slice none (0) 0) HQ.out.2.1)
      have hR := own_set_ne (own_set_ne (b := w.heap.size + 1) (o := 0) (HBad.out w3) (by intro e; have := (own_blk (HBad.out w3) e).1; omega) (.slice none (0) 0)) (b := w.heap.size + 1) (o := 1) (by intro e; have := (own_blk (HBad.out w3) e).1; omega) (.int .i64 (0))
      have hB := (HQ.out.1.setCell (p := ⟨w.heap.size + 1, 0, none⟩) (by simp) (.slice none (0) 0)).setCell (p := ⟨w.heap.size + 1, 1, none⟩) (by simp) (.int .i64 (0))
      revert hZ hR hB
      generalize ((w3.setCell ⟨w.heap.size + 1, 0, none⟩ (.slice none (0) 0)).setCell ⟨w.heap.size + 1, 1, none⟩ (.int .i64 0)) = WZ
      intro hZ hR hB
      have cr := (blk_all hZ).1
      exact bodyPost_ret (v := .agg #[.slice none (0) 0, .int .i64 (0)]) (by simp [results, Try.results28, go_sem, cr]) rfl ⟨_, _, rfl, own_base hR (by omega), hB⟩

/-! The nodes of a diagram, made by the reference. -/

theorem fdK_hit {x : Nd} : ∀ {Ks : List Nd} {i : Nat}, fdK (Ks.take i) x = none → Ks[i]? = some x → fdK Ks x = some i
  | [], i, _, h => by simp at h
  | y :: ys, 0, _, h => by
    simp at h
    unfold fdK; rw [if_pos h.symm]
  | y :: ys, i + 1, h0, h => by
    rw [List.take_succ_cons] at h0
    unfold fdK at h0 ⊢
    by_cases e : x = y
    · rw [if_pos e] at h0; cases h0
    · rw [if_neg e, Option.map_eq_none_iff] at h0
      rw [if_neg e, fdK_hit h0 (by simpa using h)]; rfl
theorem fdK_miss {x y : Nd} : ∀ {Ks : List Nd} {i : Nat}, fdK (Ks.take i) x = none → Ks[i]? = some y → x ≠ y → fdK (Ks.take (i + 1)) x = none
  | [], i, _, h, _ => by simp at h
  | z :: ys, 0, _, h, hne => by
    simp at h; subst h
    simp [fdK, hne]
  | z :: ys, i + 1, h0, h, hne => by
    rw [List.take_succ_cons] at h0 ⊢
    unfold fdK at h0 ⊢
    by_cases e : x = z
    · rw [if_pos e] at h0; cases h0
    · rw [if_neg e, Option.map_eq_none_iff] at h0
      rw [if_neg e, Option.map_eq_none_iff]
      exact fdK_miss h0 (by simpa using h) hne
def MkPost (w : World) (r : List Nd × Int) (e : Ending) (w' : World) : Prop :=
  ∃ s c, e = .returned (.tuple #[.slice s (r.1.length + 2) c, .int .i64 r.2]) ∧ Sl w' s (ncells (zz r.1)) ∧ Below w.heap.size w w'
theorem ncells_one (gs : List Nd) : ∀ u ∈ ncells gs, u.oneCell' = true := by
  intro u hu
  unfold ncells at hu
  rw [List.mem_flatMap] at hu
  obtain ⟨g, _, hg⟩ := hu
  simp [Nd.cells] at hg
  rcases hg with rfl | rfl | rfl <;> rfl

set_option maxHeartbeats 1600000 in
theorem l14Make_any (s : Option Addr) (cap : Nat) (Ks : List Nd) (v lo hi : Int) (w : World) (h : Sl w s (ncells (zz Ks))) (hl : Ks.length ≤ 1000) :
    Calls Try.prog 92 #[.slice s (Ks.length + 2) cap, .int .i64 v, .int .i64 lo, .int .i64 hi] w (MkPost w (mkK Ks v lo hi)) := by
  have H := Lib.hid h
  clear h
  by_cases hlh : lo = hi
  · subst hlh
    go_enter Try.func92, Try.ntmps92
    go_wp2
    exact bodyPost_ret (v := .tuple #[.slice s (Ks.length + 2) cap, .int .i64 lo]) (by simp [results, Try.results92, go_sem]) rfl ⟨_, _, by rw [mkK_eq rfl], by rw [mkK_eq rfl]; exact H.out, Below.refl _ _⟩
  · have hne : (lo == hi) = false := beq_eq_false_iff_ne.2 hlh
    go_enter Try.func92, Try.ntmps92
    go_wp2
    go_loop [10] (fun i => ∃ k : Nat, k ≤ Ks.length ∧ i = .int .i64 ((k : Int) + 2) ∧ fdK (Ks.take k) ⟨v, lo, hi⟩ = none) (fun i => Ks.length + 2 - (intOf i).toNat)
    case atStart => exact ⟨0, Nat.zero_le _, rfl, rfl⟩
    case round =>
      obtain ⟨k, hk, rfl, hf⟩ := hrel
      have HF := Lib.hid hf
      clear hf
      by_cases hlt : k < Ks.length
      · obtain ⟨g, hg⟩ := get_of_lt hlt
        obtain ⟨b, off, rfl, hbw, z1, z2, z3⟩ := H.out.node (Below.refl _ _) (k := k + 2) (g := g) (by rw [zz_get]; exact hg)
        have HG := Lib.hid hg
        clear hg
        by_cases e : (⟨v, lo, hi⟩ : Nd) = g
        · subst e
          have e := fdK_hit HF.out HG.out
          have HE := Lib.hid e
          clear e
          go_wp2
          exact bodyPost_ret (v := .tuple #[.slice (some ⟨b, off, none⟩) (Ks.length + 2) cap, .int .i64 ((k : Int) + 2)]) (by simp [results, Try.results92, go_sem]) rfl ⟨_, _, by rw [mkK_old hlh HE.out]; rfl, by rw [mkK_old hlh HE.out]; exact H.out, Below.refl _ _⟩
        · have HE := Lib.hid e
          clear e
          go_wp2
          all_goals first
            | (exfalso; apply HE.out; refine Nd.ext' ?_ ?_ ?_ <;> simp at * <;> omega)
            | skip
          all_goals
            go_round
            case rel => exact ⟨k + 1, by omega, by go_num, fdK_miss HF.out HG.out HE.out⟩
            case measure => simp [intOf]; omega
      · obtain rfl : k = Ks.length := by omega
        have hf := HF.out
        rw [List.take_length] at hf
        have HF2 := Lib.hid hf
        clear hf
        go_upto_region 8 with fail
        have hb1 := (Below.refl w.heap.size w).alloc (Nat.le_refl _) (.cells #[] 29)
        have ho := own_of_blk (base := w.heap.size) (size := 3) (n := 0) (cur := #[]) (blk_new w (.cells #[] 29)) (Nat.le_refl _) (by simp) (by unfold maxLen; omega)
        have hsz : w.heap.size ≤ (w.alloc (.cells #[] 29)).heap.size := by simp
        have HA := Lib.hid (And.intro hb1 (And.intro ho hsz))
        clear hb1 ho hsz
        go_wp2_with (first
          | (at_builtin; refine wpl_app rfl _ _ rfl elem_node HA.out.2.1 rfl rfl (by rw [ncells_length]; simp [zz_length]; omega) (H.out.mono HA.out.1) (ncells_one _) (Ks.length + 2) (by omega) (ncells (zz Ks)) (by simp) (by unfold maxLen; omega) (by omega) HA.out.2.2 ?_; intro s6 c6 w6 h6 hb6 _ _; have HB := Lib.hid (And.intro h6 (HA.out.1.trans hb6)); clear h6 hb6)
          | (at_builtin; refine wpl_app rfl _ _ rfl elem_node (own_below HB.out.1 ((Below.refl _ _).alloc (Nat.le_refl _) _)) rfl rfl rfl (Sl.new _ _ _) (by simp [Value.oneCell']) (Ks.length + 2 + 1) rfl (ncells (zz (Ks ++ [⟨v, lo, hi⟩]))) (by rw [zz_app, ← ncells_append]; rfl) (by unfold maxLen; omega) (by omega) (by have := HB.out.2.size; simp; omega) ?_; intro s7 c7 w7 h7 hb7 _ _; have HC := Lib.hid (And.intro h7 ((HB.out.2.alloc HB.out.2.size _).trans hb7)); clear h7 hb7))
        exact bodyPost_ret (v := .tuple #[.slice s7 (Ks.length + 2 + 1) c7, .int .i64 ((Ks.length : Int) + 2)]) (by simp [results, Try.results92, go_sem]) rfl ⟨s7, c7, by rw [mkK_new hlh HF2.out]; simp, by rw [mkK_new hlh HF2.out]; exact own_sl HC.out.1, HC.out.2⟩

/-! The diagram of the reference. -/

theorem l2LitN_any (s : Option Addr) (vs : List Bool) (n cap : Nat) (l : Int) (w : World) (hn : n = vs.length) (h : Sl w s (bools vs)) (h0 : 0 ≤ l) (h1 : l ≤ 1000000) (h2 : l / 2 < n) :
    Calls Try.prog 91 #[.slice s n cap, .int .i64 l] w fun e w' => e = .returned (.bool (litB vs l)) ∧ w = w' := by
  subst hn; exact l2Lit_any s vs cap l w h h0 h1 h2

set_option maxRecDepth 100000 in
set_option maxHeartbeats 3200000 in
theorem l14Build_any (sn sg so : Option Addr) (cn cg co : Nat) (c : Cir) (l : Int) (ni : Nat) (hni : c.inp = ni) (hv : c.valid) (l0 : 0 ≤ l) (l2 : l < 2 * c.vars) :
    ∀ (d v x : Nat) (Ks : List Nd) (s : Option Addr) (cap : Nat) (w : World), CirV w (.agg #[.int .i64 ni, .slice sn c.next.length cn, .slice sg c.gates.length cg, .slice so c.outs.length co]) c → Sl w s (ncells (zz Ks)) → v + d = ni + c.next.length → x < 2 ^ v → Ks.length + 2 ^ d ≤ 1000 →
    Calls Try.prog 64 #[.agg #[.int .i64 ni, .slice sn c.next.length cn, .slice sg c.gates.length cg, .slice so c.outs.length co], .int .i64 l, .slice s (Ks.length + 2) cap, .int .i64 (v : Int), .int .i64 (x : Int)] w (MkPost w (bldK (litF c l) d v x Ks)) := by
  obtain ⟨f1, f2, f3, f4⟩ := valid_first hv
  obtain ⟨q1, q2, q3, q4, q5⟩ := id hv.lim
  have eF : c.first = 1 + c.inp + c.next.length := rfl
  have n4 : ni ≤ 4 := by omega
  have l3 : l ≤ 100 := by omega
  have hEl : ∀ x, l / 2 < ((evalV c x (-1) false).length : Int) := fun x => by have := evalV_length c x (-1) false; omega
  have HE := Lib.hid hEl
  have HV := Lib.hid (And.intro hv hni)
  clear hEl hv hni f1 f2 f3 f4 eF l2 q1 q2
  intro d
  induction d with
  | zero =>
    intro v x Ks s cap w h hs hvd hx hl
    have hb0 : Below w.heap.size w (w.alloc (.cells #[.int .i64 ni, .slice sn c.next.length cn, .slice sg c.gates.length cg, .slice so c.outs.length co] 44)) := (Below.refl _ _).alloc (Nat.le_refl _) _
    have hk0 := blk_new w (.cells #[.int .i64 ni, .slice sn c.next.length cn, .slice sg c.gates.length cg, .slice so c.outs.length co] 44)
    have HC : Hid (∀ W, Below w.heap.size w W → CirV W (.agg #[.int .i64 ni, .slice sn c.next.length cn, .slice sg c.gates.length cg, .slice so c.outs.length co]) c ∧ Sl W s (ncells (zz Ks))) := fun W hW => ⟨h.mono hW, hs.mono hW⟩
    have HB0 := Lib.hid (And.intro hb0 hk0)
    have hx7 : x < 128 := Nat.lt_of_lt_of_le hx (Nat.le_trans (Nat.pow_le_pow_right (by omega) (show v ≤ 7 by omega)) (by decide))
    have hkpw : (1 : Int) ≤ 2 ^ ni := by have : (0 : Int) < 2 ^ ni := Int.pow_pos (by decide); omega
    have d0 : 0 ≤ (x : Int) / 2 ^ ni := Int.ediv_nonneg (by omega) (by omega)
    have d1 : (x : Int) / 2 ^ ni ≤ 1000000 := Int.le_trans (Int.ediv_le_self _ (by omega)) (by omega)
    obtain rfl : v = ni + c.next.length := by omega
    clear h hs hb0 hk0 hx hl hkpw hvd
    have hvn : (((ni + c.next.length : Nat)) : Int) = (ni : Int) + (c.next.length : Int) := by omega
    rw [hvn]
    clear hvn
    go_enter Try.func64, Try.ntmps64
    go_upto_region 1 with fail
    revert HB0
    generalize w.alloc (.cells #[.int .i64 ni, .slice sn c.next.length cn, .slice sg c.gates.length cg, .slice so c.outs.length co] 44) = W1
    intro HB0
    have cb := (blk_all HB0.out.2).1
    go_upto_region 3 with fail
    clear cb
    have hd0 := (Below.refl W1.heap.size W1).drew
    have hs1 := HB0.out.1.size
    have hlt := blk_lt HB0.out.2
    refine wp_region_T (fun w' => ∀ o, w'.cell? ⟨w.heap.size, o, none⟩ = #[Value.int .i64 ni, .slice sn c.next.length cn, .slice sg c.gates.length cg, .slice so c.outs.length co][o]?) (.q 0 (.q 1 (.q 2 (.q 3 (.q 4 (.q 5 (.q 6 (.q 7 (.q 9 (.q 10 (.q 11 (.e 8 (.e 12 (.e 13 (.q 14 .nil))))))))))))))) (by kernel_rfl) (by kernel_rfl) (by kernel_rfl) (blk_all (blk_below hd0 hlt HB0.out.2)).1 ?_
    repeat (first | (refine ordt_s (o := ?_) ?_ ?_ ?_; rotate_left 1; (focus ((simp only [List.getElem?_toArray, List.getElem?_cons_succ, List.getElem?_cons_zero]) <;> rfl)); (focus rfl); simp only [Act.put, List.setIfInBounds_toArray, List.set_cons_zero, List.set_cons_succ]) | (refine ordt_q (o := ?_) (v := ?_) ?_ ?_ ?_ ?_; rotate_left 2; (focus ((simp only [List.getElem?_toArray, List.getElem?_cons_succ, List.getElem?_cons_zero]) <;> rfl)); (focus rfl); (focus (intro w' hS; (try dsimp only at hS); go_split_ands; go_simp; (try (with_reducible rfl)))); simp only [Act.put, List.setIfInBounds_toArray, List.set_cons_zero, List.set_cons_succ]))
    refine ordt_e ?_
    (refine op_e (o := ?_) ?_ ?_ (fun K hK => ?_); rotate_left 1; (focus ((simp only [List.getElem?_toArray, List.getElem?_cons_succ, List.getElem?_cons_zero]) <;> rfl)); (focus rfl); go_simp)
    refine (l4Bits_any _ _ _ d0 d1 (by omega)).mono ?_
    rintro e wa ⟨sa, ca, rfl, ha, hqa⟩
    have hba : Below W1.heap.size W1 wa := hd0.trans hqa
    refine hK.out _ _ (blk_all (blk_below hba hlt HB0.out.2)).1 ?_
    clear hK K hqa
    have HA := Lib.hid (And.intro hba ha)
    have hsa := hba.size
    clear hba ha
    (try simp only [Act.put, List.setIfInBounds_toArray, List.set_cons_zero, List.set_cons_succ])
    repeat (first | (refine ordt_s (o := ?_) ?_ ?_ ?_; rotate_left 1; (focus ((simp only [List.getElem?_toArray, List.getElem?_cons_succ, List.getElem?_cons_zero]) <;> rfl)); (focus rfl); simp only [Act.put, List.setIfInBounds_toArray, List.set_cons_zero, List.set_cons_succ]) | (refine ordt_q (o := ?_) (v := ?_) ?_ ?_ ?_ ?_; rotate_left 2; (focus ((simp only [List.getElem?_toArray, List.getElem?_cons_succ, List.getElem?_cons_zero]) <;> rfl)); (focus rfl); (focus (intro w' hS; (try dsimp only at hS); go_split_ands; go_simp; (try (with_reducible rfl)))); simp only [Act.put, List.setIfInBounds_toArray, List.set_cons_zero, List.set_cons_succ]))
    refine ordt_e ?_
    (refine op_e (o := ?_) ?_ ?_ (fun K hK => ?_); rotate_left 1; (focus ((simp only [List.getElem?_toArray, List.getElem?_cons_succ, List.getElem?_cons_zero]) <;> rfl)); (focus rfl); go_simp)
    refine (l4Bits_any _ _ _ (by omega) (by omega) (by omega)).mono ?_
    rintro e wb ⟨sb, cb, rfl, hb, hqb⟩
    have hbb : Below W1.heap.size W1 wb := HA.out.1.trans (hqb.mono hsa)
    refine hK.out _ _ (blk_all (blk_below hbb hlt HB0.out.2)).1 ?_
    clear hK K
    have HB := Lib.hid (And.intro hbb (And.intro hb (HA.out.2.mono hqb)))
    have hsb := hbb.size
    clear hbb hb hqb
    (try simp only [Act.put, List.setIfInBounds_toArray, List.set_cons_zero, List.set_cons_succ])
    refine ordt_e ?_
    (refine op_e (o := ?_) ?_ ?_ (fun K hK => ?_); rotate_left 1; (focus ((simp only [List.getElem?_toArray, List.getElem?_cons_succ, List.getElem?_cons_zero]) <;> rfl)); (focus rfl); go_simp)
    refine (l2Values_any _ c sa sb ca cb (bitsV ((x : Int) / 2 ^ ni) c.next.length) (bitsV x ni) _ (HC.out _ (HB0.out.1.trans (HB.out.1.mono hs1))).1 HV.out.1 HB.out.2.2 HB.out.2.1 (bitsV_length _ _) ni (bitsV_length _ _) HV.out.2).mono ?_
    rintro e wd ⟨sd, nd, cd, rfl, hnd, hd, hqd⟩
    rw [evalV_asg c x ni HV.out.2] at hnd hd
    have hbd : Below W1.heap.size W1 wd := HB.out.1.trans (hqd.mono hsb)
    refine hK.out _ _ (blk_all (blk_below hbd hlt HB0.out.2)).1 ?_
    clear hK K
    have ndl : l / 2 < nd := by rw [hnd]; exact HE.out _
    have HD := Lib.hid (And.intro (HB0.out.1.trans (hbd.mono hs1)) (And.intro hd hnd))
    clear hbd hd hqd hnd hd0
    (try simp only [Act.put, List.setIfInBounds_toArray, List.set_cons_zero, List.set_cons_succ])
    repeat (first | (refine ordt_s (o := ?_) ?_ ?_ ?_; rotate_left 1; (focus ((simp only [List.getElem?_toArray, List.getElem?_cons_succ, List.getElem?_cons_zero]) <;> rfl)); (focus rfl); simp only [Act.put, List.setIfInBounds_toArray, List.set_cons_zero, List.set_cons_succ]) | (refine ordt_q (o := ?_) (v := ?_) ?_ ?_ ?_ ?_; rotate_left 2; (focus ((simp only [List.getElem?_toArray, List.getElem?_cons_succ, List.getElem?_cons_zero]) <;> rfl)); (focus rfl); (focus (intro w' hS; (try dsimp only at hS); go_split_ands; go_simp; (try (with_reducible rfl)))); simp only [Act.put, List.setIfInBounds_toArray, List.set_cons_zero, List.set_cons_succ]))
    refine ordt_nil ?_
    obtain ⟨y, hy⟩ : ∃ y, y = litF c l x := ⟨_, rfl⟩
    have hY := Lib.hid hy
    clear hy
    go_upto_region 5 with (go_at_call 91; ((with_reducible refine (l2LitN_any _ _ _ _ l _ HD.out.2.2 HD.out.2.1 l0 (by omega) ndl).mono ?_); rintro e w3 ⟨rfl, rfl⟩; rw [show litB (evalV c (x : Int) (-1) false) l = y from hY.out.symm]; cases y))
    all_goals go_wp2_with fail
    · exact bodyPost_ret (v := .tuple #[.slice s (Ks.length + 2) cap, .int .i64 0]) (by simp [results, Try.results64, go_sem]) rfl ⟨s, cap, by unfold bldK; rw [← hY.out]; rfl, (HC.out _ HD.out.1).2, HD.out.1⟩
    · exact bodyPost_ret (v := .tuple #[.slice s (Ks.length + 2) cap, .int .i64 1]) (by simp [results, Try.results64, go_sem]) rfl ⟨s, cap, by unfold bldK; rw [← hY.out]; rfl, (HC.out _ HD.out.1).2, HD.out.1⟩
  | succ d ih =>
    intro v x Ks s cap w h hs hvd hx hl
    have hb0 : Below w.heap.size w (w.alloc (.cells #[.int .i64 ni, .slice sn c.next.length cn, .slice sg c.gates.length cg, .slice so c.outs.length co] 44)) := (Below.refl _ _).alloc (Nat.le_refl _) _
    have hk0 := blk_new w (.cells #[.int .i64 ni, .slice sn c.next.length cn, .slice sg c.gates.length cg, .slice so c.outs.length co] 44)
    have HC : Hid (∀ W, Below w.heap.size w W → CirV W (.agg #[.int .i64 ni, .slice sn c.next.length cn, .slice sg c.gates.length cg, .slice so c.outs.length co]) c ∧ Sl W s (ncells (zz Ks))) := fun W hW => ⟨h.mono hW, hs.mono hW⟩
    have HB0 := Lib.hid (And.intro hb0 hk0)
    have hvn : v < ni + c.next.length := by omega
    have v7 : v ≤ 6 := by omega
    have hx7 : x < 128 := Nat.lt_of_lt_of_le hx (Nat.le_trans (Nat.pow_le_pow_right (by omega) (show v ≤ 7 by omega)) (by decide))
    have hs2 : 2 ^ (d + 1) = 2 ^ d + 2 ^ d := by rw [Nat.pow_succ]; omega
    have hx1 : x < 2 ^ (v + 1) := by rw [Nat.pow_succ]; omega
    have hx2 : x + 2 ^ v < 2 ^ (v + 1) := by rw [Nat.pow_succ]; omega
    have hl1 := bldK_len (litF c l) d (v + 1) x Ks
    have hl2 := bldK_len (litF c l) d (v + 1) (x + 2 ^ v) (bldK (litF c l) d (v + 1) x Ks).1
    have he : bldK (litF c l) (d + 1) v x Ks = mkK (bldK (litF c l) d (v + 1) (x + 2 ^ v) (bldK (litF c l) d (v + 1) x Ks).1).1 v (bldK (litF c l) d (v + 1) x Ks).2 (bldK (litF c l) d (v + 1) (x + 2 ^ v) (bldK (litF c l) d (v + 1) x Ks).1).2 := rfl
    have ih1 := fun w h hs => ih (v + 1) x Ks s cap w h hs (by omega) hx1 (by omega)
    have ih2 := fun s cap w h hs => ih (v + 1) (x + 2 ^ v) (bldK (litF c l) d (v + 1) x Ks).1 s cap w h hs (by omega) hx2 (by omega)
    obtain ⟨r1, hr1⟩ : ∃ r, r = bldK (litF c l) d (v + 1) x Ks := ⟨_, rfl⟩
    rw [← hr1] at hl1 hl2 he ih1 ih2
    obtain ⟨r2, hr2⟩ : ∃ r, r = bldK (litF c l) d (v + 1) (x + 2 ^ v) r1.1 := ⟨_, rfl⟩
    rw [← hr2] at hl2 he ih2
    rw [he]
    obtain ⟨K1, lo⟩ := r1
    obtain ⟨K2, hi⟩ := r2
    simp only at hl1 hl2 ih1 ih2 ⊢
    obtain ⟨P, hP⟩ : ∃ P : Int, P = 2 ^ v := ⟨_, rfl⟩
    have p1 : 1 ≤ P := by have : (0 : Int) < 2 ^ v := Int.pow_pos (by decide); omega
    have p2 : P ≤ 128 := by
      have h7 : (2 : Nat) ^ v ≤ 2 ^ 7 := Nat.pow_le_pow_right (by omega) (by omega)
      have e : (2 : Int) ^ v = ((2 ^ v : Nat) : Int) := by simp
      rw [hP, e]; omega
    have ww1 : IntKind.i64.wrap ((v : Int) + 1) = (v : Int) + 1 := IntWalk.i64_in _ ⟨by omega, by omega⟩
    have ww2 : IntKind.i64.wrap (2 ^ v) = P := by rw [← hP]; exact IntWalk.i64_in _ ⟨by omega, by omega⟩
    have ww3 : IntKind.i64.wrap ((x : Int) + P) = (x : Int) + P := IntWalk.i64_in _ ⟨by omega, by omega⟩
    have ev : (((v + 1 : Nat)) : Int) = (v : Int) + 1 := by omega
    have ev2 : (((x + 2 ^ v : Nat)) : Int) = (x : Int) + P := by rw [hP]; simp
    rw [ev] at ih1 ih2
    rw [ev2] at ih2
    have K2l : K2.length ≤ 1000 := by omega
    have HI1 := Lib.hid ih1
    have HI2 := Lib.hid ih2
    clear h hs hb0 hk0 ih ih1 ih2 he hr1 hr2 hl1 hl2 hx1 hx2 hl ev ev2 hs2 hx hP hvd
    go_enter Try.func64, Try.ntmps64
    go_upto_region 1 with fail
    revert HB0
    generalize w.alloc (.cells #[.int .i64 ni, .slice sn c.next.length cn, .slice sg c.gates.length cg, .slice so c.outs.length co] 44) = W1
    intro HB0
    have cb := (blk_all HB0.out.2).1
    go_upto_region 8 with (go_at_call 64; ((with_reducible refine (HI1.out _ (HC.out _ HB0.out.1).1 (HC.out _ HB0.out.1).2).mono ?_); rintro e w2 ⟨s1, c1, rfl, h1, hq⟩; have H2 := Lib.hid (And.intro (blk_below hq (blk_lt HB0.out.2) HB0.out.2) (And.intro (HB0.out.1.trans (hq.mono HB0.out.1.size)) h1)); clear h1 hq cb; have cb := (blk_all H2.out.1).1))
    clear cb
    have hd0 := (Below.refl w2.heap.size w2).drew
    have hlt := blk_lt H2.out.1
    refine wp_region_T (fun w' => ∀ o, w'.cell? ⟨w.heap.size, o, none⟩ = #[Value.int .i64 ni, .slice sn c.next.length cn, .slice sg c.gates.length cg, .slice so c.outs.length co][o]?) (.q 0 (.q 1 (.q 2 (.q 3 (.q 4 (.q 5 (.q 6 (.q 7 (.q 8 (.e 9 (.q 10 (.q 11 (.q 12 (.q 13 (.q 14 .nil))))))))))))))) (by kernel_rfl) (by kernel_rfl) (by kernel_rfl) (blk_all (blk_below hd0 hlt H2.out.1)).1 ?_
    repeat (first | (refine ordt_s (o := ?_) ?_ ?_ ?_; rotate_left 1; (focus ((simp only [List.getElem?_toArray, List.getElem?_cons_succ, List.getElem?_cons_zero]) <;> rfl)); (focus rfl); simp only [Act.put, List.setIfInBounds_toArray, List.set_cons_zero, List.set_cons_succ]) | (refine ordt_q (o := ?_) (v := ?_) ?_ ?_ ?_ ?_; rotate_left 2; (focus ((simp only [List.getElem?_toArray, List.getElem?_cons_succ, List.getElem?_cons_zero]) <;> rfl)); (focus rfl); (focus (intro w' hS; (try dsimp only at hS); go_split_ands; go_simp; (try (with_reducible rfl)))); simp only [Act.put, List.setIfInBounds_toArray, List.set_cons_zero, List.set_cons_succ]))
    refine ordt_e ?_
    (refine op_e (o := ?_) ?_ ?_ (fun K hK => ?_); rotate_left 1; (focus ((simp only [List.getElem?_toArray, List.getElem?_cons_succ, List.getElem?_cons_zero]) <;> rfl)); (focus rfl); go_simp)
    skip
    refine (HI2.out _ _ _ (HC.out _ (H2.out.2.1.trans (hd0.mono H2.out.2.1.size))).1 (H2.out.2.2.mono hd0)).mono ?_
    rintro e w3 ⟨s2, c2, rfl, h3, hq⟩
    have hq3 := hd0.trans hq
    refine hK.out _ _ (blk_all (blk_below hq3 hlt H2.out.1)).1 ?_
    clear hK K
    have H3 := Lib.hid (And.intro (H2.out.2.1.trans (hq3.mono H2.out.2.1.size)) h3)
    clear h3 hq hq3 hd0
    (try simp only [Act.put, List.setIfInBounds_toArray, List.set_cons_zero, List.set_cons_succ])
    repeat (first | (refine ordt_s (o := ?_) ?_ ?_ ?_; rotate_left 1; (focus ((simp only [List.getElem?_toArray, List.getElem?_cons_succ, List.getElem?_cons_zero]) <;> rfl)); (focus rfl); simp only [Act.put, List.setIfInBounds_toArray, List.set_cons_zero, List.set_cons_succ]) | (refine ordt_q (o := ?_) (v := ?_) ?_ ?_ ?_ ?_; rotate_left 2; (focus ((simp only [List.getElem?_toArray, List.getElem?_cons_succ, List.getElem?_cons_zero]) <;> rfl)); (focus rfl); (focus (intro w' hS; (try dsimp only at hS); go_split_ands; go_simp; (try (with_reducible rfl)))); simp only [Act.put, List.setIfInBounds_toArray, List.set_cons_zero, List.set_cons_succ]))
    refine ordt_nil ?_
    clear ww1 ww2 ww3
    go_wp2_with (go_at_call 92; ((with_reducible refine (l14Make_any _ _ K2 _ _ _ _ H3.out.2 K2l).mono ?_); rintro e w4 ⟨s3, c3, rfl, h4, hq⟩; have H4 := Lib.hid (And.intro (H3.out.1.trans (hq.mono H3.out.1.size)) h4); clear h4 hq))
    exact bodyPost_ret (v := .tuple #[.slice s3 ((mkK K2 (v : Int) lo hi).1.length + 2) c3, .int .i64 (mkK K2 (v : Int) lo hi).2]) (by simp [results, Try.results64, go_sem]) rfl ⟨s3, c3, rfl, H4.out.2, H4.out.1⟩

theorem Sl.setne {w : World} {s : Option Addr} {cs : List Value} (h : Sl w s cs) {R o : Nat} {arr : Array Value} {t : TypeId} {fz : Nat × Nat} (hR : w.heap[R]? = some (.cells arr t fz)) (hlen : arr.size < cs.length) (u : Value) : Sl (w.setCell ⟨R, o, none⟩ u) s cs := by
  rcases h with h | ⟨b, off, rfl, h⟩
  · exact .inl h
  · have hne : R ≠ b := by
      intro e; subst e
      obtain ⟨x, hx⟩ := get_of_lt (l := cs) (k := cs.length - 1) (by omega)
      have := h _ _ hx
      rw [blk_cell hR, Array.getElem?_eq_none (by omega)] at this
      cases this
    exact .inr ⟨b, off, rfl, fun j v hv => by rw [World.cell?, Below.heap_setCell _ _ _ _ (by simpa using Ne.symm hne)]; exact h j v hv⟩

/-- A diagram is returned. -/
def BsPost (w : World) (d : Bd) (e : Ending) (w' : World) : Prop :=
  ∃ s cap, e = .returned (.agg #[.slice s d.nodes.length cap, .int .i64 d.root]) ∧ Sl w' s (ncells d.nodes) ∧ Below w.heap.size w w'

set_option maxRecDepth 100000 in
set_option maxHeartbeats 3200000 in
theorem BuildBdd_s (v : Value) (c : Cir) (l : Int) (w : World) (h : CirV w v c) (hl : -9223372036854775808 ≤ l ∧ l ≤ 9223372036854775807) :
    Calls Try.prog 26 #[v, .int .i64 l] w (BsPost w (bdR c l)) := by
  have HC : Hid (∀ w', Below w.heap.size w w' → CirV w' v c) := fun w' hb => h.mono hb
  obtain ⟨sn, cn, sg, cg, so, co, rfl, h1, h2, h3, hl1, hl2, hl3⟩ := h
  have hL2 : Below w.heap.size w ((w.alloc (.cells #[.int .i64 c.inp, .slice sn c.next.length cn, .slice sg c.gates.length cg, .slice so c.outs.length co] 44)).alloc (.cells #[.slice none 0 0, .int .i64 0] 25)) := by go_grown
  have hN2 := blk_old (o := (.cells #[.slice none 0 0, .int .i64 0] 25)) (blk_new w (.cells #[.int .i64 c.inp, .slice sn c.next.length cn, .slice sg c.gates.length cg, .slice so c.outs.length co] 44))
  have hM2 : ((w.alloc (.cells #[.int .i64 c.inp, .slice sn c.next.length cn, .slice sg c.gates.length cg, .slice so c.outs.length co] 44)).alloc (.cells #[.slice none 0 0, .int .i64 0] 25)).heap[w.heap.size + 1]? = some (.cells #[.slice none 0 0, .int .i64 0] 25 (0, 0)) := blk_at (by simp)
  have hz2 : ((w.alloc (.cells #[.int .i64 c.inp, .slice sn c.next.length cn, .slice sg c.gates.length cg, .slice so c.outs.length co] 44)).alloc (.cells #[.slice none 0 0, .int .i64 0] 25)).heap.size = w.heap.size + 2 := by simp
  obtain ⟨k1, k2⟩ := hl
  have HL := Lib.hid (And.intro hL2 (And.intro hN2 (And.intro hM2 hz2)))
  clear h1 h2 h3 hL2 hN2 hM2 hz2
  cases hv : c.validB
  · have e : bdR c l = ⟨[], 0⟩ := bdR_no fun h => by rw [h.1] at hv; cases hv
    rw [e]
    have HE := Lib.hid hv
    clear hv e
    go_enter Try.func26, Try.ntmps26
    go_upto_region 1 with fail
    revert HL
    generalize ((w.alloc (.cells #[.int .i64 c.inp, .slice sn c.next.length cn, .slice sg c.gates.length cg, .slice so c.outs.length co] 44)).alloc (.cells #[.slice none 0 0, .int .i64 0] 25)) = WB
    intro HL
    refine wp_region_ord (fun w' => ∀ o, w'.cell? ⟨w.heap.size, o, none⟩ = #[Value.int .i64 c.inp, .slice sn c.next.length cn, .slice sg c.gates.length cg, .slice so c.outs.length co][o]?) ((0, false) :: (1, true) :: (2, false) :: (3, false) :: (4, false) :: (5, false) :: (7, false) :: (8, false) :: (9, false) :: (6, true) :: (10, false) :: (11, false) :: (12, false) :: (13, true) :: (14, false) :: (15, false) :: []) (by kernel_rfl) (by kernel_rfl) (by kernel_rfl) (by kernel_rfl) (blk_all HL.out.2.1).1 ?_
    repeat (first | (refine ord_es (o := ?_) ?_ ?_ (by assumption) ?_; rotate_left 1; (focus ((simp only [List.getElem?_toArray, List.getElem?_cons_succ, List.getElem?_cons_zero]) <;> rfl)); (focus rfl); simp only [Act.put, List.setIfInBounds_toArray, List.set_cons_zero, List.set_cons_succ]) | (refine ord_s (o := ?_) ?_ ?_ ?_; rotate_left 1; (focus ((simp only [List.getElem?_toArray, List.getElem?_cons_succ, List.getElem?_cons_zero]) <;> rfl)); (focus rfl); simp only [Act.put, List.setIfInBounds_toArray, List.set_cons_zero, List.set_cons_succ]) | (refine ord_q (o := ?_) (v := ?_) ?_ ?_ ?_ ?_; rotate_left 2; (focus ((simp only [List.getElem?_toArray, List.getElem?_cons_succ, List.getElem?_cons_zero]) <;> rfl)); (focus rfl); (focus (intro w' hS; (try dsimp only at hS); go_split_ands; go_simp; (try (with_reducible rfl)))); simp only [Act.put, List.setIfInBounds_toArray, List.set_cons_zero, List.set_cons_succ]))
    (refine ord_e (o := ?_) ?_ ?_ (fun K hK => ?_); rotate_left 1; (focus ((simp only [List.getElem?_toArray, List.getElem?_cons_succ, List.getElem?_cons_zero]) <;> rfl)); (focus rfl); go_simp)
    refine (CircuitValid_s _ _ _ (HC.out _ HL.out.1.drew)).mono ?_
    rintro e w1 ⟨rfl, hq⟩
    have hq1 := (Below.refl WB.heap.size WB).drew.trans hq
    have W1 := Lib.hid (And.intro (blk_below hq1 (blk_lt HL.out.2.1) HL.out.2.1) (And.intro (HL.out.1.trans (hq1.mono HL.out.1.size)) (blk_below hq1 (blk_lt HL.out.2.2.1) HL.out.2.2.1)))
    clear hq hq1
    have hSW := (blk_all W1.out.1).1
    refine hK.out _ _ hSW ?_
    clear hK K
    rw [HE.out]
    (try simp only [Act.put, List.setIfInBounds_toArray, List.set_cons_zero, List.set_cons_succ])
    repeat (first | (refine ord_es (o := ?_) ?_ ?_ (by assumption) ?_; rotate_left 1; (focus ((simp only [List.getElem?_toArray, List.getElem?_cons_succ, List.getElem?_cons_zero]) <;> rfl)); (focus rfl); simp only [Act.put, List.setIfInBounds_toArray, List.set_cons_zero, List.set_cons_succ]) | (refine ord_s (o := ?_) ?_ ?_ ?_; rotate_left 1; (focus ((simp only [List.getElem?_toArray, List.getElem?_cons_succ, List.getElem?_cons_zero]) <;> rfl)); (focus rfl); simp only [Act.put, List.setIfInBounds_toArray, List.set_cons_zero, List.set_cons_succ]) | (refine ord_q (o := ?_) (v := ?_) ?_ ?_ ?_ ?_; rotate_left 2; (focus ((simp only [List.getElem?_toArray, List.getElem?_cons_succ, List.getElem?_cons_zero]) <;> rfl)); (focus rfl); (focus (intro w' hS; (try dsimp only at hS); go_split_ands; go_simp; (try (with_reducible rfl)))); simp only [Act.put, List.setIfInBounds_toArray, List.set_cons_zero, List.set_cons_succ]))
    refine ord_nil ?_
    clear hSW
    obtain ⟨rc, rf⟩ := blk_all W1.out.2.2
    go_wp2_with fail
    have hZ : ((w1.setCell ⟨w.heap.size + 1, 0, none⟩ (.slice none (0) 0)).setCell ⟨w.heap.size + 1, 1, none⟩ (.int .i64 (0))).heap[w.heap.size + 1]? = some (.cells #[.slice none (0) 0, .int .i64 (0)] 25 (0, 0)) := by
      simpa using blk_set (o := 1) (v := .int .i64 (0)) (blk_set (o := 0) (v := .slice none (0) 0) W1.out.2.2)
    have hR : Sl ((w1.setCell ⟨w.heap.size + 1, 0, none⟩ (.slice none (0) 0)).setCell ⟨w.heap.size + 1, 1, none⟩ (.int .i64 (0))) none _ := Sl.nil _ _
    have hB := (W1.out.2.1.setCell (p := ⟨w.heap.size + 1, 0, none⟩) (by simp) (.slice none (0) 0)).setCell (p := ⟨w.heap.size + 1, 1, none⟩) (by simp) (.int .i64 (0))
    revert hZ hR hB
    generalize ((w1.setCell ⟨w.heap.size + 1, 0, none⟩ (.slice none (0) 0)).setCell ⟨w.heap.size + 1, 1, none⟩ (.int .i64 (0))) = WZ
    intro hZ hR hB
    have cr := (blk_all hZ).1
    exact bodyPost_ret (v := .agg #[.slice none (0) 0, .int .i64 (0)]) (by simp [results, Try.results26, go_sem, cr]) rfl ⟨_, _, rfl, hR, hB⟩
  · have hval := c.validB_iff.1 hv
    obtain ⟨f1, f2, f3, f4⟩ := valid_first hval
    obtain ⟨q1, q2, q3, q4, q5⟩ := id hval.lim
    have eC : c.first = 1 + c.inp + c.next.length := rfl
    obtain ⟨ni, hni⟩ : ∃ ni : Nat, c.inp = ni := ⟨c.inp.toNat, by omega⟩
    obtain ⟨F, hF⟩ : ∃ F : Nat, c.first = F := ⟨c.first.toNat, by omega⟩
    obtain ⟨V, hV⟩ : ∃ V : Nat, c.vars = V := ⟨c.vars.toNat, by omega⟩
    have e1 : 1 + (ni : Int) + (c.next.length : Int) = (F : Int) := by omega
    have v22 : V ≤ 22 := by omega
    have f8 : F ≤ 8 := by omega
    have n4 : ni ≤ 4 := by omega
    have w1' : IntKind.i64.wrap ((F : Int) + (c.gates.length : Int)) = (V : Int) := by rw [IntWalk.i64_in _ ⟨by omega, by omega⟩]; omega
    have w2' : IntKind.i64.wrap (2 * (V : Int)) = 2 * (V : Int) := IntWalk.i64_in _ ⟨by omega, by omega⟩
    have w3' : IntKind.i64.wrap (2 * (V : Int) - 1) = 2 * (V : Int) - 1 := IntWalk.i64_in _ ⟨by omega, by omega⟩
    rw [hni] at HC HL ⊢
    have HH := Lib.hid (And.intro hv (And.intro hval (And.intro hni (And.intro hV (And.intro e1 f3)))))
    clear hv hval f1 f2 f3 f4 eC hF hV e1 hni q1 q2
    obtain ⟨ok, hok⟩ : ∃ ok : Bool, decide ((0 : Int) ≤ l ∧ l ≤ 2 * (V : Int) - 1) = ok := ⟨_, rfl⟩
    have HO := Lib.hid hok
    clear hok
    obtain ⟨D, hD⟩ : ∃ D, D = bdR c l := ⟨_, rfl⟩
    rw [← hD]
    have HD := Lib.hid hD
    clear hD
    go_enter Try.func26, Try.ntmps26
    go_upto_region 1 with fail
    revert HL
    generalize ((w.alloc (.cells #[.int .i64 ni, .slice sn c.next.length cn, .slice sg c.gates.length cg, .slice so c.outs.length co] 44)).alloc (.cells #[.slice none 0 0, .int .i64 0] 25)) = WB
    intro HL
    go_cut [22] from 7 to 22 (fun s22 wx => s22 = .bool (!ok) ∧ Below WB.heap.size WB wx)
    case first =>
      refine wp_region_ord (fun w' => ∀ o, w'.cell? ⟨w.heap.size, o, none⟩ = #[Value.int .i64 ni, .slice sn c.next.length cn, .slice sg c.gates.length cg, .slice so c.outs.length co][o]?) ((0, false) :: (1, true) :: (2, false) :: (3, false) :: (4, false) :: (5, false) :: (7, false) :: (8, false) :: (9, false) :: (6, true) :: (10, false) :: (11, false) :: (12, false) :: (13, true) :: (14, false) :: (15, false) :: []) (by kernel_rfl) (by kernel_rfl) (by kernel_rfl) (by kernel_rfl) (blk_all HL.out.2.1).1 ?_
      repeat (first | (refine ord_es (o := ?_) ?_ ?_ (by assumption) ?_; rotate_left 1; (focus ((simp only [List.getElem?_toArray, List.getElem?_cons_succ, List.getElem?_cons_zero]) <;> rfl)); (focus rfl); simp only [Act.put, List.setIfInBounds_toArray, List.set_cons_zero, List.set_cons_succ]) | (refine ord_s (o := ?_) ?_ ?_ ?_; rotate_left 1; (focus ((simp only [List.getElem?_toArray, List.getElem?_cons_succ, List.getElem?_cons_zero]) <;> rfl)); (focus rfl); simp only [Act.put, List.setIfInBounds_toArray, List.set_cons_zero, List.set_cons_succ]) | (refine ord_q (o := ?_) (v := ?_) ?_ ?_ ?_ ?_; rotate_left 2; (focus ((simp only [List.getElem?_toArray, List.getElem?_cons_succ, List.getElem?_cons_zero]) <;> rfl)); (focus rfl); (focus (intro w' hS; (try dsimp only at hS); go_split_ands; go_simp; (try (with_reducible rfl)))); simp only [Act.put, List.setIfInBounds_toArray, List.set_cons_zero, List.set_cons_succ]))
      (refine ord_e (o := ?_) ?_ ?_ (fun K hK => ?_); rotate_left 1; (focus ((simp only [List.getElem?_toArray, List.getElem?_cons_succ, List.getElem?_cons_zero]) <;> rfl)); (focus rfl); go_simp)
      refine (CircuitValid_s _ _ _ (HC.out _ HL.out.1.drew)).mono ?_
      rintro e w1 ⟨rfl, hq⟩
      have hb1 : Below WB.heap.size WB w1 := (Below.refl _ _).drew.trans hq
      have W1 := Lib.hid (And.intro (blk_below hb1 (blk_lt HL.out.2.1) HL.out.2.1) hb1)
      clear hq hb1
      have hSW := (blk_all W1.out.1).1
      refine hK.out _ _ hSW ?_
      clear hK K
      rw [HH.out.1]
      (try simp only [Act.put, List.setIfInBounds_toArray, List.set_cons_zero, List.set_cons_succ])
      repeat (first | (refine ord_es (o := ?_) ?_ ?_ (by assumption) ?_; rotate_left 1; (focus ((simp only [List.getElem?_toArray, List.getElem?_cons_succ, List.getElem?_cons_zero]) <;> rfl)); (focus rfl); simp only [Act.put, List.setIfInBounds_toArray, List.set_cons_zero, List.set_cons_succ]) | (refine ord_s (o := ?_) ?_ ?_ ?_; rotate_left 1; (focus ((simp only [List.getElem?_toArray, List.getElem?_cons_succ, List.getElem?_cons_zero]) <;> rfl)); (focus rfl); simp only [Act.put, List.setIfInBounds_toArray, List.set_cons_zero, List.set_cons_succ]) | (refine ord_q (o := ?_) (v := ?_) ?_ ?_ ?_ ?_; rotate_left 2; (focus ((simp only [List.getElem?_toArray, List.getElem?_cons_succ, List.getElem?_cons_zero]) <;> rfl)); (focus rfl); (focus (intro w' hS; (try dsimp only at hS); go_split_ands; go_simp; (try (with_reducible rfl)))); simp only [Act.put, List.setIfInBounds_toArray, List.set_cons_zero, List.set_cons_succ]))
      (refine ord_e (o := ?_) ?_ ?_ (fun K hK => ?_); rotate_left 1; (focus ((simp only [List.getElem?_toArray, List.getElem?_cons_succ, List.getElem?_cons_zero]) <;> rfl)); (focus rfl); go_simp)
      refine (l1First_any _ _ _ _ _ _ _ (by omega) (by omega)).mono ?_
      rintro e w2 ⟨rfl, hq⟩
      rw [HH.out.2.2.2.2.1]
      have W2 := Lib.hid (And.intro (blk_below hq (blk_lt W1.out.1) W1.out.1) (W1.out.2.trans (hq.mono W1.out.2.size)))
      clear hq hSW
      have hSW := (blk_all W2.out.1).1
      refine hK.out _ _ hSW ?_
      clear hK K
      (try simp only [Act.put, List.setIfInBounds_toArray, List.set_cons_zero, List.set_cons_succ])
      repeat (first | (refine ord_es (o := ?_) ?_ ?_ (by assumption) ?_; rotate_left 1; (focus ((simp only [List.getElem?_toArray, List.getElem?_cons_succ, List.getElem?_cons_zero]) <;> rfl)); (focus rfl); simp only [Act.put, List.setIfInBounds_toArray, List.set_cons_zero, List.set_cons_succ]) | (refine ord_s (o := ?_) ?_ ?_ ?_; rotate_left 1; (focus ((simp only [List.getElem?_toArray, List.getElem?_cons_succ, List.getElem?_cons_zero]) <;> rfl)); (focus rfl); simp only [Act.put, List.setIfInBounds_toArray, List.set_cons_zero, List.set_cons_succ]) | (refine ord_q (o := ?_) (v := ?_) ?_ ?_ ?_ ?_; rotate_left 2; (focus ((simp only [List.getElem?_toArray, List.getElem?_cons_succ, List.getElem?_cons_zero]) <;> rfl)); (focus rfl); (focus (intro w' hS; (try dsimp only at hS); go_split_ands; go_simp; (try (with_reducible rfl)))); simp only [Act.put, List.setIfInBounds_toArray, List.set_cons_zero, List.set_cons_succ]))
      (refine ord_e (o := ?_) ?_ ?_ (fun K hK => ?_); rotate_left 1; (focus ((simp only [List.getElem?_toArray, List.getElem?_cons_succ, List.getElem?_cons_zero]) <;> rfl)); (focus rfl); go_simp)
      refine (l1In_any _ _ _ _).mono ?_
      rintro e w3' ⟨rfl, rfl⟩
      refine hK.out _ _ hSW ?_
      clear hK K
      rw [HO.out]
      (try simp only [Act.put, List.setIfInBounds_toArray, List.set_cons_zero, List.set_cons_succ])
      repeat (first | (refine ord_es (o := ?_) ?_ ?_ (by assumption) ?_; rotate_left 1; (focus ((simp only [List.getElem?_toArray, List.getElem?_cons_succ, List.getElem?_cons_zero]) <;> rfl)); (focus rfl); simp only [Act.put, List.setIfInBounds_toArray, List.set_cons_zero, List.set_cons_succ]) | (refine ord_s (o := ?_) ?_ ?_ ?_; rotate_left 1; (focus ((simp only [List.getElem?_toArray, List.getElem?_cons_succ, List.getElem?_cons_zero]) <;> rfl)); (focus rfl); simp only [Act.put, List.setIfInBounds_toArray, List.set_cons_zero, List.set_cons_succ]) | (refine ord_q (o := ?_) (v := ?_) ?_ ?_ ?_ ?_; rotate_left 2; (focus ((simp only [List.getElem?_toArray, List.getElem?_cons_succ, List.getElem?_cons_zero]) <;> rfl)); (focus rfl); (focus (intro w' hS; (try dsimp only at hS); go_split_ands; go_simp; (try (with_reducible rfl)))); simp only [Act.put, List.setIfInBounds_toArray, List.set_cons_zero, List.set_cons_succ]))
      refine ord_nil ?_
      clear hSW
      go_wp2_with fail
      go_meet
      exact ⟨rfl, W2.out.2⟩
    case rest =>
      obtain ⟨rfl, hb⟩ := hcut
      have hs := hb.size
      have HX := Lib.hid (And.intro (HL.out.1.trans (hb.mono HL.out.1.size)) (And.intro (blk_below hb (blk_lt HL.out.2.1) HL.out.2.1) (blk_below hb (blk_lt HL.out.2.2.1) HL.out.2.2.1)))
      have hwc : w.heap.size + 2 ≤ wc.heap.size := by have := HL.out.2.2.2; omega
      clear hb w1' w2' w3' hs
      have ca := (blk_all HX.out.2.1).1
      cases ok
      · have e : D = ⟨[], 0⟩ := HD.out.trans (bdR_no fun h => by
          have h1 := HO.out
          rw [decide_eq_false_iff_not] at h1
          have h2 := h.2; rw [HH.out.2.2.2.1] at h2
          exact h1 (by unfold litP at h2; omega))
        clear HD
        subst e
        obtain ⟨rc, rf⟩ := blk_all HX.out.2.2
        go_wp2_with fail
        have hZ : ((wc.setCell ⟨w.heap.size + 1, 0, none⟩ (.slice none (0) 0)).setCell ⟨w.heap.size + 1, 1, none⟩ (.int .i64 (0))).heap[w.heap.size + 1]? = some (.cells #[.slice none (0) 0, .int .i64 (0)] 25 (0, 0)) := by
          simpa using blk_set (o := 1) (v := .int .i64 (0)) (blk_set (o := 0) (v := .slice none (0) 0) HX.out.2.2)
        have hR : Sl ((wc.setCell ⟨w.heap.size + 1, 0, none⟩ (.slice none (0) 0)).setCell ⟨w.heap.size + 1, 1, none⟩ (.int .i64 (0))) none _ := Sl.nil _ _
        have hB := (HX.out.1.setCell (p := ⟨w.heap.size + 1, 0, none⟩) (by simp) (.slice none (0) 0)).setCell (p := ⟨w.heap.size + 1, 1, none⟩) (by simp) (.int .i64 (0))
        revert hZ hR hB
        generalize ((wc.setCell ⟨w.heap.size + 1, 0, none⟩ (.slice none (0) 0)).setCell ⟨w.heap.size + 1, 1, none⟩ (.int .i64 (0))) = WZ
        intro hZ hR hB
        have cr := (blk_all hZ).1
        exact bodyPost_ret (v := .agg #[.slice none (0) 0, .int .i64 (0)]) (by simp [results, Try.results26, go_sem, cr]) rfl ⟨_, _, rfl, hR, hB⟩
      · have h1 := HO.out
        rw [decide_eq_true_eq] at h1
        obtain ⟨o1, o2⟩ := h1
        have e : bdR c l = bdK (litF c l) (ni + c.next.length) := by
          rw [bdR_yes ⟨HH.out.1, by rw [HH.out.2.2.2.1]; exact ⟨o1, by omega⟩⟩, HH.out.2.2.1, Int.toNat_natCast]
        have n7 : ni + c.next.length ≤ 7 := by omega
        have h7 : 2 ^ (ni + c.next.length) ≤ 2 ^ 7 := Nat.pow_le_pow_right (by omega) n7
        have hbu := fun s cap w h hs => l14Build_any sn sg so cn cg co c l ni HH.out.2.2.1 HH.out.2.1 o1 (by rw [HH.out.2.2.2.1]; omega) (ni + c.next.length) 0 0 [] s cap w h hs (by omega) (by simp) (by simp; omega)
        obtain ⟨r, hr⟩ : ∃ r, r = bldK (litF c l) (ni + c.next.length) 0 0 [] := ⟨_, rfl⟩
        have hd : bdK (litF c l) (ni + c.next.length) = ⟨zz r.1, r.2⟩ := by rw [hr]; rfl
        rw [← hr, show (((0 : Nat)) : Int) = 0 from rfl] at hbu
        simp only [List.length_nil, Nat.zero_add] at hbu
        have e2 := (HD.out.trans e).trans hd
        clear HD
        subst e2
        have HBU := Lib.hid hbu
        clear e hd hr h7 hbu
        go_upto_region 3 with fail
        have hba := (Below.refl wc.heap.size wc).alloc (Nat.le_refl _) (.cells #[.int .i64 0, .int .i64 0, .int .i64 0, .int .i64 0, .int .i64 0, .int .i64 0] 29)
        have hsl := Sl.new wc #[.int .i64 0, .int .i64 0, .int .i64 0, .int .i64 0, .int .i64 0, .int .i64 0] 29
        have hA := HX.out.1.trans (hba.mono HX.out.1.size)
        have HA := Lib.hid (And.intro hA (And.intro hsl (blk_below hba (blk_lt HX.out.2.2) HX.out.2.2)))
        clear hba hsl hA
        go_wp2_with (go_at_call 64; ((with_reducible refine (HBU.out _ _ _ (HC.out _ HA.out.1) HA.out.2.1).mono ?_); rintro e w5 ⟨s5, c5, rfl, h5, hq⟩; have hm := blk_below hq (blk_lt HA.out.2.2) HA.out.2.2; obtain ⟨rc, rf⟩ := blk_all hm; have H5 := Lib.hid (And.intro h5 (And.intro (HA.out.1.trans (hq.mono HA.out.1.size)) hm)); clear h5 hq hm))
        have hZ0 : w5.heap[w.heap.size + 1]? = some (.cells #[.slice none 0 0, .int .i64 0] 25 (0, 0)) := H5.out.2.2
        have hR0 : Sl ((w5.setCell ⟨w.heap.size + 1, 0, none⟩ (.slice s5 (r.1.length + 2) c5)).setCell ⟨w.heap.size + 1, 1, none⟩ (.int .i64 (r.2))) s5 (ncells (zz r.1)) := (H5.out.1.setne hZ0 (by rw [ncells_length, zz_length]; simp; omega) _).setne (blk_set hZ0) (by rw [ncells_length, zz_length]; simp; omega) _
        have hZ : ((w5.setCell ⟨w.heap.size + 1, 0, none⟩ (.slice s5 (r.1.length + 2) c5)).setCell ⟨w.heap.size + 1, 1, none⟩ (.int .i64 (r.2))).heap[w.heap.size + 1]? = some (.cells #[.slice s5 (r.1.length + 2) c5, .int .i64 (r.2)] 25 (0, 0)) := by
          simpa using blk_set (o := 1) (v := .int .i64 (r.2)) (blk_set (o := 0) (v := .slice s5 (r.1.length + 2) c5) H5.out.2.2)
        have hR : Sl ((w5.setCell ⟨w.heap.size + 1, 0, none⟩ (.slice s5 (r.1.length + 2) c5)).setCell ⟨w.heap.size + 1, 1, none⟩ (.int .i64 (r.2))) s5 _ := hR0
        have hB := (H5.out.2.1.setCell (p := ⟨w.heap.size + 1, 0, none⟩) (by simp) (.slice s5 (r.1.length + 2) c5)).setCell (p := ⟨w.heap.size + 1, 1, none⟩) (by simp) (.int .i64 (r.2))
        revert hZ hR hB
        generalize ((w5.setCell ⟨w.heap.size + 1, 0, none⟩ (.slice s5 (r.1.length + 2) c5)).setCell ⟨w.heap.size + 1, 1, none⟩ (.int .i64 (r.2))) = WZ
        intro hZ hR hB
        have cr := (blk_all hZ).1
        exact bodyPost_ret (v := .agg #[.slice s5 (r.1.length + 2) c5, .int .i64 (r.2)]) (by simp [results, Try.results26, go_sem, cr]) rfl ⟨_, _, rfl, hR, hB⟩

end Go.Proofs.Ytddmgphlhfilnaa
