import Derived.Test.YtaboipnigeaopaaZZ45BC
import Derived.Test.YtaboipnigeaopaaZZ45Y0
namespace Go.Proofs.Ytaboipnigeaopaa
set_option linter.unusedVariables false
set_option linter.unusedSimpArgs false
open Go.RowKit

/-! Part of the proof of one law. -/

/-- The diagram that is built. -/
def bdR (c : Cir) (l : Int) : Bd := if tsOk c l then bdK (litF c l) (c.inp.toNat + c.next.length) else ⟨[], 0⟩

theorem bdR_no {c : Cir} {l : Int} (h : ¬ tsOk c l) : bdR c l = ⟨[], 0⟩ := by unfold bdR; rw [if_neg h]

theorem bdR_yes {c : Cir} {l : Int} (h : tsOk c l) : bdR c l = bdK (litF c l) (c.inp.toNat + c.next.length) := by unfold bdR; rw [if_pos h]

theorem bdR_len (c : Cir) (l : Int) : (bdR c l).nodes.length ≤ 200 := by
  by_cases h : tsOk c l
  · rw [bdR_yes h]
    obtain ⟨q1, q2, q3, q4, q5⟩ := (c.validB_iff.1 h.1).lim
    have := bdK_len (litF c l) (n := c.inp.toNat + c.next.length) (by omega)
    omega
  · rw [bdR_no h]; simp

theorem mkZZ (w : World) : (Instr.makeSlice 45 (.int .i64 2) (.int .i64 2)).run Try.prog w = .ok (.slice (some ⟨w.heap.size, 0, none⟩) 2 2) (w.alloc (.cells (ncells (zz [])).toArray 85)) := by
  have h := mkNd w 2 (by omega)
  rw [show madeCells #[Value.int .i64 0, .int .i64 0, .int .i64 0] (2 * 3) = (ncells (zz [])).toArray from by
    apply Array.ext'
    unfold madeCells
    rw [Array.toList_map, Array.toList_range]
    rfl] at h
  exact h

/-- The maker is laid. -/
def MkAt (W0 : World) (tb : List Bool) (n : Nat) (v : Value) (W : World) : Prop :=
  ∃ (b mb : Nat) (st : Option Addr) (ct : Nat) (vn : Value), v = .pointer (some ⟨b, 0, none⟩) ∧ BM W0 b mb st ct tb n W [] vn

set_option maxRecDepth 100000 in
set_option maxHeartbeats 3200000 in
theorem BuildBdd_i (v : Value) (c : Cir) (l : Int) (w : World) (h : CirV w v c) (hl : -9223372036854775808 ≤ l ∧ l ≤ 9223372036854775807) :
    Calls Try.prog 27 #[v, .int .i64 l] w fun e w' => ∃ s cap, e = .returned (.agg #[.slice s (bdR c l).nodes.length cap, .int .i64 (bdR c l).root]) ∧ w'.ownsRow w.heap.size 85 3 (.slice s (bdR c l).nodes.length cap) (bdR c l).nodes.length (ncells (bdR c l).nodes) ∧ Below w.heap.size w w' := by
  have HCV : Hid (∀ w', Below w.heap.size w w' → CirV w' v c) := fun w' hb => h.mono hb
  obtain ⟨sn, cn, sg, cg, so, co, rfl, h1, h2, h3, hl1, hl2, hl3⟩ := h
  have hL : Below w.heap.size w ((w.alloc (.cells #[.int .i64 c.inp, .slice sn c.next.length cn, .slice sg c.gates.length cg, .slice so c.outs.length co] 26)).alloc (.cells #[.slice none 0 0, .int .i64 0] 47)) := by go_grown
  have hN := blk_old (o := (.cells #[.slice none 0 0, .int .i64 0] 47)) (blk_new w (.cells #[.int .i64 c.inp, .slice sn c.next.length cn, .slice sg c.gates.length cg, .slice so c.outs.length co] 26))
  have hM : ((w.alloc (.cells #[.int .i64 c.inp, .slice sn c.next.length cn, .slice sg c.gates.length cg, .slice so c.outs.length co] 26)).alloc (.cells #[.slice none 0 0, .int .i64 0] 47)).heap[w.heap.size + 1]? = some (.cells #[.slice none 0 0, .int .i64 0] 47 (0, 0)) := blk_at (by simp)
  have hZ : ((w.alloc (.cells #[.int .i64 c.inp, .slice sn c.next.length cn, .slice sg c.gates.length cg, .slice so c.outs.length co] 26)).alloc (.cells #[.slice none 0 0, .int .i64 0] 47)).heap.size = w.heap.size + 2 := by simp
  have HL := Lib.hid (And.intro hL (And.intro hN (And.intro hM (And.intro hZ h2))))
  obtain ⟨k1, k2⟩ := hl
  clear hL hN hM hZ h1 h2 h3
  have hbad : ∀ (W : World), W.ownsRow (w.heap.size + 2) 85 3 (.slice none 0 0) 0 [] := fun W => World.ownsRow_nil _ _ _ _
  have HBad := Lib.hid hbad
  clear hbad
  cases hv : c.validB
  · have e : bdR c l = ⟨[], 0⟩ := bdR_no fun h => by rw [h.1] at hv; cases hv
    rw [e]
    have HE := Lib.hid hv
    clear hv e
    go_enter Try.func27, Try.ntmps27
    go_wp2_with (go_at_call 10; ((with_reducible refine (CircuitValid_i _ _ _ (HCV.out _ HL.out.1)).mono ?_); rintro e w1 ⟨rfl, hq⟩; have hm := blk_below hq (by have := HL.out.2.2.2.1; omega) HL.out.2.2.1; obtain ⟨rc, rf⟩ := blk_all hm; have HQ := Lib.hid (And.intro (HL.out.1.trans (hq.mono (by have := HL.out.2.2.2.1; omega))) hm); clear hq hm; rw [HE.out]))
    have hZ : ((w1.setCell ⟨w.heap.size + 1, 0, none⟩ (.slice none (0) 0)).setCell ⟨w.heap.size + 1, 1, none⟩ (.int .i64 0)).heap[w.heap.size + 1]? = some (.cells #[.slice none (0) 0, .int .i64 (0)] 47 (0, 0)) := by
      simpa using blk_set (o := 1) (v := .int .i64 (0)) (blk_set (o := 0) (v := .slice none (0) 0) HQ.out.2)
    have hR := own_set_ne (own_set_ne (b := w.heap.size + 1) (o := 0) (HBad.out w1) (by intro e; have := (own_blk (HBad.out w1) e).1; omega) (.slice none (0) 0)) (b := w.heap.size + 1) (o := 1) (by intro e; have := (own_blk (HBad.out w1) e).1; omega) (.int .i64 (0))
    have hB := (HQ.out.1.setCell (p := ⟨w.heap.size + 1, 0, none⟩) (by simp) (.slice none (0) 0)).setCell (p := ⟨w.heap.size + 1, 1, none⟩) (by simp) (.int .i64 (0))
    revert hZ hR hB
    generalize ((w1.setCell ⟨w.heap.size + 1, 0, none⟩ (.slice none (0) 0)).setCell ⟨w.heap.size + 1, 1, none⟩ (.int .i64 0)) = WZ
    intro hZ hR hB
    have cr := (blk_all hZ).1
    exact bodyPost_ret (v := .agg #[.slice none (0) 0, .int .i64 (0)]) (by simp [results, Try.results27, go_sem, cr]) rfl ⟨_, _, rfl, own_base hR (by omega), hB⟩
  · have hval := c.validB_iff.1 hv
    obtain ⟨f1, f2, f3, f4⟩ := valid_first hval
    obtain ⟨q1, q2, q3, q4, q5⟩ := id hval.lim
    have eC : c.first = 1 + c.inp + c.next.length := rfl
    obtain ⟨V, hV⟩ : ∃ V : Nat, c.vars = V := ⟨c.vars.toNat, by omega⟩
    obtain ⟨ni, hni⟩ : ∃ ni : Nat, c.inp = ni := ⟨c.inp.toNat, by omega⟩
    obtain ⟨N, hN⟩ : ∃ N, asgN c = N := ⟨_, rfl⟩
    have hN2 : N = 2 ^ (ni + c.next.length) := by rw [← hN]; unfold asgN; rw [hni, Int.toNat_natCast]
    have HN := Lib.hid hN
    have HN2 := Lib.hid hN2
    have n7 : ni + c.next.length ≤ 7 := by omega
    obtain ⟨M, hM⟩ : ∃ M, M = ni + c.next.length := ⟨_, rfl⟩
    rw [← hM] at hN2 HN2 n7
    have ww : IntKind.i64.wrap (c.inp + (c.next.length : Int)) = (M : Int) := by rw [IntWalk.i64_in _ ⟨by omega, by omega⟩]; omega
    have HM := Lib.hid hM
    have e2 : 1 + c.inp + (c.next.length : Int) + (c.gates.length : Int) = (V : Int) := hV
    have v22 : V ≤ 22 := by omega
    have HH := Lib.hid (And.intro hv (And.intro hval (And.intro hni (And.intro hV e2))))
    clear hv hval f1 f2 f3 f4 eC hV e2 hN hN2 hni hM
    by_cases hlit : 0 ≤ l ∧ l < 2 * (V : Int)
    · have e : bdR c l = bdK (litF c l) M := by
        rw [bdR_yes ⟨HH.out.1, by rw [HH.out.2.2.2.1]; exact hlit⟩, HH.out.2.2.1, Int.toNat_natCast, HM.out]
      have HD := Lib.hid (decide_eq_true hlit)
      obtain ⟨o1, o2⟩ := hlit
      have HE : Hid (l < 2 * c.vars) := by show _ < _; rw [HH.out.2.2.2.1]; exact o2
      obtain ⟨r, hr⟩ : ∃ r, r = bldK (litF c l) M 0 0 [] := ⟨_, rfl⟩
      have hd : bdK (litF c l) M = ⟨zz r.1, r.2⟩ := by rw [hr]; rfl
      have hlen := bldK_len (litF c l) M 0 0 []
      rw [← hr] at hlen
      have h7 : 2 ^ M ≤ 2 ^ 7 := Nat.pow_le_pow_right (by omega) n7
      have hrl : r.1.length ≤ 130 := by simp at hlen; omega
      have HRR := Lib.hid hr
      rw [e, hd]
      clear e hd hr hlen h7
      go_enter Try.func27, Try.ntmps27
      go_upto_region 3 with (first
        | (go_at_call 10; ((with_reducible refine (CircuitValid_i _ _ _ (HCV.out _ HL.out.1)).mono ?_); rintro e w1 ⟨rfl, hq⟩; have hm := blk_below hq (by have := HL.out.2.2.2.1; omega) HL.out.2.2.1; have HQ := Lib.hid (And.intro (HL.out.1.trans (hq.mono (by have := HL.out.2.2.2.1; omega))) (And.intro hm (blk_below hq (blk_lt HL.out.2.1) HL.out.2.1))); clear hq hm; rw [HH.out.1]))
        | (go_at_call 39; ((refine (vars_any _ _ _ _ _ _ _ _ _ _ (CirAt.of_blk HQ.out.2.2) (by omega) (by omega) (by omega)).mono ?_); rintro e w3 ⟨rfl, hd⟩; rw [HH.out.2.2.2.2]; have HQ := Lib.hid (And.intro (HQ.out.1.trans (hd.below _)) (And.intro (blk_below (hd.below _) (blk_lt HQ.out.2.1) HQ.out.2.1) (blk_below (hd.below _) (blk_lt HQ.out.2.2) HQ.out.2.2))); clear hd))
        | (go_at_call 37; ((refine (isLit_any _ _ _ (by omega)).mono ?_); rintro e w4 ⟨rfl, rfl⟩; rw [HD.out])))
      obtain ⟨W0, hW0⟩ : ∃ W, W = w3.drew := ⟨_, rfl⟩
      have hd0 : Below w3.heap.size w3 W0 := by rw [hW0]; exact (Below.refl _ _).drew
      have hsz0 : w.heap.size + 2 ≤ W0.heap.size := by have h1 := blk_lt HQ.out.2.1; have h2 := hd0.size; omega
      have hA := HQ.out.1.trans (hd0.mono HQ.out.1.size)
      have hA1 := blk_below hd0 (blk_lt HQ.out.2.1) HQ.out.2.1
      have hA2 := blk_below hd0 (blk_lt HQ.out.2.2) HQ.out.2.2
      have HC : Hid (∀ W, Below W0.heap.size W0 W → W.heap[w.heap.size]? = some (.cells #[.int .i64 c.inp, .slice sn c.next.length cn, .slice sg c.gates.length cg, .slice so c.outs.length co] 26 (0, 0)) ∧ Sl W sg (gcells c.gates)) := fun W hb => ⟨blk_below hb (blk_lt hA2) hA2, HL.out.2.2.2.2.mono (hA.trans (hb.mono (by omega)))⟩
      have HA := Lib.hid (And.intro hA (And.intro hA1 hW0))
      clear hA hA1 hA2 hd0 hW0 HQ
      have hmk := mkZZ
      have hmm : ∀ w, (Instr.makeMap 88 none).run Try.prog w = .ok (.map (some w.heap.size)) (w.alloc (.map #[] 0)) := fun w => by kernel_rfl
      have hbz := Below.refl W0.heap.size W0
      go_cut [5] from 18 to 28 (fun s5 wx => MkAt W0 (tabF (litF c l) N) M s5 wx)
      case first =>
        refine wp_region_T (fun w' => ∀ o, w'.cell? ⟨w.heap.size, o, none⟩ = #[Value.int .i64 c.inp, .slice sn c.next.length cn, .slice sg c.gates.length cg, .slice so c.outs.length co][o]?) (.q 0 (.q 2 (.q 3 (.q 4 (.q 5 (.q 6 (.q 7 (.thr 1 (.two 8 (.e 9 (.q 10 (.e 11 (.q 12 .nil)))) 9 (.e 8 (.q 10 (.e 11 (.q 12 .nil))))) 8 (.two 1 (.e 9 (.q 10 (.e 11 (.q 12 .nil)))) 9 (.e 1 (.q 10 (.e 11 (.q 12 .nil))))) 9 (.two 1 (.e 8 (.q 10 (.e 11 (.q 12 .nil)))) 8 (.e 1 (.q 10 (.e 11 (.q 12 .nil))))))))))))) (by kernel_rfl) (by kernel_rfl) (by kernel_rfl) (by rw [← HA.out.2.2]; exact (blk_all (HC.out _ hbz).1).1) ?_
        rw [← HA.out.2.2]
        repeat (first | (refine ordt_s (o := ?_) ?_ ?_ ?_; rotate_left 1; (focus ((simp only [zD, zE, zF]) <;> rfl)); (focus rfl); simp only [Act.put, zA, zB, zC]) | (refine ordt_q (o := ?_) (v := ?_) ?_ ?_ ?_ ?_; rotate_left 2; (focus ((simp only [zD, zE, zF]) <;> rfl)); (focus rfl); (focus (intro w' hS; (try dsimp only at hS); go_split_ands; go_simp; (try (with_reducible rfl)))); simp only [Act.put, zA, zB, zC]))
        refine ordt_thr ?_ ?_ ?_
        · (refine op_e (o := ?_) ?_ ?_ (fun K hK => ?_); rotate_left 1; (focus ((simp only [zD, zE, zF]) <;> rfl)); (focus rfl); go_simp)
          refine (litTable_any w.heap.size sn sg cn cg (.slice so c.outs.length co) c l W0 (CirAt.of_blk (HC.out _ hbz).1) (HC.out _ hbz).2 HH.out.2.1 o1 HE.out).mono ?_
          rintro e wx1 ⟨st, ct, rfl, ht, hq⟩
          rw [HN.out] at ht ⊢
          replace ht := own_base ht hbz.size
          have hbz := hbz.trans (hq.mono hbz.size)
          refine hK.out _ _ (blk_all (HC.out _ hbz).1).1 ?_
          clear hK K hq
          have HX := Lib.hid (And.intro hbz ht)
          clear hbz ht
          (try simp only [Act.put, zA, zB, zC])
          obtain ⟨hbz, ht⟩ := HX.out
          clear HX
          refine ordt_two ?_ ?_
          · (refine op_e (o := ?_) ?_ ?_ (fun K hK => ?_); rotate_left 1; (focus ((simp only [zD, zE, zF]) <;> rfl)); (focus rfl); go_simp)
            obtain ⟨ns, hns⟩ : ∃ b, b = wx1.heap.size := ⟨_, rfl⟩
            have hnb : W0.heap.size ≤ ns := by rw [hns]; exact hbz.size
            have hq := (Below.refl wx1.heap.size wx1).alloc (Nat.le_refl _) (.cells (ncells (zz [])).toArray 85)
            have hs := blk_new wx1 (.cells (ncells (zz [])).toArray 85)
            rw [← hns] at hs
            rw [← hns]
            clear hns
            revert hq hs
            generalize wx1.alloc (.cells (ncells (zz [])).toArray 85) = wx2
            intro hq hs
            have ht := own_below ht hq
            have hbz := hbz.trans (hq.mono hbz.size)
            refine hK.out _ _ (blk_all (HC.out _ hbz).1).1 ?_
            clear hK K hq
            have HX := Lib.hid (And.intro hbz (And.intro ht hs))
            clear hbz ht hs
            (try simp only [Act.put, zA, zB, zC])
            obtain ⟨hbz, ht, hs⟩ := HX.out
            clear HX
            refine ordt_e ?_
            (refine op_e (o := ?_) ?_ ?_ (fun K hK => ?_); rotate_left 1; (focus ((simp only [zD, zE, zF]) <;> rfl)); (focus rfl); go_simp)
            obtain ⟨mb, hmb⟩ : ∃ b, b = wx2.heap.size := ⟨_, rfl⟩
            have hmm : W0.heap.size ≤ mb := by rw [hmb]; exact hbz.size
            have hq := (Below.refl wx2.heap.size wx2).alloc (Nat.le_refl _) (.map #[] 0)
            have hm := MapN.new wx2
            rw [← hmb] at hm
            rw [← hmb]
            clear hmb
            revert hq hm
            generalize wx2.alloc (.map #[] 0) = wx3
            intro hq hm
            have ht := own_below ht hq
            have hs := blk_below hq (blk_lt hs) hs
            have hbz := hbz.trans (hq.mono hbz.size)
            refine hK.out _ _ (blk_all (HC.out _ hbz).1).1 ?_
            clear hK K hq
            have HX := Lib.hid (And.intro hbz (And.intro ht (And.intro hs hm)))
            clear hbz ht hs hm
            (try simp only [Act.put, zA, zB, zC])
            obtain ⟨hbz, ht, hs, hm⟩ := HX.out
            clear HX
            repeat (first | (refine ordt_s (o := ?_) ?_ ?_ ?_; rotate_left 1; (focus ((simp only [zD, zE, zF]) <;> rfl)); (focus rfl); simp only [Act.put, zA, zB, zC]) | (refine ordt_q (o := ?_) (v := ?_) ?_ ?_ ?_ ?_; rotate_left 2; (focus ((simp only [zD, zE, zF]) <;> rfl)); (focus rfl); (focus (intro w' hS; (try dsimp only at hS); go_split_ands; go_simp; (try (with_reducible rfl)))); simp only [Act.put, zA, zB, zC]))
            refine ordt_e ?_
            (refine op_e (o := ?_) ?_ ?_ (fun K hK => ?_); rotate_left 1; (focus ((simp only [zD, zE, zF]) <;> rfl)); (focus rfl); go_simp)
            try rw [ww]
            obtain ⟨mk, hmk0⟩ : ∃ b, b = wx3.heap.size := ⟨_, rfl⟩
            have hmk1 : W0.heap.size ≤ mk := by rw [hmk0]; exact hbz.size
            have hq := (Below.refl wx3.heap.size wx3).alloc (Nat.le_refl _) (.cells #[.slice st N ct, .int .i64 (M : Int), .slice (some ⟨ns, 0, none⟩) 2 2, .map (some mb)] 90)
            have hk0 := blk_new wx3 (.cells #[.slice st N ct, .int .i64 (M : Int), .slice (some ⟨ns, 0, none⟩) 2 2, .map (some mb)] 90)
            rw [← hmk0] at hk0
            rw [← hmk0]
            clear hmk0
            revert hq hk0
            generalize wx3.alloc (.cells #[.slice st N ct, .int .i64 (M : Int), .slice (some ⟨ns, 0, none⟩) 2 2, .map (some mb)] 90) = wy
            intro hq hk0
            have hbm : BM W0 mk mb st ct (tabF (litF c l) N) M wy [] (.slice (some ⟨ns, 0, none⟩) 2 2) :=
              ⟨by rw [tabF_length]; exact hk0, own_of_blk (n := 2) (blk_below hq (blk_lt hs) hs) hnb (by rfl) (by unfold maxLen; omega), hm.below hq, by rw [tabF_length]; exact own_below ht hq, hbz.trans (hq.mono hbz.size), hmk1, hmm⟩
            refine hK.out _ _ (blk_all (HC.out _ hbm.bl).1).1 ?_
            clear hK K hq hk0 hs hm ht hbz
            have HBM := Lib.hid hbm
            clear hbm
            (try simp only [Act.put, zA, zB, zC])
            repeat (first | (refine ordt_s (o := ?_) ?_ ?_ ?_; rotate_left 1; (focus ((simp only [zD, zE, zF]) <;> rfl)); (focus rfl); simp only [Act.put, zA, zB, zC]) | (refine ordt_q (o := ?_) (v := ?_) ?_ ?_ ?_ ?_; rotate_left 2; (focus ((simp only [zD, zE, zF]) <;> rfl)); (focus rfl); (focus (intro w' hS; (try dsimp only at hS); go_split_ands; go_simp; (try (with_reducible rfl)))); simp only [Act.put, zA, zB, zC]))
            refine ordt_nil ?_
            go_wp2_with fail
            go_meet
            exact ⟨mk, mb, st, ct, _, rfl, HBM.out⟩
          · (refine op_e (o := ?_) ?_ ?_ (fun K hK => ?_); rotate_left 1; (focus ((simp only [zD, zE, zF]) <;> rfl)); (focus rfl); go_simp)
            obtain ⟨mb, hmb⟩ : ∃ b, b = wx1.heap.size := ⟨_, rfl⟩
            have hmm : W0.heap.size ≤ mb := by rw [hmb]; exact hbz.size
            have hq := (Below.refl wx1.heap.size wx1).alloc (Nat.le_refl _) (.map #[] 0)
            have hm := MapN.new wx1
            rw [← hmb] at hm
            rw [← hmb]
            clear hmb
            revert hq hm
            generalize wx1.alloc (.map #[] 0) = wx2
            intro hq hm
            have ht := own_below ht hq
            have hbz := hbz.trans (hq.mono hbz.size)
            refine hK.out _ _ (blk_all (HC.out _ hbz).1).1 ?_
            clear hK K hq
            have HX := Lib.hid (And.intro hbz (And.intro ht hm))
            clear hbz ht hm
            (try simp only [Act.put, zA, zB, zC])
            obtain ⟨hbz, ht, hm⟩ := HX.out
            clear HX
            refine ordt_e ?_
            (refine op_e (o := ?_) ?_ ?_ (fun K hK => ?_); rotate_left 1; (focus ((simp only [zD, zE, zF]) <;> rfl)); (focus rfl); go_simp)
            obtain ⟨ns, hns⟩ : ∃ b, b = wx2.heap.size := ⟨_, rfl⟩
            have hnb : W0.heap.size ≤ ns := by rw [hns]; exact hbz.size
            have hq := (Below.refl wx2.heap.size wx2).alloc (Nat.le_refl _) (.cells (ncells (zz [])).toArray 85)
            have hs := blk_new wx2 (.cells (ncells (zz [])).toArray 85)
            rw [← hns] at hs
            rw [← hns]
            clear hns
            revert hq hs
            generalize wx2.alloc (.cells (ncells (zz [])).toArray 85) = wx3
            intro hq hs
            have ht := own_below ht hq
            have hm := hm.below hq
            have hbz := hbz.trans (hq.mono hbz.size)
            refine hK.out _ _ (blk_all (HC.out _ hbz).1).1 ?_
            clear hK K hq
            have HX := Lib.hid (And.intro hbz (And.intro ht (And.intro hm hs)))
            clear hbz ht hm hs
            (try simp only [Act.put, zA, zB, zC])
            obtain ⟨hbz, ht, hm, hs⟩ := HX.out
            clear HX
            repeat (first | (refine ordt_s (o := ?_) ?_ ?_ ?_; rotate_left 1; (focus ((simp only [zD, zE, zF]) <;> rfl)); (focus rfl); simp only [Act.put, zA, zB, zC]) | (refine ordt_q (o := ?_) (v := ?_) ?_ ?_ ?_ ?_; rotate_left 2; (focus ((simp only [zD, zE, zF]) <;> rfl)); (focus rfl); (focus (intro w' hS; (try dsimp only at hS); go_split_ands; go_simp; (try (with_reducible rfl)))); simp only [Act.put, zA, zB, zC]))
            refine ordt_e ?_
            (refine op_e (o := ?_) ?_ ?_ (fun K hK => ?_); rotate_left 1; (focus ((simp only [zD, zE, zF]) <;> rfl)); (focus rfl); go_simp)
            try rw [ww]
            obtain ⟨mk, hmk0⟩ : ∃ b, b = wx3.heap.size := ⟨_, rfl⟩
            have hmk1 : W0.heap.size ≤ mk := by rw [hmk0]; exact hbz.size
            have hq := (Below.refl wx3.heap.size wx3).alloc (Nat.le_refl _) (.cells #[.slice st N ct, .int .i64 (M : Int), .slice (some ⟨ns, 0, none⟩) 2 2, .map (some mb)] 90)
            have hk0 := blk_new wx3 (.cells #[.slice st N ct, .int .i64 (M : Int), .slice (some ⟨ns, 0, none⟩) 2 2, .map (some mb)] 90)
            rw [← hmk0] at hk0
            rw [← hmk0]
            clear hmk0
            revert hq hk0
            generalize wx3.alloc (.cells #[.slice st N ct, .int .i64 (M : Int), .slice (some ⟨ns, 0, none⟩) 2 2, .map (some mb)] 90) = wy
            intro hq hk0
            have hbm : BM W0 mk mb st ct (tabF (litF c l) N) M wy [] (.slice (some ⟨ns, 0, none⟩) 2 2) :=
              ⟨by rw [tabF_length]; exact hk0, own_of_blk (n := 2) (blk_below hq (blk_lt hs) hs) hnb (by rfl) (by unfold maxLen; omega), hm.below hq, by rw [tabF_length]; exact own_below ht hq, hbz.trans (hq.mono hbz.size), hmk1, hmm⟩
            refine hK.out _ _ (blk_all (HC.out _ hbm.bl).1).1 ?_
            clear hK K hq hk0 hs hm ht hbz
            have HBM := Lib.hid hbm
            clear hbm
            (try simp only [Act.put, zA, zB, zC])
            repeat (first | (refine ordt_s (o := ?_) ?_ ?_ ?_; rotate_left 1; (focus ((simp only [zD, zE, zF]) <;> rfl)); (focus rfl); simp only [Act.put, zA, zB, zC]) | (refine ordt_q (o := ?_) (v := ?_) ?_ ?_ ?_ ?_; rotate_left 2; (focus ((simp only [zD, zE, zF]) <;> rfl)); (focus rfl); (focus (intro w' hS; (try dsimp only at hS); go_split_ands; go_simp; (try (with_reducible rfl)))); simp only [Act.put, zA, zB, zC]))
            refine ordt_nil ?_
            go_wp2_with fail
            go_meet
            exact ⟨mk, mb, st, ct, _, rfl, HBM.out⟩
        · (refine op_e (o := ?_) ?_ ?_ (fun K hK => ?_); rotate_left 1; (focus ((simp only [zD, zE, zF]) <;> rfl)); (focus rfl); go_simp)
          obtain ⟨ns, hns⟩ : ∃ b, b = W0.heap.size := ⟨_, rfl⟩
          have hnb : W0.heap.size ≤ ns := by rw [hns]; exact hbz.size
          have hq := (Below.refl W0.heap.size W0).alloc (Nat.le_refl _) (.cells (ncells (zz [])).toArray 85)
          have hs := blk_new W0 (.cells (ncells (zz [])).toArray 85)
          rw [← hns] at hs
          rw [← hns]
          clear hns
          revert hq hs
          generalize W0.alloc (.cells (ncells (zz [])).toArray 85) = wx1
          intro hq hs
          have hbz := hbz.trans (hq.mono hbz.size)
          refine hK.out _ _ (blk_all (HC.out _ hbz).1).1 ?_
          clear hK K hq
          have HX := Lib.hid (And.intro hbz hs)
          clear hbz hs
          (try simp only [Act.put, zA, zB, zC])
          obtain ⟨hbz, hs⟩ := HX.out
          clear HX
          refine ordt_two ?_ ?_
          · (refine op_e (o := ?_) ?_ ?_ (fun K hK => ?_); rotate_left 1; (focus ((simp only [zD, zE, zF]) <;> rfl)); (focus rfl); go_simp)
            refine (litTable_any w.heap.size sn sg cn cg (.slice so c.outs.length co) c l wx1 (CirAt.of_blk (HC.out _ hbz).1) (HC.out _ hbz).2 HH.out.2.1 o1 HE.out).mono ?_
            rintro e wx2 ⟨st, ct, rfl, ht, hq⟩
            rw [HN.out] at ht ⊢
            replace ht := own_base ht hbz.size
            have hs := blk_below hq (blk_lt hs) hs
            have hbz := hbz.trans (hq.mono hbz.size)
            refine hK.out _ _ (blk_all (HC.out _ hbz).1).1 ?_
            clear hK K hq
            have HX := Lib.hid (And.intro hbz (And.intro hs ht))
            clear hbz hs ht
            (try simp only [Act.put, zA, zB, zC])
            obtain ⟨hbz, hs, ht⟩ := HX.out
            clear HX
            refine ordt_e ?_
            (refine op_e (o := ?_) ?_ ?_ (fun K hK => ?_); rotate_left 1; (focus ((simp only [zD, zE, zF]) <;> rfl)); (focus rfl); go_simp)
            obtain ⟨mb, hmb⟩ : ∃ b, b = wx2.heap.size := ⟨_, rfl⟩
            have hmm : W0.heap.size ≤ mb := by rw [hmb]; exact hbz.size
            have hq := (Below.refl wx2.heap.size wx2).alloc (Nat.le_refl _) (.map #[] 0)
            have hm := MapN.new wx2
            rw [← hmb] at hm
            rw [← hmb]
            clear hmb
            revert hq hm
            generalize wx2.alloc (.map #[] 0) = wx3
            intro hq hm
            have hs := blk_below hq (blk_lt hs) hs
            have ht := own_below ht hq
            have hbz := hbz.trans (hq.mono hbz.size)
            refine hK.out _ _ (blk_all (HC.out _ hbz).1).1 ?_
            clear hK K hq
            have HX := Lib.hid (And.intro hbz (And.intro hs (And.intro ht hm)))
            clear hbz hs ht hm
            (try simp only [Act.put, zA, zB, zC])
            obtain ⟨hbz, hs, ht, hm⟩ := HX.out
            clear HX
            repeat (first | (refine ordt_s (o := ?_) ?_ ?_ ?_; rotate_left 1; (focus ((simp only [zD, zE, zF]) <;> rfl)); (focus rfl); simp only [Act.put, zA, zB, zC]) | (refine ordt_q (o := ?_) (v := ?_) ?_ ?_ ?_ ?_; rotate_left 2; (focus ((simp only [zD, zE, zF]) <;> rfl)); (focus rfl); (focus (intro w' hS; (try dsimp only at hS); go_split_ands; go_simp; (try (with_reducible rfl)))); simp only [Act.put, zA, zB, zC]))
            refine ordt_e ?_
            (refine op_e (o := ?_) ?_ ?_ (fun K hK => ?_); rotate_left 1; (focus ((simp only [zD, zE, zF]) <;> rfl)); (focus rfl); go_simp)
            try rw [ww]
            obtain ⟨mk, hmk0⟩ : ∃ b, b = wx3.heap.size := ⟨_, rfl⟩
            have hmk1 : W0.heap.size ≤ mk := by rw [hmk0]; exact hbz.size
            have hq := (Below.refl wx3.heap.size wx3).alloc (Nat.le_refl _) (.cells #[.slice st N ct, .int .i64 (M : Int), .slice (some ⟨ns, 0, none⟩) 2 2, .map (some mb)] 90)
            have hk0 := blk_new wx3 (.cells #[.slice st N ct, .int .i64 (M : Int), .slice (some ⟨ns, 0, none⟩) 2 2, .map (some mb)] 90)
            rw [← hmk0] at hk0
            rw [← hmk0]
            clear hmk0
            revert hq hk0
            generalize wx3.alloc (.cells #[.slice st N ct, .int .i64 (M : Int), .slice (some ⟨ns, 0, none⟩) 2 2, .map (some mb)] 90) = wy
            intro hq hk0
            have hbm : BM W0 mk mb st ct (tabF (litF c l) N) M wy [] (.slice (some ⟨ns, 0, none⟩) 2 2) :=
              ⟨by rw [tabF_length]; exact hk0, own_of_blk (n := 2) (blk_below hq (blk_lt hs) hs) hnb (by rfl) (by unfold maxLen; omega), hm.below hq, by rw [tabF_length]; exact own_below ht hq, hbz.trans (hq.mono hbz.size), hmk1, hmm⟩
            refine hK.out _ _ (blk_all (HC.out _ hbm.bl).1).1 ?_
            clear hK K hq hk0 hs hm ht hbz
            have HBM := Lib.hid hbm
            clear hbm
            (try simp only [Act.put, zA, zB, zC])
            repeat (first | (refine ordt_s (o := ?_) ?_ ?_ ?_; rotate_left 1; (focus ((simp only [zD, zE, zF]) <;> rfl)); (focus rfl); simp only [Act.put, zA, zB, zC]) | (refine ordt_q (o := ?_) (v := ?_) ?_ ?_ ?_ ?_; rotate_left 2; (focus ((simp only [zD, zE, zF]) <;> rfl)); (focus rfl); (focus (intro w' hS; (try dsimp only at hS); go_split_ands; go_simp; (try (with_reducible rfl)))); simp only [Act.put, zA, zB, zC]))
            refine ordt_nil ?_
            go_wp2_with fail
            go_meet
            exact ⟨mk, mb, st, ct, _, rfl, HBM.out⟩
          · (refine op_e (o := ?_) ?_ ?_ (fun K hK => ?_); rotate_left 1; (focus ((simp only [zD, zE, zF]) <;> rfl)); (focus rfl); go_simp)
            obtain ⟨mb, hmb⟩ : ∃ b, b = wx1.heap.size := ⟨_, rfl⟩
            have hmm : W0.heap.size ≤ mb := by rw [hmb]; exact hbz.size
            have hq := (Below.refl wx1.heap.size wx1).alloc (Nat.le_refl _) (.map #[] 0)
            have hm := MapN.new wx1
            rw [← hmb] at hm
            rw [← hmb]
            clear hmb
            revert hq hm
            generalize wx1.alloc (.map #[] 0) = wx2
            intro hq hm
            have hs := blk_below hq (blk_lt hs) hs
            have hbz := hbz.trans (hq.mono hbz.size)
            refine hK.out _ _ (blk_all (HC.out _ hbz).1).1 ?_
            clear hK K hq
            have HX := Lib.hid (And.intro hbz (And.intro hs hm))
            clear hbz hs hm
            (try simp only [Act.put, zA, zB, zC])
            obtain ⟨hbz, hs, hm⟩ := HX.out
            clear HX
            refine ordt_e ?_
            (refine op_e (o := ?_) ?_ ?_ (fun K hK => ?_); rotate_left 1; (focus ((simp only [zD, zE, zF]) <;> rfl)); (focus rfl); go_simp)
            refine (litTable_any w.heap.size sn sg cn cg (.slice so c.outs.length co) c l wx2 (CirAt.of_blk (HC.out _ hbz).1) (HC.out _ hbz).2 HH.out.2.1 o1 HE.out).mono ?_
            rintro e wx3 ⟨st, ct, rfl, ht, hq⟩
            rw [HN.out] at ht ⊢
            replace ht := own_base ht hbz.size
            have hs := blk_below hq (blk_lt hs) hs
            have hm := hm.below hq
            have hbz := hbz.trans (hq.mono hbz.size)
            refine hK.out _ _ (blk_all (HC.out _ hbz).1).1 ?_
            clear hK K hq
            have HX := Lib.hid (And.intro hbz (And.intro hs (And.intro hm ht)))
            clear hbz hs hm ht
            (try simp only [Act.put, zA, zB, zC])
            obtain ⟨hbz, hs, hm, ht⟩ := HX.out
            clear HX
            repeat (first | (refine ordt_s (o := ?_) ?_ ?_ ?_; rotate_left 1; (focus ((simp only [zD, zE, zF]) <;> rfl)); (focus rfl); simp only [Act.put, zA, zB, zC]) | (refine ordt_q (o := ?_) (v := ?_) ?_ ?_ ?_ ?_; rotate_left 2; (focus ((simp only [zD, zE, zF]) <;> rfl)); (focus rfl); (focus (intro w' hS; (try dsimp only at hS); go_split_ands; go_simp; (try (with_reducible rfl)))); simp only [Act.put, zA, zB, zC]))
            refine ordt_e ?_
            (refine op_e (o := ?_) ?_ ?_ (fun K hK => ?_); rotate_left 1; (focus ((simp only [zD, zE, zF]) <;> rfl)); (focus rfl); go_simp)
            try rw [ww]
            obtain ⟨mk, hmk0⟩ : ∃ b, b = wx3.heap.size := ⟨_, rfl⟩
            have hmk1 : W0.heap.size ≤ mk := by rw [hmk0]; exact hbz.size
            have hq := (Below.refl wx3.heap.size wx3).alloc (Nat.le_refl _) (.cells #[.slice st N ct, .int .i64 (M : Int), .slice (some ⟨ns, 0, none⟩) 2 2, .map (some mb)] 90)
            have hk0 := blk_new wx3 (.cells #[.slice st N ct, .int .i64 (M : Int), .slice (some ⟨ns, 0, none⟩) 2 2, .map (some mb)] 90)
            rw [← hmk0] at hk0
            rw [← hmk0]
            clear hmk0
            revert hq hk0
            generalize wx3.alloc (.cells #[.slice st N ct, .int .i64 (M : Int), .slice (some ⟨ns, 0, none⟩) 2 2, .map (some mb)] 90) = wy
            intro hq hk0
            have hbm : BM W0 mk mb st ct (tabF (litF c l) N) M wy [] (.slice (some ⟨ns, 0, none⟩) 2 2) :=
              ⟨by rw [tabF_length]; exact hk0, own_of_blk (n := 2) (blk_below hq (blk_lt hs) hs) hnb (by rfl) (by unfold maxLen; omega), hm.below hq, by rw [tabF_length]; exact own_below ht hq, hbz.trans (hq.mono hbz.size), hmk1, hmm⟩
            refine hK.out _ _ (blk_all (HC.out _ hbm.bl).1).1 ?_
            clear hK K hq hk0 hs hm ht hbz
            have HBM := Lib.hid hbm
            clear hbm
            (try simp only [Act.put, zA, zB, zC])
            repeat (first | (refine ordt_s (o := ?_) ?_ ?_ ?_; rotate_left 1; (focus ((simp only [zD, zE, zF]) <;> rfl)); (focus rfl); simp only [Act.put, zA, zB, zC]) | (refine ordt_q (o := ?_) (v := ?_) ?_ ?_ ?_ ?_; rotate_left 2; (focus ((simp only [zD, zE, zF]) <;> rfl)); (focus rfl); (focus (intro w' hS; (try dsimp only at hS); go_split_ands; go_simp; (try (with_reducible rfl)))); simp only [Act.put, zA, zB, zC]))
            refine ordt_nil ?_
            go_wp2_with fail
            go_meet
            exact ⟨mk, mb, st, ct, _, rfl, HBM.out⟩
        · (refine op_e (o := ?_) ?_ ?_ (fun K hK => ?_); rotate_left 1; (focus ((simp only [zD, zE, zF]) <;> rfl)); (focus rfl); go_simp)
          obtain ⟨mb, hmb⟩ : ∃ b, b = W0.heap.size := ⟨_, rfl⟩
          have hmm : W0.heap.size ≤ mb := by rw [hmb]; exact hbz.size
          have hq := (Below.refl W0.heap.size W0).alloc (Nat.le_refl _) (.map #[] 0)
          have hm := MapN.new W0
          rw [← hmb] at hm
          rw [← hmb]
          clear hmb
          revert hq hm
          generalize W0.alloc (.map #[] 0) = wx1
          intro hq hm
          have hbz := hbz.trans (hq.mono hbz.size)
          refine hK.out _ _ (blk_all (HC.out _ hbz).1).1 ?_
          clear hK K hq
          have HX := Lib.hid (And.intro hbz hm)
          clear hbz hm
          (try simp only [Act.put, zA, zB, zC])
          obtain ⟨hbz, hm⟩ := HX.out
          clear HX
          refine ordt_two ?_ ?_
          · (refine op_e (o := ?_) ?_ ?_ (fun K hK => ?_); rotate_left 1; (focus ((simp only [zD, zE, zF]) <;> rfl)); (focus rfl); go_simp)
            refine (litTable_any w.heap.size sn sg cn cg (.slice so c.outs.length co) c l wx1 (CirAt.of_blk (HC.out _ hbz).1) (HC.out _ hbz).2 HH.out.2.1 o1 HE.out).mono ?_
            rintro e wx2 ⟨st, ct, rfl, ht, hq⟩
            rw [HN.out] at ht ⊢
            replace ht := own_base ht hbz.size
            have hm := hm.below hq
            have hbz := hbz.trans (hq.mono hbz.size)
            refine hK.out _ _ (blk_all (HC.out _ hbz).1).1 ?_
            clear hK K hq
            have HX := Lib.hid (And.intro hbz (And.intro hm ht))
            clear hbz hm ht
            (try simp only [Act.put, zA, zB, zC])
            obtain ⟨hbz, hm, ht⟩ := HX.out
            clear HX
            refine ordt_e ?_
            (refine op_e (o := ?_) ?_ ?_ (fun K hK => ?_); rotate_left 1; (focus ((simp only [zD, zE, zF]) <;> rfl)); (focus rfl); go_simp)
            obtain ⟨ns, hns⟩ : ∃ b, b = wx2.heap.size := ⟨_, rfl⟩
            have hnb : W0.heap.size ≤ ns := by rw [hns]; exact hbz.size
            have hq := (Below.refl wx2.heap.size wx2).alloc (Nat.le_refl _) (.cells (ncells (zz [])).toArray 85)
            have hs := blk_new wx2 (.cells (ncells (zz [])).toArray 85)
            rw [← hns] at hs
            rw [← hns]
            clear hns
            revert hq hs
            generalize wx2.alloc (.cells (ncells (zz [])).toArray 85) = wx3
            intro hq hs
            have hm := hm.below hq
            have ht := own_below ht hq
            have hbz := hbz.trans (hq.mono hbz.size)
            refine hK.out _ _ (blk_all (HC.out _ hbz).1).1 ?_
            clear hK K hq
            have HX := Lib.hid (And.intro hbz (And.intro hm (And.intro ht hs)))
            clear hbz hm ht hs
            (try simp only [Act.put, zA, zB, zC])
            obtain ⟨hbz, hm, ht, hs⟩ := HX.out
            clear HX
            repeat (first | (refine ordt_s (o := ?_) ?_ ?_ ?_; rotate_left 1; (focus ((simp only [zD, zE, zF]) <;> rfl)); (focus rfl); simp only [Act.put, zA, zB, zC]) | (refine ordt_q (o := ?_) (v := ?_) ?_ ?_ ?_ ?_; rotate_left 2; (focus ((simp only [zD, zE, zF]) <;> rfl)); (focus rfl); (focus (intro w' hS; (try dsimp only at hS); go_split_ands; go_simp; (try (with_reducible rfl)))); simp only [Act.put, zA, zB, zC]))
            refine ordt_e ?_
            (refine op_e (o := ?_) ?_ ?_ (fun K hK => ?_); rotate_left 1; (focus ((simp only [zD, zE, zF]) <;> rfl)); (focus rfl); go_simp)
            try rw [ww]
            obtain ⟨mk, hmk0⟩ : ∃ b, b = wx3.heap.size := ⟨_, rfl⟩
            have hmk1 : W0.heap.size ≤ mk := by rw [hmk0]; exact hbz.size
            have hq := (Below.refl wx3.heap.size wx3).alloc (Nat.le_refl _) (.cells #[.slice st N ct, .int .i64 (M : Int), .slice (some ⟨ns, 0, none⟩) 2 2, .map (some mb)] 90)
            have hk0 := blk_new wx3 (.cells #[.slice st N ct, .int .i64 (M : Int), .slice (some ⟨ns, 0, none⟩) 2 2, .map (some mb)] 90)
            rw [← hmk0] at hk0
            rw [← hmk0]
            clear hmk0
            revert hq hk0
            generalize wx3.alloc (.cells #[.slice st N ct, .int .i64 (M : Int), .slice (some ⟨ns, 0, none⟩) 2 2, .map (some mb)] 90) = wy
            intro hq hk0
            have hbm : BM W0 mk mb st ct (tabF (litF c l) N) M wy [] (.slice (some ⟨ns, 0, none⟩) 2 2) :=
              ⟨by rw [tabF_length]; exact hk0, own_of_blk (n := 2) (blk_below hq (blk_lt hs) hs) hnb (by rfl) (by unfold maxLen; omega), hm.below hq, by rw [tabF_length]; exact own_below ht hq, hbz.trans (hq.mono hbz.size), hmk1, hmm⟩
            refine hK.out _ _ (blk_all (HC.out _ hbm.bl).1).1 ?_
            clear hK K hq hk0 hs hm ht hbz
            have HBM := Lib.hid hbm
            clear hbm
            (try simp only [Act.put, zA, zB, zC])
            repeat (first | (refine ordt_s (o := ?_) ?_ ?_ ?_; rotate_left 1; (focus ((simp only [zD, zE, zF]) <;> rfl)); (focus rfl); simp only [Act.put, zA, zB, zC]) | (refine ordt_q (o := ?_) (v := ?_) ?_ ?_ ?_ ?_; rotate_left 2; (focus ((simp only [zD, zE, zF]) <;> rfl)); (focus rfl); (focus (intro w' hS; (try dsimp only at hS); go_split_ands; go_simp; (try (with_reducible rfl)))); simp only [Act.put, zA, zB, zC]))
            refine ordt_nil ?_
            go_wp2_with fail
            go_meet
            exact ⟨mk, mb, st, ct, _, rfl, HBM.out⟩
          · (refine op_e (o := ?_) ?_ ?_ (fun K hK => ?_); rotate_left 1; (focus ((simp only [zD, zE, zF]) <;> rfl)); (focus rfl); go_simp)
            obtain ⟨ns, hns⟩ : ∃ b, b = wx1.heap.size := ⟨_, rfl⟩
            have hnb : W0.heap.size ≤ ns := by rw [hns]; exact hbz.size
            have hq := (Below.refl wx1.heap.size wx1).alloc (Nat.le_refl _) (.cells (ncells (zz [])).toArray 85)
            have hs := blk_new wx1 (.cells (ncells (zz [])).toArray 85)
            rw [← hns] at hs
            rw [← hns]
            clear hns
            revert hq hs
            generalize wx1.alloc (.cells (ncells (zz [])).toArray 85) = wx2
            intro hq hs
            have hm := hm.below hq
            have hbz := hbz.trans (hq.mono hbz.size)
            refine hK.out _ _ (blk_all (HC.out _ hbz).1).1 ?_
            clear hK K hq
            have HX := Lib.hid (And.intro hbz (And.intro hm hs))
            clear hbz hm hs
            (try simp only [Act.put, zA, zB, zC])
            obtain ⟨hbz, hm, hs⟩ := HX.out
            clear HX
            refine ordt_e ?_
            (refine op_e (o := ?_) ?_ ?_ (fun K hK => ?_); rotate_left 1; (focus ((simp only [zD, zE, zF]) <;> rfl)); (focus rfl); go_simp)
            refine (litTable_any w.heap.size sn sg cn cg (.slice so c.outs.length co) c l wx2 (CirAt.of_blk (HC.out _ hbz).1) (HC.out _ hbz).2 HH.out.2.1 o1 HE.out).mono ?_
            rintro e wx3 ⟨st, ct, rfl, ht, hq⟩
            rw [HN.out] at ht ⊢
            replace ht := own_base ht hbz.size
            have hm := hm.below hq
            have hs := blk_below hq (blk_lt hs) hs
            have hbz := hbz.trans (hq.mono hbz.size)
            refine hK.out _ _ (blk_all (HC.out _ hbz).1).1 ?_
            clear hK K hq
            have HX := Lib.hid (And.intro hbz (And.intro hm (And.intro hs ht)))
            clear hbz hm hs ht
            (try simp only [Act.put, zA, zB, zC])
            obtain ⟨hbz, hm, hs, ht⟩ := HX.out
            clear HX
            repeat (first | (refine ordt_s (o := ?_) ?_ ?_ ?_; rotate_left 1; (focus ((simp only [zD, zE, zF]) <;> rfl)); (focus rfl); simp only [Act.put, zA, zB, zC]) | (refine ordt_q (o := ?_) (v := ?_) ?_ ?_ ?_ ?_; rotate_left 2; (focus ((simp only [zD, zE, zF]) <;> rfl)); (focus rfl); (focus (intro w' hS; (try dsimp only at hS); go_split_ands; go_simp; (try (with_reducible rfl)))); simp only [Act.put, zA, zB, zC]))
            refine ordt_e ?_
            (refine op_e (o := ?_) ?_ ?_ (fun K hK => ?_); rotate_left 1; (focus ((simp only [zD, zE, zF]) <;> rfl)); (focus rfl); go_simp)
            try rw [ww]
            obtain ⟨mk, hmk0⟩ : ∃ b, b = wx3.heap.size := ⟨_, rfl⟩
            have hmk1 : W0.heap.size ≤ mk := by rw [hmk0]; exact hbz.size
            have hq := (Below.refl wx3.heap.size wx3).alloc (Nat.le_refl _) (.cells #[.slice st N ct, .int .i64 (M : Int), .slice (some ⟨ns, 0, none⟩) 2 2, .map (some mb)] 90)
            have hk0 := blk_new wx3 (.cells #[.slice st N ct, .int .i64 (M : Int), .slice (some ⟨ns, 0, none⟩) 2 2, .map (some mb)] 90)
            rw [← hmk0] at hk0
            rw [← hmk0]
            clear hmk0
            revert hq hk0
            generalize wx3.alloc (.cells #[.slice st N ct, .int .i64 (M : Int), .slice (some ⟨ns, 0, none⟩) 2 2, .map (some mb)] 90) = wy
            intro hq hk0
            have hbm : BM W0 mk mb st ct (tabF (litF c l) N) M wy [] (.slice (some ⟨ns, 0, none⟩) 2 2) :=
              ⟨by rw [tabF_length]; exact hk0, own_of_blk (n := 2) (blk_below hq (blk_lt hs) hs) hnb (by rfl) (by unfold maxLen; omega), hm.below hq, by rw [tabF_length]; exact own_below ht hq, hbz.trans (hq.mono hbz.size), hmk1, hmm⟩
            refine hK.out _ _ (blk_all (HC.out _ hbm.bl).1).1 ?_
            clear hK K hq hk0 hs hm ht hbz
            have HBM := Lib.hid hbm
            clear hbm
            (try simp only [Act.put, zA, zB, zC])
            repeat (first | (refine ordt_s (o := ?_) ?_ ?_ ?_; rotate_left 1; (focus ((simp only [zD, zE, zF]) <;> rfl)); (focus rfl); simp only [Act.put, zA, zB, zC]) | (refine ordt_q (o := ?_) (v := ?_) ?_ ?_ ?_ ?_; rotate_left 2; (focus ((simp only [zD, zE, zF]) <;> rfl)); (focus rfl); (focus (intro w' hS; (try dsimp only at hS); go_split_ands; go_simp; (try (with_reducible rfl)))); simp only [Act.put, zA, zB, zC]))
            refine ordt_nil ?_
            go_wp2_with fail
            go_meet
            exact ⟨mk, mb, st, ct, _, rfl, HBM.out⟩
      case rest =>
        obtain ⟨b, mb, st, ct, vn, rfl, hbm⟩ := hcut
        have HB := Lib.hid hbm
        have hbu := build_any W0 b mb st ct (tabF (litF c l) N) M n7 (by rw [tabF_length]; exact HN2.out) M 0 0 [] vn _ hbm (by omega) (by simp) (by have h7 : 2 ^ M ≤ 2 ^ 7 := Nat.pow_le_pow_right (by omega) n7; simp; omega)
        have hcg : bldK (fun j => (tabF (litF c l) N).getD j false) M 0 0 [] = bldK (litF c l) M 0 0 [] := bldK_congr _ _ _ _ _ _ (by simp) (fun y hy => tabF_getD _ (by rw [HN2.out]; simpa using hy))
        rw [hcg] at hbu
        rw [← HRR.out, show (((0 : Nat)) : Int) = 0 from rfl] at hbu
        have HBU := Lib.hid hbu
        clear hbm hbu hcg hbz hmk hmm
        go_wp2_with (go_at_call 58; ((with_reducible refine HBU.out.mono ?_); rintro e w5 ⟨vn5, rfl, h5⟩; obtain ⟨s5, c5, rfl⟩ := h5.shape; have H5 := Lib.hid h5; have cb := (blk_all h5.blk).1; have hm := blk_below h5.bl (blk_lt HA.out.2.1) HA.out.2.1; obtain ⟨rc, rf⟩ := blk_all hm; have HM := Lib.hid hm; clear h5 hm))
        have hRO := H5.out.own
        have hBL := HA.out.1.trans (H5.out.bl.mono (by omega))
        have hZ : ((w5.setCell ⟨w.heap.size + 1, 0, none⟩ (.slice s5 (r.1.length + 2) c5)).setCell ⟨w.heap.size + 1, 1, none⟩ (.int .i64 r.2)).heap[w.heap.size + 1]? = some (.cells #[.slice s5 (r.1.length + 2) c5, .int .i64 (r.2)] 47 (0, 0)) := by
          simpa using blk_set (o := 1) (v := .int .i64 (r.2)) (blk_set (o := 0) (v := .slice s5 (r.1.length + 2) c5) HM.out)
        have hR := own_set_ne (own_set_ne (b := w.heap.size + 1) (o := 0) hRO (by intro e; have := (own_blk hRO e).1; omega) (.slice s5 (r.1.length + 2) c5)) (b := w.heap.size + 1) (o := 1) (by intro e; have := (own_blk hRO e).1; omega) (.int .i64 (r.2))
        have hB := (hBL.setCell (p := ⟨w.heap.size + 1, 0, none⟩) (by simp) (.slice s5 (r.1.length + 2) c5)).setCell (p := ⟨w.heap.size + 1, 1, none⟩) (by simp) (.int .i64 (r.2))
        revert hZ hR hB
        generalize ((w5.setCell ⟨w.heap.size + 1, 0, none⟩ (.slice s5 (r.1.length + 2) c5)).setCell ⟨w.heap.size + 1, 1, none⟩ (.int .i64 r.2)) = WZ
        intro hZ hR hB
        have cr := (blk_all hZ).1
        exact bodyPost_ret (v := .agg #[.slice s5 (r.1.length + 2) c5, .int .i64 (r.2)]) (by simp [results, Try.results27, go_sem, cr]) rfl ⟨_, _, rfl, own_base hR (by omega), hB⟩
    · have e : bdR c l = ⟨[], 0⟩ := bdR_no fun h => hlit (by rw [← HH.out.2.2.2.1]; exact h.2)
      have HD := Lib.hid (decide_eq_false hlit)
      rw [e]
      clear e hlit
      go_enter Try.func27, Try.ntmps27
      go_wp2_with (first
        | (go_at_call 10; ((with_reducible refine (CircuitValid_i _ _ _ (HCV.out _ HL.out.1)).mono ?_); rintro e w1 ⟨rfl, hq⟩; have hm := blk_below hq (by have := HL.out.2.2.2.1; omega) HL.out.2.2.1; have HQ := Lib.hid (And.intro (HL.out.1.trans (hq.mono (by have := HL.out.2.2.2.1; omega))) (And.intro hm (blk_below hq (blk_lt HL.out.2.1) HL.out.2.1))); clear hq hm; rw [HH.out.1]))
        | (go_at_call 39; ((refine (vars_any _ _ _ _ _ _ _ _ _ _ (CirAt.of_blk HQ.out.2.2) (by omega) (by omega) (by omega)).mono ?_); rintro e w3 ⟨rfl, hd⟩; rw [HH.out.2.2.2.2]; have HQ := Lib.hid (And.intro (HQ.out.1.trans (hd.below _)) (And.intro (blk_below (hd.below _) (blk_lt HQ.out.2.1) HQ.out.2.1) (blk_below (hd.below _) (blk_lt HQ.out.2.2) HQ.out.2.2))); obtain ⟨rc, rf⟩ := blk_all HQ.out.2.1; clear hd))
        | (go_at_call 37; ((refine (isLit_any _ _ _ (by omega)).mono ?_); rintro e w4 ⟨rfl, rfl⟩; rw [HD.out])))
      have hZ : ((w3.setCell ⟨w.heap.size + 1, 0, none⟩ (.slice none (0) 0)).setCell ⟨w.heap.size + 1, 1, none⟩ (.int .i64 0)).heap[w.heap.size + 1]? = some (.cells #[.slice none (0) 0, .int .i64 (0)] 47 (0, 0)) := by
        simpa using blk_set (o := 1) (v := .int .i64 (0)) (blk_set (o := 0) (v := .slice none (0) 0) HQ.out.2.1)
      have hR := own_set_ne (own_set_ne (b := w.heap.size + 1) (o := 0) (HBad.out w3) (by intro e; have := (own_blk (HBad.out w3) e).1; omega) (.slice none (0) 0)) (b := w.heap.size + 1) (o := 1) (by intro e; have := (own_blk (HBad.out w3) e).1; omega) (.int .i64 (0))
      have hB := (HQ.out.1.setCell (p := ⟨w.heap.size + 1, 0, none⟩) (by simp) (.slice none (0) 0)).setCell (p := ⟨w.heap.size + 1, 1, none⟩) (by simp) (.int .i64 (0))
      revert hZ hR hB
      generalize ((w3.setCell ⟨w.heap.size + 1, 0, none⟩ (.slice none (0) 0)).setCell ⟨w.heap.size + 1, 1, none⟩ (.int .i64 0)) = WZ
      intro hZ hR hB
      have cr := (blk_all hZ).1
      exact bodyPost_ret (v := .agg #[.slice none (0) 0, .int .i64 (0)]) (by simp [results, Try.results27, go_sem, cr]) rfl ⟨_, _, rfl, own_base hR (by omega), hB⟩

end Go.Proofs.Ytaboipnigeaopaa
