import Derived.Test.YtfedipoffakegaaH6
namespace Go.Proofs.Ytfedipoffakegaa
set_option linter.unusedVariables false
set_option linter.unusedSimpArgs false
open Go.RowKit

theorem chg_cell {S : Nat → Prop} {w w' : World} (h : Chg S w w') {b o : Nat} (hb : b < w.heap.size) (hs : ¬ S b) : w'.cell? ⟨b, o, none⟩ = w.cell? ⟨b, o, none⟩ := by
  simp [World.cell?, h.block b hb hs]

set_option maxRecDepth 100000 in
set_option maxHeartbeats 6400000 in
theorem TestSet_s (v : Value) (c : Cir) (w : World) (h : CirV w v c) :
    Calls Try.prog 25 #[v] w fun e w' => ∃ s cap, e = .returned (.slice s (testR c).length cap) ∧ Sl w' s (ints (testR c)) ∧ Below w.heap.size w w' := by
  have HC : Hid (∀ w', Below w.heap.size w w' → CirV w' v c) := fun w' hb => h.mono hb
  obtain ⟨sn, cn, sg, cg, so, co, rfl, h1, h2, h3, hl1, hl2, hl3⟩ := h
  have hL2 : Below w.heap.size w ((w.alloc (.cells #[.int .i64 c.inp, .slice sn c.next.length cn, .slice sg c.gates.length cg, .slice so c.outs.length co] 31)).alloc (.cells #[] 3)) := by go_grown
  have hN2 := blk_old (o := .cells #[] 3) (blk_new w (.cells #[.int .i64 c.inp, .slice sn c.next.length cn, .slice sg c.gates.length cg, .slice so c.outs.length co] 31))
  have ho2 : ((w.alloc (.cells #[.int .i64 c.inp, .slice sn c.next.length cn, .slice sg c.gates.length cg, .slice so c.outs.length co] 31)).alloc (.cells #[] 3)).ownsRow (w.heap.size + 1) 3 1 (.slice (some ⟨w.heap.size + 1, 0, none⟩) 0 0) 0 [] := own_of_blk (n := 0) (cur := #[]) (blk_at (by simp)) (Nat.le_refl _) (by simp) (by unfold maxLen; omega)
  have hz2 : ((w.alloc (.cells #[.int .i64 c.inp, .slice sn c.next.length cn, .slice sg c.gates.length cg, .slice so c.outs.length co] 31)).alloc (.cells #[] 3)).heap.size = w.heap.size + 2 := by simp
  have HL := Lib.hid (And.intro hL2 (And.intro hN2 (And.intro ho2 hz2)))
  clear hL2 hN2 ho2 hz2 h1 h2 h3
  cases hv : c.validB
  · rw [testR_no hv]
    have HE := Lib.hid hv
    clear hv
    go_enter Try.func25, Try.ntmps25
    go_wp2_with (go_at_call 34; ((with_reducible refine (CircuitValid_s _ _ _ (HC.out _ HL.out.1)).mono ?_); rintro e w1 ⟨rfl, hq⟩; have HQ := Lib.hid hq; clear hq; rw [HE.out]))
    go_ret
    exact ⟨_, _, rfl, Sl.nil _ _, HL.out.1.trans (HQ.out.mono (by have := HL.out.2.2.2; omega))⟩
  · have hval := c.validB_iff.1 hv
    obtain ⟨f1, f2, f3, f4⟩ := valid_first hval
    obtain ⟨n1, n2⟩ := asgN_le hval
    obtain ⟨V, hV⟩ : ∃ V : Nat, c.vars = V := ⟨c.vars.toNat, by omega⟩
    have v1 : 1 ≤ V := by omega
    have v22 : V ≤ 22 := by omega
    rw [testR_yes hv hV]
    have HH := Lib.hid (And.intro hv (And.intro hval (And.intro hV n2)))
    clear hv hval hV f1 f2 f3 f4 n1 n2
    obtain ⟨M, hM⟩ : ∃ M, M = 2 * (V - 1) := ⟨_, rfl⟩
    rw [← hM]
    have hM42 : M ≤ 42 := by omega
    have HMM := Lib.hid hM
    clear hM
    go_enter Try.func25, Try.ntmps25
    go_wp2_with (first
      | (go_at_call 34; ((with_reducible refine (CircuitValid_s _ _ _ (HC.out _ HL.out.1)).mono ?_); rintro e w1 ⟨rfl, hq⟩; have HQ := Lib.hid (And.intro (HL.out.1.trans (hq.mono (by have := HL.out.2.2.2; omega))) (And.intro (blk_below hq (blk_lt HL.out.2.1) HL.out.2.1) (And.intro (own_below HL.out.2.2.1 hq) (show w.heap.size + 2 ≤ w1.heap.size by have h1 := hq.size; have h2 := HL.out.2.2.2; omega)))); clear hq; have cb0 := (blk_all HQ.out.2.1).1; rw [HH.out.1]))
      | (go_at_call 50; ((with_reducible refine (l12Faults_any _ _ _ (HC.out _ HQ.out.1) HH.out.2.1 V HH.out.2.2.1).mono ?_); rintro e w4 ⟨s4, c4, rfl, ho4, hq⟩; rw [← HMM.out] at ho4 ⊢; have HF := Lib.hid (And.intro (own_base ho4 HQ.out.2.2.2) (And.intro (HQ.out.1.trans (hq.mono HQ.out.1.size)) (And.intro (blk_below hq (blk_lt HQ.out.2.1) HQ.out.2.1) (And.intro (own_below HQ.out.2.2.1 hq) (show w.heap.size + 2 ≤ w4.heap.size from Nat.le_trans HQ.out.2.2.2 hq.size))))); clear ho4 hq cb0)))
    go_loopw [5, 3] (fun i x wr => ∃ (k : Nat) (s : Option Addr) (cc : Nat), k ≤ M ∧ i = .int .i64 k ∧ x = .slice s (testL c (V - 1) k).length cc ∧ wr.ownsRow (w.heap.size + 1) 3 1 x (testL c (V - 1) k).length (ints (testL c (V - 1) k)) ∧
        (∀ b, x.ownBlock = some b → b = w.heap.size + 1 ∨ w4.heap.size ≤ b) ∧ Chg (fun b => b = w.heap.size + 1 ∨ w4.heap.size ≤ b) w4 wr) (fun i _ _ => M - (intOf i).toNat)
    case atStart => exact ⟨0, _, _, Nat.zero_le _, rfl, rfl, HF.out.2.2.2.1, fun b hb => by simp [Value.ownBlock] at hb; omega, Chg.refl _ _⟩
    case round =>
      obtain ⟨k, s3, c3, hk, rfl, rfl, ho, hob, hch⟩ := hrel
      have hs4 := HF.out.2.2.2.2
      have hblk := hch.blk HF.out.2.2.1 (fun h => by omega)
      have hbw : Below w.heap.size w wr := HF.out.2.1.trans (hch.below HF.out.2.1.size (fun b hb h => by omega))
      have hsz := hch.size
      obtain ⟨xs, hxs⟩ : ∃ xs, xs = testL c (V - 1) k := ⟨_, rfl⟩
      obtain ⟨hinv1, hinv2⟩ := testL_inv c (V - 1) k
      rw [← hxs] at ho hinv1 hinv2 hob ⊢
      have hll : xs.length ≤ 42 := by omega
      by_cases hlt : k < M
      · have hfl : k < (faultsL (V - 1)).length := by rw [faultsL_length]; have := HMM.out; omega
        obtain ⟨⟨p, val⟩, hf⟩ := get_of_lt hfl
        obtain ⟨fb, foff, rfl, hfb, z1, z2⟩ := (own_sl HF.out.1).fault (Below.refl _ _) hf
        have hfb2 := (own_blk HF.out.1 rfl).1
        have hfS : ¬ (fb = w.heap.size + 1 ∨ w4.heap.size ≤ fb) := by simp at hfb2; omega
        rw [← chg_cell hch hfb hfS] at z1 z2
        have hfw : fb < wr.heap.size := Nat.lt_of_lt_of_le hfb hsz
        obtain ⟨p1, p2⟩ := faultsL_range _ (List.mem_of_getElem? hf)
        have hp2 : p < c.vars := by have := HH.out.2.2.1; omega
        have hstep := testL_snoc (c := c) hf
        rw [← hxs] at hstep
        unfold tStep at hstep
        dsimp only at hstep z1 z2 p1
        obtain ⟨X, hX⟩ : ∃ X, X = findN (detV c p val) (asgN c) := ⟨_, rfl⟩
        have hXr := findN_range (detV c p val) (asgN c)
        rw [← hX] at hstep hXr
        have x1 : -1 ≤ X := by rcases hXr with e | e <;> omega
        have x2 : X ≤ 1000 := by have := HH.out.2.2.2; rcases hXr with e | e <;> omega
        obtain ⟨WR, hWR⟩ : ∃ WR, WR = wr := ⟨_, rfl⟩
        subst hWR
        have HR := Lib.hid (And.intro ho (And.intro hch (And.intro hbw (And.intro hblk (And.intro hxs (And.intro hinv2 (And.intro hstep (And.intro hob (And.intro hX (And.intro hp2 (show WR.cell? ⟨fb, foff + k * 2, none⟩ = some (.int .i64 p) ∧ WR.cell? ⟨fb, foff + k * 2 + 1, none⟩ = some (.bool val) from ⟨z1, z2⟩)))))))))))
        have hbxl := blk_lt hblk
        clear ho hch hbw hblk hxs hinv1 hinv2 hf p2 hstep hob hX hXr hp2 hfb hfl hfb2 hfS z1 z2
        go_wp2_with fail
        go_loopw [6, 7] (fun sn kk wq => ∃ j : Nat, j ≤ xs.length ∧ kk = .int .i64 j ∧ sn = .bool ((xs.take j).any (detV c p val)) ∧ Below WR.heap.size WR wq) (fun _ kk _ => xs.length - (intOf kk).toNat)
        case atStart => exact ⟨0, Nat.zero_le _, rfl, rfl, Below.refl _ _⟩
        case round =>
          obtain ⟨j, hj, rfl, rfl, hbq⟩ := hrel
          have hbox := blk_below hbq hbxl HR.out.2.2.2.1
          have hbw2 : Below w.heap.size w wr := HR.out.2.2.1.trans (hbq.mono HR.out.2.2.1.size)
          have y1 := (hbq.cell (p := ⟨fb, foff + k * 2, none⟩) hfw).trans HR.out.2.2.2.2.2.2.2.2.2.2.1
          have y2 := (hbq.cell (p := ⟨fb, foff + k * 2 + 1, none⟩) hfw).trans HR.out.2.2.2.2.2.2.2.2.2.2.2
          have cb := (blk_all hbox).1
          obtain ⟨A, hA⟩ : ∃ A, A = (xs.take j).any (detV c p val) := ⟨_, rfl⟩
          rw [← hA]
          by_cases hjl : j < xs.length
          · obtain ⟨x, hx⟩ := get_of_lt hjl
            obtain ⟨ob, oo, rfl, hobw, zx⟩ := (own_sl HR.out.1).int hbq hx
            have hsn : (xs.take (j + 1)).any (detV c p val) = (A || detV c p val x) := by rw [List.take_add_one, hx, hA]; simp
            obtain ⟨q1, q2⟩ := HR.out.2.2.2.2.2.1 x (List.mem_of_getElem? hx)
            obtain ⟨kx, hkx⟩ : ∃ kx : Nat, x = kx := ⟨x.toNat, by omega⟩
            have hk128 := HH.out.2.2.2
            subst hkx
            have hS : ∀ W, Below wr.heap.size wr W → (∀ o, W.cell? ⟨w.heap.size, o, none⟩ = #[Value.int .i64 c.inp, Value.slice sn c.next.length cn, Value.slice sg c.gates.length cg, Value.slice so c.outs.length co][o]?) ∧ W.cell? ⟨fb, foff + k * 2, none⟩ = some (.int .i64 p) ∧ W.cell? ⟨fb, foff + k * 2 + 1, none⟩ = some (.bool val) ∧ W.cell? ⟨ob, oo + j, none⟩ = some (.int .i64 kx) := fun W hW =>
              ⟨(blk_all (blk_below hW (blk_lt hbox) hbox)).1, (hW.cell (p := ⟨fb, foff + k * 2, none⟩) (Nat.lt_of_lt_of_le hfw hbq.size)).trans y1, (hW.cell (p := ⟨fb, foff + k * 2 + 1, none⟩) (Nat.lt_of_lt_of_le hfw hbq.size)).trans y2, (hW.cell (p := ⟨ob, oo + j, none⟩) (Nat.lt_of_lt_of_le hobw hbq.size)).trans zx⟩
            have HJ := Lib.hid (And.intro hsn (And.intro hS (And.intro hbq (And.intro hbw2 (show kx ≤ 1000 by omega)))))
            clear hsn hS hbq hbw2 hx hA q1 q2 hk128 hobw hbox
            go_upto_region 12 with fail
            have hSW := HJ.out.2.1 wr.drew (Below.refl _ _).drew
            clear cb y1 y2 zx
            refine wp_region_ord (fun w' => (∀ o, w'.cell? ⟨w.heap.size, o, none⟩ = #[Value.int .i64 c.inp, Value.slice sn c.next.length cn, Value.slice sg c.gates.length cg, Value.slice so c.outs.length co][o]?) ∧ w'.cell? ⟨fb, foff + k * 2, none⟩ = some (.int .i64 p) ∧ w'.cell? ⟨fb, foff + k * 2 + 1, none⟩ = some (.bool val) ∧ w'.cell? ⟨ob, oo + j, none⟩ = some (.int .i64 kx)) ((0, false) :: (1, false) :: (2, false) :: (3, false) :: (4, false) :: (5, false) :: (6, false) :: (7, false) :: (8, false) :: (9, false) :: (10, false) :: (11, true) :: (12, false) :: (13, false) :: []) (by kernel_rfl) (by kernel_rfl) (by kernel_rfl) (by kernel_rfl) hSW ?_
            cases A
            · repeat (first | (refine ord_es (o := ?_) ?_ ?_ (by assumption) ?_; rotate_left 1; (focus ((simp only [List.getElem?_toArray, List.getElem?_cons_succ, List.getElem?_cons_zero]) <;> rfl)); (focus rfl); simp only [Act.put, List.setIfInBounds_toArray, List.set_cons_zero, List.set_cons_succ]) | (refine ord_s (o := ?_) ?_ ?_ ?_; rotate_left 1; (focus ((simp only [List.getElem?_toArray, List.getElem?_cons_succ, List.getElem?_cons_zero]) <;> rfl)); (focus rfl); simp only [Act.put, List.setIfInBounds_toArray, List.set_cons_zero, List.set_cons_succ]) | (refine ord_q (o := ?_) (v := ?_) ?_ ?_ ?_ ?_; rotate_left 2; (focus ((simp only [List.getElem?_toArray, List.getElem?_cons_succ, List.getElem?_cons_zero]) <;> rfl)); (focus rfl); (focus (intro w' hS; (try dsimp only at hS); go_split_ands; go_simp; (try (with_reducible rfl)))); simp only [Act.put, List.setIfInBounds_toArray, List.set_cons_zero, List.set_cons_succ]))
              (refine ord_e (o := ?_) ?_ ?_ (fun K hK => ?_); rotate_left 1; (focus ((simp only [List.getElem?_toArray, List.getElem?_cons_succ, List.getElem?_cons_zero]) <;> rfl)); (focus rfl); go_simp)
              refine (l12Detects_any _ c p val kx _ (HC.out _ HJ.out.2.2.2.1.drew) HH.out.2.1 (by omega) HR.out.2.2.2.2.2.2.2.2.2.1 HJ.out.2.2.2.2).mono ?_
              rintro e wd ⟨rfl, hq⟩
              have hbd : Below wr.heap.size wr wd := (Below.refl _ _).drew.trans hq
              clear hSW
              have hSW := HJ.out.2.1 wd hbd
              refine hK.out _ _ hSW ?_
              clear hK K hq
              have HD := Lib.hid (HJ.out.2.2.1.trans (hbd.mono HJ.out.2.2.1.size))
              clear hbd
              (try simp only [Act.put, List.setIfInBounds_toArray, List.set_cons_zero, List.set_cons_succ])
              repeat (first | (refine ord_es (o := ?_) ?_ ?_ (by assumption) ?_; rotate_left 1; (focus ((simp only [List.getElem?_toArray, List.getElem?_cons_succ, List.getElem?_cons_zero]) <;> rfl)); (focus rfl); simp only [Act.put, List.setIfInBounds_toArray, List.set_cons_zero, List.set_cons_succ]) | (refine ord_s (o := ?_) ?_ ?_ ?_; rotate_left 1; (focus ((simp only [List.getElem?_toArray, List.getElem?_cons_succ, List.getElem?_cons_zero]) <;> rfl)); (focus rfl); simp only [Act.put, List.setIfInBounds_toArray, List.set_cons_zero, List.set_cons_succ]) | (refine ord_q (o := ?_) (v := ?_) ?_ ?_ ?_ ?_; rotate_left 2; (focus ((simp only [List.getElem?_toArray, List.getElem?_cons_succ, List.getElem?_cons_zero]) <;> rfl)); (focus rfl); (focus (intro w' hS; (try dsimp only at hS); go_split_ands; go_simp; (try (with_reducible rfl)))); simp only [Act.put, List.setIfInBounds_toArray, List.set_cons_zero, List.set_cons_succ]))
              refine ord_nil ?_
              clear hSW
              go_wp2_with fail
              go_roundw
              case rel => exact ⟨j + 1, by omega, by go_num, by rw [HJ.out.1]; simp, HD.out⟩
              case measure => simp [intOf]; omega
            · repeat (first | (refine ord_es (o := ?_) ?_ ?_ (by assumption) ?_; rotate_left 1; (focus ((simp only [List.getElem?_toArray, List.getElem?_cons_succ, List.getElem?_cons_zero]) <;> rfl)); (focus rfl); simp only [Act.put, List.setIfInBounds_toArray, List.set_cons_zero, List.set_cons_succ]) | (refine ord_s (o := ?_) ?_ ?_ ?_; rotate_left 1; (focus ((simp only [List.getElem?_toArray, List.getElem?_cons_succ, List.getElem?_cons_zero]) <;> rfl)); (focus rfl); simp only [Act.put, List.setIfInBounds_toArray, List.set_cons_zero, List.set_cons_succ]) | (refine ord_q (o := ?_) (v := ?_) ?_ ?_ ?_ ?_; rotate_left 2; (focus ((simp only [List.getElem?_toArray, List.getElem?_cons_succ, List.getElem?_cons_zero]) <;> rfl)); (focus rfl); (focus (intro w' hS; (try dsimp only at hS); go_split_ands; go_simp; (try (with_reducible rfl)))); simp only [Act.put, List.setIfInBounds_toArray, List.set_cons_zero, List.set_cons_succ]))
              refine ord_nil ?_
              clear hSW
              go_wp2_with fail
              go_roundw
              case rel => exact ⟨j + 1, by omega, by go_num, by rw [HJ.out.1]; simp, HJ.out.2.2.1.drew⟩
              case measure => simp [intOf]; omega
          · obtain rfl : j = xs.length := by omega
            rw [List.take_length] at hA
            have hSB : ∀ W, Below wr.heap.size wr W → (∀ o, W.cell? ⟨w.heap.size, o, none⟩ = #[Value.int .i64 c.inp, Value.slice sn c.next.length cn, Value.slice sg c.gates.length cg, Value.slice so c.outs.length co][o]?) ∧ W.cell? ⟨fb, foff + k * 2, none⟩ = some (.int .i64 p) ∧ W.cell? ⟨fb, foff + k * 2 + 1, none⟩ = some (.bool val) := fun W hW =>
              ⟨(blk_all (blk_below hW (blk_lt hbox) hbox)).1, (hW.cell (p := ⟨fb, foff + k * 2, none⟩) (Nat.lt_of_lt_of_le hfw hbq.size)).trans y1, (hW.cell (p := ⟨fb, foff + k * 2 + 1, none⟩) (Nat.lt_of_lt_of_le hfw hbq.size)).trans y2⟩
            have hchq : Chg (fun b => b = w.heap.size + 1 ∨ w4.heap.size ≤ b) w4 wr := HR.out.2.1.trans (Chg.of_below hbq)
            have hoq := own_below HR.out.1 hbq
            have hszq : w4.heap.size ≤ wr.heap.size := hchq.size
            have HJ := Lib.hid (And.intro hSB (And.intro hchq (And.intro hoq (And.intro hbw2 (show A = xs.any (detV c p val) from hA)))))
            clear hSB hchq hoq hbq hbw2 hA hbox
            cases A
            · go_upto_region 14 with fail
              clear cb y1 y2
              go_cut [8] from 42 to 47 (fun s8 wx => s8 = .int .i64 X ∧ Below wr.heap.size wr wx)
              case first =>
                refine wp_region_ord (fun w' => (∀ o, w'.cell? ⟨w.heap.size, o, none⟩ = #[Value.int .i64 c.inp, Value.slice sn c.next.length cn, Value.slice sg c.gates.length cg, Value.slice so c.outs.length co][o]?) ∧ w'.cell? ⟨fb, foff + k * 2, none⟩ = some (.int .i64 p) ∧ w'.cell? ⟨fb, foff + k * 2 + 1, none⟩ = some (.bool val)) ((0, false) :: (1, false) :: (2, false) :: (3, false) :: (4, false) :: (5, true) :: (6, false) :: []) (by kernel_rfl) (by kernel_rfl) (by kernel_rfl) (by kernel_rfl) (HJ.out.1 _ (Below.refl _ _).drew) ?_
                repeat (first | (refine ord_es (o := ?_) ?_ ?_ (by assumption) ?_; rotate_left 1; (focus ((simp only [List.getElem?_toArray, List.getElem?_cons_succ, List.getElem?_cons_zero]) <;> rfl)); (focus rfl); simp only [Act.put, List.setIfInBounds_toArray, List.set_cons_zero, List.set_cons_succ]) | (refine ord_s (o := ?_) ?_ ?_ ?_; rotate_left 1; (focus ((simp only [List.getElem?_toArray, List.getElem?_cons_succ, List.getElem?_cons_zero]) <;> rfl)); (focus rfl); simp only [Act.put, List.setIfInBounds_toArray, List.set_cons_zero, List.set_cons_succ]) | (refine ord_q (o := ?_) (v := ?_) ?_ ?_ ?_ ?_; rotate_left 2; (focus ((simp only [List.getElem?_toArray, List.getElem?_cons_succ, List.getElem?_cons_zero]) <;> rfl)); (focus rfl); (focus (intro w' hS; (try dsimp only at hS); go_split_ands; go_simp; (try (with_reducible rfl)))); simp only [Act.put, List.setIfInBounds_toArray, List.set_cons_zero, List.set_cons_succ]))
                (refine ord_e (o := ?_) ?_ ?_ (fun K hK => ?_); rotate_left 1; (focus ((simp only [List.getElem?_toArray, List.getElem?_cons_succ, List.getElem?_cons_zero]) <;> rfl)); (focus rfl); go_simp)
                refine (l12Find_any _ c p val _ (HC.out _ HJ.out.2.2.2.1.drew) HH.out.2.1 (by omega) HR.out.2.2.2.2.2.2.2.2.2.1).mono ?_
                rintro e wd ⟨rfl, hq⟩
                rw [← HR.out.2.2.2.2.2.2.2.2.1]
                have hbd : Below wr.heap.size wr wd := (Below.refl _ _).drew.trans hq
                refine hK.out _ _ (HJ.out.1 wd hbd) ?_
                clear hK K hq
                have HD := Lib.hid hbd
                clear hbd
                (try simp only [Act.put, List.setIfInBounds_toArray, List.set_cons_zero, List.set_cons_succ])
                repeat (first | (refine ord_es (o := ?_) ?_ ?_ (by assumption) ?_; rotate_left 1; (focus ((simp only [List.getElem?_toArray, List.getElem?_cons_succ, List.getElem?_cons_zero]) <;> rfl)); (focus rfl); simp only [Act.put, List.setIfInBounds_toArray, List.set_cons_zero, List.set_cons_succ]) | (refine ord_s (o := ?_) ?_ ?_ ?_; rotate_left 1; (focus ((simp only [List.getElem?_toArray, List.getElem?_cons_succ, List.getElem?_cons_zero]) <;> rfl)); (focus rfl); simp only [Act.put, List.setIfInBounds_toArray, List.set_cons_zero, List.set_cons_succ]) | (refine ord_q (o := ?_) (v := ?_) ?_ ?_ ?_ ?_; rotate_left 2; (focus ((simp only [List.getElem?_toArray, List.getElem?_cons_succ, List.getElem?_cons_zero]) <;> rfl)); (focus rfl); (focus (intro w' hS; (try dsimp only at hS); go_split_ands; go_simp; (try (with_reducible rfl)))); simp only [Act.put, List.setIfInBounds_toArray, List.set_cons_zero, List.set_cons_succ]))
                refine ord_nil ?_
                go_wp2_with fail
                go_meet
                exact ⟨rfl, HD.out⟩
              case rest =>
                obtain ⟨rfl, hbx⟩ := hcut
                have HX := Lib.hid (And.intro (own_below HJ.out.2.2.1 hbx) (HJ.out.2.1.trans (Chg.of_below hbx)))
                have hszx : w4.heap.size ≤ wc.heap.size := Nat.le_trans hszq hbx.size
                clear hbx
                by_cases hX0 : 0 ≤ X
                · have hst : Hid (testL c (V - 1) (k + 1) = xs ++ [X]) := by have := HR.out.2.2.2.2.2.2.1; rw [← HJ.out.2.2.2.2, if_neg (by simp), if_pos hX0] at this; exact this
                  go_wp2_with (at_builtin; refine wpl_app rfl _ _ rfl elem_int (own_below HX.out.1 ((Below.refl _ _).alloc (Nat.le_refl _) _)) rfl rfl rfl (Sl.new _ _ _) (by simp [Value.oneCell']) (xs.length + 1) rfl (ints (xs ++ [X])) (by rw [← ints_append]; rfl) (by unfold maxLen; omega) (by omega) (by simp; omega) ?_; intro s8 c8 w8 h8 _ hg8 ho8; have HA8 := Lib.hid (And.intro h8 (And.intro hg8 ho8)); clear h8 hg8 ho8)
                  go_roundw
                  case rel =>
                    have el : (testL c (V - 1) (k + 1)).length = xs.length + 1 := by rw [hst.out]; simp
                    refine ⟨k + 1, s8, c8, by omega, by go_num, by rw [el], ?_, fun b hb => ?_, ?_⟩
                    · rw [el, hst.out]; exact HA8.out.1
                    · rcases HA8.out.2.2 with e | e
                      · rw [e] at hb; exact HR.out.2.2.2.2.2.2.2.1 b hb
                      · rw [e] at hb; simp at hb; omega
                    · exact (HX.out.2.trans (Chg.of_below ((Below.refl _ _).alloc (Nat.le_refl _) _))).trans ((Chg.of_grown HA8.out.2.1).mono fun b hb => HR.out.2.2.2.2.2.2.2.1 b hb)
                  case measure => simp [intOf]; omega
                · have hst : Hid (testL c (V - 1) (k + 1) = xs) := by have := HR.out.2.2.2.2.2.2.1; rw [← HJ.out.2.2.2.2, if_neg (by simp), if_neg hX0] at this; exact this
                  go_wp2_with fail
                  go_roundw
                  case rel => exact ⟨k + 1, s3, c3, by omega, by go_num, by rw [hst.out], by rw [hst.out]; exact HX.out.1, HR.out.2.2.2.2.2.2.2.1, HX.out.2⟩
                  case measure => simp [intOf]; omega
            · have hst : Hid (testL c (V - 1) (k + 1) = xs) := by have := HR.out.2.2.2.2.2.2.1; rw [← HJ.out.2.2.2.2, if_pos rfl] at this; exact this
              go_wp2_with fail
              go_roundw
              case rel => exact ⟨k + 1, s3, c3, by omega, by go_num, by rw [hst.out], by rw [hst.out]; exact HJ.out.2.2.1, HR.out.2.2.2.2.2.2.2.1, HJ.out.2.1⟩
              case measure => simp [intOf]; omega
      · obtain rfl : k = M := by omega
        have HR := Lib.hid (And.intro ho (And.intro hbw hxs))
        clear ho hbw hblk hxs hinv1 hinv2 hob hch
        go_wp2_with fail
        go_ret
        rw [← HR.out.2.2]
        first
          | exact ⟨s3, c3, rfl, own_sl HR.out.1, HR.out.2.1⟩
          | exact ⟨s3, ⟨c3, rfl⟩, own_sl HR.out.1, HR.out.2.1⟩

end Go.Proofs.Ytfedipoffakegaa
