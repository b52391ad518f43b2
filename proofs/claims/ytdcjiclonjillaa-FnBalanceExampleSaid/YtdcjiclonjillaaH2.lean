import Derived.Test.YtdcjiclonjillaaV3
import Derived.Test.YtdcjiclonjillaaV6
import Derived.Test.YtdcjiclonjillaaL4
namespace Go.Proofs.Ytdcjiclonjillaa
set_option linter.unusedVariables false
set_option linter.unusedSimpArgs false
open Go.RowKit

/-! Outputs and next states under a fault: the program's walks. -/

theorem roots_lits {c : Cir} (hv : c.valid) : ∀ x ∈ c.next ++ c.outs, 0 ≤ x ∧ x ≤ 1000000 ∧ x / 2 < c.vars := by
  intro x hx
  have := (List.mem_append.1 hx).elim (hv.next x) (hv.outs x)
  have h2 := valid_first hv
  unfold litP at this; omega

set_option maxHeartbeats 800000 in
theorem results_any (b : Nat) (sn sg so : Option Addr) (cn cg co : Nat) (c : Cir) (k : Nat) (st : Int) (val : Bool) (w : World)
    (h : CirAt w b c.inp (.slice sn c.next.length cn) (.slice sg c.gates.length cg) (.slice so c.outs.length co)) (hn : Sl w sn (ints c.next)) (hg : Sl w sg (gcells c.gates)) (ho : Sl w so (ints c.outs)) (hv : c.valid)
    (hk : k ≤ 1000) (hst : -1 ≤ st) (hst2 : st < c.vars) :
    Calls Try.prog 79 #[.pointer (some ⟨b, 0, none⟩), .int .i64 k, .int .i64 st, .bool val] w fun e w' => ∃ s cap, e = .returned (.slice s (c.next.length + c.outs.length) cap) ∧ Sl w' s (bools (resV c k st val)) ∧ Below w.heap.size w w' := by
  have HB : Hid (b < w.heap.size) := World.block_lt_of_cell? w _ h.h0
  obtain ⟨f1, f2, f3, f4⟩ := valid_first hv
  obtain ⟨q1, q2, q3, q4, q5⟩ := id hv.lim
  obtain ⟨V, hV⟩ : ∃ V : Nat, c.vars = V := ⟨c.vars.toNat, by omega⟩
  obtain ⟨ni, hni⟩ : ∃ ni : Nat, c.inp = ni := ⟨c.inp.toNat, by omega⟩
  have n4 : ni ≤ 4 := by omega
  rw [hV] at hst2
  have hkpw : (1 : Int) ≤ 2 ^ ni := by have : (0 : Int) < 2 ^ ni := Int.pow_pos (by decide); omega
  have H := Lib.hid (And.intro h (And.intro hn (And.intro hg (And.intro ho (And.intro hv (And.intro hV hni))))))
  have HM : Hid (∀ W, Below w.heap.size w W → CirAt W b c.inp (.slice sn c.next.length cn) (.slice sg c.gates.length cg) (.slice so c.outs.length co)) := fun W hb => ⟨(hb.cell (p := ⟨b, 0, none⟩) HB.out).trans H.out.1.h0, (hb.cell (p := ⟨b, 1, none⟩) HB.out).trans H.out.1.h1, (hb.cell (p := ⟨b, 2, none⟩) HB.out).trans H.out.1.h2, (hb.cell (p := ⟨b, 3, none⟩) HB.out).trans H.out.1.h3⟩
  have hlV : (evalV c k st val).length = V := by
    have h1 := hV; unfold Cir.vars at h1
    rw [evalV_length]; omega
  have hle : valsV st val (stuckB st val (false :: (bitsV k ni ++ bitsV ((k : Int) / 2 ^ c.inp.toNat) c.next.length))) c.gates = evalV c k st val := by
    unfold evalV asgV; rw [hni]; simp
  have HL := Lib.hid (And.intro hlV hle)
  clear h hn hg ho hv hV hni hkpw hlV hle f1 f2 f3 f4
  go_enter Try.func79, Try.ntmps79
  go_wp2_with (first
    | (go_at_call 80; ((refine (latchBits_any _ _ _ _ _ _ _ _ _ H.out.1 ⟨by omega, by omega⟩ (by omega) (by omega) (by omega)).mono ?_); rintro e wa ⟨sa, rfl, ha, hqa⟩; have HA := Lib.hid (And.intro hqa ha); clear ha hqa))
    | (go_at_call 81; ((refine (inputBits_any _ _ _ _ _ _ _ (HM.out _ HA.out.1) ni H.out.2.2.2.2.2.2 (by omega) (by omega) (by omega)).mono ?_); rintro e wb ⟨sb, rfl, hb, hqb⟩; have HB2 := Lib.hid (And.intro (HA.out.1.trans (hqb.mono HA.out.1.size)) (And.intro hb (HA.out.2.mono hqb))); clear hb hqb))
    | (go_at_call 90; ((refine (evaluate_any _ _ _ _ _ _ c sa sb _ _ (bitsV ((k : Int) / 2 ^ c.inp.toNat) c.next.length) (bitsV k ni) st val _ (HM.out _ HB2.out.1) (H.out.2.2.1.mono HB2.out.1) H.out.2.2.2.2.1 HB2.out.2.2 HB2.out.2.1 (bitsV_length _ _) ni (bitsV_length _ _) H.out.2.2.2.2.2.2 V H.out.2.2.2.2.2.1 hst hst2).mono ?_); rintro e we ⟨gv, rfl, hgv, hqe⟩; rw [HL.out.2] at hgv; have HE := Lib.hid (And.intro (HB2.out.1.trans (hqe.mono HB2.out.1.size)) (Sl.toB hgv)); clear hgv hqe))
    | (go_at_call 71; ((refine (roots_any _ _ _ _ _ _ _ _ _ _ (HM.out _ HE.out.1) (H.out.2.1.mono HE.out.1) (H.out.2.2.2.1.mono HE.out.1) (by omega) (by omega)).mono ?_); rintro e wf ⟨sf, cf, rfl, hof, hqf⟩; rw [ints_append] at hof; have HF := Lib.hid (And.intro (HE.out.1.trans (hqf.mono HE.out.1.size)) (And.intro (HE.out.2.mono hqf) (own_sl hof))); clear hof hqf)))
  have hlv := litValues_any (some ⟨gv, 0, none⟩) sf (evalV c k st val) V cf (c.next ++ c.outs) wf HF.out.2.1 HF.out.2.2 (fun x hx => by have := roots_lits H.out.2.2.2.2.1 x hx; rw [HL.out.1]; rw [H.out.2.2.2.2.2.1] at this; exact this) (by simp; omega)
  rw [HL.out.1, List.length_append] at hlv
  refine hlv.mono ?_
  rintro e wz ⟨sz, cz, rfl, hz, hq⟩
  have HZ := Lib.hid (And.intro hz (HF.out.1.trans (hq.mono HF.out.1.size)))
  clear hz hq hlv
  go_wp2_with fail
  go_ret
  exact ⟨sz, cz, rfl, HZ.out.1, HZ.out.2⟩

set_option maxHeartbeats 400000 in
theorem eqBools_any (s t : Option Addr) (xs ys : List Bool) (n cap cap2 : Nat) (w : World) (hs : Sl w s (bools xs)) (ht : Sl w t (bools ys)) (hl : xs.length = n) (hl2 : ys.length = n) (hn : n ≤ 1000) :
    Calls Try.prog 78 #[.slice s n cap, .slice t n cap2] w fun e w' => e = .returned (.bool (decide (xs = ys))) ∧ Drew w w' := by
  have HS := Lib.hid (And.intro hs (And.intro ht (And.intro hl hl2)))
  clear hs ht hl hl2
  go_enter Try.func78, Try.ntmps78
  go_wp2
  go_loopw [13] (fun i wr => ∃ k : Nat, k ≤ n ∧ i = .int .i64 k ∧ xs.take k = ys.take k ∧ Drew w wr) (fun i _ => n - (intOf i).toNat)
  case atStart => exact ⟨0, Nat.zero_le _, rfl, rfl, Drew.refl _⟩
  case round =>
    obtain ⟨k, hk, rfl, htk, hd⟩ := hrel
    have HT : Hid (xs.take k = ys.take k) := htk
    have HD := Lib.hid hd
    clear htk hd
    by_cases hlt : k < n
    · obtain ⟨x, hx⟩ := get_of_lt (l := xs) (k := k) (by have := HS.out.2.2.1; omega)
      obtain ⟨y, hy⟩ := get_of_lt (l := ys) (k := k) (by have := HS.out.2.2.2; omega)
      obtain ⟨b, off, rfl, hbw, hz⟩ := HS.out.1.bool (HD.out.below _) hx
      obtain ⟨b2, off2, rfl, hbw2, hz2⟩ := HS.out.2.1.bool (HD.out.below _) hy
      have HR := Lib.hid (And.intro hx hy)
      clear hx hy
      cases x <;> cases y
      all_goals
        go_wp2
        go_quiet (fail)
        go_wp2
        obtain ⟨hx, hy⟩ := HR.out
        first
          | (go_roundw
             case rel => exact ⟨k + 1, by omega, by go_num, by rw [List.take_add_one, List.take_add_one, HT.out, hx, hy], HD.out.n _⟩
             case measure => simp [intOf]; omega)
          | (go_ret
             refine ⟨ret_bool ?_, HD.out.n _⟩
             symm; rw [decide_eq_false_iff_not]; intro e; subst e; rw [hx] at hy; simp at hy)
    · obtain rfl : k = n := by omega
      have he : decide (xs = ys) = true := by
        have h1 := HT.out
        rw [List.take_of_length_le (by have := HS.out.2.2.1; omega), List.take_of_length_le (by have := HS.out.2.2.2; omega)] at h1
        simpa using h1
      have HE := Lib.hid he
      clear he
      go_wp2
      go_ret
      exact ⟨ret_bool HE.out.symm, HD.out⟩

set_option maxHeartbeats 800000 in
theorem detects_any (b : Nat) (sn sg so : Option Addr) (cn cg co : Nat) (c : Cir) (k : Nat) (p : Int) (val : Bool) (w : World)
    (h : CirAt w b c.inp (.slice sn c.next.length cn) (.slice sg c.gates.length cg) (.slice so c.outs.length co)) (hn : Sl w sn (ints c.next)) (hg : Sl w sg (gcells c.gates)) (ho : Sl w so (ints c.outs)) (hv : c.valid)
    (hk : k ≤ 1000) (hp : 0 ≤ p) (hp2 : p < c.vars) :
    Calls Try.prog 100 #[.pointer (some ⟨b, 0, none⟩), .agg #[.int .i64 p, .bool val], .int .i64 k] w fun e w' => e = .returned (.bool (detV c p val k)) ∧ Below w.heap.size w w' := by
  have HB : Hid (b < w.heap.size) := World.block_lt_of_cell? w _ h.h0
  obtain ⟨q1, q2, q3, q4, q5⟩ := id hv.lim
  have hvf := valid_first hv
  have hn1 : (-1 : Int) < c.vars := by omega
  have HM : Hid (∀ W, Below w.heap.size w W → CirAt W b c.inp (.slice sn c.next.length cn) (.slice sg c.gates.length cg) (.slice so c.outs.length co)) := fun W hb => ⟨(hb.cell (p := ⟨b, 0, none⟩) HB.out).trans h.h0, (hb.cell (p := ⟨b, 1, none⟩) HB.out).trans h.h1, (hb.cell (p := ⟨b, 2, none⟩) HB.out).trans h.h2, (hb.cell (p := ⟨b, 3, none⟩) HB.out).trans h.h3⟩
  have HR : Hid (∀ W (st : Int) (v : Bool), Below w.heap.size w W → -1 ≤ st → st < c.vars → Calls Try.prog 79 #[.pointer (some ⟨b, 0, none⟩), .int .i64 k, .int .i64 st, .bool v] W fun e w' => ∃ s cap, e = .returned (.slice s (c.next.length + c.outs.length) cap) ∧ Sl w' s (bools (resV c k st v)) ∧ Below W.heap.size W w') := fun W st v hb h1 h2 =>
    results_any b sn sg so cn cg co c k st v W (HM.out W hb) (hn.mono hb) (hg.mono hb) (ho.mono hb) hv hk h1 h2
  have hb0 : Below w.heap.size w (w.alloc (.cells #[.int .i64 p, .bool val] 80)) := (Below.refl _ _).alloc (Nat.le_refl _) _
  have hn0 := blk_new w (.cells #[.int .i64 p, .bool val] 80)
  clear h hn hg ho hvf
  have HV := Lib.hid (And.intro hv (And.intro hn1 hp2))
  clear hv hn1 hp2
  go_enter Try.func100, Try.ntmps100
  go_wp2_with fail
  revert hb0 hn0
  generalize w.alloc (.cells #[.int .i64 p, .bool val] 80) = W0
  intro hb0 hn0
  have H0 := Lib.hid (And.intro hb0 hn0)
  have hl0 := blk_lt hn0
  clear hb0 hn0
  refine wp_region_T (fun w' => ∀ o, w'.cell? ⟨w.heap.size, o, none⟩ = #[Value.int .i64 p, Value.bool val][o]?) (.q 0 (.q 1 (.q 3 (.q 4 (.q 5 (.q 6 (.q 7 (.q 8 (.e 2 (.e 9 (.e 10 (.q 11 (.q 12 .nil))))))))))))) (by kernel_rfl) (by kernel_rfl) (by kernel_rfl) (blk_all H0.out.2).1 ?_
  repeat (first | (refine ordt_s (o := ?_) ?_ ?_ ?_; rotate_left 1; (focus ((simp only [List.getElem?_toArray, List.getElem?_cons_succ, List.getElem?_cons_zero]) <;> rfl)); (focus rfl); simp only [Act.put, List.setIfInBounds_toArray, List.set_cons_zero, List.set_cons_succ]) | (refine ordt_q (o := ?_) (v := ?_) ?_ ?_ ?_ ?_; rotate_left 2; (focus ((simp only [List.getElem?_toArray, List.getElem?_cons_succ, List.getElem?_cons_zero]) <;> rfl)); (focus rfl); (focus (intro w' hS; (try dsimp only at hS); go_split_ands; go_simp; (try (with_reducible rfl)))); simp only [Act.put, List.setIfInBounds_toArray, List.set_cons_zero, List.set_cons_succ]))
  refine ordt_e ?_
  (refine op_e (o := ?_) ?_ ?_ (fun K hK => ?_); rotate_left 1; (focus ((simp only [List.getElem?_toArray, List.getElem?_cons_succ, List.getElem?_cons_zero]) <;> rfl)); (focus rfl); go_simp)
  refine (HR.out _ (-1) false H0.out.1.drew (by omega) HV.out.2.1).mono ?_
  rintro e wa ⟨sa, ca, rfl, ha, hqa⟩
  have hba : Below W0.heap.size W0 wa := (Below.refl _ _).drew.trans hqa
  refine hK.out _ _ (blk_all (blk_below hba hl0 H0.out.2)).1 ?_
  clear hK K hqa
  have HA := Lib.hid (And.intro hba ha)
  clear hba ha
  (try simp only [Act.put, List.setIfInBounds_toArray, List.set_cons_zero, List.set_cons_succ])
  refine ordt_e ?_
  (refine op_e (o := ?_) ?_ ?_ (fun K hK => ?_); rotate_left 1; (focus ((simp only [List.getElem?_toArray, List.getElem?_cons_succ, List.getElem?_cons_zero]) <;> rfl)); (focus rfl); go_simp)
  refine (HR.out _ p val (H0.out.1.trans (HA.out.1.mono (Nat.le_of_lt hl0))) (by omega) HV.out.2.2).mono ?_
  rintro e wb ⟨sb, cb, rfl, hb, hqb⟩
  have hbb : Below W0.heap.size W0 wb := HA.out.1.trans (hqb.mono HA.out.1.size)
  refine hK.out _ _ (blk_all (blk_below hbb hl0 H0.out.2)).1 ?_
  clear hK K
  have HB3 := Lib.hid (And.intro hbb (And.intro (HA.out.2.mono hqb) hb))
  clear hbb hb hqb
  (try simp only [Act.put, List.setIfInBounds_toArray, List.set_cons_zero, List.set_cons_succ])
  refine ordt_e ?_
  (refine op_e (o := ?_) ?_ ?_ (fun K hK => ?_); rotate_left 1; (focus ((simp only [List.getElem?_toArray, List.getElem?_cons_succ, List.getElem?_cons_zero]) <;> rfl)); (focus rfl); go_simp)
  refine (eqBools_any sa sb (resV c k (-1) false) (resV c k p val) _ _ _ _ HB3.out.2.1 HB3.out.2.2 (resV_length _ _ _ _) (resV_length _ _ _ _) (by omega)).mono ?_
  rintro e wd ⟨rfl, hd⟩
  have hbd : Below W0.heap.size W0 wd := HB3.out.1.trans (hd.below _)
  refine hK.out _ _ (blk_all (blk_below hbd hl0 H0.out.2)).1 ?_
  clear hK K hd
  have HD := Lib.hid (H0.out.1.trans (hbd.mono (Nat.le_of_lt hl0)))
  clear hbd
  (try simp only [Act.put, List.setIfInBounds_toArray, List.set_cons_zero, List.set_cons_succ])
  repeat (first | (refine ordt_s (o := ?_) ?_ ?_ ?_; rotate_left 1; (focus ((simp only [List.getElem?_toArray, List.getElem?_cons_succ, List.getElem?_cons_zero]) <;> rfl)); (focus rfl); simp only [Act.put, List.setIfInBounds_toArray, List.set_cons_zero, List.set_cons_succ]) | (refine ordt_q (o := ?_) (v := ?_) ?_ ?_ ?_ ?_; rotate_left 2; (focus ((simp only [List.getElem?_toArray, List.getElem?_cons_succ, List.getElem?_cons_zero]) <;> rfl)); (focus rfl); (focus (intro w' hS; (try dsimp only at hS); go_split_ands; go_simp; (try (with_reducible rfl)))); simp only [Act.put, List.setIfInBounds_toArray, List.set_cons_zero, List.set_cons_succ]))
  refine ordt_nil ?_
  go_wp2_with fail
  go_ret
  exact ⟨ret_bool (by unfold detV; rfl), HD.out⟩

set_option maxHeartbeats 800000 in
theorem findTest_any (b : Nat) (sn sg so : Option Addr) (cn cg co : Nat) (c : Cir) (p : Int) (val : Bool) (w : World)
    (h : CirAt w b c.inp (.slice sn c.next.length cn) (.slice sg c.gates.length cg) (.slice so c.outs.length co)) (hn : Sl w sn (ints c.next)) (hg : Sl w sg (gcells c.gates)) (ho : Sl w so (ints c.outs)) (hv : c.valid)
    (hp : 0 ≤ p) (hp2 : p < c.vars) :
    Calls Try.prog 92 #[.pointer (some ⟨b, 0, none⟩), .agg #[.int .i64 p, .bool val]] w fun e w' => e = .returned (.int .i64 (findN (detV c p val) (asgN c))) ∧ Below w.heap.size w w' := by
  have HB : Hid (b < w.heap.size) := World.block_lt_of_cell? w _ h.h0
  obtain ⟨q1, q2, q3, q4, q5⟩ := id hv.lim
  obtain ⟨n1, n2⟩ := asgN_le hv
  obtain ⟨N, hN⟩ : ∃ N, N = asgN c := ⟨_, rfl⟩
  have HM : Hid (∀ W, Below w.heap.size w W → CirAt W b c.inp (.slice sn c.next.length cn) (.slice sg c.gates.length cg) (.slice so c.outs.length co)) := fun W hb => ⟨(hb.cell (p := ⟨b, 0, none⟩) HB.out).trans h.h0, (hb.cell (p := ⟨b, 1, none⟩) HB.out).trans h.h1, (hb.cell (p := ⟨b, 2, none⟩) HB.out).trans h.h2, (hb.cell (p := ⟨b, 3, none⟩) HB.out).trans h.h3⟩
  have HD : Hid (∀ W (k : Nat), Below w.heap.size w W → k ≤ 1000 → Calls Try.prog 100 #[.pointer (some ⟨b, 0, none⟩), .agg #[.int .i64 p, .bool val], .int .i64 k] W fun e w' => e = .returned (.bool (detV c p val k)) ∧ Below W.heap.size W w') := fun W k hb hk =>
    detects_any b sn sg so cn cg co c k p val W (HM.out W hb) (hn.mono hb) (hg.mono hb) (ho.mono hb) hv hk hp hp2
  have hb0 : Below w.heap.size w (w.alloc (.cells #[.int .i64 p, .bool val] 80)) := (Below.refl _ _).alloc (Nat.le_refl _) _
  have hn0 := blk_new w (.cells #[.int .i64 p, .bool val] 80)
  have e1 : ((2 ^ (c.inp.toNat + c.next.length) : Nat) : Int) = (N : Int) := by rw [hN]; rfl
  rw [← hN] at n1 n2 ⊢
  have E1 := Lib.hid e1
  have H0 := Lib.hid (And.intro hb0 hn0)
  clear h hn hg ho hv hN hb0 hn0 e1
  go_enter Try.func92, Try.ntmps92
  go_wp2_with (go_at_call 77; ((refine (assignments_any _ _ _ _ _ _ _ _ (HM.out _ H0.out.1) (by omega) (by omega)).mono ?_); rintro e w2 ⟨rfl, hd⟩; rw [E1.out]; have HD2 := Lib.hid (And.intro (H0.out.1.trans (hd.below _)) (blk_below (hd.below _) (blk_lt H0.out.2) H0.out.2)); clear hd))
  go_loopw [8] (fun i wr => ∃ k : Nat, k ≤ N ∧ i = .int .i64 k ∧ (∀ y : Nat, y < k → detV c p val y = false) ∧ Below w.heap.size w wr ∧ wr.heap[w.heap.size]? = some (.cells #[.int .i64 p, .bool val] 80 (0, 0))) (fun i _ => N - (intOf i).toNat)
  case atStart => exact ⟨0, Nat.zero_le _, rfl, fun y hy => by omega, HD2.out.1, HD2.out.2⟩
  case round =>
    obtain ⟨k, hk, rfl, hf, hbl, hblk⟩ := hrel
    have cb := (blk_all hblk).1
    have HR := Lib.hid (And.intro hf (And.intro hbl hblk))
    clear hf hbl hblk
    by_cases hlt : k < N
    · obtain ⟨D, hD⟩ : ∃ D, D = detV c p val k := ⟨_, rfl⟩
      have HDk := Lib.hid hD
      clear hD
      cases D
      · go_wp2_with (go_at_call 100; ((refine (HD.out _ k HR.out.2.1 (by omega)).mono ?_); rintro e w3 ⟨rfl, hq⟩; rw [← HDk.out]; have H3 := Lib.hid (And.intro (HR.out.2.1.trans (hq.mono HR.out.2.1.size)) (blk_below hq (blk_lt HR.out.2.2) HR.out.2.2)); clear hq))
        go_roundw
        case rel => exact ⟨k + 1, by omega, by go_num, fun y hy => if e : y = k then e ▸ HDk.out.symm else HR.out.1 y (by omega), H3.out.1, H3.out.2⟩
        case measure => simp [intOf]; omega
      · go_wp2_with (go_at_call 100; ((refine (HD.out _ k HR.out.2.1 (by omega)).mono ?_); rintro e w3 ⟨rfl, hq⟩; rw [← HDk.out]; have H3 := Lib.hid (HR.out.2.1.trans (hq.mono HR.out.2.1.size)); clear hq))
        go_ret
        exact ⟨ret_int (findN_some hlt HDk.out.symm HR.out.1).symm, H3.out⟩
    · obtain rfl : k = N := by omega
      go_wp2_with fail
      go_ret
      exact ⟨ret_int (findN_none HR.out.1).symm, HR.out.2.1⟩

end Go.Proofs.Ytdcjiclonjillaa
