import Derived.Test.YtnifgamlmaembaaDoorA4
import Derived.Test.YtnifgamlmaembaaDoorM1
namespace Go.Proofs.YtnifgamlmaembaaDoor
set_option linter.unusedVariables false
set_option linter.unusedSimpArgs false
open Go.RowKit

/-! gates and circuits: sizes, copies, comparisons. -/

theorem szGateS_any (s : Option Addr) (len cap : Nat) (left : Int) (w : World) (h0 : 0 ≤ left) (h1 : left ≤ 1048576) (hl : len ≤ 9223372036854775807) :
    Calls Tryd.prog 28 #[.slice s len cap, .int .i64 left] w fun e w' => e = .returned (.int .i64 (leftOf left len)) ∧ w = w' := by
  go_enter Tryd.func28, Tryd.ntmps28
  go_wp2
  all_goals
    go_ret
    exact ⟨ret_int (by unfold leftOf; split <;> omega), rfl⟩

def Cir.size (c : Cir) : Int := c.next.length + c.gates.length + c.outs.length

theorem szCircuit_any (inp : Int) (sn sg so : Option Addr) (nn cn ng cg no co : Nat) (left : Int) (w : World) (h0 : 0 ≤ left) (h1 : left ≤ 1048576) (hl1 : nn ≤ 9223372036854775807) (hl2 : ng ≤ 9223372036854775807) (hl3 : no ≤ 9223372036854775807) :
    Calls Tryd.prog 6 #[.agg #[.int .i64 inp, .slice sn nn cn, .slice sg ng cg, .slice so no co], .int .i64 left] w fun e w' => e = .returned (.int .i64 (leftOf left (nn + ng + no))) ∧ Below w.heap.size w w' := by
  by_cases c1 : (nn : Int) ≤ left
  · have e1 : leftOf left nn = left - nn := by unfold leftOf; rw [if_pos c1]
    by_cases c2 : (nn : Int) + ng ≤ left
    · have e2 : leftOf (left - nn) ng = left - nn - ng := by unfold leftOf; rw [if_pos (by omega)]
      by_cases c3 : (nn : Int) + ng + no ≤ left
      · have e3 : leftOf (left - nn - ng) no = left - nn - ng - no := by unfold leftOf; rw [if_pos (by omega)]
        have HE := Lib.hid (And.intro e1 (And.intro e2 e3))
        clear e1 e2 e3
        go_enter Tryd.func6, Tryd.ntmps6
        go_wp2_with (first
          | (go_at_call 27; ((with_reducible refine (szIntS_any sn _ _ _ _ (by omega) (by omega) hl1).mono ?_); rintro e w' ⟨rfl, rfl⟩; rw [HE.out.1]))
          | (go_at_call 28; ((with_reducible refine (szGateS_any _ _ _ _ _ (by omega) (by omega) hl2).mono ?_); rintro e w' ⟨rfl, rfl⟩; rw [HE.out.2.1]))
          | (go_at_call 27; ((with_reducible refine (szIntS_any so _ _ _ _ (by omega) (by omega) hl3).mono ?_); rintro e w' ⟨rfl, rfl⟩; rw [HE.out.2.2])))
        go_ret
        exact ⟨ret_int (by unfold leftOf; rw [if_pos c3]; omega), (Below.refl _ _).alloc (Nat.le_refl _) _⟩
      · have e3 : leftOf (left - nn - ng) no = -1 := by unfold leftOf; rw [if_neg (by omega)]
        have HE := Lib.hid (And.intro e1 (And.intro e2 e3))
        clear e1 e2 e3
        go_enter Tryd.func6, Tryd.ntmps6
        go_wp2_with (first
          | (go_at_call 27; ((with_reducible refine (szIntS_any sn _ _ _ _ (by omega) (by omega) hl1).mono ?_); rintro e w' ⟨rfl, rfl⟩; rw [HE.out.1]))
          | (go_at_call 28; ((with_reducible refine (szGateS_any _ _ _ _ _ (by omega) (by omega) hl2).mono ?_); rintro e w' ⟨rfl, rfl⟩; rw [HE.out.2.1]))
          | (go_at_call 27; ((with_reducible refine (szIntS_any so _ _ _ _ (by omega) (by omega) hl3).mono ?_); rintro e w' ⟨rfl, rfl⟩; rw [HE.out.2.2])))
        go_ret
        exact ⟨ret_int (by unfold leftOf; rw [if_neg (by omega)]), (Below.refl _ _).alloc (Nat.le_refl _) _⟩
    · have e2 : leftOf (left - nn) ng = -1 := by unfold leftOf; rw [if_neg (by omega)]
      have HE := Lib.hid (And.intro e1 e2)
      clear e1 e2
      go_enter Tryd.func6, Tryd.ntmps6
      go_wp2_with (first
        | (go_at_call 27; ((with_reducible refine (szIntS_any sn _ _ _ _ (by omega) (by omega) hl1).mono ?_); rintro e w' ⟨rfl, rfl⟩; rw [HE.out.1]))
        | (go_at_call 28; ((with_reducible refine (szGateS_any _ _ _ _ _ (by omega) (by omega) hl2).mono ?_); rintro e w' ⟨rfl, rfl⟩; rw [HE.out.2])))
      go_ret
      exact ⟨ret_int (by unfold leftOf; rw [if_neg (by omega)]), (Below.refl _ _).alloc (Nat.le_refl _) _⟩
  · have e1 : leftOf left nn = -1 := by unfold leftOf; rw [if_neg c1]
    have HE := Lib.hid e1
    clear e1
    go_enter Tryd.func6, Tryd.ntmps6
    go_wp2_with (first
      | (go_at_call 27; ((with_reducible refine (szIntS_any sn _ _ _ _ (by omega) (by omega) hl1).mono ?_); rintro e w' ⟨rfl, rfl⟩; rw [HE.out])))
    go_ret
    exact ⟨ret_int (by unfold leftOf; rw [if_neg (by omega)]), (Below.refl _ _).alloc (Nat.le_refl _) _⟩

theorem toGate_any (a b : Int) (w : World) :
    Calls Tryd.prog 55 #[.agg #[.int .i64 a, .int .i64 b]] w fun e w' => e = .returned (.agg #[.int .i64 a, .int .i64 b]) ∧ Below w.heap.size w w' := by
  go_enter Tryd.func55, Tryd.ntmps55
  go_wp2
  go_returns
  refine ⟨rfl, ?_⟩
  go_grown

theorem eqGate_any (a b x y : Int) (w : World) :
    Calls Tryd.prog 60 #[.agg #[.int .i64 a, .int .i64 b], .agg #[.int .i64 x, .int .i64 y]] w fun e w' => e = .returned (.bool (decide (a = x) && decide (b = y))) ∧ Below w.heap.size w w' := by
  go_enter Tryd.func60, Tryd.ntmps60
  go_wp2
  all_goals
    go_ret
    refine ⟨ret_bool (by simp at *; simp [*]), ?_⟩
    go_grown

theorem mk45 (w : World) (n : Nat) (h : n ≤ 1048576) : (Instr.makeSlice 29 (.int .i64 (n : Int)) (.int .i64 (n : Int))).run Tryd.prog w = .ok (.slice (some ⟨w.heap.size, 0, none⟩) n n) (w.alloc (.cells (madeCells #[.int .i64 0, .int .i64 0] (n * 2)) 52)) := by
  obtain ⟨i, hi, h1, h2, h3⟩ := info_parts (P := Tryd.prog) (e := 52) (z := .agg #[.int .i64 0, .int .i64 0]) (size := 2) (bytes := 16) (by kernel_rfl)
  have := run_make (P := Tryd.prog) w 29 52 i (.agg #[.int .i64 0, .int .i64 0]) (by kernel_rfl) hi h1 .i64 .i64 n n (by omega) (by omega) (by rw [h3]; omega) (by omega)
  rw [this, h2]; simp [Value.cells]

theorem Cir.size_eq (c : Cir) : c.size = c.next.length + c.gates.length + c.outs.length := rfl

set_option maxHeartbeats 400000 in
theorem toGateS_any (s : Option Addr) (cap : Nat) (gs : List Gt) (w : World) (hn : gs.length ≤ 1048576) (hs : Sl w s (gcells gs)) :
    Calls Tryd.prog 31 #[.slice s gs.length cap] w fun e w' => e = .returned (.slice (some ⟨w.heap.size, 0, none⟩) gs.length gs.length) ∧
      w'.heap[w.heap.size]? = some (.cells (gcells gs).toArray 52 (0, 0)) ∧ Below w.heap.size w w' := by
  have hmk := fun w => mk45 w gs.length hn
  have HS := Lib.hid hs
  clear hs
  generalize hlen : gs.length = n at hn hmk ⊢
  have HL := Lib.hid hlen
  clear hlen
  go_enter Tryd.func31, Tryd.ntmps31
  go_wp2
  go_loopw [4] (fun i wr => ∃ k : Nat, ∃ arr : Array Value, k ≤ n ∧ i = .int .i64 k ∧ arr.size = n * 2 ∧ (∀ j, j < k * 2 → arr[j]? = (gcells gs)[j]?) ∧ wr.heap[w.heap.size]? = some (.cells arr 52 (0, 0)) ∧ Below w.heap.size w wr) (fun i _ => n - (intOf i).toNat)
  case atStart => exact ⟨0, _, Nat.zero_le _, rfl, size_madeCells _ _, fun j h => by omega, blk_new _ _, (Below.refl _ _).alloc (Nat.le_refl _) _⟩
  case round =>
    obtain ⟨k, arr, hk, rfl, ha, hj, hb, hbl⟩ := hrel
    by_cases hlt : k < n
    · obtain ⟨g, hg⟩ := get_of_lt (l := gs) (k := k) (by have := HL.out; omega)
      obtain ⟨b, off, rfl, hbw, hz1, hz2⟩ := HS.out.gate hbl hg
      obtain ⟨y1, hy1⟩ : ∃ y, arr[k * 2]? = some y := ⟨arr[k * 2]'(by omega), by simp⟩
      obtain ⟨y2, hy2⟩ : ∃ y, arr[k * 2 + 1]? = some y := ⟨arr[k * 2 + 1]'(by omega), by simp⟩
      have HR : Hid (_ ∧ _ ∧ _ ∧ _ ∧ _ ∧ _ ∧ _) := Lib.hid ⟨ha, hj, hb, hbl, hg, hy1, hy2⟩
      clear ha hj hb hbl hg hy1 hy2
      go_wp2_with (go_at_call 55; ((with_reducible refine (toGate_any _ _ _).mono ?_); rintro e w1 ⟨rfl, hq⟩; have HQ := Lib.hid hq; clear hq; have hc1 : w1.cell? ⟨w.heap.size, k * 2, none⟩ = some y1 := (HQ.out.cell (blk_lt HR.out.2.2.1)).trans ((blk_cell HR.out.2.2.1).trans HR.out.2.2.2.2.2.1); have hc2 : w1.cell? ⟨w.heap.size, k * 2 + 1, none⟩ = some y2 := (HQ.out.cell (blk_lt HR.out.2.2.1)).trans ((blk_cell HR.out.2.2.1).trans HR.out.2.2.2.2.2.2); have hf1 : w1.frozen? ⟨w.heap.size, k * 2, none⟩ = false := blk_free (blk_below HQ.out (blk_lt HR.out.2.2.1) HR.out.2.2.1); have hf2 : w1.frozen? ⟨w.heap.size, k * 2 + 1, none⟩ = false := blk_free (blk_below HQ.out (blk_lt HR.out.2.2.1) HR.out.2.2.1)))
      obtain ⟨ha, hj, hb, hbl, hg, hy1, hy2⟩ := HR.out
      have hq := HQ.out
      have e := gcells_get hg
      go_roundw
      case rel =>
        refine ⟨k + 1, _, by omega, by go_num, ?_, ?_, blk_set (blk_set (blk_below hq (blk_lt hb) hb)), ((hbl.trans (hq.mono hbl.size)).setCell (Nat.le_refl _) _).setCell (Nat.le_refl _) _⟩
        · simpa using ha
        · intro j hj'
          by_cases e1 : j = k * 2 + 1
          · subst e1
            rw [Array.getElem?_setIfInBounds_self_of_lt (by simp; omega), ← Nat.mul_comm 2 k, e.2]
          · rw [Array.getElem?_setIfInBounds_ne (Ne.symm e1)]
            by_cases e2 : j = k * 2
            · subst e2
              rw [Array.getElem?_setIfInBounds_self_of_lt (by omega), ← Nat.mul_comm 2 k, e.1]
            · rw [Array.getElem?_setIfInBounds_ne (Ne.symm e2)]; exact hj j (by omega)
      case measure => simp [intOf]; omega
    · obtain rfl : k = n := by omega
      have : arr = (gcells gs).toArray := by
        have hl := HL.out
        have hgl := gcells_length gs
        apply Array.ext_getElem?
        intro j
        by_cases h : j < k * 2
        · rw [hj j h]; simp
        · rw [Array.getElem?_eq_none (by omega), Array.getElem?_eq_none (by simp; omega)]
      subst this
      have HR := Lib.hid (And.intro hb hbl)
      clear ha hj hb hbl
      go_wp2
      go_ret
      exact ⟨rfl, HR.out.1, HR.out.2⟩

theorem eqGateS_any (s t : Option Addr) (xs ys : List Gt) (cap cap2 : Nat) (w : World) (hs : Sl w s (gcells xs)) (ht : Sl w t (gcells ys)) (hl : xs.length ≤ 1048576) (hl2 : ys.length ≤ 1048576) :
    Calls Tryd.prog 34 #[.slice s xs.length cap, .slice t ys.length cap2] w fun e w' => e = .returned (.bool (decide (xs = ys))) ∧ Below w.heap.size w w' := by
  have HS : Hid (Sl w s (gcells xs) ∧ Sl w t (gcells ys)) := ⟨hs, ht⟩
  clear hs ht
  by_cases hc : xs.length = ys.length
  · rw [← hc]
    generalize hn : xs.length = n at hc hl ⊢
    have HC : Hid (xs.length = n ∧ ys.length = n) := ⟨hn, hc.symm⟩
    clear hc hn hl2
    go_enter Tryd.func34, Tryd.ntmps34
    go_wp2
    go_loopw [5] (fun i wr => ∃ k : Nat, k ≤ n ∧ i = .int .i64 k ∧ xs.take k = ys.take k ∧ Below w.heap.size w wr) (fun i _ => n - (intOf i).toNat)
    case atStart => exact ⟨0, Nat.zero_le _, rfl, rfl, Below.refl _ _⟩
    case round =>
      obtain ⟨k, hk, rfl, htk, hd⟩ := hrel
      have HT : Hid (xs.take k = ys.take k) := htk
      have HD := Lib.hid hd
      clear htk hd
      by_cases hlt : k < n
      · obtain ⟨x, hx⟩ := get_of_lt (l := xs) (k := k) (by have := HC.out; omega)
        obtain ⟨y, hy⟩ := get_of_lt (l := ys) (k := k) (by have := HC.out; omega)
        obtain ⟨b, off, rfl, hbw, hz1, hz2⟩ := HS.out.1.gate HD.out hx
        obtain ⟨b2, off2, rfl, hbw2, hz3, hz4⟩ := HS.out.2.gate HD.out hy
        have HR : Hid (_ ∧ _) := Lib.hid ⟨hx, hy⟩
        clear hx hy
        go_wp2_with fail
        go_region_held3 (fun w' => w'.cell? ⟨b, off + k * 2, none⟩ = some (.int .i64 x.a) ∧ w'.cell? ⟨b, off + k * 2 + 1, none⟩ = some (.int .i64 x.b) ∧ w'.cell? ⟨b2, off2 + k * 2, none⟩ = some (.int .i64 y.a) ∧ w'.cell? ⟨b2, off2 + k * 2 + 1, none⟩ = some (.int .i64 y.b))
          (first
            | go_keep
            | (go_split_ands
               refine ⟨?_, ?_, ?_, ?_⟩
               · rw [HQ.out.cell (by exact Nat.lt_of_lt_of_le hbw HD.out.size)]; assumption
               · rw [HQ.out.cell (by exact Nat.lt_of_lt_of_le hbw HD.out.size)]; assumption
               · rw [HQ.out.cell (by exact Nat.lt_of_lt_of_le hbw2 HD.out.size)]; assumption
               · rw [HQ.out.cell (by exact Nat.lt_of_lt_of_le hbw2 HD.out.size)]; assumption))
          ((first
            | (go_at_call 60; ((with_reducible refine (eqGate_any _ _ _ _ _).mono ?_); rintro e w1 ⟨rfl, hq⟩; have HQ := Lib.hid hq; clear hq))))
        go_wp2
        all_goals obtain ⟨hx, hy⟩ := HR.out
        all_goals first
          | (go_roundw
             case rel => exact ⟨k + 1, by omega, by go_num, by rw [List.take_add_one, List.take_add_one, HT.out, hx, hy]; simp at *; exact Gt.ext' (by simp [*]) (by simp [*]), HD.out.drew.trans (HQ.out.mono HD.out.size)⟩
             case measure => simp [intOf]; omega)
          | (go_ret
             refine ⟨ret_bool ?_, HD.out.drew.trans (HQ.out.mono HD.out.size)⟩
             symm; rw [decide_eq_false_iff_not]; intro e; subst e; rw [hx] at hy; cases hy; simp at *)
      · obtain rfl : k = n := by omega
        have he : decide (xs = ys) = true := by
          have h1 := HT.out
          rw [List.take_of_length_le (by have := HC.out; omega), List.take_of_length_le (by have := HC.out; omega)] at h1
          simpa using h1
        have HE := Lib.hid he
        clear he
        go_wp2
        go_ret
        exact ⟨ret_bool HE.out.symm, HD.out⟩
  · have hd : decide (xs = ys) = false := by simp; intro e; exact hc (by rw [e])
    rw [hd]
    clear hd
    go_enter Tryd.func34, Tryd.ntmps34
    go_wp2
    go_ret
    exact ⟨rfl, Below.refl _ _⟩

theorem Sl.toA {w : World} {b : Nat} {cs : List Value} {t : TypeId} {fz : Nat × Nat} (h : w.heap[b]? = some (.cells cs.toArray t fz)) : Sl w (some ⟨b, 0, none⟩) cs := by
  have := Sl.blk h; simpa using this

set_option maxHeartbeats 400000 in
theorem toCircuit_any (v : Value) (c : Cir) (w : World) (h : CirV w v c) :
    Calls Tryd.prog 8 #[v] w fun e w' => ∃ b1 b2 b3, e = .returned (.agg #[.int .i64 c.inp, .slice (some ⟨b1, 0, none⟩) c.next.length c.next.length, .slice (some ⟨b2, 0, none⟩) c.gates.length c.gates.length, .slice (some ⟨b3, 0, none⟩) c.outs.length c.outs.length]) ∧
      w.heap.size ≤ b1 ∧ b1 < b2 ∧ b2 < b3 ∧ w'.heap[b1]? = some (.cells (ints c.next).toArray 3 (0, 0)) ∧ w'.heap[b2]? = some (.cells (gcells c.gates).toArray 52 (0, 0)) ∧ w'.heap[b3]? = some (.cells (ints c.outs).toArray 3 (0, 0)) ∧ Below w.heap.size w w' := by
  obtain ⟨sn, cn, sg, cg, so, co, rfl, h1, h2, h3, hl1, hl2, hl3⟩ := h
  have HS := Lib.hid (And.intro h1 (And.intro h2 h3))
  clear h1 h2 h3
  go_enter Tryd.func8, Tryd.ntmps8
  go_wp2_with fail
  have hS := St.start w 25 31 #[.int .i64 c.inp, .slice sn c.next.length cn, .slice sg c.gates.length cg, .slice so c.outs.length co] #[.int .i64 0, .slice none 0 0, .slice none 0 0, .slice none 0 0] #[.int .i64 c.inp, .slice none 0 0, .slice none 0 0, .slice none 0 0]
  revert hS
  generalize (((w.alloc (.cells #[.int .i64 c.inp, .slice sn c.next.length cn, .slice sg c.gates.length cg, .slice so c.outs.length co] 25)).alloc (.cells #[.int .i64 0, .slice none 0 0, .slice none 0 0, .slice none 0 0] 31)).alloc (.cells #[.int .i64 c.inp, .slice none 0 0, .slice none 0 0, .slice none 0 0] 31)) = W0
  intro hS
  refine (toIntS_any _ _ _ _ hl1 (HS.out.1.mono hS.bel)).mono ?_
  rintro e W1 ⟨rfl, hq1, -, hq3⟩
  have hS1 := hS.call hq3
  obtain ⟨ca, cr, co1, fr, fo⟩ := hS1.cells
  have H1 := Lib.hid (And.intro hS1 (And.intro hq1 hS.sz))
  clear hS hS1 hq1 hq3
  go_wp2_with fail
  clear ca cr co1 fr fo
  have hS := H1.out.1.set 1 (.slice (some ⟨W0.heap.size, 0, none⟩) c.next.length c.next.length)
  have hq1 := H1.out.1.keep H1.out.2.2 H1.out.2.1 1 (.slice (some ⟨W0.heap.size, 0, none⟩) c.next.length c.next.length)
  revert hS hq1
  generalize W1.setCell ⟨w.heap.size + 1 + 1, 1, none⟩ (.slice (some ⟨W0.heap.size, 0, none⟩) c.next.length c.next.length) = X1
  intro hS hq1
  refine (toGateS_any _ _ _ _ hl2 (HS.out.2.1.mono hS.bel)).mono ?_
  rintro e W2 ⟨rfl, hr1, hr3⟩
  have hS2 := hS.call hr3
  obtain ⟨ca, cr, co1, fr, fo⟩ := hS2.cells
  have H2 := Lib.hid (And.intro hS2 (And.intro hr1 (And.intro hS.sz (And.intro (blk_below hr3 (blk_lt hq1) hq1) (blk_lt hq1)))))
  clear hS hS2 hr1 hr3 hq1
  go_wp2_with fail
  clear ca cr co1 fr fo
  have hS := H2.out.1.set 2 (.slice (some ⟨X1.heap.size, 0, none⟩) c.gates.length c.gates.length)
  have hr1 := H2.out.1.keep H2.out.2.2.1 H2.out.2.1 2 (.slice (some ⟨X1.heap.size, 0, none⟩) c.gates.length c.gates.length)
  have hq1 := H2.out.1.keep H1.out.2.2 H2.out.2.2.2.1 2 (.slice (some ⟨X1.heap.size, 0, none⟩) c.gates.length c.gates.length)
  revert hS hq1 hr1
  generalize W2.setCell ⟨w.heap.size + 1 + 1, 2, none⟩ (.slice (some ⟨X1.heap.size, 0, none⟩) c.gates.length c.gates.length) = X2
  intro hS hr1 hq1
  refine (toIntS_any _ _ _ _ hl3 (HS.out.2.2.mono hS.bel)).mono ?_
  rintro e W3 ⟨rfl, ht1, -, ht3⟩
  have hS3 := hS.call ht3
  obtain ⟨ca, cr, co1, fr, fo⟩ := hS3.cells
  have H3 := Lib.hid (And.intro hS3 (And.intro ht1 (And.intro hS.sz (And.intro (blk_below ht3 (blk_lt hq1) hq1) (And.intro (blk_below ht3 (blk_lt hr1) hr1) (blk_lt hr1))))))
  clear hS hS3 ht1 ht3 hr1 hq1
  go_wp2
  clear ca cr co1 fr fo
  have hF := ((((H3.out.1.set 3 (.slice (some ⟨X2.heap.size, 0, none⟩) c.outs.length c.outs.length)).setR 0 (.int .i64 c.inp)).setR 1 (.slice (some ⟨W0.heap.size, 0, none⟩) c.next.length c.next.length)).setR 2 (.slice (some ⟨X1.heap.size, 0, none⟩) c.gates.length c.gates.length)).setR 3 (.slice (some ⟨X2.heap.size, 0, none⟩) c.outs.length c.outs.length)
  have hk : ∀ (b : Nat) (x : Option Obj), w.heap.size + 3 ≤ b → W3.heap[b]? = x → (((((W3.setCell ⟨w.heap.size + 1 + 1, 3, none⟩ (.slice (some ⟨X2.heap.size, 0, none⟩) c.outs.length c.outs.length)).setCell ⟨w.heap.size + 1, 0, none⟩ (.int .i64 c.inp)).setCell ⟨w.heap.size + 1, 1, none⟩ (.slice (some ⟨W0.heap.size, 0, none⟩) c.next.length c.next.length)).setCell ⟨w.heap.size + 1, 2, none⟩ (.slice (some ⟨X1.heap.size, 0, none⟩) c.gates.length c.gates.length)).setCell ⟨w.heap.size + 1, 3, none⟩ (.slice (some ⟨X2.heap.size, 0, none⟩) c.outs.length c.outs.length)).heap[b]? = x := fun b x hb hx =>
    blk_set_ne (by omega) (blk_set_ne (by omega) (blk_set_ne (by omega) (blk_set_ne (by omega) (blk_set_ne (by omega) hx))))
  revert hF hk
  generalize (((((W3.setCell ⟨w.heap.size + 1 + 1, 3, none⟩ (.slice (some ⟨X2.heap.size, 0, none⟩) c.outs.length c.outs.length)).setCell ⟨w.heap.size + 1, 0, none⟩ (.int .i64 c.inp)).setCell ⟨w.heap.size + 1, 1, none⟩ (.slice (some ⟨W0.heap.size, 0, none⟩) c.next.length c.next.length)).setCell ⟨w.heap.size + 1, 2, none⟩ (.slice (some ⟨X1.heap.size, 0, none⟩) c.gates.length c.gates.length)).setCell ⟨w.heap.size + 1, 3, none⟩ (.slice (some ⟨X2.heap.size, 0, none⟩) c.outs.length c.outs.length)) = WE
  intro hF hk
  obtain ⟨-, cr, -, -, -⟩ := hF.cells
  refine bodyPost_ret (v := .agg #[.int .i64 c.inp, .slice (some ⟨W0.heap.size, 0, none⟩) c.next.length c.next.length, .slice (some ⟨X1.heap.size, 0, none⟩) c.gates.length c.gates.length, .slice (some ⟨X2.heap.size, 0, none⟩) c.outs.length c.outs.length]) (by simp [results, Tryd.results8, go_sem, cr]) rfl ⟨_, _, _, rfl, ?_⟩
  obtain ⟨hS3, ht1, hz3, hq1, hr1, hlr⟩ := H3.out
  obtain ⟨-, -, hz2, -, hlq⟩ := H2.out
  have hz1 := H1.out.2.2
  exact ⟨by omega, hlq, hlr, hk _ _ hz1 hq1, hk _ _ hz2 hr1, hk _ _ hz3 ht1, hF.bel⟩

theorem bcell {W w1 : World} (hb : Below W.heap.size W w1) : (∀ b o, b < W.heap.size → w1.cell? ⟨b, o, none⟩ = W.cell? ⟨b, o, none⟩) ∧ (∀ b o, b < W.heap.size → w1.frozen? ⟨b, o, none⟩ = W.frozen? ⟨b, o, none⟩) :=
  ⟨fun b o h => hb.cell (p := ⟨b, o, none⟩) h, fun b o h => hb.frozen (p := ⟨b, o, none⟩) h⟩

def cirB (x y : Cir) : Bool := decide (x.inp = y.inp) && (decide (x.next = y.next) && (decide (x.gates = y.gates) && decide (x.outs = y.outs)))
theorem cirB_self (x : Cir) : cirB x x = true := by simp [cirB]
theorem cirB_iff (x y : Cir) : cirB x y = true ↔ x = y := by
  simp only [cirB, Bool.and_eq_true, decide_eq_true_eq]
  exact ⟨fun h => Cir.ext' h.1 h.2.1 h.2.2.1 h.2.2.2, fun h => by rw [h]; exact ⟨rfl, rfl, rfl, rfl⟩⟩

set_option maxHeartbeats 400000 in
theorem eqCircuit_any (u v : Value) (x y : Cir) (w : World) (hx : CirV w u x) (hy : CirV w v y) :
    Calls Tryd.prog 11 #[u, v] w fun e w' => e = .returned (.bool (cirB x y)) ∧ Below w.heap.size w w' := by
  obtain ⟨sn, cn, sg, cg, so, co, rfl, h1, h2, h3, hl1, hl2, hl3⟩ := hx
  obtain ⟨sn', cn', sg', cg', so', co', rfl, k1, k2, k3, ml1, ml2, ml3⟩ := hy
  have HS := Lib.hid (And.intro (And.intro h1 (And.intro h2 h3)) (And.intro k1 (And.intro k2 k3)))
  clear h1 h2 h3 k1 k2 k3
  have hL : Below w.heap.size w ((w.alloc (.cells #[.int .i64 x.inp, .slice sn x.next.length cn, .slice sg x.gates.length cg, .slice so x.outs.length co] 31)).alloc (.cells #[.int .i64 y.inp, .slice sn' y.next.length cn', .slice sg' y.gates.length cg', .slice so' y.outs.length co'] 31)) := by go_grown
  have HL := Lib.hid hL
  clear hL
  go_enter Tryd.func11, Tryd.ntmps11
  go_wp2_with (first
    | (go_at_call 33; ((with_reducible refine (eqIntS_any sn sn' _ _ _ _ _ (HS.out.1.1.mono HL.out) (HS.out.2.1.mono HL.out) hl1 ml1).mono ?_); rintro e w' ⟨rfl, n1, rfl⟩))
    | (go_at_call 34; ((with_reducible refine (eqGateS_any sg sg' _ _ _ _ _ (HS.out.1.2.1.mono (below_n HL.out _)) (HS.out.2.2.1.mono (below_n HL.out _)) hl2 ml2).mono ?_); rintro e w1 ⟨rfl, hq⟩; have HQ := Lib.hid hq; obtain ⟨hc, hf⟩ := bcell hq; clear hq))
    | (go_at_call 33; ((with_reducible refine (eqIntS_any so so' _ _ _ _ _ (HS.out.1.2.2.mono ((below_n HL.out _).trans (HQ.out.mono (by simp; omega)))) (HS.out.2.2.2.mono ((below_n HL.out _).trans (HQ.out.mono (by simp; omega)))) hl3 ml3).mono ?_); rintro e w' ⟨rfl, n2, rfl⟩)))
  all_goals go_ret
  all_goals refine ⟨ret_bool (by unfold cirB; simp at *; simp [*]), ?_⟩
  all_goals first
    | exact HL.out
    | exact below_n HL.out _
    | exact (below_n HL.out _).trans (HQ.out.mono (by simp; omega))
    | exact below_n ((below_n HL.out _).trans (HQ.out.mono (by simp; omega))) _

theorem Cir.small {c : Cir} (h : c.validB = true) : c.limits := (c.validB_iff.1 h).lim

def canScanB (c : Cir) : Bool := c.validB && decide ((1 : Int) ≤ c.next.length ∧ c.inp ≤ 2 ∧ c.outs.length < 3 ∧ c.gates.length + 3 * c.next.length ≤ 14)

theorem CirAt.drewN {w : World} {b : Nat} {inp : Int} {vn vg vo : Value} (h : CirAt w b inp vn vg vo) (n : Nat) : CirAt (w.drewN n) b inp vn vg vo := ⟨h.h0, h.h1, h.h2, h.h3⟩

end Go.Proofs.YtnifgamlmaembaaDoor
