import Derived.Test.YtjecchljhdfjdaaZZ2Y0
import Derived.Test.YtjecchljhdfjdaaZZ2L4
namespace Go.Proofs.Ytjecchljhdfjdaa
set_option linter.unusedVariables false
set_option linter.unusedSimpArgs false
open Go.RowKit

/-! Part of the proof of one law. -/

set_option maxHeartbeats 800000 in
theorem slicesEq_any (sa sb : Option Addr) (ca cb n : Nat) (xs ys : List Bool) (w : World) (ha : Sl w sa (bools xs)) (hb : Sl w sb (bools ys)) (lx : xs.length = n) (ly : ys.length = n) (hl : n ≤ 1000000) :
    Calls Try.prog 78 #[.slice sa n ca, .slice sb n cb] w fun e w' => e = .returned (.bool (decide (xs = ys))) ∧ Drew w w' := by
  have H := Lib.hid (And.intro ha (And.intro hb (And.intro lx ly)))
  clear ha hb lx ly
  go_enter Try.func78, Try.ntmps78
  go_upto_region 4 with fail
  go_loopw [13] (fun i wr => ∃ k : Nat, k ≤ n ∧ i = .int .i64 k ∧ xs.take k = ys.take k ∧ Drew w wr) (fun i _ => n - (intOf i).toNat)
  case atStart => exact ⟨0, Nat.zero_le _, rfl, rfl, 0, rfl⟩
  case round =>
    obtain ⟨k, hk, rfl, htk, hd⟩ := hrel
    by_cases hlt : k < n
    · obtain ⟨x, hx⟩ := get_of_lt (l := xs) (k := k) (by rw [H.out.2.2.1]; exact hlt)
      obtain ⟨y, hy⟩ := get_of_lt (l := ys) (k := k) (by rw [H.out.2.2.2]; exact hlt)
      obtain ⟨b1, o1, rfl, hb1, z1⟩ := H.out.1.bool (hd.below _) hx
      obtain ⟨b2, o2, rfl, hb2, z2⟩ := H.out.2.1.bool (hd.below _) hy
      have HD := Lib.hid (And.intro hd htk)
      have HE := Lib.hid (And.intro hx hy)
      clear hd hx hy htk
      by_cases e : x = y
      · subst e
        go_upto_region 6 with fail
        go_quiet (fail)
        go_wp2_with fail
        go_roundw
        case rel => exact ⟨k + 1, by omega, by go_num, by rw [List.take_add_one, List.take_add_one, HD.out.2, HE.out.1, HE.out.2], HD.out.1.n _⟩
        case measure => simp [intOf]; omega
      · have hne : (x != y) = true := by simpa using e
        have hf : decide (xs = ys) = false := by
          rw [decide_eq_false_iff_not]; intro he; have h1 := HE.out.1; rw [he, HE.out.2] at h1; exact e (by simpa using h1.symm)
        have HF := Lib.hid hf
        clear hf
        go_upto_region 6 with fail
        cases x <;> cases y <;> first
          | exact absurd rfl e
          | (go_quiet (fail)
             go_wp2_with fail
             go_ret
             exact ⟨ret_bool HF.out.symm, HD.out.1.n _⟩)
    · obtain rfl : n = k := by omega
      have ht : decide (xs = ys) = true := by
        rw [List.take_of_length_le (by rw [H.out.2.2.1]; exact Nat.le_refl _), List.take_of_length_le (by rw [H.out.2.2.2]; exact Nat.le_refl _)] at htk
        exact decide_eq_true htk
      have HT := Lib.hid (And.intro ht hd)
      clear ht hd htk
      go_wp2_with fail
      go_ret
      exact ⟨ret_bool HT.out.1.symm, HT.out.2⟩

/-- The same interface. -/
def sifB (a b : Cir) : Bool := a.validB && (b.validB && (decide (a.inp = b.inp) && (decide (a.next.length = b.next.length) && decide (a.outs.length = b.outs.length))))

/-- Equivalence. -/
def resEq (a b : Cir) (k : Nat) : Bool := decide (resV a (k : Int) (-1) false = resV b (k : Int) (-1) false)

def equivB (a b : Cir) : Bool := sifB a b && (List.range (asgN a)).all (resEq a b)

theorem sifB_iff {a b : Cir} : sifB a b = true ↔ a.validB = true ∧ b.validB = true ∧ a.inp = b.inp ∧ a.next.length = b.next.length ∧ a.outs.length = b.outs.length := by
  simp [sifB]

theorem equivB_iff {a b : Cir} : equivB a b = true ↔ sifB a b = true ∧ ∀ x : Nat, x < asgN a → resV a (x : Int) (-1) false = resV b (x : Int) (-1) false := by
  simp [equivB, resEq]

set_option maxRecDepth 100000 in
set_option maxHeartbeats 3200000 in
theorem SameInterface_i (u v : Value) (a b : Cir) (w : World) (ha : CirV w u a) (hb : CirV w v b) :
    Calls Try.prog 39 #[u, v] w fun e w' => e = .returned (.bool (sifB a b)) ∧ Below w.heap.size w w' := by
  have HG := Lib.hid (And.intro ha hb)
  obtain ⟨sn, cn, sg, cg, so, co, rfl, -, -, -, ka1, ka2, ka3⟩ := ha
  obtain ⟨tn, dn, tg, dg, to_, do_, rfl, -, -, -, kb1, kb2, kb3⟩ := hb
  obtain ⟨W0, hW0⟩ : ∃ W0, W0 = ((w.alloc (.cells #[.int .i64 a.inp, .slice sn a.next.length cn, .slice sg a.gates.length cg, .slice so a.outs.length co] 28)).alloc (.cells #[.int .i64 b.inp, .slice tn b.next.length dn, .slice tg b.gates.length dg, .slice to_ b.outs.length do_] 28)) := ⟨_, rfl⟩
  obtain ⟨A, hA⟩ : ∃ A, A = w.heap.size := ⟨_, rfl⟩
  have z1 : W0.heap.size = A + 2 := by rw [hW0, hA]; simp
  have z2 : W0.heap[A]? = some (.cells #[.int .i64 a.inp, .slice sn a.next.length cn, .slice sg a.gates.length cg, .slice so a.outs.length co] 28 (0, 0)) := by rw [hW0, hA]; exact blk_old (blk_new w _)
  have z3 : W0.heap[A + 1]? = some (.cells #[.int .i64 b.inp, .slice tn b.next.length dn, .slice tg b.gates.length dg, .slice to_ b.outs.length do_] 28 (0, 0)) := by rw [hW0, hA]; exact blk_at (by simp)
  have z4 : Below w.heap.size w W0 := by rw [hW0]; go_grown
  have HW := Lib.hid (And.intro hW0 (And.intro hA z1))
  have HB : Hid (∀ W, Below W0.heap.size W0 W → W.heap[A]? = some (.cells #[.int .i64 a.inp, .slice sn a.next.length cn, .slice sg a.gates.length cg, .slice so a.outs.length co] 28 (0, 0)) ∧ W.heap[A + 1]? = some (.cells #[.int .i64 b.inp, .slice tn b.next.length dn, .slice tg b.gates.length dg, .slice to_ b.outs.length do_] 28 (0, 0)) ∧ CirV W (.agg #[.int .i64 a.inp, .slice sn a.next.length cn, .slice sg a.gates.length cg, .slice so a.outs.length co]) a ∧ CirV W (.agg #[.int .i64 b.inp, .slice tn b.next.length dn, .slice tg b.gates.length dg, .slice to_ b.outs.length do_]) b ∧ Below w.heap.size w W) := fun W hW => ⟨blk_below hW (by omega) z2, blk_below hW (by omega) z3, HG.out.1.mono (z4.trans (hW.mono z4.size)), HG.out.2.mono (z4.trans (hW.mono z4.size)), z4.trans (hW.mono z4.size)⟩
  clear hW0 hA z1 z2 z3 z4
  cases h1 : a.validB
  · have hs : sifB a b = false := by simp [sifB, h1]
    rw [hs]
    have HV := Lib.hid h1
    clear h1 hs
    go_enter Try.func39, Try.ntmps39
    go_upto_region 1 with fail
    rw [← HW.out.1]
    try rw [← HW.out.2.1]
    have ca := (blk_all (HB.out _ (Below.refl _ _)).1).1
    have cb := (blk_all (HB.out _ (Below.refl _ _)).2.1).1
    go_wp2_with (go_at_call 27; ((with_reducible refine (CircuitValid_i _ a _ (HB.out _ (Below.refl _ _)).2.2.1).mono ?_); rintro e w1 ⟨rfl, hq⟩; rw [HV.out]; have H1 := Lib.hid hq; clear hq ca cb; have ca := (blk_all (HB.out _ H1.out).1).1; have cb := (blk_all (HB.out _ H1.out).2.1).1))
    go_ret
    exact ⟨rfl, (HB.out _ H1.out).2.2.2.2⟩
  · cases h2 : b.validB
    · have hs : sifB a b = false := by simp [sifB, h2]
      rw [hs]
      have HV := Lib.hid (And.intro h1 h2)
      clear h1 h2 hs
      go_enter Try.func39, Try.ntmps39
      go_upto_region 1 with fail
      rw [← HW.out.1]
      try rw [← HW.out.2.1]
      have ca := (blk_all (HB.out _ (Below.refl _ _)).1).1
      have cb := (blk_all (HB.out _ (Below.refl _ _)).2.1).1
      go_wp2_with (first | (go_at_call 27; ((with_reducible refine (CircuitValid_i _ a _ (HB.out _ (Below.refl _ _)).2.2.1).mono ?_); rintro e w1 ⟨rfl, hq⟩; rw [HV.out.1]; have H1 := Lib.hid hq; clear hq ca cb; have ca := (blk_all (HB.out _ H1.out).1).1; have cb := (blk_all (HB.out _ H1.out).2.1).1)) | (go_at_call 27; ((with_reducible refine (CircuitValid_i _ b _ (HB.out _ H1.out).2.2.2.1).mono ?_); rintro e w2 ⟨rfl, hq⟩; rw [HV.out.2]; have H2 := Lib.hid (H1.out.trans (hq.mono H1.out.size)); clear hq ca cb; have ca := (blk_all (HB.out _ H2.out).1).1; have cb := (blk_all (HB.out _ H2.out).2.1).1)))
      go_ret
      exact ⟨rfl, (HB.out _ H2.out).2.2.2.2⟩
    · obtain ⟨R, hR⟩ : ∃ R, R = sifB a b := ⟨_, rfl⟩
      have hs : R = (decide (a.inp = b.inp) && (decide (a.next.length = b.next.length) && decide (a.outs.length = b.outs.length))) := by rw [hR]; simp [sifB, h1, h2]
      rw [← hR]
      have HV := Lib.hid (And.intro h1 h2)
      have HS := Lib.hid hs
      clear h1 h2 hs hR
      by_cases e1 : a.inp = b.inp
      · by_cases e2 : a.next.length = b.next.length
        · by_cases e3 : a.outs.length = b.outs.length
          · have q1 : (a.inp == b.inp) = true := by simpa using e1
            have q2 : ((a.next.length : Int) == (b.next.length : Int)) = true := beq_iff_eq.2 (by omega)
            have q3 : ((a.outs.length : Int) == (b.outs.length : Int)) = true := beq_iff_eq.2 (by omega)
            have HE : Hid (R = true) := by show _ = _; rw [HS.out]; simp [e1, e2, e3]
            clear e1 e2 e3
            go_enter Try.func39, Try.ntmps39
            go_upto_region 1 with fail
            rw [← HW.out.1]
            try rw [← HW.out.2.1]
            have ca := (blk_all (HB.out _ (Below.refl _ _)).1).1
            have cb := (blk_all (HB.out _ (Below.refl _ _)).2.1).1
            go_wp2_with (first | (go_at_call 27; ((with_reducible refine (CircuitValid_i _ a _ (HB.out _ (Below.refl _ _)).2.2.1).mono ?_); rintro e w1 ⟨rfl, hq⟩; rw [HV.out.1]; have H1 := Lib.hid hq; clear hq ca cb; have ca := (blk_all (HB.out _ H1.out).1).1; have cb := (blk_all (HB.out _ H1.out).2.1).1)) | (go_at_call 27; ((with_reducible refine (CircuitValid_i _ b _ (HB.out _ H1.out).2.2.2.1).mono ?_); rintro e w2 ⟨rfl, hq⟩; rw [HV.out.2]; have H2 := Lib.hid (H1.out.trans (hq.mono H1.out.size)); clear hq ca cb; have ca := (blk_all (HB.out _ H2.out).1).1; have cb := (blk_all (HB.out _ H2.out).2.1).1)))
            go_ret
            exact ⟨ret_bool HE.out.symm, (HB.out _ H2.out).2.2.2.2⟩
          · have q1 : (a.inp == b.inp) = true := by simpa using e1
            have q2 : ((a.next.length : Int) == (b.next.length : Int)) = true := beq_iff_eq.2 (by omega)
            have q3 : ((a.outs.length : Int) == (b.outs.length : Int)) = false := beq_eq_false_iff_ne.2 (by omega)
            have HE : Hid (R = false) := by show _ = _; rw [HS.out]; simp [e1, e2, e3]
            clear e1 e2 e3
            go_enter Try.func39, Try.ntmps39
            go_upto_region 1 with fail
            rw [← HW.out.1]
            try rw [← HW.out.2.1]
            have ca := (blk_all (HB.out _ (Below.refl _ _)).1).1
            have cb := (blk_all (HB.out _ (Below.refl _ _)).2.1).1
            go_wp2_with (first | (go_at_call 27; ((with_reducible refine (CircuitValid_i _ a _ (HB.out _ (Below.refl _ _)).2.2.1).mono ?_); rintro e w1 ⟨rfl, hq⟩; rw [HV.out.1]; have H1 := Lib.hid hq; clear hq ca cb; have ca := (blk_all (HB.out _ H1.out).1).1; have cb := (blk_all (HB.out _ H1.out).2.1).1)) | (go_at_call 27; ((with_reducible refine (CircuitValid_i _ b _ (HB.out _ H1.out).2.2.2.1).mono ?_); rintro e w2 ⟨rfl, hq⟩; rw [HV.out.2]; have H2 := Lib.hid (H1.out.trans (hq.mono H1.out.size)); clear hq ca cb; have ca := (blk_all (HB.out _ H2.out).1).1; have cb := (blk_all (HB.out _ H2.out).2.1).1)))
            go_ret
            exact ⟨ret_bool HE.out.symm, (HB.out _ H2.out).2.2.2.2⟩
        · have q1 : (a.inp == b.inp) = true := by simpa using e1
          have q2 : ((a.next.length : Int) == (b.next.length : Int)) = false := beq_eq_false_iff_ne.2 (by omega)
          have HE : Hid (R = false) := by show _ = _; rw [HS.out]; simp [e1, e2]
          clear e1 e2
          go_enter Try.func39, Try.ntmps39
          go_upto_region 1 with fail
          rw [← HW.out.1]
          try rw [← HW.out.2.1]
          have ca := (blk_all (HB.out _ (Below.refl _ _)).1).1
          have cb := (blk_all (HB.out _ (Below.refl _ _)).2.1).1
          go_wp2_with (first | (go_at_call 27; ((with_reducible refine (CircuitValid_i _ a _ (HB.out _ (Below.refl _ _)).2.2.1).mono ?_); rintro e w1 ⟨rfl, hq⟩; rw [HV.out.1]; have H1 := Lib.hid hq; clear hq ca cb; have ca := (blk_all (HB.out _ H1.out).1).1; have cb := (blk_all (HB.out _ H1.out).2.1).1)) | (go_at_call 27; ((with_reducible refine (CircuitValid_i _ b _ (HB.out _ H1.out).2.2.2.1).mono ?_); rintro e w2 ⟨rfl, hq⟩; rw [HV.out.2]; have H2 := Lib.hid (H1.out.trans (hq.mono H1.out.size)); clear hq ca cb; have ca := (blk_all (HB.out _ H2.out).1).1; have cb := (blk_all (HB.out _ H2.out).2.1).1)))
          go_ret
          exact ⟨ret_bool HE.out.symm, (HB.out _ H2.out).2.2.2.2⟩
      · have q1 : (a.inp == b.inp) = false := by simpa using e1
        have HE : Hid (R = false) := by show _ = _; rw [HS.out]; simp [e1]
        clear e1
        go_enter Try.func39, Try.ntmps39
        go_upto_region 1 with fail
        rw [← HW.out.1]
        try rw [← HW.out.2.1]
        have ca := (blk_all (HB.out _ (Below.refl _ _)).1).1
        have cb := (blk_all (HB.out _ (Below.refl _ _)).2.1).1
        go_wp2_with (first | (go_at_call 27; ((with_reducible refine (CircuitValid_i _ a _ (HB.out _ (Below.refl _ _)).2.2.1).mono ?_); rintro e w1 ⟨rfl, hq⟩; rw [HV.out.1]; have H1 := Lib.hid hq; clear hq ca cb; have ca := (blk_all (HB.out _ H1.out).1).1; have cb := (blk_all (HB.out _ H1.out).2.1).1)) | (go_at_call 27; ((with_reducible refine (CircuitValid_i _ b _ (HB.out _ H1.out).2.2.2.1).mono ?_); rintro e w2 ⟨rfl, hq⟩; rw [HV.out.2]; have H2 := Lib.hid (H1.out.trans (hq.mono H1.out.size)); clear hq ca cb; have ca := (blk_all (HB.out _ H2.out).1).1; have cb := (blk_all (HB.out _ H2.out).2.1).1)))
        go_ret
        exact ⟨ret_bool HE.out.symm, (HB.out _ H2.out).2.2.2.2⟩

def FdPost (r : Bool) (w : World) (e : Ending) (w' : World) : Prop := ∃ v1 v2, e = .returned (.agg #[.bool r, v1, v2]) ∧ Below w.heap.size w w'

theorem fd_ret {r r' : Bool} {v1 v2 : Value} (h : r = r') : Ending.returned (.agg #[.bool r, v1, v2]) = .returned (.agg #[.bool r', v1, v2]) := by rw [h]

set_option maxRecDepth 100000 in
set_option maxHeartbeats 3200000 in
theorem FindDifference_i (u v : Value) (a b : Cir) (w : World) (ha : CirV w u a) (hb : CirV w v b) :
    Calls Try.prog 40 #[u, v] w (FdPost (sifB a b && !(List.range (asgN a)).all (resEq a b)) w) := by
  have HG := Lib.hid (And.intro ha hb)
  obtain ⟨sn, cn, sg, cg, so, co, rfl, -, -, -, ka1, ka2, ka3⟩ := ha
  obtain ⟨tn, dn, tg, dg, to_, do_, rfl, -, -, -, kb1, kb2, kb3⟩ := hb
  obtain ⟨W0, hW0⟩ : ∃ W0, W0 = (((w.alloc (.cells #[.int .i64 a.inp, .slice sn a.next.length cn, .slice sg a.gates.length cg, .slice so a.outs.length co] 28)).alloc (.cells #[.int .i64 b.inp, .slice tn b.next.length dn, .slice tg b.gates.length dg, .slice to_ b.outs.length do_] 28)).alloc (.cells #[.bool false, .slice none 0 0, .slice none 0 0] 57)) := ⟨_, rfl⟩
  obtain ⟨A, hA⟩ : ∃ A, A = w.heap.size := ⟨_, rfl⟩
  have z1 : W0.heap.size = A + 3 := by rw [hW0, hA]; simp
  have z2 : W0.heap[A]? = some (.cells #[.int .i64 a.inp, .slice sn a.next.length cn, .slice sg a.gates.length cg, .slice so a.outs.length co] 28 (0, 0)) := by rw [hW0, hA]; exact blk_old (blk_old (blk_new w _))
  have z3 : W0.heap[A + 1]? = some (.cells #[.int .i64 b.inp, .slice tn b.next.length dn, .slice tg b.gates.length dg, .slice to_ b.outs.length do_] 28 (0, 0)) := by rw [hW0, hA]; exact blk_old (blk_at (by simp))
  have z5 : W0.heap[A + 2]? = some (.cells #[.bool false, .slice none 0 0, .slice none 0 0] 57 (0, 0)) := by rw [hW0, hA]; exact blk_at (by simp)
  have z4 : Below w.heap.size w W0 := by rw [hW0]; go_grown
  have HW := Lib.hid (And.intro hW0 (And.intro hA z1))
  have HB : Hid (∀ W, Below W0.heap.size W0 W → W.heap[A]? = some (.cells #[.int .i64 a.inp, .slice sn a.next.length cn, .slice sg a.gates.length cg, .slice so a.outs.length co] 28 (0, 0)) ∧ W.heap[A + 1]? = some (.cells #[.int .i64 b.inp, .slice tn b.next.length dn, .slice tg b.gates.length dg, .slice to_ b.outs.length do_] 28 (0, 0)) ∧ CirV W (.agg #[.int .i64 a.inp, .slice sn a.next.length cn, .slice sg a.gates.length cg, .slice so a.outs.length co]) a ∧ CirV W (.agg #[.int .i64 b.inp, .slice tn b.next.length dn, .slice tg b.gates.length dg, .slice to_ b.outs.length do_]) b ∧ Below w.heap.size w W) := fun W hW => ⟨blk_below hW (by omega) z2, blk_below hW (by omega) z3, HG.out.1.mono (z4.trans (hW.mono z4.size)), HG.out.2.mono (z4.trans (hW.mono z4.size)), z4.trans (hW.mono z4.size)⟩
  have HRC : Hid (∀ W, Below W0.heap.size W0 W → W.heap[A + 2]? = some (.cells #[.bool false, .slice none 0 0, .slice none 0 0] 57 (0, 0))) := fun W hW => blk_below hW (by omega) z5
  clear hW0 hA z1 z2 z3 z4 z5
  cases hs : sifB a b
  · have HS := Lib.hid hs
    clear hs
    go_enter Try.func40, Try.ntmps40
    go_upto_region 1 with fail
    rw [← HW.out.1]
    try rw [← HW.out.2.1]
    have ca := (blk_all (HB.out _ (Below.refl _ _)).1).1
    have cb := (blk_all (HB.out _ (Below.refl _ _)).2.1).1
    go_wp2_with (go_at_call 39; ((with_reducible refine (SameInterface_i _ _ a b _ (HB.out _ (Below.refl _ _)).2.2.1 (HB.out _ (Below.refl _ _)).2.2.2.1).mono ?_); rintro e w1 ⟨rfl, hq⟩; rw [HS.out]; have H1 := Lib.hid hq; clear hq ca cb; obtain ⟨rc, rf⟩ := blk_all (HRC.out _ H1.out)))
    clear rc rf
    have hZ : (((w1.setCell ⟨A + 2, 0, none⟩ (.bool false)).setCell ⟨A + 2, 1, none⟩ (.slice none 0 0)).setCell ⟨A + 2, 2, none⟩ (.slice none 0 0)).heap[A + 2]? = some (.cells #[.bool false, .slice none 0 0, .slice none 0 0] 57 (0, 0)) := by
      simpa using blk_set (o := 2) (v := .slice none 0 0) (blk_set (o := 1) (v := .slice none 0 0) (blk_set (o := 0) (v := .bool false) (HRC.out _ H1.out)))
    have hA2 := HW.out.2.1
    have hbz := (((HB.out _ H1.out).2.2.2.2.setCell (p := ⟨A + 2, 0, none⟩) (by simp; omega) (.bool false)).setCell (p := ⟨A + 2, 1, none⟩) (by simp; omega) (.slice none 0 0)).setCell (p := ⟨A + 2, 2, none⟩) (by simp; omega) (.slice none 0 0)
    revert hZ hbz
    generalize (((w1.setCell ⟨A + 2, 0, none⟩ (.bool false)).setCell ⟨A + 2, 1, none⟩ (.slice none 0 0)).setCell ⟨A + 2, 2, none⟩ (.slice none 0 0)) = WZ
    intro hZ hbz
    have cr := (blk_all hZ).1
    exact bodyPost_ret (v := .agg #[.bool false, .slice none 0 0, .slice none 0 0]) (by simp [results, Try.results40, go_sem, cr]) rfl ⟨_, _, rfl, hbz⟩

  · obtain ⟨va, vb, s1, s2, s3⟩ := sifB_iff.1 hs
    have hva := a.validB_iff.1 va
    have hvb := b.validB_iff.1 vb
    obtain ⟨i0, i1, l1, l2, l3⟩ := id hva.lim
    obtain ⟨n1, n2⟩ := asgN_le hva
    obtain ⟨ni, hni⟩ : ∃ ni : Nat, a.inp = ni := ⟨a.inp.toNat, by omega⟩
    obtain ⟨N, hN⟩ : ∃ N, N = asgN a := ⟨_, rfl⟩
    have lra : ∀ k : Nat, (resV a (k : Int) (-1) false).length = a.next.length + a.outs.length := fun k => resV_length _ _ _ _
    have lrb : ∀ k : Nat, (resV b (k : Int) (-1) false).length = a.next.length + a.outs.length := fun k => by rw [resV_length]; omega
    have HL := Lib.hid (And.intro lra lrb)
    have HS : Hid (∀ W, Below w.heap.size w W → (Sl W sn (ints a.next) ∧ Sl W sg (gcells a.gates) ∧ Sl W so (ints a.outs)) ∧ Sl W tn (ints b.next) ∧ Sl W tg (gcells b.gates) ∧ Sl W to_ (ints b.outs)) := fun W hW => by
      obtain ⟨⟨_, _, _, _, _, _, e1, a1, a2, a3, -⟩, _, _, _, _, _, _, e2, b1, b2, b3, -⟩ := HG.out
      cases e1
      cases e2
      exact ⟨⟨a1.mono hW, a2.mono hW, a3.mono hW⟩, b1.mono hW, b2.mono hW, b3.mono hW⟩
    have hv1 : (-1 : Int) < a.vars := by unfold Cir.vars; omega
    have hv2 : (-1 : Int) < b.vars := by have := hvb.lim.1; unfold Cir.vars; omega
    have hRA : Hid (∀ W (k : Nat), Below W0.heap.size W0 W → k ≤ 1000 → Calls Try.prog 79 #[.pointer (some ⟨A, 0, none⟩), .int .i64 k, .int .i64 (-1), .bool false] W fun e w' => ∃ s cap, e = .returned (.slice s (a.next.length + a.outs.length) cap) ∧ Sl w' s (bools (resV a k (-1) false)) ∧ Below W.heap.size W w') := fun W k hW hk => by
      obtain ⟨x1, x2, x3, x4, x5⟩ := HB.out W hW
      obtain ⟨⟨y1, y2, y3⟩, y4, y5, y6⟩ := HS.out W x5
      exact results_any A sn sg so cn cg co a k (-1) false W (CirAt.of_blk x1) y1 y2 y3 hva hk (by omega) hv1
    have hRB : Hid (∀ W (k : Nat), Below W0.heap.size W0 W → k ≤ 1000 → Calls Try.prog 79 #[.pointer (some ⟨A + 1, 0, none⟩), .int .i64 k, .int .i64 (-1), .bool false] W fun e w' => ∃ s cap, e = .returned (.slice s (a.next.length + a.outs.length) cap) ∧ Sl w' s (bools (resV b k (-1) false)) ∧ Below W.heap.size W w') := fun W k hW hk => by
      obtain ⟨x1, x2, x3, x4, x5⟩ := HB.out W hW
      obtain ⟨⟨y1, y2, y3⟩, y4, y5, y6⟩ := HS.out W x5
      have := results_any (A + 1) tn tg to_ dn dg do_ b k (-1) false W (CirAt.of_blk x2) y4 y5 y6 hvb hk (by omega) hv2
      rw [← s2, ← s3] at this
      exact this
    have hNE : ((2 ^ (a.inp.toNat + a.next.length) : Nat) : Int) = N := by rw [hN]; rfl
    have HH := Lib.hid (And.intro hs (And.intro hNE hni))
    rw [← hN] at n2 ⊢
    have HNN := Lib.hid hN
    have hn32 : a.next.length ≤ 3 := l1
    have ho3 : a.outs.length ≤ 3 := l3
    clear va vb s1 s2 s3 hva hvb hv1 hv2 lra lrb hNE hni hN n1 l1 l2 l3 hs
    obtain ⟨R, hR⟩ : ∃ R, R = (List.range N).all (resEq a b) := ⟨_, rfl⟩
    rw [← hR, Bool.true_and]
    have HR := Lib.hid hR
    clear hR
    go_enter Try.func40, Try.ntmps40
    go_upto_region 1 with fail
    rw [← HW.out.1]
    try rw [← HW.out.2.1]
    have ca := (blk_all (HB.out _ (Below.refl _ _)).1).1
    have cb := (blk_all (HB.out _ (Below.refl _ _)).2.1).1
    go_upto_region 3 with (go_at_call 39; ((with_reducible refine (SameInterface_i _ _ a b _ (HB.out _ (Below.refl _ _)).2.2.1 (HB.out _ (Below.refl _ _)).2.2.2.1).mono ?_); rintro e w1 ⟨rfl, hq⟩; rw [HH.out.1]; have H1 := Lib.hid hq; clear hq ca cb))
    go_upto_region 4 with (go_at_call 77; ((with_reducible refine (assignments_any _ _ _ _ _ _ _ _ (CirAt.of_blk (HB.out _ H1.out).1) ⟨by omega, by omega⟩ (by omega)).mono ?_); rintro e w2 ⟨rfl, hd⟩; rw [HH.out.2.1]; have H2 := Lib.hid (H1.out.trans (hd.below _)); clear hd))
    go_loopw [12] (fun i wr => ∃ k : Nat, k ≤ N ∧ i = .int .i64 k ∧ (∀ j, j < k → resEq a b j = true) ∧ Below W0.heap.size W0 wr) (fun i _ => N - (intOf i).toNat)
    case atStart => exact ⟨0, Nat.zero_le _, rfl, fun j hj => by omega, H2.out⟩
    case round =>
      obtain ⟨k, hk, rfl, hall, hb⟩ := hrel
      have HK := Lib.hid (And.intro hall hb)
      clear hall hb
      by_cases hlt : k < N
      · obtain ⟨q, hq⟩ : ∃ q, q = resEq a b k := ⟨_, rfl⟩
        have HQ := Lib.hid hq
        clear hq
        cases q
        · have hRf : R = false := by
            rw [HR.out]
            simp only [List.all_eq_false]
            exact ⟨k, List.mem_range.2 hlt, by rw [← HQ.out]; simp⟩
          have HRf := Lib.hid hRf
          clear hRf
          have hnn := HH.out.2.2
          go_wp2_with (first
            | (go_at_call 79; ((with_reducible refine (hRA.out _ k HK.out.2 (by omega)).mono ?_); rintro e w3 ⟨s3, c3, rfl, h3, hq⟩; have H3 := Lib.hid (And.intro h3 (HK.out.2.trans (hq.mono HK.out.2.size))); clear h3 hq))
            | (go_at_call 79; ((with_reducible refine (hRB.out _ k H3.out.2 (by omega)).mono ?_); rintro e w4 ⟨s4, c4, rfl, h4, hq⟩; have H4 := Lib.hid (And.intro (H3.out.1.mono hq) (And.intro h4 (H3.out.2.trans (hq.mono H3.out.2.size)))); clear h4 hq))
            | (go_at_call 78; ((with_reducible refine (slicesEq_any _ _ _ _ _ _ _ _ H4.out.1 H4.out.2.1 (HL.out.1 k) (HL.out.2 k) (by omega)).mono ?_); rintro e w5 ⟨rfl, hd⟩; rw [show decide (resV a (k : Int) (-1) false = resV b (k : Int) (-1) false) = _ from HQ.out.symm]; have H5 := Lib.hid (H4.out.2.2.trans (hd.below _)); clear hd))
            | (go_at_call 80; ((with_reducible refine (latchBits_any _ _ _ _ _ _ _ _ _ (CirAt.of_blk (HB.out _ H5.out).1) ⟨by omega, by omega⟩ (by omega) (by omega) (by omega)).mono ?_); rintro e w6 ⟨s6, rfl, h6, hq⟩; have H6 := Lib.hid (H5.out.trans (hq.mono H5.out.size)); clear h6 hq))
            | (go_at_call 81; ((with_reducible refine (inputBits_any _ _ _ _ _ _ _ (CirAt.of_blk (HB.out _ H6.out).1) ni HH.out.2.2 (by omega) (by omega) (by omega)).mono ?_); rintro e w7 ⟨s7, rfl, h7, hq⟩; have H7 := Lib.hid (H6.out.trans (hq.mono H6.out.size)); clear h7 hq; obtain ⟨rc, rf⟩ := blk_all (HRC.out _ H7.out))))
          clear rc rf hnn
          have hZ : (((w7.setCell ⟨A + 2, 0, none⟩ (.bool true)).setCell ⟨A + 2, 1, none⟩ (.slice s6 a.next.length a.next.length)).setCell ⟨A + 2, 2, none⟩ (.slice s7 ni ni)).heap[A + 2]? = some (.cells #[.bool true, .slice s6 a.next.length a.next.length, .slice s7 ni ni] 57 (0, 0)) := by
            simpa using blk_set (o := 2) (v := .slice s7 ni ni) (blk_set (o := 1) (v := .slice s6 a.next.length a.next.length) (blk_set (o := 0) (v := .bool true) (HRC.out _ H7.out)))
          have hA2 := HW.out.2.1
          have hbz := (((HB.out _ H7.out).2.2.2.2.setCell (p := ⟨A + 2, 0, none⟩) (by simp; omega) (.bool true)).setCell (p := ⟨A + 2, 1, none⟩) (by simp; omega) (.slice s6 a.next.length a.next.length)).setCell (p := ⟨A + 2, 2, none⟩) (by simp; omega) (.slice s7 ni ni)
          revert hZ hbz
          generalize (((w7.setCell ⟨A + 2, 0, none⟩ (.bool true)).setCell ⟨A + 2, 1, none⟩ (.slice s6 a.next.length a.next.length)).setCell ⟨A + 2, 2, none⟩ (.slice s7 ni ni)) = WZ
          intro hZ hbz
          have cr := (blk_all hZ).1
          exact bodyPost_ret (v := .agg #[.bool true, .slice s6 a.next.length a.next.length, .slice s7 ni ni]) (by simp [results, Try.results40, go_sem, cr]) rfl ⟨_, _, fd_ret (by rw [HRf.out]; rfl), hbz⟩

        · go_wp2_with (first
            | (go_at_call 79; ((with_reducible refine (hRA.out _ k HK.out.2 (by omega)).mono ?_); rintro e w3 ⟨s3, c3, rfl, h3, hq⟩; have H3 := Lib.hid (And.intro h3 (HK.out.2.trans (hq.mono HK.out.2.size))); clear h3 hq))
            | (go_at_call 79; ((with_reducible refine (hRB.out _ k H3.out.2 (by omega)).mono ?_); rintro e w4 ⟨s4, c4, rfl, h4, hq⟩; have H4 := Lib.hid (And.intro (H3.out.1.mono hq) (And.intro h4 (H3.out.2.trans (hq.mono H3.out.2.size)))); clear h4 hq))
            | (go_at_call 78; ((with_reducible refine (slicesEq_any _ _ _ _ _ _ _ _ H4.out.1 H4.out.2.1 (HL.out.1 k) (HL.out.2 k) (by omega)).mono ?_); rintro e w5 ⟨rfl, hd⟩; rw [show decide (resV a (k : Int) (-1) false = resV b (k : Int) (-1) false) = _ from HQ.out.symm]; have H5 := Lib.hid (H4.out.2.2.trans (hd.below _)); clear hd)))
          go_roundw
          case rel =>
            refine ⟨k + 1, by omega, by go_num, fun j hj => ?_, H5.out⟩
            rcases Nat.lt_or_ge j k with h | h
            · exact HK.out.1 j h
            · obtain rfl : j = k := by omega
              exact HQ.out.symm
          case measure => simp [intOf]; omega
      · obtain rfl : k = N := by omega
        have hRt : R = true := by
          rw [HR.out, List.all_eq_true]
          exact fun j hj => HK.out.1 j (List.mem_range.1 hj)
        have HRt := Lib.hid hRt
        clear hRt
        obtain ⟨rc, rf⟩ := blk_all (HRC.out _ HK.out.2)
        go_wp2_with fail
        clear rc rf
        have hZ : (((wr.setCell ⟨A + 2, 0, none⟩ (.bool false)).setCell ⟨A + 2, 1, none⟩ (.slice none 0 0)).setCell ⟨A + 2, 2, none⟩ (.slice none 0 0)).heap[A + 2]? = some (.cells #[.bool false, .slice none 0 0, .slice none 0 0] 57 (0, 0)) := by
          simpa using blk_set (o := 2) (v := .slice none 0 0) (blk_set (o := 1) (v := .slice none 0 0) (blk_set (o := 0) (v := .bool false) (HRC.out _ HK.out.2)))
        have hA2 := HW.out.2.1
        have hbz := (((HB.out _ HK.out.2).2.2.2.2.setCell (p := ⟨A + 2, 0, none⟩) (by simp; omega) (.bool false)).setCell (p := ⟨A + 2, 1, none⟩) (by simp; omega) (.slice none 0 0)).setCell (p := ⟨A + 2, 2, none⟩) (by simp; omega) (.slice none 0 0)
        revert hZ hbz
        generalize (((wr.setCell ⟨A + 2, 0, none⟩ (.bool false)).setCell ⟨A + 2, 1, none⟩ (.slice none 0 0)).setCell ⟨A + 2, 2, none⟩ (.slice none 0 0)) = WZ
        intro hZ hbz
        have cr := (blk_all hZ).1
        exact bodyPost_ret (v := .agg #[.bool false, .slice none 0 0, .slice none 0 0]) (by simp [results, Try.results40, go_sem, cr]) rfl ⟨_, _, fd_ret (by rw [HRt.out]; rfl), hbz⟩

set_option maxRecDepth 100000 in
set_option maxHeartbeats 1600000 in
theorem Equivalent_i (u v : Value) (a b : Cir) (w : World) (ha : CirV w u a) (hb : CirV w v b) :
    Calls Try.prog 11 #[u, v] w fun e w' => e = .returned (.bool (equivB a b)) ∧ Below w.heap.size w w' := by
  have HG := Lib.hid (And.intro ha hb)
  obtain ⟨sn, cn, sg, cg, so, co, rfl, -, -, -, ka1, ka2, ka3⟩ := ha
  obtain ⟨tn, dn, tg, dg, to_, do_, rfl, -, -, -, kb1, kb2, kb3⟩ := hb
  obtain ⟨W0, hW0⟩ : ∃ W0, W0 = ((w.alloc (.cells #[.int .i64 a.inp, .slice sn a.next.length cn, .slice sg a.gates.length cg, .slice so a.outs.length co] 28)).alloc (.cells #[.int .i64 b.inp, .slice tn b.next.length dn, .slice tg b.gates.length dg, .slice to_ b.outs.length do_] 28)) := ⟨_, rfl⟩
  obtain ⟨A, hA⟩ : ∃ A, A = w.heap.size := ⟨_, rfl⟩
  have z1 : W0.heap.size = A + 2 := by rw [hW0, hA]; simp
  have z2 : W0.heap[A]? = some (.cells #[.int .i64 a.inp, .slice sn a.next.length cn, .slice sg a.gates.length cg, .slice so a.outs.length co] 28 (0, 0)) := by rw [hW0, hA]; exact blk_old (blk_new w _)
  have z3 : W0.heap[A + 1]? = some (.cells #[.int .i64 b.inp, .slice tn b.next.length dn, .slice tg b.gates.length dg, .slice to_ b.outs.length do_] 28 (0, 0)) := by rw [hW0, hA]; exact blk_at (by simp)
  have z4 : Below w.heap.size w W0 := by rw [hW0]; go_grown
  have HW := Lib.hid (And.intro hW0 (And.intro hA z1))
  have HB : Hid (∀ W, Below W0.heap.size W0 W → W.heap[A]? = some (.cells #[.int .i64 a.inp, .slice sn a.next.length cn, .slice sg a.gates.length cg, .slice so a.outs.length co] 28 (0, 0)) ∧ W.heap[A + 1]? = some (.cells #[.int .i64 b.inp, .slice tn b.next.length dn, .slice tg b.gates.length dg, .slice to_ b.outs.length do_] 28 (0, 0)) ∧ CirV W (.agg #[.int .i64 a.inp, .slice sn a.next.length cn, .slice sg a.gates.length cg, .slice so a.outs.length co]) a ∧ CirV W (.agg #[.int .i64 b.inp, .slice tn b.next.length dn, .slice tg b.gates.length dg, .slice to_ b.outs.length do_]) b ∧ Below w.heap.size w W) := fun W hW => ⟨blk_below hW (by omega) z2, blk_below hW (by omega) z3, HG.out.1.mono (z4.trans (hW.mono z4.size)), HG.out.2.mono (z4.trans (hW.mono z4.size)), z4.trans (hW.mono z4.size)⟩
  clear hW0 hA z1 z2 z3 z4
  obtain ⟨R, hR⟩ : ∃ R, R = equivB a b := ⟨_, rfl⟩
  rw [← hR]
  have hfd : ∀ w' (r : Bool) v1 v2, (Instr.field 57 (.agg #[.bool r, v1, v2]) 0).run Try.prog w' = .ok (.bool r) w' := by intro w' r v1 v2; kernel_rfl
  cases hs : sifB a b
  · have HS := Lib.hid hs
    have HE : Hid (R = false) := by show _ = _; rw [hR]; simp [equivB, hs]
    clear hs hR
    go_enter Try.func11, Try.ntmps11
    go_upto_region 1 with fail
    rw [← HW.out.1]
    try rw [← HW.out.2.1]
    have ca := (blk_all (HB.out _ (Below.refl _ _)).1).1
    have cb := (blk_all (HB.out _ (Below.refl _ _)).2.1).1
    go_wp2_with (go_at_call 39; ((with_reducible refine (SameInterface_i _ _ a b _ (HB.out _ (Below.refl _ _)).2.2.1 (HB.out _ (Below.refl _ _)).2.2.2.1).mono ?_); rintro e w1 ⟨rfl, hq⟩; rw [HS.out]; have H1 := Lib.hid hq; clear hq ca cb))
    go_ret
    exact ⟨ret_bool HE.out.symm, (HB.out _ H1.out).2.2.2.2⟩
  · have HS := Lib.hid hs
    obtain ⟨q, hq⟩ : ∃ q, q = (List.range (asgN a)).all (resEq a b) := ⟨_, rfl⟩
    have HE : Hid (R = q) := by show _ = _; rw [hR, hq]; simp [equivB, hs]
    have HQ := Lib.hid hq
    clear hs hR hq
    go_enter Try.func11, Try.ntmps11
    go_upto_region 1 with fail
    rw [← HW.out.1]
    try rw [← HW.out.2.1]
    have ca := (blk_all (HB.out _ (Below.refl _ _)).1).1
    have cb := (blk_all (HB.out _ (Below.refl _ _)).2.1).1
    cases q
    all_goals
      go_wp2_with (first
        | (go_at_call 39; ((with_reducible refine (SameInterface_i _ _ a b _ (HB.out _ (Below.refl _ _)).2.2.1 (HB.out _ (Below.refl _ _)).2.2.2.1).mono ?_); rintro e w1 ⟨rfl, hq⟩; rw [HS.out]; have H1 := Lib.hid hq; clear hq ca cb; have ca := (blk_all (HB.out _ H1.out).1).1; have cb := (blk_all (HB.out _ H1.out).2.1).1))
        | (go_at_call 40; ((with_reducible refine (FindDifference_i _ _ a b _ (HB.out _ H1.out).2.2.1 (HB.out _ H1.out).2.2.2.1).mono ?_); rintro e w2 ⟨v1, v2, rfl, hq⟩; rw [HS.out, ← HQ.out]; have H2 := Lib.hid (H1.out.trans (hq.mono H1.out.size)); clear hq ca cb)))
      go_ret
      exact ⟨ret_bool HE.out.symm, (HB.out _ H2.out).2.2.2.2⟩

end Go.Proofs.Ytjecchljhdfjdaa
