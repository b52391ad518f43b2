import Derived.Test.YtbcolcchchgldaaZZ8DM
import Derived.Test.YtbcolcchchgldaaZZ8DY
import Derived.Test.YtbcolcchchgldaaZZ8EK
import Derived.Test.YtbcolcchchgldaaZZ8OS
import Derived.Test.YtbcolcchchgldaaZZ8OH
import Derived.Test.YtbcolcchchgldaaZZ8L4
namespace Go.Proofs.Ytbcolcchchgldaa
set_option linter.unusedVariables false
set_option linter.unusedSimpArgs false
open Go.RowKit

/-! Part of the proof of one law. -/

set_option maxHeartbeats 800000 in
theorem slicesEq_any (sa sb : Option Addr) (ca cb n : Nat) (xs ys : List Bool) (w : World) (ha : Sl w sa (bools xs)) (hb : Sl w sb (bools ys)) (lx : xs.length = n) (ly : ys.length = n) (hl : n ≤ 1000000) :
    Calls Try.prog 148 #[.slice sa n ca, .slice sb n cb] w fun e w' => e = .returned (.bool (decide (xs = ys))) ∧ Drew w w' := by
  have H := Lib.hid (And.intro ha (And.intro hb (And.intro lx ly)))
  clear ha hb lx ly
  go_enter Try.func148, Try.ntmps148
  go_upto_region 4 with fail
  go_loopw [13] (fun i wr => ∃ k : Nat, k ≤ n ∧ i = .int .i64 k ∧ xs.take k = ys.take k ∧ Drew w wr) (fun i _ => n - (intOf i).toNat)
  case atStart => exact ⟨0, Nat.zero_le _, rfl, rfl, 0, rfl⟩
  case round =>
    obtain ⟨k, hk, rfl, htk, hd⟩ := hrel
    by_cases hlt : k < n
    · obtain ⟨x, hx⟩ := get_of_lt (l := xs) (k := k) (by rw [H.out.2.2.1]; exact hlt)
      obtain ⟨y, hy⟩ := get_of_lt (l := ys) (k := k) (by rw [H.out.2.2.2]; exact hlt)
      obtain ⟨b1, o1, rfl, hb1, z1⟩ := H.out.1.bool (hd.below _) hx
      obtain ⟨b2, o2, rfl, hb2, z2⟩ := H.out.2.1.bool (hd.below _) hy
      have HD := Lib.hid (And.intro hd htk)
      have HE := Lib.hid (And.intro hx hy)
      clear hd hx hy htk
      by_cases e : x = y
      · subst e
        go_upto_region 6 with fail
        go_quiet (fail)
        go_wp2_with fail
        go_roundw
        case rel => exact ⟨k + 1, by omega, by go_num, by rw [List.take_add_one, List.take_add_one, HD.out.2, HE.out.1, HE.out.2], HD.out.1.n _⟩
        case measure => simp [intOf]; omega
      · have hne : (x != y) = true := by simpa using e
        have hf : decide (xs = ys) = false := by
          rw [decide_eq_false_iff_not]; intro he; have h1 := HE.out.1; rw [he, HE.out.2] at h1; exact e (by simpa using h1.symm)
        have HF := Lib.hid hf
        clear hf
        go_upto_region 6 with fail
        cases x <;> cases y <;> first
          | exact absurd rfl e
          | (go_quiet (fail)
             go_wp2_with fail
             go_ret
             exact ⟨ret_bool HF.out.symm, HD.out.1.n _⟩)
    · obtain rfl : n = k := by omega
      have ht : decide (xs = ys) = true := by
        rw [List.take_of_length_le (by rw [H.out.2.2.1]; exact Nat.le_refl _), List.take_of_length_le (by rw [H.out.2.2.2]; exact Nat.le_refl _)] at htk
        exact decide_eq_true htk
      have HT := Lib.hid (And.intro ht hd)
      clear ht hd htk
      go_wp2_with fail
      go_ret
      exact ⟨ret_bool HT.out.1.symm, HT.out.2⟩

/-- The same interface. -/
def sifB (a b : Cir) : Bool := a.validB && (b.validB && (decide (a.inp = b.inp) && (decide (a.next.length = b.next.length) && decide (a.outs.length = b.outs.length))))

/-- Equivalence. -/
def resEq (a b : Cir) (k : Nat) : Bool := decide (resV a (k : Int) (-1) false = resV b (k : Int) (-1) false)

def equivB (a b : Cir) : Bool := sifB a b && (List.range (asgN a)).all (resEq a b)

theorem sifB_iff {a b : Cir} : sifB a b = true ↔ a.validB = true ∧ b.validB = true ∧ a.inp = b.inp ∧ a.next.length = b.next.length ∧ a.outs.length = b.outs.length := by
  simp [sifB]

theorem equivB_iff {a b : Cir} : equivB a b = true ↔ sifB a b = true ∧ ∀ x : Nat, x < asgN a → resV a (x : Int) (-1) false = resV b (x : Int) (-1) false := by
  simp [equivB, resEq]

set_option maxRecDepth 100000 in
set_option maxHeartbeats 3200000 in
theorem SameInterface_i (u v : Value) (a b : Cir) (w : World) (ha : CirV w u a) (hb : CirV w v b) :
    Calls Try.prog 113 #[u, v] w fun e w' => e = .returned (.bool (sifB a b)) ∧ Below w.heap.size w w' := by
  have HG := Lib.hid (And.intro ha hb)
  obtain ⟨sn, cn, sg, cg, so, co, rfl, -, -, -, ka1, ka2, ka3⟩ := ha
  obtain ⟨tn, dn, tg, dg, to_, do_, rfl, -, -, -, kb1, kb2, kb3⟩ := hb
  obtain ⟨W0, hW0⟩ : ∃ W0, W0 = ((w.alloc (.cells #[.int .i64 a.inp, .slice sn a.next.length cn, .slice sg a.gates.length cg, .slice so a.outs.length co] 26)).alloc (.cells #[.int .i64 b.inp, .slice tn b.next.length dn, .slice tg b.gates.length dg, .slice to_ b.outs.length do_] 26)) := ⟨_, rfl⟩
  obtain ⟨A, hA⟩ : ∃ A, A = w.heap.size := ⟨_, rfl⟩
  have z1 : W0.heap.size = A + 2 := by rw [hW0, hA]; simp
  have z2 : W0.heap[A]? = some (.cells #[.int .i64 a.inp, .slice sn a.next.length cn, .slice sg a.gates.length cg, .slice so a.outs.length co] 26 (0, 0)) := by rw [hW0, hA]; exact blk_old (blk_new w _)
  have z3 : W0.heap[A + 1]? = some (.cells #[.int .i64 b.inp, .slice tn b.next.length dn, .slice tg b.gates.length dg, .slice to_ b.outs.length do_] 26 (0, 0)) := by rw [hW0, hA]; exact blk_at (by simp)
  have z4 : Below w.heap.size w W0 := by rw [hW0]; go_grown
  have HW := Lib.hid (And.intro hW0 (And.intro hA z1))
  have HB : Hid (∀ W, Below W0.heap.size W0 W → W.heap[A]? = some (.cells #[.int .i64 a.inp, .slice sn a.next.length cn, .slice sg a.gates.length cg, .slice so a.outs.length co] 26 (0, 0)) ∧ W.heap[A + 1]? = some (.cells #[.int .i64 b.inp, .slice tn b.next.length dn, .slice tg b.gates.length dg, .slice to_ b.outs.length do_] 26 (0, 0)) ∧ CirV W (.agg #[.int .i64 a.inp, .slice sn a.next.length cn, .slice sg a.gates.length cg, .slice so a.outs.length co]) a ∧ CirV W (.agg #[.int .i64 b.inp, .slice tn b.next.length dn, .slice tg b.gates.length dg, .slice to_ b.outs.length do_]) b ∧ Below w.heap.size w W) := fun W hW => ⟨blk_below hW (by omega) z2, blk_below hW (by omega) z3, HG.out.1.mono (z4.trans (hW.mono z4.size)), HG.out.2.mono (z4.trans (hW.mono z4.size)), z4.trans (hW.mono z4.size)⟩
  clear hW0 hA z1 z2 z3 z4
  cases h1 : a.validB
  · have hs : sifB a b = false := by simp [sifB, h1]
    rw [hs]
    have HV := Lib.hid h1
    clear h1 hs
    go_enter Try.func113, Try.ntmps113
    go_upto_region 1 with fail
    rw [← HW.out.1]
    try rw [← HW.out.2.1]
    have ca := (blk_all (HB.out _ (Below.refl _ _)).1).1
    have cb := (blk_all (HB.out _ (Below.refl _ _)).2.1).1
    go_wp2_with (go_at_call 18; ((with_reducible refine (CircuitValid_i _ a _ (HB.out _ (Below.refl _ _)).2.2.1).mono ?_); rintro e w1 ⟨rfl, hq⟩; rw [HV.out]; have H1 := Lib.hid hq; clear hq ca cb; have ca := (blk_all (HB.out _ H1.out).1).1; have cb := (blk_all (HB.out _ H1.out).2.1).1))
    go_ret
    exact ⟨rfl, (HB.out _ H1.out).2.2.2.2⟩
  · cases h2 : b.validB
    · have hs : sifB a b = false := by simp [sifB, h2]
      rw [hs]
      have HV := Lib.hid (And.intro h1 h2)
      clear h1 h2 hs
      go_enter Try.func113, Try.ntmps113
      go_upto_region 1 with fail
      rw [← HW.out.1]
      try rw [← HW.out.2.1]
      have ca := (blk_all (HB.out _ (Below.refl _ _)).1).1
      have cb := (blk_all (HB.out _ (Below.refl _ _)).2.1).1
      go_wp2_with (first | (go_at_call 18; ((with_reducible refine (CircuitValid_i _ a _ (HB.out _ (Below.refl _ _)).2.2.1).mono ?_); rintro e w1 ⟨rfl, hq⟩; rw [HV.out.1]; have H1 := Lib.hid hq; clear hq ca cb; have ca := (blk_all (HB.out _ H1.out).1).1; have cb := (blk_all (HB.out _ H1.out).2.1).1)) | (go_at_call 18; ((with_reducible refine (CircuitValid_i _ b _ (HB.out _ H1.out).2.2.2.1).mono ?_); rintro e w2 ⟨rfl, hq⟩; rw [HV.out.2]; have H2 := Lib.hid (H1.out.trans (hq.mono H1.out.size)); clear hq ca cb; have ca := (blk_all (HB.out _ H2.out).1).1; have cb := (blk_all (HB.out _ H2.out).2.1).1)))
      go_ret
      exact ⟨rfl, (HB.out _ H2.out).2.2.2.2⟩
    · obtain ⟨R, hR⟩ : ∃ R, R = sifB a b := ⟨_, rfl⟩
      have hs : R = (decide (a.inp = b.inp) && (decide (a.next.length = b.next.length) && decide (a.outs.length = b.outs.length))) := by rw [hR]; simp [sifB, h1, h2]
      rw [← hR]
      have HV := Lib.hid (And.intro h1 h2)
      have HS := Lib.hid hs
      clear h1 h2 hs hR
      by_cases e1 : a.inp = b.inp
      · by_cases e2 : a.next.length = b.next.length
        · by_cases e3 : a.outs.length = b.outs.length
          · have q1 : (a.inp == b.inp) = true := by simpa using e1
            have q2 : ((a.next.length : Int) == (b.next.length : Int)) = true := beq_iff_eq.2 (by omega)
            have q3 : ((a.outs.length : Int) == (b.outs.length : Int)) = true := beq_iff_eq.2 (by omega)
            have HE : Hid (R = true) := by show _ = _; rw [HS.out]; simp [e1, e2, e3]
            clear e1 e2 e3
            go_enter Try.func113, Try.ntmps113
            go_upto_region 1 with fail
            rw [← HW.out.1]
            try rw [← HW.out.2.1]
            have ca := (blk_all (HB.out _ (Below.refl _ _)).1).1
            have cb := (blk_all (HB.out _ (Below.refl _ _)).2.1).1
            go_wp2_with (first | (go_at_call 18; ((with_reducible refine (CircuitValid_i _ a _ (HB.out _ (Below.refl _ _)).2.2.1).mono ?_); rintro e w1 ⟨rfl, hq⟩; rw [HV.out.1]; have H1 := Lib.hid hq; clear hq ca cb; have ca := (blk_all (HB.out _ H1.out).1).1; have cb := (blk_all (HB.out _ H1.out).2.1).1)) | (go_at_call 18; ((with_reducible refine (CircuitValid_i _ b _ (HB.out _ H1.out).2.2.2.1).mono ?_); rintro e w2 ⟨rfl, hq⟩; rw [HV.out.2]; have H2 := Lib.hid (H1.out.trans (hq.mono H1.out.size)); clear hq ca cb; have ca := (blk_all (HB.out _ H2.out).1).1; have cb := (blk_all (HB.out _ H2.out).2.1).1)))
            go_ret
            exact ⟨ret_bool HE.out.symm, (HB.out _ H2.out).2.2.2.2⟩
          · have q1 : (a.inp == b.inp) = true := by simpa using e1
            have q2 : ((a.next.length : Int) == (b.next.length : Int)) = true := beq_iff_eq.2 (by omega)
            have q3 : ((a.outs.length : Int) == (b.outs.length : Int)) = false := beq_eq_false_iff_ne.2 (by omega)
            have HE : Hid (R = false) := by show _ = _; rw [HS.out]; simp [e1, e2, e3]
            clear e1 e2 e3
            go_enter Try.func113, Try.ntmps113
            go_upto_region 1 with fail
            rw [← HW.out.1]
            try rw [← HW.out.2.1]
            have ca := (blk_all (HB.out _ (Below.refl _ _)).1).1
            have cb := (blk_all (HB.out _ (Below.refl _ _)).2.1).1
            go_wp2_with (first | (go_at_call 18; ((with_reducible refine (CircuitValid_i _ a _ (HB.out _ (Below.refl _ _)).2.2.1).mono ?_); rintro e w1 ⟨rfl, hq⟩; rw [HV.out.1]; have H1 := Lib.hid hq; clear hq ca cb; have ca := (blk_all (HB.out _ H1.out).1).1; have cb := (blk_all (HB.out _ H1.out).2.1).1)) | (go_at_call 18; ((with_reducible refine (CircuitValid_i _ b _ (HB.out _ H1.out).2.2.2.1).mono ?_); rintro e w2 ⟨rfl, hq⟩; rw [HV.out.2]; have H2 := Lib.hid (H1.out.trans (hq.mono H1.out.size)); clear hq ca cb; have ca := (blk_all (HB.out _ H2.out).1).1; have cb := (blk_all (HB.out _ H2.out).2.1).1)))
            go_ret
            exact ⟨ret_bool HE.out.symm, (HB.out _ H2.out).2.2.2.2⟩
        · have q1 : (a.inp == b.inp) = true := by simpa using e1
          have q2 : ((a.next.length : Int) == (b.next.length : Int)) = false := beq_eq_false_iff_ne.2 (by omega)
          have HE : Hid (R = false) := by show _ = _; rw [HS.out]; simp [e1, e2]
          clear e1 e2
          go_enter Try.func113, Try.ntmps113
          go_upto_region 1 with fail
          rw [← HW.out.1]
          try rw [← HW.out.2.1]
          have ca := (blk_all (HB.out _ (Below.refl _ _)).1).1
          have cb := (blk_all (HB.out _ (Below.refl _ _)).2.1).1
          go_wp2_with (first | (go_at_call 18; ((with_reducible refine (CircuitValid_i _ a _ (HB.out _ (Below.refl _ _)).2.2.1).mono ?_); rintro e w1 ⟨rfl, hq⟩; rw [HV.out.1]; have H1 := Lib.hid hq; clear hq ca cb; have ca := (blk_all (HB.out _ H1.out).1).1; have cb := (blk_all (HB.out _ H1.out).2.1).1)) | (go_at_call 18; ((with_reducible refine (CircuitValid_i _ b _ (HB.out _ H1.out).2.2.2.1).mono ?_); rintro e w2 ⟨rfl, hq⟩; rw [HV.out.2]; have H2 := Lib.hid (H1.out.trans (hq.mono H1.out.size)); clear hq ca cb; have ca := (blk_all (HB.out _ H2.out).1).1; have cb := (blk_all (HB.out _ H2.out).2.1).1)))
          go_ret
          exact ⟨ret_bool HE.out.symm, (HB.out _ H2.out).2.2.2.2⟩
      · have q1 : (a.inp == b.inp) = false := by simpa using e1
        have HE : Hid (R = false) := by show _ = _; rw [HS.out]; simp [e1]
        clear e1
        go_enter Try.func113, Try.ntmps113
        go_upto_region 1 with fail
        rw [← HW.out.1]
        try rw [← HW.out.2.1]
        have ca := (blk_all (HB.out _ (Below.refl _ _)).1).1
        have cb := (blk_all (HB.out _ (Below.refl _ _)).2.1).1
        go_wp2_with (first | (go_at_call 18; ((with_reducible refine (CircuitValid_i _ a _ (HB.out _ (Below.refl _ _)).2.2.1).mono ?_); rintro e w1 ⟨rfl, hq⟩; rw [HV.out.1]; have H1 := Lib.hid hq; clear hq ca cb; have ca := (blk_all (HB.out _ H1.out).1).1; have cb := (blk_all (HB.out _ H1.out).2.1).1)) | (go_at_call 18; ((with_reducible refine (CircuitValid_i _ b _ (HB.out _ H1.out).2.2.2.1).mono ?_); rintro e w2 ⟨rfl, hq⟩; rw [HV.out.2]; have H2 := Lib.hid (H1.out.trans (hq.mono H1.out.size)); clear hq ca cb; have ca := (blk_all (HB.out _ H2.out).1).1; have cb := (blk_all (HB.out _ H2.out).2.1).1)))
        go_ret
        exact ⟨ret_bool HE.out.symm, (HB.out _ H2.out).2.2.2.2⟩

def FdPost (r : Bool) (w : World) (e : Ending) (w' : World) : Prop := ∃ v1 v2, e = .returned (.agg #[.bool r, v1, v2]) ∧ Below w.heap.size w w'

theorem fd_ret {r r' : Bool} {v1 v2 : Value} (h : r = r') : Ending.returned (.agg #[.bool r, v1, v2]) = .returned (.agg #[.bool r', v1, v2]) := by rw [h]

set_option maxRecDepth 100000 in
set_option maxHeartbeats 3200000 in
theorem FindDifference_i (u v : Value) (a b : Cir) (w : World) (ha : CirV w u a) (hb : CirV w v b) :
    Calls Try.prog 114 #[u, v] w (FdPost (sifB a b && !(List.range (asgN a)).all (resEq a b)) w) := by
  have HG := Lib.hid (And.intro ha hb)
  obtain ⟨sn, cn, sg, cg, so, co, rfl, -, -, -, ka1, ka2, ka3⟩ := ha
  obtain ⟨tn, dn, tg, dg, to_, do_, rfl, -, -, -, kb1, kb2, kb3⟩ := hb
  obtain ⟨W0, hW0⟩ : ∃ W0, W0 = (((w.alloc (.cells #[.int .i64 a.inp, .slice sn a.next.length cn, .slice sg a.gates.length cg, .slice so a.outs.length co] 26)).alloc (.cells #[.int .i64 b.inp, .slice tn b.next.length dn, .slice tg b.gates.length dg, .slice to_ b.outs.length do_] 26)).alloc (.cells #[.bool false, .slice none 0 0, .slice none 0 0] 115)) := ⟨_, rfl⟩
  obtain ⟨A, hA⟩ : ∃ A, A = w.heap.size := ⟨_, rfl⟩
  have z1 : W0.heap.size = A + 3 := by rw [hW0, hA]; simp
  have z2 : W0.heap[A]? = some (.cells #[.int .i64 a.inp, .slice sn a.next.length cn, .slice sg a.gates.length cg, .slice so a.outs.length co] 26 (0, 0)) := by rw [hW0, hA]; exact blk_old (blk_old (blk_new w _))
  have z3 : W0.heap[A + 1]? = some (.cells #[.int .i64 b.inp, .slice tn b.next.length dn, .slice tg b.gates.length dg, .slice to_ b.outs.length do_] 26 (0, 0)) := by rw [hW0, hA]; exact blk_old (blk_at (by simp))
  have z5 : W0.heap[A + 2]? = some (.cells #[.bool false, .slice none 0 0, .slice none 0 0] 115 (0, 0)) := by rw [hW0, hA]; exact blk_at (by simp)
  have z4 : Below w.heap.size w W0 := by rw [hW0]; go_grown
  have HW := Lib.hid (And.intro hW0 (And.intro hA z1))
  have HB : Hid (∀ W, Below W0.heap.size W0 W → W.heap[A]? = some (.cells #[.int .i64 a.inp, .slice sn a.next.length cn, .slice sg a.gates.length cg, .slice so a.outs.length co] 26 (0, 0)) ∧ W.heap[A + 1]? = some (.cells #[.int .i64 b.inp, .slice tn b.next.length dn, .slice tg b.gates.length dg, .slice to_ b.outs.length do_] 26 (0, 0)) ∧ CirV W (.agg #[.int .i64 a.inp, .slice sn a.next.length cn, .slice sg a.gates.length cg, .slice so a.outs.length co]) a ∧ CirV W (.agg #[.int .i64 b.inp, .slice tn b.next.length dn, .slice tg b.gates.length dg, .slice to_ b.outs.length do_]) b ∧ Below w.heap.size w W) := fun W hW => ⟨blk_below hW (by omega) z2, blk_below hW (by omega) z3, HG.out.1.mono (z4.trans (hW.mono z4.size)), HG.out.2.mono (z4.trans (hW.mono z4.size)), z4.trans (hW.mono z4.size)⟩
  have HRC : Hid (∀ W, Below W0.heap.size W0 W → W.heap[A + 2]? = some (.cells #[.bool false, .slice none 0 0, .slice none 0 0] 115 (0, 0))) := fun W hW => blk_below hW (by omega) z5
  clear hW0 hA z1 z2 z3 z4 z5
  cases hs : sifB a b
  · have HS := Lib.hid hs
    clear hs
    go_enter Try.func114, Try.ntmps114
    go_upto_region 1 with fail
    rw [← HW.out.1]
    try rw [← HW.out.2.1]
    have ca := (blk_all (HB.out _ (Below.refl _ _)).1).1
    have cb := (blk_all (HB.out _ (Below.refl _ _)).2.1).1
    go_wp2_with (go_at_call 113; ((with_reducible refine (SameInterface_i _ _ a b _ (HB.out _ (Below.refl _ _)).2.2.1 (HB.out _ (Below.refl _ _)).2.2.2.1).mono ?_); rintro e w1 ⟨rfl, hq⟩; rw [HS.out]; have H1 := Lib.hid hq; clear hq ca cb; obtain ⟨rc, rf⟩ := blk_all (HRC.out _ H1.out)))
    clear rc rf
    have hZ : (((w1.setCell ⟨A + 2, 0, none⟩ (.bool false)).setCell ⟨A + 2, 1, none⟩ (.slice none 0 0)).setCell ⟨A + 2, 2, none⟩ (.slice none 0 0)).heap[A + 2]? = some (.cells #[.bool false, .slice none 0 0, .slice none 0 0] 115 (0, 0)) := by
      simpa using blk_set (o := 2) (v := .slice none 0 0) (blk_set (o := 1) (v := .slice none 0 0) (blk_set (o := 0) (v := .bool false) (HRC.out _ H1.out)))
    have hA2 := HW.out.2.1
    have hbz := (((HB.out _ H1.out).2.2.2.2.setCell (p := ⟨A + 2, 0, none⟩) (by simp; omega) (.bool false)).setCell (p := ⟨A + 2, 1, none⟩) (by simp; omega) (.slice none 0 0)).setCell (p := ⟨A + 2, 2, none⟩) (by simp; omega) (.slice none 0 0)
    revert hZ hbz
    generalize (((w1.setCell ⟨A + 2, 0, none⟩ (.bool false)).setCell ⟨A + 2, 1, none⟩ (.slice none 0 0)).setCell ⟨A + 2, 2, none⟩ (.slice none 0 0)) = WZ
    intro hZ hbz
    have cr := (blk_all hZ).1
    exact bodyPost_ret (v := .agg #[.bool false, .slice none 0 0, .slice none 0 0]) (by simp [results, Try.results114, go_sem, cr]) rfl ⟨_, _, rfl, hbz⟩

  · obtain ⟨va, vb, s1, s2, s3⟩ := sifB_iff.1 hs
    have hva := a.validB_iff.1 va
    have hvb := b.validB_iff.1 vb
    obtain ⟨i0, i1, l1, l2, l3⟩ := id hva.lim
    obtain ⟨n1, n2⟩ := asgN_le hva
    obtain ⟨ni, hni⟩ : ∃ ni : Nat, a.inp = ni := ⟨a.inp.toNat, by omega⟩
    obtain ⟨N, hN⟩ : ∃ N, N = asgN a := ⟨_, rfl⟩
    have lra : ∀ k : Nat, (resV a (k : Int) (-1) false).length = a.next.length + a.outs.length := fun k => resV_length _ _ _ _
    have lrb : ∀ k : Nat, (resV b (k : Int) (-1) false).length = a.next.length + a.outs.length := fun k => by rw [resV_length]; omega
    have HL := Lib.hid (And.intro lra lrb)
    have HS : Hid (∀ W, Below w.heap.size w W → (Sl W sn (ints a.next) ∧ Sl W sg (gcells a.gates) ∧ Sl W so (ints a.outs)) ∧ Sl W tn (ints b.next) ∧ Sl W tg (gcells b.gates) ∧ Sl W to_ (ints b.outs)) := fun W hW => by
      obtain ⟨⟨_, _, _, _, _, _, e1, a1, a2, a3, -⟩, _, _, _, _, _, _, e2, b1, b2, b3, -⟩ := HG.out
      cases e1
      cases e2
      exact ⟨⟨a1.mono hW, a2.mono hW, a3.mono hW⟩, b1.mono hW, b2.mono hW, b3.mono hW⟩
    have hv1 : (-1 : Int) < a.vars := by unfold Cir.vars; omega
    have hv2 : (-1 : Int) < b.vars := by have := hvb.lim.1; unfold Cir.vars; omega
    have hRA : Hid (∀ W (k : Nat), Below W0.heap.size W0 W → k ≤ 1000 → Calls Try.prog 149 #[.pointer (some ⟨A, 0, none⟩), .int .i64 k, .int .i64 (-1), .bool false] W fun e w' => ∃ s cap, e = .returned (.slice s (a.next.length + a.outs.length) cap) ∧ Sl w' s (bools (resV a k (-1) false)) ∧ Below W.heap.size W w') := fun W k hW hk => by
      obtain ⟨x1, x2, x3, x4, x5⟩ := HB.out W hW
      obtain ⟨⟨y1, y2, y3⟩, y4, y5, y6⟩ := HS.out W x5
      exact results_any A sn sg so cn cg co a k (-1) false W (CirAt.of_blk x1) y1 y2 y3 hva hk (by omega) hv1
    have hRB : Hid (∀ W (k : Nat), Below W0.heap.size W0 W → k ≤ 1000 → Calls Try.prog 149 #[.pointer (some ⟨A + 1, 0, none⟩), .int .i64 k, .int .i64 (-1), .bool false] W fun e w' => ∃ s cap, e = .returned (.slice s (a.next.length + a.outs.length) cap) ∧ Sl w' s (bools (resV b k (-1) false)) ∧ Below W.heap.size W w') := fun W k hW hk => by
      obtain ⟨x1, x2, x3, x4, x5⟩ := HB.out W hW
      obtain ⟨⟨y1, y2, y3⟩, y4, y5, y6⟩ := HS.out W x5
      have := results_any (A + 1) tn tg to_ dn dg do_ b k (-1) false W (CirAt.of_blk x2) y4 y5 y6 hvb hk (by omega) hv2
      rw [← s2, ← s3] at this
      exact this
    have hNE : ((2 ^ (a.inp.toNat + a.next.length) : Nat) : Int) = N := by rw [hN]; rfl
    have HH := Lib.hid (And.intro hs (And.intro hNE hni))
    rw [← hN] at n2 ⊢
    have HNN := Lib.hid hN
    have hn32 : a.next.length ≤ 3 := l1
    have ho3 : a.outs.length ≤ 3 := l3
    clear va vb s1 s2 s3 hva hvb hv1 hv2 lra lrb hNE hni hN n1 l1 l2 l3 hs
    obtain ⟨R, hR⟩ : ∃ R, R = (List.range N).all (resEq a b) := ⟨_, rfl⟩
    rw [← hR, Bool.true_and]
    have HR := Lib.hid hR
    clear hR
    go_enter Try.func114, Try.ntmps114
    go_upto_region 1 with fail
    rw [← HW.out.1]
    try rw [← HW.out.2.1]
    have ca := (blk_all (HB.out _ (Below.refl _ _)).1).1
    have cb := (blk_all (HB.out _ (Below.refl _ _)).2.1).1
    go_upto_region 3 with (go_at_call 113; ((with_reducible refine (SameInterface_i _ _ a b _ (HB.out _ (Below.refl _ _)).2.2.1 (HB.out _ (Below.refl _ _)).2.2.2.1).mono ?_); rintro e w1 ⟨rfl, hq⟩; rw [HH.out.1]; have H1 := Lib.hid hq; clear hq ca cb))
    go_upto_region 4 with (go_at_call 147; ((with_reducible refine (assignments_any _ _ _ _ _ _ _ _ (CirAt.of_blk (HB.out _ H1.out).1) ⟨by omega, by omega⟩ (by omega)).mono ?_); rintro e w2 ⟨rfl, hd⟩; rw [HH.out.2.1]; have H2 := Lib.hid (H1.out.trans (hd.below _)); clear hd))
    go_loopw [12] (fun i wr => ∃ k : Nat, k ≤ N ∧ i = .int .i64 k ∧ (∀ j, j < k → resEq a b j = true) ∧ Below W0.heap.size W0 wr) (fun i _ => N - (intOf i).toNat)
    case atStart => exact ⟨0, Nat.zero_le _, rfl, fun j hj => by omega, H2.out⟩
    case round =>
      obtain ⟨k, hk, rfl, hall, hb⟩ := hrel
      have HK := Lib.hid (And.intro hall hb)
      clear hall hb
      by_cases hlt : k < N
      · obtain ⟨q, hq⟩ : ∃ q, q = resEq a b k := ⟨_, rfl⟩
        have HQ := Lib.hid hq
        clear hq
        cases q
        · have hRf : R = false := by
            rw [HR.out]
            simp only [List.all_eq_false]
            exact ⟨k, List.mem_range.2 hlt, by rw [← HQ.out]; simp⟩
          have HRf := Lib.hid hRf
          clear hRf
          have hnn := HH.out.2.2
          go_wp2_with (first
            | (go_at_call 149; ((with_reducible refine (hRA.out _ k HK.out.2 (by omega)).mono ?_); rintro e w3 ⟨s3, c3, rfl, h3, hq⟩; have H3 := Lib.hid (And.intro h3 (HK.out.2.trans (hq.mono HK.out.2.size))); clear h3 hq))
            | (go_at_call 149; ((with_reducible refine (hRB.out _ k H3.out.2 (by omega)).mono ?_); rintro e w4 ⟨s4, c4, rfl, h4, hq⟩; have H4 := Lib.hid (And.intro (H3.out.1.mono hq) (And.intro h4 (H3.out.2.trans (hq.mono H3.out.2.size)))); clear h4 hq))
            | (go_at_call 148; ((with_reducible refine (slicesEq_any _ _ _ _ _ _ _ _ H4.out.1 H4.out.2.1 (HL.out.1 k) (HL.out.2 k) (by omega)).mono ?_); rintro e w5 ⟨rfl, hd⟩; rw [show decide (resV a (k : Int) (-1) false = resV b (k : Int) (-1) false) = _ from HQ.out.symm]; have H5 := Lib.hid (H4.out.2.2.trans (hd.below _)); clear hd))
            | (go_at_call 150; ((with_reducible refine (latchBits_any _ _ _ _ _ _ _ _ _ (CirAt.of_blk (HB.out _ H5.out).1) ⟨by omega, by omega⟩ (by omega) (by omega) (by omega)).mono ?_); rintro e w6 ⟨s6, rfl, h6, hq⟩; have H6 := Lib.hid (H5.out.trans (hq.mono H5.out.size)); clear h6 hq))
            | (go_at_call 151; ((with_reducible refine (inputBits_any _ _ _ _ _ _ _ (CirAt.of_blk (HB.out _ H6.out).1) ni HH.out.2.2 (by omega) (by omega) (by omega)).mono ?_); rintro e w7 ⟨s7, rfl, h7, hq⟩; have H7 := Lib.hid (H6.out.trans (hq.mono H6.out.size)); clear h7 hq; obtain ⟨rc, rf⟩ := blk_all (HRC.out _ H7.out))))
          clear rc rf hnn
          have hZ : (((w7.setCell ⟨A + 2, 0, none⟩ (.bool true)).setCell ⟨A + 2, 1, none⟩ (.slice s6 a.next.length a.next.length)).setCell ⟨A + 2, 2, none⟩ (.slice s7 ni ni)).heap[A + 2]? = some (.cells #[.bool true, .slice s6 a.next.length a.next.length, .slice s7 ni ni] 115 (0, 0)) := by
            simpa using blk_set (o := 2) (v := .slice s7 ni ni) (blk_set (o := 1) (v := .slice s6 a.next.length a.next.length) (blk_set (o := 0) (v := .bool true) (HRC.out _ H7.out)))
          have hA2 := HW.out.2.1
          have hbz := (((HB.out _ H7.out).2.2.2.2.setCell (p := ⟨A + 2, 0, none⟩) (by simp; omega) (.bool true)).setCell (p := ⟨A + 2, 1, none⟩) (by simp; omega) (.slice s6 a.next.length a.next.length)).setCell (p := ⟨A + 2, 2, none⟩) (by simp; omega) (.slice s7 ni ni)
          revert hZ hbz
          generalize (((w7.setCell ⟨A + 2, 0, none⟩ (.bool true)).setCell ⟨A + 2, 1, none⟩ (.slice s6 a.next.length a.next.length)).setCell ⟨A + 2, 2, none⟩ (.slice s7 ni ni)) = WZ
          intro hZ hbz
          have cr := (blk_all hZ).1
          exact bodyPost_ret (v := .agg #[.bool true, .slice s6 a.next.length a.next.length, .slice s7 ni ni]) (by simp [results, Try.results114, go_sem, cr]) rfl ⟨_, _, fd_ret (by rw [HRf.out]; rfl), hbz⟩

        · go_wp2_with (first
            | (go_at_call 149; ((with_reducible refine (hRA.out _ k HK.out.2 (by omega)).mono ?_); rintro e w3 ⟨s3, c3, rfl, h3, hq⟩; have H3 := Lib.hid (And.intro h3 (HK.out.2.trans (hq.mono HK.out.2.size))); clear h3 hq))
            | (go_at_call 149; ((with_reducible refine (hRB.out _ k H3.out.2 (by omega)).mono ?_); rintro e w4 ⟨s4, c4, rfl, h4, hq⟩; have H4 := Lib.hid (And.intro (H3.out.1.mono hq) (And.intro h4 (H3.out.2.trans (hq.mono H3.out.2.size)))); clear h4 hq))
            | (go_at_call 148; ((with_reducible refine (slicesEq_any _ _ _ _ _ _ _ _ H4.out.1 H4.out.2.1 (HL.out.1 k) (HL.out.2 k) (by omega)).mono ?_); rintro e w5 ⟨rfl, hd⟩; rw [show decide (resV a (k : Int) (-1) false = resV b (k : Int) (-1) false) = _ from HQ.out.symm]; have H5 := Lib.hid (H4.out.2.2.trans (hd.below _)); clear hd)))
          go_roundw
          case rel =>
            refine ⟨k + 1, by omega, by go_num, fun j hj => ?_, H5.out⟩
            rcases Nat.lt_or_ge j k with h | h
            · exact HK.out.1 j h
            · obtain rfl : j = k := by omega
              exact HQ.out.symm
          case measure => simp [intOf]; omega
      · obtain rfl : k = N := by omega
        have hRt : R = true := by
          rw [HR.out, List.all_eq_true]
          exact fun j hj => HK.out.1 j (List.mem_range.1 hj)
        have HRt := Lib.hid hRt
        clear hRt
        obtain ⟨rc, rf⟩ := blk_all (HRC.out _ HK.out.2)
        go_wp2_with fail
        clear rc rf
        have hZ : (((wr.setCell ⟨A + 2, 0, none⟩ (.bool false)).setCell ⟨A + 2, 1, none⟩ (.slice none 0 0)).setCell ⟨A + 2, 2, none⟩ (.slice none 0 0)).heap[A + 2]? = some (.cells #[.bool false, .slice none 0 0, .slice none 0 0] 115 (0, 0)) := by
          simpa using blk_set (o := 2) (v := .slice none 0 0) (blk_set (o := 1) (v := .slice none 0 0) (blk_set (o := 0) (v := .bool false) (HRC.out _ HK.out.2)))
        have hA2 := HW.out.2.1
        have hbz := (((HB.out _ HK.out.2).2.2.2.2.setCell (p := ⟨A + 2, 0, none⟩) (by simp; omega) (.bool false)).setCell (p := ⟨A + 2, 1, none⟩) (by simp; omega) (.slice none 0 0)).setCell (p := ⟨A + 2, 2, none⟩) (by simp; omega) (.slice none 0 0)
        revert hZ hbz
        generalize (((wr.setCell ⟨A + 2, 0, none⟩ (.bool false)).setCell ⟨A + 2, 1, none⟩ (.slice none 0 0)).setCell ⟨A + 2, 2, none⟩ (.slice none 0 0)) = WZ
        intro hZ hbz
        have cr := (blk_all hZ).1
        exact bodyPost_ret (v := .agg #[.bool false, .slice none 0 0, .slice none 0 0]) (by simp [results, Try.results114, go_sem, cr]) rfl ⟨_, _, fd_ret (by rw [HRt.out]; rfl), hbz⟩

set_option maxRecDepth 100000 in
set_option maxHeartbeats 1600000 in
theorem Equivalent_i (u v : Value) (a b : Cir) (w : World) (ha : CirV w u a) (hb : CirV w v b) :
    Calls Try.prog 58 #[u, v] w fun e w' => e = .returned (.bool (equivB a b)) ∧ Below w.heap.size w w' := by
  have HG := Lib.hid (And.intro ha hb)
  obtain ⟨sn, cn, sg, cg, so, co, rfl, -, -, -, ka1, ka2, ka3⟩ := ha
  obtain ⟨tn, dn, tg, dg, to_, do_, rfl, -, -, -, kb1, kb2, kb3⟩ := hb
  obtain ⟨W0, hW0⟩ : ∃ W0, W0 = ((w.alloc (.cells #[.int .i64 a.inp, .slice sn a.next.length cn, .slice sg a.gates.length cg, .slice so a.outs.length co] 26)).alloc (.cells #[.int .i64 b.inp, .slice tn b.next.length dn, .slice tg b.gates.length dg, .slice to_ b.outs.length do_] 26)) := ⟨_, rfl⟩
  obtain ⟨A, hA⟩ : ∃ A, A = w.heap.size := ⟨_, rfl⟩
  have z1 : W0.heap.size = A + 2 := by rw [hW0, hA]; simp
  have z2 : W0.heap[A]? = some (.cells #[.int .i64 a.inp, .slice sn a.next.length cn, .slice sg a.gates.length cg, .slice so a.outs.length co] 26 (0, 0)) := by rw [hW0, hA]; exact blk_old (blk_new w _)
  have z3 : W0.heap[A + 1]? = some (.cells #[.int .i64 b.inp, .slice tn b.next.length dn, .slice tg b.gates.length dg, .slice to_ b.outs.length do_] 26 (0, 0)) := by rw [hW0, hA]; exact blk_at (by simp)
  have z4 : Below w.heap.size w W0 := by rw [hW0]; go_grown
  have HW := Lib.hid (And.intro hW0 (And.intro hA z1))
  have HB : Hid (∀ W, Below W0.heap.size W0 W → W.heap[A]? = some (.cells #[.int .i64 a.inp, .slice sn a.next.length cn, .slice sg a.gates.length cg, .slice so a.outs.length co] 26 (0, 0)) ∧ W.heap[A + 1]? = some (.cells #[.int .i64 b.inp, .slice tn b.next.length dn, .slice tg b.gates.length dg, .slice to_ b.outs.length do_] 26 (0, 0)) ∧ CirV W (.agg #[.int .i64 a.inp, .slice sn a.next.length cn, .slice sg a.gates.length cg, .slice so a.outs.length co]) a ∧ CirV W (.agg #[.int .i64 b.inp, .slice tn b.next.length dn, .slice tg b.gates.length dg, .slice to_ b.outs.length do_]) b ∧ Below w.heap.size w W) := fun W hW => ⟨blk_below hW (by omega) z2, blk_below hW (by omega) z3, HG.out.1.mono (z4.trans (hW.mono z4.size)), HG.out.2.mono (z4.trans (hW.mono z4.size)), z4.trans (hW.mono z4.size)⟩
  clear hW0 hA z1 z2 z3 z4
  obtain ⟨R, hR⟩ : ∃ R, R = equivB a b := ⟨_, rfl⟩
  rw [← hR]
  have hfd : ∀ w' (r : Bool) v1 v2, (Instr.field 115 (.agg #[.bool r, v1, v2]) 0).run Try.prog w' = .ok (.bool r) w' := by intro w' r v1 v2; kernel_rfl
  cases hs : sifB a b
  · have HS := Lib.hid hs
    have HE : Hid (R = false) := by show _ = _; rw [hR]; simp [equivB, hs]
    clear hs hR
    go_enter Try.func58, Try.ntmps58
    go_upto_region 1 with fail
    rw [← HW.out.1]
    try rw [← HW.out.2.1]
    have ca := (blk_all (HB.out _ (Below.refl _ _)).1).1
    have cb := (blk_all (HB.out _ (Below.refl _ _)).2.1).1
    go_wp2_with (go_at_call 113; ((with_reducible refine (SameInterface_i _ _ a b _ (HB.out _ (Below.refl _ _)).2.2.1 (HB.out _ (Below.refl _ _)).2.2.2.1).mono ?_); rintro e w1 ⟨rfl, hq⟩; rw [HS.out]; have H1 := Lib.hid hq; clear hq ca cb))
    go_ret
    exact ⟨ret_bool HE.out.symm, (HB.out _ H1.out).2.2.2.2⟩
  · have HS := Lib.hid hs
    obtain ⟨q, hq⟩ : ∃ q, q = (List.range (asgN a)).all (resEq a b) := ⟨_, rfl⟩
    have HE : Hid (R = q) := by show _ = _; rw [hR, hq]; simp [equivB, hs]
    have HQ := Lib.hid hq
    clear hs hR hq
    go_enter Try.func58, Try.ntmps58
    go_upto_region 1 with fail
    rw [← HW.out.1]
    try rw [← HW.out.2.1]
    have ca := (blk_all (HB.out _ (Below.refl _ _)).1).1
    have cb := (blk_all (HB.out _ (Below.refl _ _)).2.1).1
    cases q
    all_goals
      go_wp2_with (first
        | (go_at_call 113; ((with_reducible refine (SameInterface_i _ _ a b _ (HB.out _ (Below.refl _ _)).2.2.1 (HB.out _ (Below.refl _ _)).2.2.2.1).mono ?_); rintro e w1 ⟨rfl, hq⟩; rw [HS.out]; have H1 := Lib.hid hq; clear hq ca cb; have ca := (blk_all (HB.out _ H1.out).1).1; have cb := (blk_all (HB.out _ H1.out).2.1).1))
        | (go_at_call 114; ((with_reducible refine (FindDifference_i _ _ a b _ (HB.out _ H1.out).2.2.1 (HB.out _ H1.out).2.2.2.1).mono ?_); rintro e w2 ⟨v1, v2, rfl, hq⟩; rw [HS.out, ← HQ.out]; have H2 := Lib.hid (H1.out.trans (hq.mono H1.out.size)); clear hq ca cb)))
      go_ret
      exact ⟨ret_bool HE.out.symm, (HB.out _ H2.out).2.2.2.2⟩

set_option maxRecDepth 100000 in
set_option maxHeartbeats 1600000 in
theorem Optimize_i (v : Value) (c : Cir) (w : World) (h : CirV w v c) :
    Calls Try.prog 59 #[v] w fun e w' => ∃ vn vg vo, e = .returned (.agg #[.int .i64 (optR c).inp, vn, vg, vo]) ∧ CirOwn w' w.heap.size (optR c) vn vg vo ∧ Below w.heap.size w w' := by
  have HG := Lib.hid h
  obtain ⟨sn, cn, sg, cg, so, co, rfl, -, -, -, -, -, -⟩ := h
  obtain ⟨W0, hW0⟩ : ∃ W0, W0 = (w.alloc (.cells #[.int .i64 c.inp, .slice sn c.next.length cn, .slice sg c.gates.length cg, .slice so c.outs.length co] 26)).alloc (.cells #[.int .i64 0, .slice none 0 0, .slice none 0 0, .slice none 0 0] 26) := ⟨_, rfl⟩
  obtain ⟨A, hA⟩ : ∃ A, A = w.heap.size := ⟨_, rfl⟩
  have z1 : W0.heap.size = A + 2 := by rw [hW0, hA]; simp
  have z2 : W0.heap[A]? = some (.cells #[.int .i64 c.inp, .slice sn c.next.length cn, .slice sg c.gates.length cg, .slice so c.outs.length co] 26 (0, 0)) := by rw [hW0, hA]; exact blk_old (blk_new w _)
  have z3 : W0.heap[A + 1]? = some (.cells #[.int .i64 0, .slice none 0 0, .slice none 0 0, .slice none 0 0] 26 (0, 0)) := by rw [hW0, hA]; exact blk_at (by simp)
  have z4 : Below w.heap.size w W0 := by rw [hW0]; exact ((Below.refl _ _).alloc (Nat.le_refl _) _).alloc (by simp) _
  have HW := Lib.hid (And.intro hW0 (And.intro hA z1))
  have HB : Hid (∀ W, Below W0.heap.size W0 W → (∀ o, W.cell? ⟨A, o, none⟩ = #[Value.int .i64 c.inp, .slice sn c.next.length cn, .slice sg c.gates.length cg, .slice so c.outs.length co][o]?) ∧ W.heap[A + 1]? = some (.cells #[.int .i64 0, .slice none 0 0, .slice none 0 0, .slice none 0 0] 26 (0, 0)) ∧ CirV W (.agg #[.int .i64 c.inp, .slice sn c.next.length cn, .slice sg c.gates.length cg, .slice so c.outs.length co]) c ∧ Below w.heap.size w W) := fun W hW => ⟨(blk_all (blk_below hW (by omega) z2)).1, blk_below hW (by omega) z3, HG.out.mono (z4.trans (hW.mono z4.size)), z4.trans (hW.mono z4.size)⟩
  clear hW0 hA z1 z2 z3 z4
  cases hv : c.validB
  · rw [optR_no hv]
    have HV := Lib.hid hv
    clear hv
    go_enter Try.func59, Try.ntmps59
    go_upto_region 1 with fail
    rw [← HW.out.1, ← HW.out.2.1]
    have cb := (HB.out _ (Below.refl _ _)).1
    go_upto_region 2 with (go_at_call 18; ((with_reducible refine (CircuitValid_i _ c _ (HB.out _ (Below.refl _ _)).2.2.1).mono ?_); rintro e w1 ⟨rfl, hq⟩; rw [HV.out]; have H1 := Lib.hid hq; clear hq cb; obtain ⟨rc, rf⟩ := blk_all (HB.out _ H1.out).2.1))
    go_wp2_with fail
    have hZ : ((((w1.setCell ⟨A + 1, 0, none⟩ (.int .i64 0)).setCell ⟨A + 1, 1, none⟩ (.slice none 0 0)).setCell ⟨A + 1, 2, none⟩ (.slice none 0 0)).setCell ⟨A + 1, 3, none⟩ (.slice none 0 0)).heap[A + 1]? = some (.cells #[.int .i64 0, .slice none 0 0, .slice none 0 0, .slice none 0 0] 26 (0, 0)) := by
      simpa using blk_set (o := 3) (v := .slice none 0 0) (blk_set (o := 2) (v := .slice none 0 0) (blk_set (o := 1) (v := .slice none 0 0) (blk_set (o := 0) (v := .int .i64 0) (HB.out _ H1.out).2.1)))
    have hA2 := HW.out.2.1
    have hbz := ((((HB.out _ H1.out).2.2.2.setCell (p := ⟨A + 1, 0, none⟩) (by simp; omega) (.int .i64 0)).setCell (p := ⟨A + 1, 1, none⟩) (by simp; omega) (.slice none 0 0)).setCell (p := ⟨A + 1, 2, none⟩) (by simp; omega) (.slice none 0 0)).setCell (p := ⟨A + 1, 3, none⟩) (by simp; omega) (.slice none 0 0)
    clear rc rf
    revert hZ hbz
    generalize ((((w1.setCell ⟨A + 1, 0, none⟩ (.int .i64 0)).setCell ⟨A + 1, 1, none⟩ (.slice none 0 0)).setCell ⟨A + 1, 2, none⟩ (.slice none 0 0)).setCell ⟨A + 1, 3, none⟩ (.slice none 0 0)) = WZ
    intro hZ hbz
    have cr := (blk_all hZ).1
    exact bodyPost_ret (v := .agg #[.int .i64 0, .slice none 0 0, .slice none 0 0, .slice none 0 0]) (by simp [results, Try.results59, go_sem, cr]) rfl ⟨_, _, _, rfl, ⟨World.ownsRow_nil _ _ _ _, World.ownsRow_nil _ _ _ _, World.ownsRow_nil _ _ _ _, fun k h => by simp [Value.ownBlock] at h, by simp, by simp, by simp⟩, hbz⟩
  · rw [optR_yes hv]
    have HV := Lib.hid hv
    have hvv := c.validB_iff.1 hv
    have HVV := Lib.hid (And.intro hvv (buildC_valid hvv true))
    clear hv hvv
    go_enter Try.func59, Try.ntmps59
    go_upto_region 1 with fail
    rw [← HW.out.1, ← HW.out.2.1]
    have cb := (HB.out _ (Below.refl _ _)).1
    have HA := Lib.hid (show CirAt W0 A c.inp (.slice sn c.next.length cn) (.slice sg c.gates.length cg) (.slice so c.outs.length co) from ⟨cb 0, cb 1, cb 2, cb 3⟩)
    have HS : Hid (Sl w sn (ints c.next) ∧ Sl w sg (gcells c.gates) ∧ Sl w so (ints c.outs)) := by
      obtain ⟨_, _, _, _, _, _, e, h1, h2, h3, -⟩ := HG.out
      cases e
      exact ⟨h1, h2, h3⟩
    go_upto_region 3 with (go_at_call 18; ((with_reducible refine (CircuitValid_i _ c _ (HB.out _ (Below.refl _ _)).2.2.1).mono ?_); rintro e w1 ⟨rfl, hq⟩; rw [HV.out]; have H1 := Lib.hid hq; clear hq cb; have cb := (HB.out _ H1.out).1))
    have HO := Lib.hid (optimize_any A sn sg so cn cg co c w1 ⟨cb 0, cb 1, cb 2, cb 3⟩ (HS.out.1.mono (HB.out _ H1.out).2.2.2) (HS.out.2.1.mono (HB.out _ H1.out).2.2.2) (HS.out.2.2.mono (HB.out _ H1.out).2.2.2) HVV.out.1)
    clear cb
    go_wp2_with (go_at_call 84; refine HO.out.mono ?_; rintro e w3 ⟨vn3, vg3, vo3, rfl, ho, hq⟩; obtain ⟨sn3, cn3, rfl⟩ := own_shape ho.n; obtain ⟨sg3, cg3, rfl⟩ := own_shape ho.g; obtain ⟨so3, co3, rfl⟩ := own_shape ho.o; have H3 := Lib.hid (And.intro ho (H1.out.trans (hq.mono H1.out.size))); obtain ⟨rc, rf⟩ := blk_all (HB.out _ H3.out.2).2.1; have HSZ := Lib.hid (show A + 2 ≤ w1.heap.size by have h1 := H1.out.size; have h2 := HW.out.2.2; omega); clear hq ho)
    have hA2 := HW.out.2.1
    have hR := (HB.out _ H3.out.2).2.1
    have hO := (H3.out.1).sets4 (r := A + 1) (by have := HSZ.out; omega) (base := w.heap.size) (by have := HSZ.out; omega) (a := .int .i64 c.inp) (b' := .slice sn3 (optC c).next.length cn3) (c' := .slice sg3 (optC c).gates.length cg3) (d := .slice so3 (optC c).outs.length co3)
    have hZ : ((((w3.setCell ⟨A + 1, 0, none⟩ (.int .i64 c.inp)).setCell ⟨A + 1, 1, none⟩ (.slice sn3 (optC c).next.length cn3)).setCell ⟨A + 1, 2, none⟩ (.slice sg3 (optC c).gates.length cg3)).setCell ⟨A + 1, 3, none⟩ (.slice so3 (optC c).outs.length co3)).heap[A + 1]? = some (.cells #[.int .i64 c.inp, .slice sn3 (optC c).next.length cn3, .slice sg3 (optC c).gates.length cg3, .slice so3 (optC c).outs.length co3] 26 (0, 0)) := by
      simpa using blk_set (o := 3) (v := .slice so3 (optC c).outs.length co3) (blk_set (o := 2) (v := .slice sg3 (optC c).gates.length cg3) (blk_set (o := 1) (v := .slice sn3 (optC c).next.length cn3) (blk_set (o := 0) (v := .int .i64 c.inp) hR)))
    have hbz := ((((HB.out _ H3.out.2).2.2.2.setCell (p := ⟨A + 1, 0, none⟩) (by simp; omega) (.int .i64 c.inp)).setCell (p := ⟨A + 1, 1, none⟩) (by simp; omega) (.slice sn3 (optC c).next.length cn3)).setCell (p := ⟨A + 1, 2, none⟩) (by simp; omega) (.slice sg3 (optC c).gates.length cg3)).setCell (p := ⟨A + 1, 3, none⟩) (by simp; omega) (.slice so3 (optC c).outs.length co3)
    clear rc rf
    revert hZ hbz hO
    generalize ((((w3.setCell ⟨A + 1, 0, none⟩ (.int .i64 c.inp)).setCell ⟨A + 1, 1, none⟩ (.slice sn3 (optC c).next.length cn3)).setCell ⟨A + 1, 2, none⟩ (.slice sg3 (optC c).gates.length cg3)).setCell ⟨A + 1, 3, none⟩ (.slice so3 (optC c).outs.length co3)) = WZ
    intro hO hZ hbz
    have cr := (blk_all hZ).1
    exact bodyPost_ret (v := .agg #[.int .i64 c.inp, .slice sn3 (optC c).next.length cn3, .slice sg3 (optC c).gates.length cg3, .slice so3 (optC c).outs.length co3]) (by simp [results, Try.results59, go_sem, cr]) rfl ⟨_, _, _, rfl, hO, hbz⟩

def DrawnTwo (w : World) (e : Ending) (w' : World) : Prop :=
  ∃ (A B : Cir) (vn vg vo un ug uo : Value), e = .returned (.tuple #[.agg #[.int .i64 A.inp, vn, vg, vo], .agg #[.int .i64 B.inp, un, ug, uo]]) ∧ CirOwn w' w.heap.size A vn vg vo ∧ CirOwn w' w.heap.size B un ug uo ∧ Below w.heap.size w w'

set_option maxRecDepth 100000 in
set_option maxHeartbeats 1600000 in
theorem DrawSequentiallyEquivalent_any (s : Option Addr) (cap : Nat) (xs : List Int) (w : World) (hs : Sl w s (u8s xs)) (hl : xs.length ≤ 1048576) (hcap : xs.length ≤ cap) (hcap2 : cap ≤ 9223372036854775807) (hr : ∀ x ∈ xs, 0 ≤ x ∧ x ≤ 255) :
    Calls Try.prog 57 #[.slice s xs.length cap] w (DrawnTwo w) := by
  obtain ⟨Z, hZ⟩ : ∃ Z, Z = w.heap.size := ⟨_, rfl⟩
  obtain ⟨W0, hW0⟩ : ∃ W0, W0 = (w.alloc (.cells #[.int .i64 0, .slice none 0 0, .slice none 0 0, .slice none 0 0] 26)).alloc (.cells #[.int .i64 0, .slice none 0 0, .slice none 0 0, .slice none 0 0] 26) := ⟨_, rfl⟩
  have z1 : W0.heap.size = Z + 2 := by rw [hW0, hZ]; simp
  have z2 : W0.heap[Z]? = some (.cells #[.int .i64 0, .slice none 0 0, .slice none 0 0, .slice none 0 0] 26 (0, 0)) := by rw [hW0, hZ]; exact blk_old (blk_new w _)
  have z3 : W0.heap[Z + 1]? = some (.cells #[.int .i64 0, .slice none 0 0, .slice none 0 0, .slice none 0 0] 26 (0, 0)) := by rw [hW0, hZ]; exact blk_at (by simp)
  have z4 : Below w.heap.size w W0 := by rw [hW0]; go_grown
  have HH := Lib.hid (l20Open_any s cap xs W0 (hs.mono z4) hl hcap hcap2 hr)
  have H0 := Lib.hid (And.intro z2 (And.intro z3 (And.intro z4 z1)))
  have HW := Lib.hid (And.intro hW0 hZ)
  clear hs hr hW0 z1 z2 z3 z4 hZ
  go_enter Try.func57, Try.ntmps57
  go_upto_region 1 with fail
  rw [← HW.out.1, ← HW.out.2]
  go_wp2_with (first
    | (go_at_call 66; (with_reducible refine HH.out.mono ?_); rintro e w1 ⟨c, rfl, h1, h2, h3⟩; have H1 := Lib.hid (And.intro h1 (And.intro h2 h3)); clear h1 h2 h3)
    | (go_at_call 109; (with_reducible refine (l20Twins_any W0.heap.size s c (xs.take 2000) 0 _ H1.out.1 (by omega)).mono ?_); rintro e w4 ⟨A, B, vn, vg, vo, un, ug, uo, rfl, h0, h1, h5⟩; obtain ⟨sn, cn, rfl⟩ := own_shape h0.n; obtain ⟨sg, cg, rfl⟩ := own_shape h0.g; obtain ⟨so, co, rfl⟩ := own_shape h0.o; obtain ⟨tn, dn, rfl⟩ := own_shape h1.n; obtain ⟨tg, dg, rfl⟩ := own_shape h1.g; obtain ⟨to_, do_, rfl⟩ := own_shape h1.o; have H4 : Hid (CirOwn w4 w1.heap.size A (.slice sn A.next.length cn) (.slice sg A.gates.length cg) (.slice so A.outs.length co) ∧ CirOwn w4 w1.heap.size B (.slice tn B.next.length dn) (.slice tg B.gates.length dg) (.slice to_ B.outs.length do_) ∧ Below w.heap.size w w4 ∧ (w4.heap[Z]? = some (.cells #[.int .i64 0, .slice none 0 0, .slice none 0 0, .slice none 0 0] 26 (0, 0)) ∧ w4.heap[Z + 1]? = some (.cells #[.int .i64 0, .slice none 0 0, .slice none 0 0, .slice none 0 0] 26 (0, 0)))) := (by obtain ⟨z2, z3, z4, z1⟩ := H0.out; have hz := HW.out.2; have hb := (H1.out.2.1).trans (h5.below (b := W0.heap.size) H1.out.2.1.size (fun k hk e => by omega)); exact ⟨h0, h1, z4.trans (hb.mono z4.size), blk_below hb (by omega) z2, blk_below hb (by omega) z3⟩); clear h0 h1 h5; obtain ⟨rc, rf⟩ := blk_all H4.out.2.2.2.1; obtain ⟨rc2, rf2⟩ := blk_all H4.out.2.2.2.2))
  clear rc rf rc2 rf2
  have hzz : Z + 2 ≤ w1.heap.size := by have := H0.out.2.2.2; have := H1.out.2.2; omega
  obtain ⟨W5, hW5⟩ : ∃ W5, W5 = ((((w4.setCell ⟨Z, 0, none⟩ (.int .i64 A.inp)).setCell ⟨Z, 1, none⟩ (.slice sn A.next.length cn)).setCell ⟨Z, 2, none⟩ (.slice sg A.gates.length cg)).setCell ⟨Z, 3, none⟩ (.slice so A.outs.length co)) := ⟨_, rfl⟩
  have x1 : Chg (fun k => k = Z) w4 W5 := by rw [hW5]; exact (((chgS (S := fun k => k = Z) _ 0 _ rfl).trans (chgS _ 1 _ rfl)).trans (chgS _ 2 _ rfl)).trans (chgS _ 3 _ rfl)
  have x2 : W5.heap[Z]? = some (.cells #[.int .i64 A.inp, .slice sn A.next.length cn, .slice sg A.gates.length cg, .slice so A.outs.length co] 26 (0, 0)) := by
    rw [hW5]; simpa using blk_set (o := 3) (v := .slice so A.outs.length co) (blk_set (o := 2) (v := .slice sg A.gates.length cg) (blk_set (o := 1) (v := .slice sn A.next.length cn) (blk_set (o := 0) (v := .int .i64 A.inp) (H4.out.2.2.2.1))))
  rw [← hW5]
  obtain ⟨W6, hW6⟩ : ∃ W6, W6 = ((((W5.setCell ⟨Z + 1, 0, none⟩ (.int .i64 B.inp)).setCell ⟨Z + 1, 1, none⟩ (.slice tn B.next.length dn)).setCell ⟨Z + 1, 2, none⟩ (.slice tg B.gates.length dg)).setCell ⟨Z + 1, 3, none⟩ (.slice to_ B.outs.length do_)) := ⟨_, rfl⟩
  have x3 : Chg (fun k => k = Z + 1) W5 W6 := by rw [hW6]; exact (((chgS (S := fun k => k = Z + 1) _ 0 _ rfl).trans (chgS _ 1 _ rfl)).trans (chgS _ 2 _ rfl)).trans (chgS _ 3 _ rfl)
  have x4 : W6.heap[Z + 1]? = some (.cells #[.int .i64 B.inp, .slice tn B.next.length dn, .slice tg B.gates.length dg, .slice to_ B.outs.length do_] 26 (0, 0)) := by
    rw [hW6]; simpa using blk_set (o := 3) (v := .slice to_ B.outs.length do_) (blk_set (o := 2) (v := .slice tg B.gates.length dg) (blk_set (o := 1) (v := .slice tn B.next.length dn) (blk_set (o := 0) (v := .int .i64 B.inp) ((x1.blk H4.out.2.2.2.2 (by omega))))))
  have x5 := x3.blk x2 (by omega)
  have hw2 := HW.out.2
  have f1 := ((H4.out.1.chgs x1 (fun k hk _ e => by omega)).chgs x3 (fun k hk _ e => by omega)).low (b2 := w.heap.size) (by omega)
  have f2 := ((H4.out.2.1.chgs x1 (fun k hk _ e => by omega)).chgs x3 (fun k hk _ e => by omega)).low (b2 := w.heap.size) (by omega)
  have hz4 : w.heap.size ≤ w4.heap.size := H4.out.2.2.1.size
  have f3 := (H4.out.2.2.1.trans (x1.below (b := w.heap.size) hz4 (fun k hk e => by omega))).trans (x3.below (b := w.heap.size) (by have := x1.size; omega) (fun k hk e => by omega))
  rw [← hW6]
  clear hW5 hW6 x1 x2 x3
  have cr := (blk_all x5).1
  have cr2 := (blk_all x4).1
  exact bodyPost_ret (v := .tuple #[.agg #[.int .i64 A.inp, .slice sn A.next.length cn, .slice sg A.gates.length cg, .slice so A.outs.length co], .agg #[.int .i64 B.inp, .slice tn B.next.length dn, .slice tg B.gates.length dg, .slice to_ B.outs.length do_]]) (by simp [results, Try.results57, go_sem, cr, cr2]) rfl ⟨A, B, _, _, _, _, _, _, rfl, f1, f2, f3⟩

theorem equiv_seq {a b : Cir} (h : equivB a b = true) : seqB a b = true := by
  obtain ⟨h1, h2⟩ := equivB_iff.1 h
  simp only [sifB, Bool.and_eq_true, decide_eq_true_eq] at h1
  obtain ⟨ha, hb, hi, hn, ho⟩ := h1
  exact seq_res ha hb hi hn ho h2

set_option maxRecDepth 100000 in
set_option maxHeartbeats 3200000 in
theorem FnSequential_any (s : Option Addr) (cap : Nat) (xs : List Int) (w : World) (hs : Sl w s (u8s xs)) (hl : xs.length ≤ 9223372036854775807) (hcap : xs.length ≤ cap) (hcap2 : cap ≤ 9223372036854775807) (hr : ∀ x ∈ xs, 0 ≤ x ∧ x ≤ 255) :
    Calls Try.prog 13 #[.slice s xs.length cap] w fun e w' => e = .returned (.bool true) ∧ Below w.heap.size w w' := by
  by_cases hc : xs.length ≤ 1048576
  · have HD := Lib.hid (DrawSequentiallyEquivalent_any s cap xs w hs hc hcap hcap2 hr)
    clear hs hr
    go_enter Try.func13, Try.ntmps13
    go_upto_region 4 with (go_at_call 57; (with_reducible refine HD.out.mono ?_); rintro e w1 ⟨A, B, vn, vg, vo, un, ug, uo, rfl, h0, h1, h4⟩; obtain ⟨sn, cn, rfl⟩ := own_shape h0.n; obtain ⟨sg, cg, rfl⟩ := own_shape h0.g; obtain ⟨so, co, rfl⟩ := own_shape h0.o; obtain ⟨tn, dn, rfl⟩ := own_shape h1.n; obtain ⟨tg, dg, rfl⟩ := own_shape h1.g; obtain ⟨to_, do_, rfl⟩ := own_shape h1.o; have H1 := Lib.hid (And.intro h0 (And.intro h1 h4)); clear h0 h1 h4)
    obtain ⟨X, hX⟩ : ∃ X, X = w1.heap.size := ⟨_, rfl⟩
    obtain ⟨W1, hW1⟩ : ∃ W1, W1 = (w1.alloc (.cells #[.int .i64 A.inp, .slice sn A.next.length cn, .slice sg A.gates.length cg, .slice so A.outs.length co] 26)).alloc (.cells #[.int .i64 B.inp, .slice tn B.next.length dn, .slice tg B.gates.length dg, .slice to_ B.outs.length do_] 26) := ⟨_, rfl⟩
    have hb1 : Below w1.heap.size w1 W1 := by rw [hW1]; go_grown
    have y1 : CirV W1 (.agg #[.int .i64 A.inp, .slice sn A.next.length cn, .slice sg A.gates.length cg, .slice so A.outs.length co]) A := own_cv (own_cbelow H1.out.1 hb1)
    have y2 : CirV W1 (.agg #[.int .i64 B.inp, .slice tn B.next.length dn, .slice tg B.gates.length dg, .slice to_ B.outs.length do_]) B := own_cv (own_cbelow H1.out.2.1 hb1)
    have y3 : W1.heap[X]? = some (.cells #[.int .i64 A.inp, .slice sn A.next.length cn, .slice sg A.gates.length cg, .slice so A.outs.length co] 26 (0, 0)) := by rw [hW1, hX]; exact blk_old (blk_new _ _)
    have y4 : W1.heap[X + 1]? = some (.cells #[.int .i64 B.inp, .slice tn B.next.length dn, .slice tg B.gates.length dg, .slice to_ B.outs.length do_] 26 (0, 0)) := by rw [hW1, hX]; exact blk_at (by simp)
    have y5 := H1.out.2.2.trans (hb1.mono H1.out.2.2.size)
    have HC : Hid (∀ W, Below W1.heap.size W1 W → CirV W (.agg #[.int .i64 A.inp, .slice sn A.next.length cn, .slice sg A.gates.length cg, .slice so A.outs.length co]) A ∧ CirV W (.agg #[.int .i64 B.inp, .slice tn B.next.length dn, .slice tg B.gates.length dg, .slice to_ B.outs.length do_]) B ∧ ((∀ o, W.cell? ⟨X, o, none⟩ = #[Value.int .i64 A.inp, .slice sn A.next.length cn, .slice sg A.gates.length cg, .slice so A.outs.length co][o]?) ∧ (∀ o, W.cell? ⟨X + 1, o, none⟩ = #[Value.int .i64 B.inp, .slice tn B.next.length dn, .slice tg B.gates.length dg, .slice to_ B.outs.length do_][o]?)) ∧ Below w.heap.size w W) := fun W hW =>
      ⟨y1.mono hW, y2.mono hW, ⟨(blk_all (blk_below hW (blk_lt y3) y3)).1, (blk_all (blk_below hW (blk_lt y4) y4)).1⟩, y5.trans (hW.mono y5.size)⟩
    rw [← hW1, ← hX]
    clear hW1 hX hb1 y1 y2 y3 y4 y5 H1 HD
    have H1 := Lib.hid (Below.refl W1.heap.size W1)
    obtain ⟨ca, cb⟩ := (HC.out _ H1.out).2.2.1
    have HS := Lib.hid ca
    cases hv : A.validB
    · have hq : seqB A B = false := by
        cases hq : seqB A B
        · rfl
        · have h9 := (cmpB_iff.1 (seqB_rel hq).1).1
          rw [hv] at h9; cases h9
      have he : equivB A B = false := by
        cases he : equivB A B
        · rfl
        · rw [equiv_seq he] at hq; cases hq
      have HQ : Hid (seqB A B = false ∧ seqB B A = false ∧ equivB A B = false ∧ A.validB = false) := ⟨hq, by rw [seqB_sym]; exact hq, he, hv⟩
      clear hq he hv HS
      go_wp2_with (first
      | (go_at_call 26; (with_reducible refine (SequentiallyEquivalent_i _ _ A B _ (HC.out _ H1.out).1 (HC.out _ H1.out).2.1).mono ?_); rintro e w2 ⟨rfl, hq⟩; rw [HQ.out.1]; have H1 := Lib.hid (H1.out.trans (hq.mono H1.out.size)); clear hq ca cb; obtain ⟨ca, cb⟩ := (HC.out _ H1.out).2.2.1)
      | (go_at_call 31; (with_reducible refine (SequentiallyEquivalent_s _ _ A B _ (HC.out _ H1.out).1 (HC.out _ H1.out).2.1).mono ?_); rintro e w3 ⟨rfl, hq⟩; rw [HQ.out.1]; have H1 := Lib.hid (H1.out.trans (hq.mono H1.out.size)); clear hq ca cb; obtain ⟨ca, cb⟩ := (HC.out _ H1.out).2.2.1)
      | (go_at_call 26; (with_reducible refine (SequentiallyEquivalent_i _ _ B A _ (HC.out _ H1.out).2.1 (HC.out _ H1.out).1).mono ?_); rintro e w4 ⟨rfl, hq⟩; rw [HQ.out.2.1]; have H1 := Lib.hid (H1.out.trans (hq.mono H1.out.size)); clear hq ca cb; obtain ⟨ca, cb⟩ := (HC.out _ H1.out).2.2.1)
      | (go_at_call 58; (with_reducible refine (Equivalent_i _ _ A B _ (HC.out _ H1.out).1 (HC.out _ H1.out).2.1).mono ?_); rintro e w5 ⟨rfl, hq⟩; rw [HQ.out.2.2.1]; have H1 := Lib.hid (H1.out.trans (hq.mono H1.out.size)); clear hq ca cb; obtain ⟨ca, cb⟩ := (HC.out _ H1.out).2.2.1)
      | (go_at_call 42; ((with_reducible refine (CircuitValid_s _ A _ (HC.out _ H1.out).1).mono ?_); rintro e w6 ⟨rfl, hq⟩; rw [HQ.out.2.2.2]; have H1 := Lib.hid (H1.out.trans (hq.mono H1.out.size)); clear hq ca cb; obtain ⟨ca, cb⟩ := (HC.out _ H1.out).2.2.1))
      | (go_at_call 20; (with_reducible refine (aliveR_any _).mono ?_); rintro e w7 ⟨rfl, hq⟩; have H1 := Lib.hid (H1.out.trans (hq.mono H1.out.size)); clear hq ca cb; obtain ⟨ca, cb⟩ := (HC.out _ H1.out).2.2.1))
      go_ret
      exact ⟨rfl, (HC.out _ H1.out).2.2.2⟩
    · have hh : ¬ (seqB A B = false ∧ equivB A B = true) := fun hx => by
        have h1 := hx.1
        rw [equiv_seq hx.2] at h1; cases h1
      have hsy := seqB_sym A B
      have h3 : (seqB A B = false ∧ equivB A B = false) ∨ (seqB A B = true ∧ equivB A B = false) ∨ (seqB A B = true ∧ equivB A B = true) := by
        cases hq : seqB A B
        · cases he : equivB A B
          · exact .inl ⟨rfl, rfl⟩
          · exact absurd ⟨hq, he⟩ hh
        · cases he : equivB A B
          · exact .inr (.inl ⟨rfl, rfl⟩)
          · exact .inr (.inr ⟨rfl, rfl⟩)
      rcases h3 with ⟨hq, he⟩ | ⟨hq, he⟩ | ⟨hq, he⟩
      all_goals
        have HQ := Lib.hid (And.intro hq (And.intro (hsy.symm.trans hq) (And.intro he hv)))
        clear hq he hv hh hsy HS
        go_upto_region 9 with (first
          | (go_at_call 26; (with_reducible refine (SequentiallyEquivalent_i _ _ A B _ (HC.out _ H1.out).1 (HC.out _ H1.out).2.1).mono ?_); rintro e w2 ⟨rfl, hq⟩; rw [HQ.out.1]; have H1 := Lib.hid (H1.out.trans (hq.mono H1.out.size)); clear hq ca cb; obtain ⟨ca, cb⟩ := (HC.out _ H1.out).2.2.1)
          | (go_at_call 31; (with_reducible refine (SequentiallyEquivalent_s _ _ A B _ (HC.out _ H1.out).1 (HC.out _ H1.out).2.1).mono ?_); rintro e w3 ⟨rfl, hq⟩; rw [HQ.out.1]; have H1 := Lib.hid (H1.out.trans (hq.mono H1.out.size)); clear hq ca cb; obtain ⟨ca, cb⟩ := (HC.out _ H1.out).2.2.1)
          | (go_at_call 26; (with_reducible refine (SequentiallyEquivalent_i _ _ B A _ (HC.out _ H1.out).2.1 (HC.out _ H1.out).1).mono ?_); rintro e w4 ⟨rfl, hq⟩; rw [HQ.out.2.1]; have H1 := Lib.hid (H1.out.trans (hq.mono H1.out.size)); clear hq ca cb; obtain ⟨ca, cb⟩ := (HC.out _ H1.out).2.2.1)
          | (go_at_call 58; (with_reducible refine (Equivalent_i _ _ A B _ (HC.out _ H1.out).1 (HC.out _ H1.out).2.1).mono ?_); rintro e w5 ⟨rfl, hq⟩; rw [HQ.out.2.2.1]; have H1 := Lib.hid (H1.out.trans (hq.mono H1.out.size)); clear hq ca cb; obtain ⟨ca, cb⟩ := (HC.out _ H1.out).2.2.1)
          | (go_at_call 42; ((with_reducible refine (CircuitValid_s _ A _ (HC.out _ H1.out).1).mono ?_); rintro e w6 ⟨rfl, hq⟩; rw [HQ.out.2.2.2]; have H1 := Lib.hid (H1.out.trans (hq.mono H1.out.size)); clear hq ca cb; obtain ⟨ca, cb⟩ := (HC.out _ H1.out).2.2.1))
          | (go_at_call 20; (with_reducible refine (aliveR_any _).mono ?_); rintro e w7 ⟨rfl, hq⟩; have H1 := Lib.hid (H1.out.trans (hq.mono H1.out.size)); clear hq ca cb; obtain ⟨ca, cb⟩ := (HC.out _ H1.out).2.2.1))
        refine wp_region_T (fun w' => ∀ o, w'.cell? ⟨X, o, none⟩ = #[Value.int .i64 A.inp, .slice sn A.next.length cn, .slice sg A.gates.length cg, .slice so A.outs.length co][o]?) (.q 0 (.q 1 (.e 2 (.e 3 (.q 4 (.q 5 (.q 6 (.e 7 (.e 8 (.q 9 (.q 10 .nil))))))))))) (by kernel_rfl) (by kernel_rfl) (by kernel_rfl) ((HC.out _ (H1.out.trans ((Below.refl _ _).drew.mono H1.out.size))).2.2.1.1) ?_
        clear ca cb
        have hd := H1.out.trans ((Below.refl _ _).drew.mono H1.out.size)
        revert hd
        generalize World.drew _ = Wd
        intro hd
        have H1 := Lib.hid hd
        clear hd
        have ca := (HC.out _ H1.out).2.2.1.1
        have hvA := HQ.out.2.2.2
        repeat (first | (refine ordt_s (o := ?_) ?_ ?_ ?_; rotate_left 1; (focus ((simp only [zD, zE, zF]) <;> rfl)); (focus rfl); simp only [Act.put, zA, zB, zC]) | (refine ordt_q (o := ?_) (v := ?_) ?_ ?_ ?_ ?_; rotate_left 2; (focus ((simp only [zD, zE, zF]) <;> rfl)); (focus rfl); (focus (intro w' hS; (try dsimp only at hS); go_split_ands; go_simp; (try (with_reducible rfl)))); simp only [Act.put, zA, zB, zC]))
        refine ordt_e ?_
        (refine op_e (o := ?_) ?_ ?_ (fun K hK => ?_); rotate_left 1; (focus ((simp only [zD, zE, zF]) <;> rfl)); (focus rfl); go_simp)
        refine (Optimize_i _ A _ (HC.out _ H1.out).1).mono ?_
        rintro e w8 ⟨un, ug, uo, rfl, h8, hq⟩
        have H2 := Lib.hid (H1.out.trans (hq.mono H1.out.size))
        refine hK.out _ _ (HC.out _ H2.out).2.2.1.1 ?_
        clear hK K hq ca
        have H8 := Lib.hid h8
        clear h8
        have ca := (HC.out _ H2.out).2.2.1.1
        (try simp only [Act.put, zA, zB, zC])
        repeat (first | (refine ordt_s (o := ?_) ?_ ?_ ?_; rotate_left 1; (focus ((simp only [zD, zE, zF]) <;> rfl)); (focus rfl); simp only [Act.put, zA, zB, zC]) | (refine ordt_q (o := ?_) (v := ?_) ?_ ?_ ?_ ?_; rotate_left 2; (focus ((simp only [zD, zE, zF]) <;> rfl)); (focus rfl); (focus (intro w' hS; (try dsimp only at hS); go_split_ands; go_simp; (try (with_reducible rfl)))); simp only [Act.put, zA, zB, zC]))
        refine ordt_e ?_
        (refine op_e (o := ?_) ?_ ?_ (fun K hK => ?_); rotate_left 1; (focus ((simp only [zD, zE, zF]) <;> rfl)); (focus rfl); go_simp)
        refine (SequentiallyEquivalent_i _ _ A (optR A) _ (HC.out _ H2.out).1 (own_cv H8.out)).mono ?_
        rintro e w9 ⟨rfl, hq⟩
        rw [show seqB A (optR A) = true by rw [optR_yes hvA]; exact optC_seq hvA]
        have H3 := Lib.hid (H2.out.trans (hq.mono H2.out.size))
        refine hK.out _ _ (HC.out _ H3.out).2.2.1.1 ?_
        clear hK K hq ca
        have ca := (HC.out _ H3.out).2.2.1.1
        (try simp only [Act.put, zA, zB, zC])
        repeat (first | (refine ordt_s (o := ?_) ?_ ?_ ?_; rotate_left 1; (focus ((simp only [zD, zE, zF]) <;> rfl)); (focus rfl); simp only [Act.put, zA, zB, zC]) | (refine ordt_q (o := ?_) (v := ?_) ?_ ?_ ?_ ?_; rotate_left 2; (focus ((simp only [zD, zE, zF]) <;> rfl)); (focus rfl); (focus (intro w' hS; (try dsimp only at hS); go_split_ands; go_simp; (try (with_reducible rfl)))); simp only [Act.put, zA, zB, zC]))
        refine ordt_e ?_
        (refine op_e (o := ?_) ?_ ?_ (fun K hK => ?_); rotate_left 1; (focus ((simp only [zD, zE, zF]) <;> rfl)); (focus rfl); go_simp)
        refine (RemoveLatches_i _ A _ (HC.out _ H3.out).1).mono ?_
        rintro e wa ⟨vn2, vg2, vo2, rfl, h8, hq⟩
        have H4 := Lib.hid (H3.out.trans (hq.mono H3.out.size))
        refine hK.out _ _ (HC.out _ H4.out).2.2.1.1 ?_
        clear hK K hq ca
        have H9 := Lib.hid h8
        clear h8
        have ca := (HC.out _ H4.out).2.2.1.1
        (try simp only [Act.put, zA, zB, zC])
        repeat (first | (refine ordt_s (o := ?_) ?_ ?_ ?_; rotate_left 1; (focus ((simp only [zD, zE, zF]) <;> rfl)); (focus rfl); simp only [Act.put, zA, zB, zC]) | (refine ordt_q (o := ?_) (v := ?_) ?_ ?_ ?_ ?_; rotate_left 2; (focus ((simp only [zD, zE, zF]) <;> rfl)); (focus rfl); (focus (intro w' hS; (try dsimp only at hS); go_split_ands; go_simp; (try (with_reducible rfl)))); simp only [Act.put, zA, zB, zC]))
        refine ordt_e ?_
        (refine op_e (o := ?_) ?_ ?_ (fun K hK => ?_); rotate_left 1; (focus ((simp only [zD, zE, zF]) <;> rfl)); (focus rfl); go_simp)
        refine (SequentiallyEquivalent_i _ _ A (rmR A) _ (HC.out _ H4.out).1 (own_cv H9.out)).mono ?_
        rintro e wb ⟨rfl, hq⟩
        rw [rmR_seq hvA]
        have H5 := Lib.hid (H4.out.trans (hq.mono H4.out.size))
        refine hK.out _ _ (HC.out _ H5.out).2.2.1.1 ?_
        clear hK K hq ca hvA
        (try simp only [Act.put, zA, zB, zC])
        repeat (first | (refine ordt_s (o := ?_) ?_ ?_ ?_; rotate_left 1; (focus ((simp only [zD, zE, zF]) <;> rfl)); (focus rfl); simp only [Act.put, zA, zB, zC]) | (refine ordt_q (o := ?_) (v := ?_) ?_ ?_ ?_ ?_; rotate_left 2; (focus ((simp only [zD, zE, zF]) <;> rfl)); (focus rfl); (focus (intro w' hS; (try dsimp only at hS); go_split_ands; go_simp; (try (with_reducible rfl)))); simp only [Act.put, zA, zB, zC]))
        refine ordt_nil ?_
        go_wp2_with fail
        go_ret
        exact ⟨rfl, (HC.out _ H5.out).2.2.2⟩
  · clear hs hr
    go_enter Try.func13, Try.ntmps13
    go_wp2
    go_ret
    exact ⟨rfl, Below.refl _ _⟩

end Go.Proofs.Ytbcolcchchgldaa
