import Derived.Test.YtjecchljhdfjdaaZZ2JO
import Derived.Test.YtjecchljhdfjdaaZZ2JJ
import Derived.Test.YtjecchljhdfjdaaZZ2S1
import Derived.Test.YtjecchljhdfjdaaZZ2RG
import Derived.Test.YtjecchljhdfjdaaZZ2Y0
import Derived.Test.YtjecchljhdfjdaaZZ2RA
import Derived.Test.YtjecchljhdfjdaaZZ2OA
import Derived.Test.YtjecchljhdfjdaaZZ2L4
import Derived.Test.YtjecchljhdfjdaaZZ2Q1
import Derived.Test.YtjecchljhdfjdaaZZ2OE
import Derived.Test.YtjecchljhdfjdaaZZ2Y1
namespace Go.Proofs.Ytjecchljhdfjdaa
set_option linter.unusedVariables false
set_option linter.unusedSimpArgs false
open Go.RowKit

/-! Part of the proof of one law. -/

/-- A circuit that was drawn. -/
def DrawnQ (w : World) (e : Ending) (w' : World) : Prop :=
  ∃ (C : Cir) (vn vg vo : Value), e = .returned (.agg #[.int .i64 C.inp, vn, vg, vo]) ∧ CirOwn w' w.heap.size C vn vg vo ∧ (-10 ≤ C.inp ∧ C.inp ≤ 10 ∧ C.next.length ≤ 8 ∧ C.gates.length ≤ 40 ∧ C.outs.length ≤ 16) ∧ Below w.heap.size w w'

/-! sameInts, sameCircuit of the laws for any arguments. -/

theorem sameIntsG_any (s t : Option Addr) (xs ys : List Int) (cap cap2 : Nat) (w : World) (hs : Sl w s (ints xs)) (ht : Sl w t (ints ys)) (hl : xs.length ≤ 1048576) (hl2 : ys.length ≤ 1048576) :
    Calls Try.prog 9 #[.slice s xs.length cap, .slice t ys.length cap2] w fun e w' => e = .returned (.bool (decide (xs = ys))) ∧ Drew w w' := by
  have HS : Hid (Sl w s (ints xs) ∧ Sl w t (ints ys)) := ⟨hs, ht⟩
  clear hs ht
  by_cases hc : xs.length = ys.length
  · rw [← hc]
    generalize hn : xs.length = n at hc hl ⊢
    have HC : Hid (xs.length = n ∧ ys.length = n) := ⟨hn, hc.symm⟩
    clear hc hn hl2
    go_enter Try.func9, Try.ntmps9
    go_wp2
    go_loopw [5] (fun i wr => ∃ k : Nat, k ≤ n ∧ i = .int .i64 k ∧ xs.take k = ys.take k ∧ Drew w wr) (fun i _ => n - (intOf i).toNat)
    case atStart => exact ⟨0, Nat.zero_le _, rfl, rfl, Drew.refl _⟩
    case round =>
      obtain ⟨k, hk, rfl, htk, hd⟩ := hrel
      have HT : Hid (xs.take k = ys.take k) := htk
      have HD := Lib.hid hd
      clear htk hd
      by_cases hlt : k < n
      · obtain ⟨x, hx⟩ := get_of_lt (l := xs) (k := k) (by have := HC.out; omega)
        obtain ⟨y, hy⟩ := get_of_lt (l := ys) (k := k) (by have := HC.out; omega)
        obtain ⟨b, off, rfl, hbw, hz⟩ := HS.out.1.int (HD.out.below _) hx
        obtain ⟨b2, off2, rfl, hbw2, hz2⟩ := HS.out.2.int (HD.out.below _) hy
        have HR : Hid (_ ∧ _) := Lib.hid ⟨hx, hy⟩
        clear hx hy
        go_wp2
        go_quiet (fail)
        go_wp2
        all_goals obtain ⟨hx, hy⟩ := HR.out
        all_goals first
          | (go_roundw
             case rel => exact ⟨k + 1, by omega, by go_num, by rw [List.take_add_one, List.take_add_one, HT.out, hx, hy]; simp at *; assumption, HD.out.n _⟩
             case measure => simp [intOf]; omega)
          | (go_ret
             refine ⟨ret_bool ?_, HD.out.n _⟩
             symm; rw [decide_eq_false_iff_not]; intro e; subst e; rw [hx] at hy; simp at *; omega)
      · obtain rfl : k = n := by omega
        have he : decide (xs = ys) = true := by
          have h1 := HT.out
          rw [List.take_of_length_le (by have := HC.out; omega), List.take_of_length_le (by have := HC.out; omega)] at h1
          simpa using h1
        have HE := Lib.hid he
        clear he
        go_wp2
        go_ret
        exact ⟨ret_bool HE.out.symm, HD.out⟩
  · have hd : decide (xs = ys) = false := by simp; intro e; exact hc (by rw [e])
    rw [hd]
    clear hd
    go_enter Try.func9, Try.ntmps9
    go_wp2
    go_ret
    exact ⟨rfl, Drew.refl _⟩

set_option maxRecDepth 100000 in
set_option maxHeartbeats 3200000 in
theorem sameCircuitG_any (u v : Value) (a b : Cir) (w : World) (ha : CirV w u a) (hb : CirV w v b) :
    Calls Try.prog 19 #[u, v] w fun e w' => e = .returned (.bool (cirB a b)) ∧ Below w.heap.size w w' := by
  have HG := Lib.hid (And.intro ha hb)
  obtain ⟨sn, cn, sg, cg, so, co, rfl, -, -, -, ka1, ka2, ka3⟩ := ha
  obtain ⟨tn, dn, tg, dg, to_, do_, rfl, -, -, -, kb1, kb2, kb3⟩ := hb
  obtain ⟨W0, hW0⟩ : ∃ W0, W0 = ((w.alloc (.cells #[.int .i64 a.inp, .slice sn a.next.length cn, .slice sg a.gates.length cg, .slice so a.outs.length co] 28)).alloc (.cells #[.int .i64 b.inp, .slice tn b.next.length dn, .slice tg b.gates.length dg, .slice to_ b.outs.length do_] 28)) := ⟨_, rfl⟩
  obtain ⟨A, hA⟩ : ∃ A, A = w.heap.size := ⟨_, rfl⟩
  have z1 : W0.heap.size = A + 2 := by rw [hW0, hA]; simp
  have z2 : W0.heap[A]? = some (.cells #[.int .i64 a.inp, .slice sn a.next.length cn, .slice sg a.gates.length cg, .slice so a.outs.length co] 28 (0, 0)) := by rw [hW0, hA]; exact blk_old (blk_new w _)
  have z3 : W0.heap[A + 1]? = some (.cells #[.int .i64 b.inp, .slice tn b.next.length dn, .slice tg b.gates.length dg, .slice to_ b.outs.length do_] 28 (0, 0)) := by rw [hW0, hA]; exact blk_at (by simp)
  have z4 : Below w.heap.size w W0 := by rw [hW0]; go_grown
  have HW := Lib.hid (And.intro hW0 (And.intro hA z1))
  have HB : Hid (∀ W, Below W0.heap.size W0 W → W.heap[A]? = some (.cells #[.int .i64 a.inp, .slice sn a.next.length cn, .slice sg a.gates.length cg, .slice so a.outs.length co] 28 (0, 0)) ∧ W.heap[A + 1]? = some (.cells #[.int .i64 b.inp, .slice tn b.next.length dn, .slice tg b.gates.length dg, .slice to_ b.outs.length do_] 28 (0, 0)) ∧ CirV W (.agg #[.int .i64 a.inp, .slice sn a.next.length cn, .slice sg a.gates.length cg, .slice so a.outs.length co]) a ∧ CirV W (.agg #[.int .i64 b.inp, .slice tn b.next.length dn, .slice tg b.gates.length dg, .slice to_ b.outs.length do_]) b ∧ Below w.heap.size w W) := fun W hW => ⟨blk_below hW (by omega) z2, blk_below hW (by omega) z3, HG.out.1.mono (z4.trans (hW.mono z4.size)), HG.out.2.mono (z4.trans (hW.mono z4.size)), z4.trans (hW.mono z4.size)⟩
  clear hW0 hA z1 z2 z3 z4
  have HS : Hid (∀ W, Below w.heap.size w W → (Sl W sn (ints a.next) ∧ Sl W sg (gcells a.gates) ∧ Sl W so (ints a.outs)) ∧ Sl W tn (ints b.next) ∧ Sl W tg (gcells b.gates) ∧ Sl W to_ (ints b.outs)) := fun W hW => by
    obtain ⟨⟨_, _, _, _, _, _, e1, a1, a2, a3, -⟩, _, _, _, _, _, _, e2, b1, b2, b3, -⟩ := HG.out
    cases e1
    cases e2
    exact ⟨⟨a1.mono hW, a2.mono hW, a3.mono hW⟩, b1.mono hW, b2.mono hW, b3.mono hW⟩
  obtain ⟨R, hR⟩ : ∃ R, R = cirB a b := ⟨_, rfl⟩
  rw [← hR]
  have HR := Lib.hid hR
  clear hR
  obtain ⟨q1, hq1⟩ : ∃ q, q = decide (a.next = b.next) := ⟨_, rfl⟩
  obtain ⟨q2, hq2⟩ : ∃ q, q = decide (a.outs = b.outs) := ⟨_, rfl⟩
  have HQ := Lib.hid (And.intro hq1 hq2)
  clear hq1 hq2
  by_cases e1 : a.inp = b.inp
  · have x1 : (a.inp == b.inp) = true := by simpa using e1
    have x1' : (a.inp != b.inp) = false := by simpa using e1
    have HE1 := Lib.hid e1
    clear e1
    by_cases e2 : a.gates.length = b.gates.length
    · have x2 : ((a.gates.length : Int) == (b.gates.length : Int)) = true := beq_iff_eq.2 (by omega)
      have x2' : ((a.gates.length : Int) != (b.gates.length : Int)) = false := bne_eq_false_iff_eq.2 (by omega)
      have HE2 := Lib.hid e2
      clear e2
      go_enter Try.func19, Try.ntmps19
      go_upto_region 1 with fail
      rw [← HW.out.1]
      try rw [← HW.out.2.1]
      have ca := (blk_all (HB.out _ (Below.refl _ _)).1).1
      have cb := (blk_all (HB.out _ (Below.refl _ _)).2.1).1
      cases q1
      · have HF : Hid (R = false) := by show _ = _; rw [HR.out]; unfold cirB; rw [← HQ.out.1]; simp
        go_wp2_with (go_at_call 9; ((with_reducible refine (sameIntsG_any _ _ a.next b.next _ _ _ (HS.out _ (HB.out _ (Below.refl _ _)).2.2.2.2).1.1 (HS.out _ (HB.out _ (Below.refl _ _)).2.2.2.2).2.1 ka1 kb1).mono ?_); rintro e w1 ⟨rfl, hd⟩; rw [show decide (a.next = b.next) = _ from HQ.out.1.symm]; have H1 := Lib.hid (hd.below W0.heap.size); clear hd ca cb; have ca := (blk_all (HB.out _ H1.out).1).1; have cb := (blk_all (HB.out _ H1.out).2.1).1))
        go_ret
        exact ⟨ret_bool HF.out.symm, (HB.out _ H1.out).2.2.2.2⟩
      · cases q2
        · have HF : Hid (R = false) := by show _ = _; rw [HR.out]; unfold cirB; rw [← HQ.out.2]; simp
          go_wp2_with (first | (go_at_call 9; ((with_reducible refine (sameIntsG_any _ _ a.next b.next _ _ _ (HS.out _ (HB.out _ (Below.refl _ _)).2.2.2.2).1.1 (HS.out _ (HB.out _ (Below.refl _ _)).2.2.2.2).2.1 ka1 kb1).mono ?_); rintro e w1 ⟨rfl, hd⟩; rw [show decide (a.next = b.next) = _ from HQ.out.1.symm]; have H1 := Lib.hid (hd.below W0.heap.size); clear hd ca cb; have ca := (blk_all (HB.out _ H1.out).1).1; have cb := (blk_all (HB.out _ H1.out).2.1).1)) | (go_at_call 9; ((with_reducible refine (sameIntsG_any _ _ a.outs b.outs _ _ _ (HS.out _ (HB.out _ H1.out).2.2.2.2).1.2.2 (HS.out _ (HB.out _ H1.out).2.2.2.2).2.2.2 ka3 kb3).mono ?_); rintro e w2 ⟨rfl, hd⟩; rw [show decide (a.outs = b.outs) = _ from HQ.out.2.symm]; have H2 := Lib.hid (H1.out.trans (hd.below _)); clear hd ca cb; have ca := (blk_all (HB.out _ H2.out).1).1; have cb := (blk_all (HB.out _ H2.out).2.1).1)))
          go_ret
          exact ⟨ret_bool HF.out.symm, (HB.out _ H2.out).2.2.2.2⟩
        · have HRG : Hid (R = decide (a.gates = b.gates)) := by show _ = _; rw [HR.out]; unfold cirB; rw [← HQ.out.1, ← HQ.out.2, decide_eq_true HE1.out]; simp
          go_upto_region 4 with (first | (go_at_call 9; ((with_reducible refine (sameIntsG_any _ _ a.next b.next _ _ _ (HS.out _ (HB.out _ (Below.refl _ _)).2.2.2.2).1.1 (HS.out _ (HB.out _ (Below.refl _ _)).2.2.2.2).2.1 ka1 kb1).mono ?_); rintro e w1 ⟨rfl, hd⟩; rw [show decide (a.next = b.next) = _ from HQ.out.1.symm]; have H1 := Lib.hid (hd.below W0.heap.size); clear hd ca cb; have ca := (blk_all (HB.out _ H1.out).1).1; have cb := (blk_all (HB.out _ H1.out).2.1).1)) | (go_at_call 9; ((with_reducible refine (sameIntsG_any _ _ a.outs b.outs _ _ _ (HS.out _ (HB.out _ H1.out).2.2.2.2).1.2.2 (HS.out _ (HB.out _ H1.out).2.2.2.2).2.2.2 ka3 kb3).mono ?_); rintro e w2 ⟨rfl, hd⟩; rw [show decide (a.outs = b.outs) = _ from HQ.out.2.symm]; have H2 := Lib.hid (H1.out.trans (hd.below _)); clear hd ca cb; have ca := (blk_all (HB.out _ H2.out).1).1; have cb := (blk_all (HB.out _ H2.out).2.1).1)))
          clear ca cb
          go_loopw [5] (fun i wr => ∃ k : Nat, k ≤ a.gates.length ∧ i = .int .i64 k ∧ a.gates.take k = b.gates.take k ∧ Below W0.heap.size W0 wr) (fun i _ => a.gates.length - (intOf i).toNat)
          case atStart => exact ⟨0, Nat.zero_le _, rfl, rfl, H2.out⟩
          case round =>
            obtain ⟨k, hk, rfl, htk, hb⟩ := hrel
            have HK := Lib.hid (And.intro htk hb)
            have ca := (blk_all (HB.out _ hb).1).1
            have cb := (blk_all (HB.out _ hb).2.1).1
            obtain ⟨⟨-, hga, -⟩, -, hgb, -⟩ := HS.out _ (HB.out _ hb).2.2.2.2
            clear htk hb x2 x2' x1 x1'
            by_cases hlt : k < a.gates.length
            · obtain ⟨g, hg⟩ := get_of_lt hlt
              obtain ⟨h, hh⟩ := get_of_lt (l := b.gates) (k := k) (by have := HE2.out; omega)
              have hltb : (k : Int) < (b.gates.length : Int) := by have := HE2.out; omega
              obtain ⟨b1, o1, rfl, hb1, z1, z2⟩ := hga.gate (Below.refl _ _) hg
              obtain ⟨b2, o2, rfl, hb2, z3, z4⟩ := hgb.gate (Below.refl _ _) hh
              have HGH := Lib.hid (And.intro hg hh)
              clear hg hh hga hgb hb1 hb2
              go_upto_region 6 with fail
              by_cases e : g = h
              · subst e
                go_quiet (fail)
                go_wp2_with fail
                go_roundw
                case rel => exact ⟨k + 1, by omega, by go_num, by rw [List.take_add_one, List.take_add_one, HK.out.1, HGH.out.1, HGH.out.2], below_n HK.out.2 _⟩
                case measure => simp [intOf]; omega
              · have HF : Hid (R = false) := by
                  show _ = _
                  rw [HRG.out, decide_eq_false_iff_not]
                  intro he
                  have h1 := HGH.out.1
                  rw [he, HGH.out.2] at h1
                  exact e (by simpa using h1.symm)
                have hne : g.a ≠ h.a ∨ (g.a = h.a ∧ g.b ≠ h.b) := by
                  by_cases a1 : g.a = h.a
                  · exact .inr ⟨a1, fun a2 => e (Gt.ext' a1 a2)⟩
                  · exact .inl a1
                clear e
                obtain ⟨ga, gb⟩ := g
                obtain ⟨ha, hb⟩ := h
                dsimp only at z1 z2 z3 z4 hne
                rcases hne with hne | ⟨rfl, hne⟩
                all_goals go_quiet (fail)
                all_goals go_wp2_with fail
                all_goals go_ret
                all_goals exact ⟨ret_bool HF.out.symm, (HB.out _ (below_n HK.out.2 _)).2.2.2.2⟩
            · obtain rfl : k = a.gates.length := by omega
              have HF : Hid (R = true) := by
                show _ = _
                rw [HRG.out, decide_eq_true_eq]
                have h1 := HK.out.1
                rw [List.take_length, HE2.out, List.take_length] at h1
                exact h1
              clear hga hgb
              go_wp2_with fail
              go_ret
              exact ⟨ret_bool HF.out.symm, (HB.out _ HK.out.2).2.2.2.2⟩
    · have x2 : ((a.gates.length : Int) == (b.gates.length : Int)) = false := beq_eq_false_iff_ne.2 (by omega)
      have x2' : ((a.gates.length : Int) != (b.gates.length : Int)) = true := bne_iff_ne.2 (by omega)
      have HF : Hid (R = false) := by
        show _ = _
        rw [HR.out]
        unfold cirB
        rw [decide_eq_false (show ¬ a.gates = b.gates from fun h => e2 (by rw [h]))]
        simp
      clear e2
      go_enter Try.func19, Try.ntmps19
      go_upto_region 1 with fail
      rw [← HW.out.1]
      try rw [← HW.out.2.1]
      have ca := (blk_all (HB.out _ (Below.refl _ _)).1).1
      have cb := (blk_all (HB.out _ (Below.refl _ _)).2.1).1
      cases q1
      all_goals
        go_wp2_with (go_at_call 9; ((with_reducible refine (sameIntsG_any _ _ a.next b.next _ _ _ (HS.out _ (HB.out _ (Below.refl _ _)).2.2.2.2).1.1 (HS.out _ (HB.out _ (Below.refl _ _)).2.2.2.2).2.1 ka1 kb1).mono ?_); rintro e w1 ⟨rfl, hd⟩; rw [show decide (a.next = b.next) = _ from HQ.out.1.symm]; have H1 := Lib.hid (hd.below W0.heap.size); clear hd ca cb; have ca := (blk_all (HB.out _ H1.out).1).1; have cb := (blk_all (HB.out _ H1.out).2.1).1))
        go_ret
        exact ⟨ret_bool HF.out.symm, (HB.out _ H1.out).2.2.2.2⟩
  · have x1 : (a.inp == b.inp) = false := by simpa using e1
    have x1' : (a.inp != b.inp) = true := by simpa using e1
    have HF : Hid (R = false) := by
      show _ = _
      rw [HR.out]
      unfold cirB
      rw [decide_eq_false e1]
      simp
    clear e1
    go_enter Try.func19, Try.ntmps19
    go_upto_region 1 with fail
    rw [← HW.out.1]
    try rw [← HW.out.2.1]
    have ca := (blk_all (HB.out _ (Below.refl _ _)).1).1
    have cb := (blk_all (HB.out _ (Below.refl _ _)).2.1).1
    go_wp2_with fail
    go_ret
    exact ⟨ret_bool HF.out.symm, (HB.out _ (Below.refl _ _)).2.2.2.2⟩

theorem aliveR_any (w : World) : Calls Try.prog 21 #[] w fun e w' => e = .returned (.bool true) ∧ Below w.heap.size w w' := by
  go_enter Try.func21, Try.ntmps21
  go_wp2_with (go_at_call 27; (refine (CircuitValid_i _ ⟨0, [], [], []⟩ _ ⟨none, 0, none, 0, none, 0, rfl, .inl rfl, .inl rfl, .inl rfl, by simp, by simp, by simp⟩).mono ?_); rintro e w' ⟨rfl, hq⟩; have HQ := Lib.hid hq; clear hq)
  go_ret
  exact ⟨by congr 1, HQ.out⟩

theorem CirOwn.toV {w : World} {base : Nat} {c : Cir} {vn vg vo : Value} (h : CirOwn w base c vn vg vo) : CirV w (.agg #[.int .i64 c.inp, vn, vg, vo]) c := by
  obtain ⟨sn, cn, rfl⟩ := own_shape h.n
  obtain ⟨sg, cg, rfl⟩ := own_shape h.g
  obtain ⟨so, co, rfl⟩ := own_shape h.o
  exact ⟨_, _, _, _, _, _, rfl, own_sl h.n, own_sl h.g, own_sl h.o, h.l1, h.l2, h.l3⟩

set_option maxRecDepth 100000 in
set_option maxHeartbeats 1600000 in
theorem Optimize_s (v : Value) (c : Cir) (w : World) (h : CirV w v c) :
    Calls Try.prog 43 #[v] w fun e w' => ∃ vn vg vo, e = .returned (.agg #[.int .i64 (optR c).inp, vn, vg, vo]) ∧ CirOwn w' w.heap.size (optR c) vn vg vo ∧ Below w.heap.size w w' := by
  have HG := Lib.hid h
  obtain ⟨sn, cn, sg, cg, so, co, rfl, -, -, -, -, -, -⟩ := h
  obtain ⟨W0, hW0⟩ : ∃ W0, W0 = (w.alloc (.cells #[.int .i64 c.inp, .slice sn c.next.length cn, .slice sg c.gates.length cg, .slice so c.outs.length co] 28)).alloc (.cells #[.int .i64 0, .slice none 0 0, .slice none 0 0, .slice none 0 0] 28) := ⟨_, rfl⟩
  obtain ⟨A, hA⟩ : ∃ A, A = w.heap.size := ⟨_, rfl⟩
  have z1 : W0.heap.size = A + 2 := by rw [hW0, hA]; simp
  have z2 : W0.heap[A]? = some (.cells #[.int .i64 c.inp, .slice sn c.next.length cn, .slice sg c.gates.length cg, .slice so c.outs.length co] 28 (0, 0)) := by rw [hW0, hA]; exact blk_old (blk_new w _)
  have z3 : W0.heap[A + 1]? = some (.cells #[.int .i64 0, .slice none 0 0, .slice none 0 0, .slice none 0 0] 28 (0, 0)) := by rw [hW0, hA]; exact blk_at (by simp)
  have z4 : Below w.heap.size w W0 := by rw [hW0]; exact ((Below.refl _ _).alloc (Nat.le_refl _) _).alloc (by simp) _
  have HW := Lib.hid (And.intro hW0 (And.intro hA z1))
  have HB : Hid (∀ W, Below W0.heap.size W0 W → (∀ o, W.cell? ⟨A, o, none⟩ = #[Value.int .i64 c.inp, .slice sn c.next.length cn, .slice sg c.gates.length cg, .slice so c.outs.length co][o]?) ∧ W.heap[A + 1]? = some (.cells #[.int .i64 0, .slice none 0 0, .slice none 0 0, .slice none 0 0] 28 (0, 0)) ∧ CirV W (.agg #[.int .i64 c.inp, .slice sn c.next.length cn, .slice sg c.gates.length cg, .slice so c.outs.length co]) c ∧ Below w.heap.size w W) := fun W hW => ⟨(blk_all (blk_below hW (by omega) z2)).1, blk_below hW (by omega) z3, HG.out.mono (z4.trans (hW.mono z4.size)), z4.trans (hW.mono z4.size)⟩
  clear hW0 hA z1 z2 z3 z4
  cases hv : c.validB
  · rw [optR_no hv]
    have HV := Lib.hid hv
    clear hv
    go_enter Try.func43, Try.ntmps43
    go_upto_region 1 with fail
    rw [← HW.out.1, ← HW.out.2.1]
    have cb := (HB.out _ (Below.refl _ _)).1
    go_upto_region 2 with (go_at_call 20; ((with_reducible refine (CircuitValid_s _ c _ (HB.out _ (Below.refl _ _)).2.2.1).mono ?_); rintro e w1 ⟨rfl, hq⟩; rw [HV.out]; have H1 := Lib.hid hq; clear hq cb; obtain ⟨rc, rf⟩ := blk_all (HB.out _ H1.out).2.1))
    go_wp2_with fail
    have hZ : ((((w1.setCell ⟨A + 1, 0, none⟩ (.int .i64 0)).setCell ⟨A + 1, 1, none⟩ (.slice none 0 0)).setCell ⟨A + 1, 2, none⟩ (.slice none 0 0)).setCell ⟨A + 1, 3, none⟩ (.slice none 0 0)).heap[A + 1]? = some (.cells #[.int .i64 0, .slice none 0 0, .slice none 0 0, .slice none 0 0] 28 (0, 0)) := by
      simpa using blk_set (o := 3) (v := .slice none 0 0) (blk_set (o := 2) (v := .slice none 0 0) (blk_set (o := 1) (v := .slice none 0 0) (blk_set (o := 0) (v := .int .i64 0) (HB.out _ H1.out).2.1)))
    have hA2 := HW.out.2.1
    have hbz := ((((HB.out _ H1.out).2.2.2.setCell (p := ⟨A + 1, 0, none⟩) (by simp; omega) (.int .i64 0)).setCell (p := ⟨A + 1, 1, none⟩) (by simp; omega) (.slice none 0 0)).setCell (p := ⟨A + 1, 2, none⟩) (by simp; omega) (.slice none 0 0)).setCell (p := ⟨A + 1, 3, none⟩) (by simp; omega) (.slice none 0 0)
    clear rc rf
    revert hZ hbz
    generalize ((((w1.setCell ⟨A + 1, 0, none⟩ (.int .i64 0)).setCell ⟨A + 1, 1, none⟩ (.slice none 0 0)).setCell ⟨A + 1, 2, none⟩ (.slice none 0 0)).setCell ⟨A + 1, 3, none⟩ (.slice none 0 0)) = WZ
    intro hZ hbz
    have cr := (blk_all hZ).1
    exact bodyPost_ret (v := .agg #[.int .i64 0, .slice none 0 0, .slice none 0 0, .slice none 0 0]) (by simp [results, Try.results43, go_sem, cr]) rfl ⟨_, _, _, rfl, ⟨World.ownsRow_nil _ _ _ _, World.ownsRow_nil _ _ _ _, World.ownsRow_nil _ _ _ _, fun k h => by simp [Value.ownBlock] at h, by simp, by simp, by simp⟩, hbz⟩
  · rw [optR_yes hv]
    have HV := Lib.hid hv
    have hvv := c.validB_iff.1 hv
    have HVV := Lib.hid (And.intro hvv (buildC_valid hvv true))
    clear hv hvv
    go_enter Try.func43, Try.ntmps43
    go_upto_region 1 with fail
    rw [← HW.out.1, ← HW.out.2.1]
    have cb := (HB.out _ (Below.refl _ _)).1
    go_wp2_with (first
      | (go_at_call 20; ((with_reducible refine (CircuitValid_s _ c _ (HB.out _ (Below.refl _ _)).2.2.1).mono ?_); rintro e w1 ⟨rfl, hq⟩; rw [HV.out]; have H1 := Lib.hid hq; clear hq cb; have cb := (HB.out _ H1.out).1))
      | (go_at_call 48; ((with_reducible refine (l3Build_any _ c true _ (HB.out _ H1.out).2.2.1 HVV.out.1).mono ?_); rintro e w2 ⟨vn, vg, vo, rfl, ho, hq⟩; have H2 := Lib.hid (And.intro ho (H1.out.trans (hq.mono H1.out.size))); clear hq ho cb))
      | (go_at_call 48; ((with_reducible refine (l3Build_any _ (buildC true c) false _ (show CirV _ (.agg #[.int .i64 c.inp, vn, vg, vo]) (buildC true c) from H2.out.1.toV) HVV.out.2).mono ?_); rintro e w3 ⟨vn3, vg3, vo3, rfl, ho, hq⟩; rw [show (buildC true c).inp = c.inp from rfl]; obtain ⟨sn3, cn3, rfl⟩ := own_shape ho.n; obtain ⟨sg3, cg3, rfl⟩ := own_shape ho.g; obtain ⟨so3, co3, rfl⟩ := own_shape ho.o; have H3 := Lib.hid (And.intro ho (H2.out.2.trans (hq.mono H2.out.2.size))); obtain ⟨rc, rf⟩ := blk_all (HB.out _ H3.out.2).2.1; have HSZ := Lib.hid (show A + 2 ≤ w2.heap.size by have h1 := H2.out.2.size; have h2 := HW.out.2.2; omega); clear hq ho)))
    have hA2 := HW.out.2.1
    have hR := (HB.out _ H3.out.2).2.1
    have hO := (H3.out.1).sets4 (r := A + 1) (by have := HSZ.out; omega) (base := w.heap.size) (by have := HSZ.out; omega) (a := .int .i64 c.inp) (b' := .slice sn3 (buildC false (buildC true c)).next.length cn3) (c' := .slice sg3 (buildC false (buildC true c)).gates.length cg3) (d := .slice so3 (buildC false (buildC true c)).outs.length co3)
    have hZ : ((((w3.setCell ⟨A + 1, 0, none⟩ (.int .i64 c.inp)).setCell ⟨A + 1, 1, none⟩ (.slice sn3 (buildC false (buildC true c)).next.length cn3)).setCell ⟨A + 1, 2, none⟩ (.slice sg3 (buildC false (buildC true c)).gates.length cg3)).setCell ⟨A + 1, 3, none⟩ (.slice so3 (buildC false (buildC true c)).outs.length co3)).heap[A + 1]? = some (.cells #[.int .i64 c.inp, .slice sn3 (buildC false (buildC true c)).next.length cn3, .slice sg3 (buildC false (buildC true c)).gates.length cg3, .slice so3 (buildC false (buildC true c)).outs.length co3] 28 (0, 0)) := by
      simpa using blk_set (o := 3) (v := .slice so3 (buildC false (buildC true c)).outs.length co3) (blk_set (o := 2) (v := .slice sg3 (buildC false (buildC true c)).gates.length cg3) (blk_set (o := 1) (v := .slice sn3 (buildC false (buildC true c)).next.length cn3) (blk_set (o := 0) (v := .int .i64 c.inp) hR)))
    have hbz := ((((HB.out _ H3.out.2).2.2.2.setCell (p := ⟨A + 1, 0, none⟩) (by simp; omega) (.int .i64 c.inp)).setCell (p := ⟨A + 1, 1, none⟩) (by simp; omega) (.slice sn3 (buildC false (buildC true c)).next.length cn3)).setCell (p := ⟨A + 1, 2, none⟩) (by simp; omega) (.slice sg3 (buildC false (buildC true c)).gates.length cg3)).setCell (p := ⟨A + 1, 3, none⟩) (by simp; omega) (.slice so3 (buildC false (buildC true c)).outs.length co3)
    clear rc rf
    revert hZ hbz hO
    generalize ((((w3.setCell ⟨A + 1, 0, none⟩ (.int .i64 c.inp)).setCell ⟨A + 1, 1, none⟩ (.slice sn3 (buildC false (buildC true c)).next.length cn3)).setCell ⟨A + 1, 2, none⟩ (.slice sg3 (buildC false (buildC true c)).gates.length cg3)).setCell ⟨A + 1, 3, none⟩ (.slice so3 (buildC false (buildC true c)).outs.length co3)) = WZ
    intro hO hZ hbz
    have cr := (blk_all hZ).1
    exact bodyPost_ret (v := .agg #[.int .i64 c.inp, .slice sn3 (buildC false (buildC true c)).next.length cn3, .slice sg3 (buildC false (buildC true c)).gates.length cg3, .slice so3 (buildC false (buildC true c)).outs.length co3]) (by simp [results, Try.results43, go_sem, cr]) rfl ⟨_, _, _, rfl, hO, hbz⟩

/-! What the laws of Sweep and of removal say, of the plain functions. -/

theorem optC_if (c : Cir) : (optC c).inp = c.inp ∧ (optC c).next.length = c.next.length ∧ (optC c).outs.length = c.outs.length := by
  unfold optC buildC
  exact ⟨rfl, by simp, by simp⟩

theorem equivB_mk {a b : Cir} (ha : a.valid) (hb : b.valid) (hi : b.inp = a.inp ∧ b.next.length = a.next.length ∧ b.outs.length = a.outs.length) (h : ∀ x : Nat, x < asgN a → resV b (x : Int) (-1) false = resV a (x : Int) (-1) false) : equivB a b = true :=
  equivB_iff.2 ⟨sifB_iff.2 ⟨(Cir.validB_iff _).2 ha, (Cir.validB_iff _).2 hb, hi.1.symm, hi.2.1.symm, hi.2.2.symm⟩, fun x hx => (h x hx).symm⟩

theorem balR_if {c : Cir} (hv : c.validB = true) : (balR c).inp = c.inp ∧ (balR c).next.length = c.next.length ∧ (balR c).outs.length = c.outs.length := by
  have h1 := optC_if c
  rcases balR_or hv with h | ⟨h, _⟩
  · rw [h]; exact h1
  · rw [h]
    have h2 := optC_if (balC (optC c))
    have h3 : (balC (optC c)).inp = (optC c).inp ∧ (balC (optC c)).next.length = (optC c).next.length ∧ (balC (optC c)).outs.length = (optC c).outs.length := ⟨rfl, by simp [balC], by simp [balC]⟩
    exact ⟨by rw [h2.1, h3.1, h1.1], by rw [h2.2.1, h3.2.1, h1.2.1], by rw [h2.2.2, h3.2.2, h1.2.2]⟩

theorem balR_eqv {c : Cir} (hv : c.validB = true) : equivB c (balR c) = true :=
  have hval := c.validB_iff.1 hv
  equivB_mk hval (balR_valid hval) (balR_if hv) fun x _ => balR_res hval x

def depR (c : Cir) : Int := if c.validB then depC c else -1

set_option maxHeartbeats 1600000 in
theorem Depth_i (v : Value) (c : Cir) (w : World) (h : CirV w v c) :
    Calls Try.prog 8 #[v] w fun e w' => e = .returned (.int .i64 (depR c)) ∧ Below w.heap.size w w' := by
  have HC : Hid (∀ w', Below w.heap.size w w' → CirV w' v c) := fun w' hb => h.mono hb
  obtain ⟨sn, cn, sg, cg, so, co, rfl, h1, h2, h3, hl1, hl2, hl3⟩ := h
  have hL : Below w.heap.size w (w.alloc (.cells #[.int .i64 c.inp, .slice sn c.next.length cn, .slice sg c.gates.length cg, .slice so c.outs.length co] 28)) := by go_grown
  have hN := blk_new w (.cells #[.int .i64 c.inp, .slice sn c.next.length cn, .slice sg c.gates.length cg, .slice so c.outs.length co] 28)
  have HL := Lib.hid (And.intro hL (And.intro hN (And.intro h1 (And.intro h2 h3))))
  clear hL hN h1 h2 h3
  cases hv : c.validB
  · have e : depR c = -1 := by unfold depR; rw [hv]; rfl
    rw [e]
    have HE := Lib.hid hv
    clear hv e
    go_enter Try.func8, Try.ntmps8
    go_wp2_with (go_at_call 27; ((with_reducible refine (CircuitValid_i _ _ _ (HC.out _ HL.out.1)).mono ?_); rintro e w1 ⟨rfl, hq⟩; have HQ := Lib.hid hq; clear hq; rw [HE.out]))
    go_ret
    exact ⟨rfl, HL.out.1.trans (HQ.out.mono (by simp))⟩
  · have hval := c.validB_iff.1 hv
    have e : depR c = depC c := by unfold depR; rw [if_pos hv]
    rw [e]
    have HE := Lib.hid (And.intro hv hval)
    clear hv e hval
    go_enter Try.func8, Try.ntmps8
    go_wp2_with (first
      | (go_at_call 27; ((with_reducible refine (CircuitValid_i _ _ _ (HC.out _ HL.out.1)).mono ?_); rintro e w1 ⟨rfl, hq⟩; have HQ := Lib.hid (And.intro (HL.out.1.trans (hq.mono HL.out.1.size)) (blk_below hq (blk_lt HL.out.2.1) HL.out.2.1)); clear hq; rw [HE.out.1]))
      | (go_at_call 37; ((with_reducible refine (depth_any w.heap.size sn sg so cn cg co c _ (by have hc := (blk_all HQ.out.2).1; exact ⟨by simpa using hc 0, by simpa using hc 1, by simpa using hc 2, by simpa using hc 3⟩) (HL.out.2.2.1.mono HQ.out.1) (HL.out.2.2.2.1.mono HQ.out.1) (HL.out.2.2.2.2.mono HQ.out.1) HE.out.2).mono ?_); rintro e w2 ⟨rfl, hq⟩; have H2 := Lib.hid (HQ.out.1.trans (hq.mono HQ.out.1.size)); clear hq)))
    go_ret
    exact ⟨rfl, H2.out⟩

theorem foldl_max_max : ∀ (l : List Int) (a b : Int), l.foldl max (max a b) = max a (l.foldl max b)
  | [], a, b => rfl
  | x :: l, a, b => by
    simp only [List.foldl_cons]
    rw [show max (max a b) x = max a (max b x) by omega]
    exact foldl_max_max l a (max b x)

theorem mxL_nonneg (l : List Int) : 0 ≤ mxL l := by
  unfold mxL
  have h := foldl_max_max l 0 0
  rw [show max (0 : Int) 0 = 0 by omega] at h
  omega

theorem mxL_app (A B : List Int) : mxL (A ++ B) = max (mxL A) (mxL B) := by
  have h0 := mxL_nonneg A
  show (A ++ B).foldl max 0 = _
  rw [List.foldl_append]
  show B.foldl max (mxL A) = _
  rw [show mxL A = max (mxL A) 0 by omega, foldl_max_max]
  show max (mxL A) (mxL B) = max (max (mxL A) 0) (mxL B)
  omega

theorem depC_swap (c : Cir) : depC c = mxL ((c.outs ++ c.next).map (lvA (lvlL c.first.toNat c.gates))) := by
  unfold depC
  rw [List.map_append, List.map_append, mxL_app, mxL_app]
  omega

set_option maxRecDepth 100000 in
set_option maxHeartbeats 3200000 in
theorem Depth_s (v : Value) (c : Cir) (w : World) (h : CirV w v c) :
    Calls Try.prog 49 #[v] w fun e w' => e = .returned (.int .i64 (depR c)) ∧ Below w.heap.size w w' := by
  have HC : Hid (∀ w', Below w.heap.size w w' → CirV w' v c) := fun w' hb => h.mono hb
  obtain ⟨sn, cn, sg, cg, so, co, rfl, h1, h2, h3, hl1, hl2, hl3⟩ := h
  have HS0 : Hid (∀ W, Below w.heap.size w W → Sl W sn (ints c.next) ∧ Sl W sg (gcells c.gates) ∧ Sl W so (ints c.outs)) := fun W hW => ⟨h1.mono hW, h2.mono hW, h3.mono hW⟩
  obtain ⟨A, hA⟩ : ∃ A, A = w.heap.size := ⟨_, rfl⟩
  have hL : Below w.heap.size w (w.alloc (.cells #[.int .i64 c.inp, .slice sn c.next.length cn, .slice sg c.gates.length cg, .slice so c.outs.length co] 28)) := by go_grown
  have hN := blk_new w (.cells #[.int .i64 c.inp, .slice sn c.next.length cn, .slice sg c.gates.length cg, .slice so c.outs.length co] 28)
  have HL := Lib.hid (And.intro hL hN)
  clear hL hN h1 h2 h3
  cases hv : c.validB
  · have e : depR c = -1 := by unfold depR; rw [hv]; rfl
    rw [e]
    have HE := Lib.hid hv
    clear hv e
    go_enter Try.func49, Try.ntmps49
    go_wp2_with (go_at_call 20; ((with_reducible refine (CircuitValid_s _ _ _ (HC.out _ HL.out.1)).mono ?_); rintro e w1 ⟨rfl, hq⟩; have HQ := Lib.hid hq; clear hq; rw [HE.out]))
    go_ret
    exact ⟨rfl, HL.out.1.trans (HQ.out.mono (by simp))⟩
  · have hval := c.validB_iff.1 hv
    obtain ⟨q1, q2, q3, q4, q5⟩ := id hval.lim
    obtain ⟨F, hF⟩ : ∃ F : Nat, 1 + c.inp + (c.next.length : Int) = F := ⟨(1 + c.inp + (c.next.length : Int)).toNat, by omega⟩
    have hF8 : F ≤ 8 := by omega
    have eF : c.first.toNat = F := by rw [show c.first = (F : Int) from hF, Int.toNat_natCast]
    have hgF : gatesP F c.gates := by have h := hval.gates; rwa [show c.first = (F : Int) from hF] at h
    have HGF := Lib.hid hgF
    clear hgF
    obtain ⟨V, hV⟩ : ∃ V, V = F + c.gates.length := ⟨_, rfl⟩
    have hV22 : V ≤ 22 := by omega
    obtain ⟨L, hLL⟩ : ∃ L, L = lvlL F c.gates := ⟨_, rfl⟩
    have hLn : L.length = V := by rw [hLL, lvlL_length, hV]
    obtain ⟨rs, hrs⟩ : ∃ rs, rs = c.outs ++ c.next := ⟨_, rfl⟩
    obtain ⟨R, hR⟩ : ∃ R, R = rs.length := ⟨_, rfl⟩
    have hRn : R = c.outs.length + c.next.length := by rw [hR, hrs]; simp
    have hR1 : R ≤ c.outs.length + c.next.length := Nat.le_of_eq hRn
    have hR6 : R ≤ 6 := by omega
    have hlit : ∀ x ∈ rs, 0 ≤ x ∧ x / 2 < V := fun x hx => by
      have h1 : litP x c.vars := by
        rw [hrs] at hx
        rcases List.mem_append.1 hx with h | h
        · exact hval.outs x h
        · exact hval.next x h
      have eV : c.vars = 1 + c.inp + (c.next.length : Int) + (c.gates.length : Int) := rfl
      unfold litP at h1
      omega
    obtain ⟨ds, hds⟩ : ∃ ds, ds = rs.map (lvA L) := ⟨_, rfl⟩
    have hdl : ds.length = R := by rw [hds, hR]; simp
    have hdb : ∀ x ∈ ds, 0 ≤ x ∧ x ≤ 14 := fun x hx => by
      rw [hds] at hx
      obtain ⟨y, hy, rfl⟩ := List.mem_map.1 hx
      unfold lvA
      rw [List.getD_eq_getElem?_getD]
      cases e : L[(y / 2).toNat]? with
      | none => simp
      | some z =>
        have := lvlL_bd F c.gates z (by rw [← hLL]; exact List.mem_of_getElem? e)
        simp
        omega
    have hdep : depC c = mxL ds := by rw [depC_swap, hds, hrs, hLL, eF]
    have e : depR c = depC c := by unfold depR; rw [if_pos hv]
    rw [e]
    have HE := Lib.hid (And.intro hv (And.intro hval (And.intro hF (And.intro hdep (And.intro hLL (And.intro hLn (And.intro hrs (And.intro hlit (And.intro hds (And.intro hdl (And.intro hdb (And.intro hV (And.intro hR hRn)))))))))))))
    have HB : Hid (∀ W, Below w.heap.size w W → W.heap[A]? = some (.cells #[.int .i64 c.inp, .slice sn c.next.length cn, .slice sg c.gates.length cg, .slice so c.outs.length co] 28 (0, 0)) → ∀ o, W.cell? ⟨A, o, none⟩ = #[Value.int .i64 c.inp, .slice sn c.next.length cn, .slice sg c.gates.length cg, .slice so c.outs.length co][o]?) := fun W _ h => (blk_all h).1
    have HA := Lib.hid hA
    clear hv e hval hF hdep hLL hLn hrs hlit hds hdl hdb hV hR hRn eF hA
    go_enter Try.func49, Try.ntmps49
    go_upto_region 1 with fail
    rw [← HA.out]
    have cb := HB.out _ HL.out.1 (by rw [HA.out]; exact HL.out.2)
    go_upto_region 5 with (first
      | (go_at_call 20; ((with_reducible refine (CircuitValid_s _ _ _ (HC.out _ HL.out.1)).mono ?_); rintro e w1 ⟨rfl, hq⟩; have HQ := Lib.hid (And.intro (HL.out.1.trans (hq.mono HL.out.1.size)) (blk_below hq (blk_lt HL.out.2) HL.out.2)); clear hq cb; rw [HE.out.1]; have cb := HB.out _ HQ.out.1 (by rw [HA.out]; exact HQ.out.2)))
      | (go_at_call 84; ((with_reducible refine (l1Levels_any c.inp sn sg so c.next.length cn cg c.outs.length co F c.gates _ (HS0.out _ HQ.out.1).2.1 HE.out.2.2.1 q1 hF8 HGF.out (by omega)).mono ?_); rintro e w2 ⟨sL, cL, rfl, hL, hq⟩; have H2 := Lib.hid (And.intro hL (And.intro (HQ.out.1.trans (hq.mono HQ.out.1.size)) (blk_below hq (blk_lt HQ.out.2) HQ.out.2))); clear hL hq cb; have cb := HB.out _ H2.out.2.1 (by rw [HA.out]; exact H2.out.2.2))))
    have HB2 : Hid (∀ W, Below w2.heap.size w2 W → (∀ o, W.cell? ⟨A, o, none⟩ = #[Value.int .i64 c.inp, .slice sn c.next.length cn, .slice sg c.gates.length cg, .slice so c.outs.length co][o]?) ∧ Below w.heap.size w W ∧ Sl W sL (ints L)) := fun W hW => ⟨HB.out _ (H2.out.2.1.trans (hW.mono H2.out.2.1.size)) (by rw [HA.out]; exact blk_below hW (blk_lt H2.out.2.2) H2.out.2.2), H2.out.2.1.trans (hW.mono H2.out.2.1.size), by rw [HE.out.2.2.2.2.1]; exact H2.out.1.mono hW⟩
    clear cb
    refine wp_region_T (fun w' => ∀ o, w'.cell? ⟨A, o, none⟩ = #[Value.int .i64 c.inp, .slice sn c.next.length cn, .slice sg c.gates.length cg, .slice so c.outs.length co][o]?) (.q 1 (.q 2 (.q 4 (.q 5 (.e 0 (.e 3 (.e 6 (.q 7 .nil)))))))) (by kernel_rfl) (by kernel_rfl) (by kernel_rfl) (HB2.out _ (Below.refl _ _).drew).1 ?_
    have hd := (Below.refl w2.heap.size w2).drew
    revert hd
    generalize w2.drew = Wd
    intro hd
    have HD := Lib.hid hd
    clear hd
    repeat (first | (refine ordt_s (o := ?_) ?_ ?_ ?_; rotate_left 1; (focus ((simp only [zD, zE, zF]) <;> rfl)); (focus rfl); simp only [Act.put, zA, zB, zC]) | (refine ordt_q (o := ?_) (v := ?_) ?_ ?_ ?_ ?_; rotate_left 2; (focus ((simp only [zD, zE, zF]) <;> rfl)); (focus rfl); (focus (intro w' hS; (try dsimp only at hS); go_split_ands; go_simp; (try (with_reducible rfl)))); simp only [Act.put, zA, zB, zC]))
    refine ordt_e ?_
    (refine op_e (o := ?_) ?_ ?_ (fun K hK => ?_); rotate_left 1; (focus ((simp only [zD, zE, zF]) <;> rfl)); (focus rfl); go_simp)
    have hb := HD.out.alloc HD.out.size (.cells #[] 3)
    have hown0 : World.ownsRow (Wd.alloc (.cells #[] 3)) w2.heap.size 3 1 (.slice (some ⟨Wd.heap.size, 0, none⟩) 0 0) 0 [] := own_of_blk (size := 1) (n := 0) (cur := #[]) (blk_new Wd _) HD.out.size (by simp) (by unfold maxLen; omega)
    refine hK.out _ _ (HB2.out _ hb).1 ?_
    clear hK K
    have H3 := Lib.hid (And.intro hown0 hb)
    clear hown0 hb
    (try simp only [Act.put, zA, zB, zC])
    repeat (first | (refine ordt_s (o := ?_) ?_ ?_ ?_; rotate_left 1; (focus ((simp only [zD, zE, zF]) <;> rfl)); (focus rfl); simp only [Act.put, zA, zB, zC]) | (refine ordt_q (o := ?_) (v := ?_) ?_ ?_ ?_ ?_; rotate_left 2; (focus ((simp only [zD, zE, zF]) <;> rfl)); (focus rfl); (focus (intro w' hS; (try dsimp only at hS); go_split_ands; go_simp; (try (with_reducible rfl)))); simp only [Act.put, zA, zB, zC]))
    refine ordt_e ?_
    (refine op_e (o := ?_) ?_ ?_ (fun K hK => ?_); rotate_left 1; (focus ((simp only [zD, zE, zF]) <;> rfl)); (focus rfl))
    refine wp_app (.tmp 12) (.tmp 14) rfl elem_int H3.out.1 rfl rfl (by simp) (HS0.out _ (HB2.out _ H3.out.2).2.1).2.2 (ints_one _) c.outs.length (by omega) (ints c.outs) (by simp) (by unfold maxLen; omega) (by omega) H3.out.2.size ?_
    intro s6 c6 w6 h6 hb6 _ _
    have hq6 := H3.out.2.trans hb6
    refine hK.out _ _ (HB2.out _ hq6).1 ?_
    clear hK K
    have H6 := Lib.hid (And.intro h6 hq6)
    clear h6 hb6 hq6
    (try simp only [Act.put, zA, zB, zC])
    repeat (first | (refine ordt_s (o := ?_) ?_ ?_ ?_; rotate_left 1; (focus ((simp only [zD, zE, zF]) <;> rfl)); (focus rfl); simp only [Act.put, zA, zB, zC]) | (refine ordt_q (o := ?_) (v := ?_) ?_ ?_ ?_ ?_; rotate_left 2; (focus ((simp only [zD, zE, zF]) <;> rfl)); (focus rfl); (focus (intro w' hS; (try dsimp only at hS); go_split_ands; go_simp; (try (with_reducible rfl)))); simp only [Act.put, zA, zB, zC]))
    refine ordt_e ?_
    (refine op_e (o := ?_) ?_ ?_ (fun K hK => ?_); rotate_left 1; (focus ((simp only [zD, zE, zF]) <;> rfl)); (focus rfl))
    refine wp_app (.tmp 15) (.tmp 17) rfl elem_int H6.out.1 rfl rfl (by simp) (HS0.out _ (HB2.out _ H6.out.2).2.1).1 (ints_one _) R (by rw [HE.out.2.2.2.2.2.2.2.2.2.2.2.2.2]) (ints rs) (by rw [HE.out.2.2.2.2.2.2.1, ints_append]) (by unfold maxLen; omega) (by omega) H6.out.2.size ?_
    intro s7 c7 w7 h7 hb7 _ _
    have hq7 := H6.out.2.trans hb7
    refine hK.out _ _ (HB2.out _ hq7).1 ?_
    clear hK K
    have H7 := Lib.hid (And.intro (own_sl h7) hq7)
    clear h7 hb7 hq7
    (try simp only [Act.put, zA, zB, zC])
    repeat (first | (refine ordt_s (o := ?_) ?_ ?_ ?_; rotate_left 1; (focus ((simp only [zD, zE, zF]) <;> rfl)); (focus rfl); simp only [Act.put, zA, zB, zC]) | (refine ordt_q (o := ?_) (v := ?_) ?_ ?_ ?_ ?_; rotate_left 2; (focus ((simp only [zD, zE, zF]) <;> rfl)); (focus rfl); (focus (intro w' hS; (try dsimp only at hS); go_split_ands; go_simp; (try (with_reducible rfl)))); simp only [Act.put, zA, zB, zC]))
    refine ordt_nil ?_
    go_upto_region 7 with fail
    go_loopw [6, 4] (fun i d wr => ∃ k : Nat, k ≤ R ∧ i = .int .i64 k ∧ d = .int .i64 (mxL (ds.take k)) ∧ Below w7.heap.size w7 wr) (fun i _ _ => R - (intOf i).toNat)
    case atStart => exact ⟨0, Nat.zero_le _, rfl, rfl, Below.refl _ _⟩
    case round =>
      obtain ⟨k, hk, rfl, rfl, hb⟩ := hrel
      have HK := Lib.hid hb
      clear hb
      by_cases hlt : k < R
      · obtain ⟨-, -, -, hdep, hLL, hLn, hrs, hlit, hds, hdl, hdb, hV, hR, -⟩ := HE.out
        obtain ⟨l, hl⟩ := get_of_lt (l := rs) (k := k) (by rw [← hR]; exact hlt)
        obtain ⟨b5, o5, rfl, hb5, z5⟩ := H7.out.1.int HK.out hl
        obtain ⟨l0, l1⟩ := hlit l (List.mem_of_getElem? hl)
        obtain ⟨p, hp⟩ : ∃ p : Nat, l / 2 = p := ⟨(l / 2).toNat, by omega⟩
        have tl : l.tdiv 2 = p := by rw [Int.tdiv_eq_ediv_of_nonneg l0]; exact hp
        have wpp : IntKind.i64.wrap (p : Int) = p := IntWalk.i64_in _ ⟨by omega, by omega⟩
        have hpV0 : p < V := by omega
        obtain ⟨u, hu⟩ := get_of_lt (l := L) (k := p) (by rw [hLn]; exact hpV0)
        have hpV : p < F + c.gates.length := by omega
        have hd : ds[k]? = some u := by
          rw [hds, List.getElem?_map, hl, Option.map_some]
          congr 1
          unfold lvA
          rw [hp, Int.toNat_natCast, List.getD_eq_getElem?_getD, hu]; rfl
        obtain ⟨u0, u1⟩ := hdb u (List.mem_of_getElem? hd)
        have hmt := mxL_take hd
        obtain ⟨d0, d1⟩ := mxL_bd (L := ds.take k) (B := 14) (by omega) (fun x hx => hdb x (List.mem_of_mem_take hx))
        obtain ⟨d, hdd⟩ : ∃ d, d = mxL (ds.take k) := ⟨_, rfl⟩
        rw [← hdd] at hmt d0 d1 ⊢
        obtain ⟨mx, hmx⟩ : ∃ mx, mx = max d u := ⟨_, rfl⟩
        have hif : (if d < u then u else d) = mx := by split <;> omega
        obtain ⟨b6, o6, rfl, hb6', z6⟩ := ((HB2.out _ H7.out.2).2.2).int HK.out hu
        rw [← hmx] at hmt
        have HM := Lib.hid hmt
        clear hl hb5 hu hd hmt hmx hdd hb6' hdep hLL hLn hrs hlit hds hdl hdb hV hR hp
        go_wp2_with fail
        go_roundw
        case rel => exact ⟨k + 1, by omega, by go_num, by rw [HM.out], HK.out⟩
        case measure => simp [intOf]; omega
      · obtain rfl : k = R := by omega
        go_wp2_with fail
        go_ret
        exact ⟨ret_int (by rw [HE.out.2.2.2.1, List.take_of_length_le (by rw [HE.out.2.2.2.2.2.2.2.2.2.1]; exact Nat.le_refl _)]), (HB2.out _ (H7.out.2.trans (HK.out.mono H7.out.2.size))).2.1⟩

end Go.Proofs.Ytjecchljhdfjdaa
