import Derived.Test.YtaboipnigeaopaaZZ45RG
import Derived.Test.YtaboipnigeaopaaZZ45OH
import Derived.Test.YtaboipnigeaopaaZZ45EL
namespace Go.Proofs.Ytaboipnigeaopaa
set_option linter.unusedVariables false
set_option linter.unusedSimpArgs false
open Go.RowKit

/-! Part of the proof of one law. -/

set_option maxRecDepth 100000 in
set_option maxHeartbeats 3200000 in
theorem SameInterface_s (u v : Value) (a b : Cir) (w : World) (ha : CirV w u a) (hb : CirV w v b) :
    Calls Try.prog 25 #[u, v] w fun e w' => e = .returned (.bool (sifB a b)) ∧ Below w.heap.size w w' := by
  have HG := Lib.hid (And.intro ha hb)
  obtain ⟨sn, cn, sg, cg, so, co, rfl, -, -, -, ka1, ka2, ka3⟩ := ha
  obtain ⟨tn, dn, tg, dg, to_, do_, rfl, -, -, -, kb1, kb2, kb3⟩ := hb
  obtain ⟨W0, hW0⟩ : ∃ W0, W0 = ((w.alloc (.cells #[.int .i64 a.inp, .slice sn a.next.length cn, .slice sg a.gates.length cg, .slice so a.outs.length co] 26)).alloc (.cells #[.int .i64 b.inp, .slice tn b.next.length dn, .slice tg b.gates.length dg, .slice to_ b.outs.length do_] 26)) := ⟨_, rfl⟩
  obtain ⟨A, hA⟩ : ∃ A, A = w.heap.size := ⟨_, rfl⟩
  have z1 : W0.heap.size = A + 2 := by rw [hW0, hA]; simp
  have z2 : W0.heap[A]? = some (.cells #[.int .i64 a.inp, .slice sn a.next.length cn, .slice sg a.gates.length cg, .slice so a.outs.length co] 26 (0, 0)) := by rw [hW0, hA]; exact blk_old (blk_new w _)
  have z3 : W0.heap[A + 1]? = some (.cells #[.int .i64 b.inp, .slice tn b.next.length dn, .slice tg b.gates.length dg, .slice to_ b.outs.length do_] 26 (0, 0)) := by rw [hW0, hA]; exact blk_at (by simp)
  have z4 : Below w.heap.size w W0 := by rw [hW0]; go_grown
  have HW := Lib.hid (And.intro hW0 (And.intro hA z1))
  have HB : Hid (∀ W, Below W0.heap.size W0 W → W.heap[A]? = some (.cells #[.int .i64 a.inp, .slice sn a.next.length cn, .slice sg a.gates.length cg, .slice so a.outs.length co] 26 (0, 0)) ∧ W.heap[A + 1]? = some (.cells #[.int .i64 b.inp, .slice tn b.next.length dn, .slice tg b.gates.length dg, .slice to_ b.outs.length do_] 26 (0, 0)) ∧ CirV W (.agg #[.int .i64 a.inp, .slice sn a.next.length cn, .slice sg a.gates.length cg, .slice so a.outs.length co]) a ∧ CirV W (.agg #[.int .i64 b.inp, .slice tn b.next.length dn, .slice tg b.gates.length dg, .slice to_ b.outs.length do_]) b ∧ Below w.heap.size w W) := fun W hW => ⟨blk_below hW (by omega) z2, blk_below hW (by omega) z3, HG.out.1.mono (z4.trans (hW.mono z4.size)), HG.out.2.mono (z4.trans (hW.mono z4.size)), z4.trans (hW.mono z4.size)⟩
  clear hW0 hA z1 z2 z3 z4
  cases h1 : a.validB
  · have hs : sifB a b = false := by simp [sifB, h1]
    rw [hs]
    have HV := Lib.hid h1
    clear h1 hs
    go_enter Try.func25, Try.ntmps25
    go_upto_region 1 with fail
    rw [← HW.out.1]
    try rw [← HW.out.2.1]
    have ca := (blk_all (HB.out _ (Below.refl _ _)).1).1
    have cb := (blk_all (HB.out _ (Below.refl _ _)).2.1).1
    go_wp2_with (go_at_call 17; ((with_reducible refine (CircuitValid_s _ a _ (HB.out _ (Below.refl _ _)).2.2.1).mono ?_); rintro e w1 ⟨rfl, hq⟩; rw [HV.out]; have H1 := Lib.hid hq; clear hq ca cb; have ca := (blk_all (HB.out _ H1.out).1).1; have cb := (blk_all (HB.out _ H1.out).2.1).1))
    go_ret
    exact ⟨rfl, (HB.out _ H1.out).2.2.2.2⟩
  · cases h2 : b.validB
    · have hs : sifB a b = false := by simp [sifB, h2]
      rw [hs]
      have HV := Lib.hid (And.intro h1 h2)
      clear h1 h2 hs
      go_enter Try.func25, Try.ntmps25
      go_upto_region 1 with fail
      rw [← HW.out.1]
      try rw [← HW.out.2.1]
      have ca := (blk_all (HB.out _ (Below.refl _ _)).1).1
      have cb := (blk_all (HB.out _ (Below.refl _ _)).2.1).1
      go_wp2_with (first | (go_at_call 17; ((with_reducible refine (CircuitValid_s _ a _ (HB.out _ (Below.refl _ _)).2.2.1).mono ?_); rintro e w1 ⟨rfl, hq⟩; rw [HV.out.1]; have H1 := Lib.hid hq; clear hq ca cb; have ca := (blk_all (HB.out _ H1.out).1).1; have cb := (blk_all (HB.out _ H1.out).2.1).1)) | (go_at_call 17; ((with_reducible refine (CircuitValid_s _ b _ (HB.out _ H1.out).2.2.2.1).mono ?_); rintro e w2 ⟨rfl, hq⟩; rw [HV.out.2]; have H2 := Lib.hid (H1.out.trans (hq.mono H1.out.size)); clear hq ca cb; have ca := (blk_all (HB.out _ H2.out).1).1; have cb := (blk_all (HB.out _ H2.out).2.1).1)))
      go_ret
      exact ⟨rfl, (HB.out _ H2.out).2.2.2.2⟩
    · obtain ⟨R, hR⟩ : ∃ R, R = sifB a b := ⟨_, rfl⟩
      have hs : R = (decide (a.inp = b.inp) && (decide (a.next.length = b.next.length) && decide (a.outs.length = b.outs.length))) := by rw [hR]; simp [sifB, h1, h2]
      rw [← hR]
      have HV := Lib.hid (And.intro h1 h2)
      have HS := Lib.hid hs
      clear h1 h2 hs hR
      by_cases e1 : a.inp = b.inp
      · by_cases e2 : a.next.length = b.next.length
        · by_cases e3 : a.outs.length = b.outs.length
          · have q1 : (a.inp == b.inp) = true := by simpa using e1
            have q2 : ((a.next.length : Int) == (b.next.length : Int)) = true := beq_iff_eq.2 (by omega)
            have q3 : ((a.outs.length : Int) == (b.outs.length : Int)) = true := beq_iff_eq.2 (by omega)
            have HE : Hid (R = true) := by show _ = _; rw [HS.out]; simp [e1, e2, e3]
            clear e1 e2 e3
            go_enter Try.func25, Try.ntmps25
            go_upto_region 1 with fail
            rw [← HW.out.1]
            try rw [← HW.out.2.1]
            have ca := (blk_all (HB.out _ (Below.refl _ _)).1).1
            have cb := (blk_all (HB.out _ (Below.refl _ _)).2.1).1
            go_wp2_with (first | (go_at_call 17; ((with_reducible refine (CircuitValid_s _ a _ (HB.out _ (Below.refl _ _)).2.2.1).mono ?_); rintro e w1 ⟨rfl, hq⟩; rw [HV.out.1]; have H1 := Lib.hid hq; clear hq ca cb; have ca := (blk_all (HB.out _ H1.out).1).1; have cb := (blk_all (HB.out _ H1.out).2.1).1)) | (go_at_call 17; ((with_reducible refine (CircuitValid_s _ b _ (HB.out _ H1.out).2.2.2.1).mono ?_); rintro e w2 ⟨rfl, hq⟩; rw [HV.out.2]; have H2 := Lib.hid (H1.out.trans (hq.mono H1.out.size)); clear hq ca cb; have ca := (blk_all (HB.out _ H2.out).1).1; have cb := (blk_all (HB.out _ H2.out).2.1).1)))
            go_ret
            exact ⟨ret_bool HE.out.symm, (HB.out _ H2.out).2.2.2.2⟩
          · have q1 : (a.inp == b.inp) = true := by simpa using e1
            have q2 : ((a.next.length : Int) == (b.next.length : Int)) = true := beq_iff_eq.2 (by omega)
            have q3 : ((a.outs.length : Int) == (b.outs.length : Int)) = false := beq_eq_false_iff_ne.2 (by omega)
            have HE : Hid (R = false) := by show _ = _; rw [HS.out]; simp [e1, e2, e3]
            clear e1 e2 e3
            go_enter Try.func25, Try.ntmps25
            go_upto_region 1 with fail
            rw [← HW.out.1]
            try rw [← HW.out.2.1]
            have ca := (blk_all (HB.out _ (Below.refl _ _)).1).1
            have cb := (blk_all (HB.out _ (Below.refl _ _)).2.1).1
            go_wp2_with (first | (go_at_call 17; ((with_reducible refine (CircuitValid_s _ a _ (HB.out _ (Below.refl _ _)).2.2.1).mono ?_); rintro e w1 ⟨rfl, hq⟩; rw [HV.out.1]; have H1 := Lib.hid hq; clear hq ca cb; have ca := (blk_all (HB.out _ H1.out).1).1; have cb := (blk_all (HB.out _ H1.out).2.1).1)) | (go_at_call 17; ((with_reducible refine (CircuitValid_s _ b _ (HB.out _ H1.out).2.2.2.1).mono ?_); rintro e w2 ⟨rfl, hq⟩; rw [HV.out.2]; have H2 := Lib.hid (H1.out.trans (hq.mono H1.out.size)); clear hq ca cb; have ca := (blk_all (HB.out _ H2.out).1).1; have cb := (blk_all (HB.out _ H2.out).2.1).1)))
            go_ret
            exact ⟨ret_bool HE.out.symm, (HB.out _ H2.out).2.2.2.2⟩
        · have q1 : (a.inp == b.inp) = true := by simpa using e1
          have q2 : ((a.next.length : Int) == (b.next.length : Int)) = false := beq_eq_false_iff_ne.2 (by omega)
          have HE : Hid (R = false) := by show _ = _; rw [HS.out]; simp [e1, e2]
          clear e1 e2
          go_enter Try.func25, Try.ntmps25
          go_upto_region 1 with fail
          rw [← HW.out.1]
          try rw [← HW.out.2.1]
          have ca := (blk_all (HB.out _ (Below.refl _ _)).1).1
          have cb := (blk_all (HB.out _ (Below.refl _ _)).2.1).1
          go_wp2_with (first | (go_at_call 17; ((with_reducible refine (CircuitValid_s _ a _ (HB.out _ (Below.refl _ _)).2.2.1).mono ?_); rintro e w1 ⟨rfl, hq⟩; rw [HV.out.1]; have H1 := Lib.hid hq; clear hq ca cb; have ca := (blk_all (HB.out _ H1.out).1).1; have cb := (blk_all (HB.out _ H1.out).2.1).1)) | (go_at_call 17; ((with_reducible refine (CircuitValid_s _ b _ (HB.out _ H1.out).2.2.2.1).mono ?_); rintro e w2 ⟨rfl, hq⟩; rw [HV.out.2]; have H2 := Lib.hid (H1.out.trans (hq.mono H1.out.size)); clear hq ca cb; have ca := (blk_all (HB.out _ H2.out).1).1; have cb := (blk_all (HB.out _ H2.out).2.1).1)))
          go_ret
          exact ⟨ret_bool HE.out.symm, (HB.out _ H2.out).2.2.2.2⟩
      · have q1 : (a.inp == b.inp) = false := by simpa using e1
        have HE : Hid (R = false) := by show _ = _; rw [HS.out]; simp [e1]
        clear e1
        go_enter Try.func25, Try.ntmps25
        go_upto_region 1 with fail
        rw [← HW.out.1]
        try rw [← HW.out.2.1]
        have ca := (blk_all (HB.out _ (Below.refl _ _)).1).1
        have cb := (blk_all (HB.out _ (Below.refl _ _)).2.1).1
        go_wp2_with (first | (go_at_call 17; ((with_reducible refine (CircuitValid_s _ a _ (HB.out _ (Below.refl _ _)).2.2.1).mono ?_); rintro e w1 ⟨rfl, hq⟩; rw [HV.out.1]; have H1 := Lib.hid hq; clear hq ca cb; have ca := (blk_all (HB.out _ H1.out).1).1; have cb := (blk_all (HB.out _ H1.out).2.1).1)) | (go_at_call 17; ((with_reducible refine (CircuitValid_s _ b _ (HB.out _ H1.out).2.2.2.1).mono ?_); rintro e w2 ⟨rfl, hq⟩; rw [HV.out.2]; have H2 := Lib.hid (H1.out.trans (hq.mono H1.out.size)); clear hq ca cb; have ca := (blk_all (HB.out _ H2.out).1).1; have cb := (blk_all (HB.out _ H2.out).2.1).1)))
        go_ret
        exact ⟨ret_bool HE.out.symm, (HB.out _ H2.out).2.2.2.2⟩

set_option maxRecDepth 100000 in
set_option maxHeartbeats 3200000 in
theorem FindDifference_s (u v : Value) (a b : Cir) (w : World) (ha : CirV w u a) (hb : CirV w v b) :
    Calls Try.prog 56 #[u, v] w (FdPost (sifB a b && !(List.range (asgN a)).all (resEq a b)) w) := by
  have HG := Lib.hid (And.intro ha hb)
  obtain ⟨sn, cn, sg, cg, so, co, rfl, -, -, -, ka1, ka2, ka3⟩ := ha
  obtain ⟨tn, dn, tg, dg, to_, do_, rfl, -, -, -, kb1, kb2, kb3⟩ := hb
  obtain ⟨W0, hW0⟩ : ∃ W0, W0 = (((w.alloc (.cells #[.int .i64 a.inp, .slice sn a.next.length cn, .slice sg a.gates.length cg, .slice so a.outs.length co] 26)).alloc (.cells #[.int .i64 b.inp, .slice tn b.next.length dn, .slice tg b.gates.length dg, .slice to_ b.outs.length do_] 26)).alloc (.cells #[.bool false, .slice none 0 0, .slice none 0 0] 82)) := ⟨_, rfl⟩
  obtain ⟨A, hA⟩ : ∃ A, A = w.heap.size := ⟨_, rfl⟩
  have z1 : W0.heap.size = A + 3 := by rw [hW0, hA]; simp
  have z2 : W0.heap[A]? = some (.cells #[.int .i64 a.inp, .slice sn a.next.length cn, .slice sg a.gates.length cg, .slice so a.outs.length co] 26 (0, 0)) := by rw [hW0, hA]; exact blk_old (blk_old (blk_new w _))
  have z3 : W0.heap[A + 1]? = some (.cells #[.int .i64 b.inp, .slice tn b.next.length dn, .slice tg b.gates.length dg, .slice to_ b.outs.length do_] 26 (0, 0)) := by rw [hW0, hA]; exact blk_old (blk_at (by simp))
  have z5 : W0.heap[A + 2]? = some (.cells #[.bool false, .slice none 0 0, .slice none 0 0] 82 (0, 0)) := by rw [hW0, hA]; exact blk_at (by simp)
  have z4 : Below w.heap.size w W0 := by rw [hW0]; go_grown
  have HW := Lib.hid (And.intro hW0 (And.intro hA z1))
  have HB : Hid (∀ W, Below W0.heap.size W0 W → W.heap[A]? = some (.cells #[.int .i64 a.inp, .slice sn a.next.length cn, .slice sg a.gates.length cg, .slice so a.outs.length co] 26 (0, 0)) ∧ W.heap[A + 1]? = some (.cells #[.int .i64 b.inp, .slice tn b.next.length dn, .slice tg b.gates.length dg, .slice to_ b.outs.length do_] 26 (0, 0)) ∧ CirV W (.agg #[.int .i64 a.inp, .slice sn a.next.length cn, .slice sg a.gates.length cg, .slice so a.outs.length co]) a ∧ CirV W (.agg #[.int .i64 b.inp, .slice tn b.next.length dn, .slice tg b.gates.length dg, .slice to_ b.outs.length do_]) b ∧ Below w.heap.size w W) := fun W hW => ⟨blk_below hW (by omega) z2, blk_below hW (by omega) z3, HG.out.1.mono (z4.trans (hW.mono z4.size)), HG.out.2.mono (z4.trans (hW.mono z4.size)), z4.trans (hW.mono z4.size)⟩
  have HRC : Hid (∀ W, Below W0.heap.size W0 W → W.heap[A + 2]? = some (.cells #[.bool false, .slice none 0 0, .slice none 0 0] 82 (0, 0))) := fun W hW => blk_below hW (by omega) z5
  clear hW0 hA z1 z2 z3 z4 z5
  cases hs : sifB a b
  · have HS := Lib.hid hs
    clear hs
    go_enter Try.func56, Try.ntmps56
    go_upto_region 1 with fail
    rw [← HW.out.1]
    try rw [← HW.out.2.1]
    have ca := (blk_all (HB.out _ (Below.refl _ _)).1).1
    have cb := (blk_all (HB.out _ (Below.refl _ _)).2.1).1
    go_wp2_with (go_at_call 25; ((with_reducible refine (SameInterface_s _ _ a b _ (HB.out _ (Below.refl _ _)).2.2.1 (HB.out _ (Below.refl _ _)).2.2.2.1).mono ?_); rintro e w1 ⟨rfl, hq⟩; rw [HS.out]; have H1 := Lib.hid hq; clear hq ca cb; obtain ⟨rc, rf⟩ := blk_all (HRC.out _ H1.out)))
    clear rc rf
    have hZ : (((w1.setCell ⟨A + 2, 0, none⟩ (.bool false)).setCell ⟨A + 2, 1, none⟩ (.slice none 0 0)).setCell ⟨A + 2, 2, none⟩ (.slice none 0 0)).heap[A + 2]? = some (.cells #[.bool false, .slice none 0 0, .slice none 0 0] 82 (0, 0)) := by
      simpa using blk_set (o := 2) (v := .slice none 0 0) (blk_set (o := 1) (v := .slice none 0 0) (blk_set (o := 0) (v := .bool false) (HRC.out _ H1.out)))
    have hA2 := HW.out.2.1
    have hbz := (((HB.out _ H1.out).2.2.2.2.setCell (p := ⟨A + 2, 0, none⟩) (by simp; omega) (.bool false)).setCell (p := ⟨A + 2, 1, none⟩) (by simp; omega) (.slice none 0 0)).setCell (p := ⟨A + 2, 2, none⟩) (by simp; omega) (.slice none 0 0)
    revert hZ hbz
    generalize (((w1.setCell ⟨A + 2, 0, none⟩ (.bool false)).setCell ⟨A + 2, 1, none⟩ (.slice none 0 0)).setCell ⟨A + 2, 2, none⟩ (.slice none 0 0)) = WZ
    intro hZ hbz
    have cr := (blk_all hZ).1
    exact bodyPost_ret (v := .agg #[.bool false, .slice none 0 0, .slice none 0 0]) (by simp [results, Try.results56, go_sem, cr]) rfl ⟨_, _, rfl, hbz⟩
  · obtain ⟨va, vb, s1, s2, s3⟩ := sifB_iff.1 hs
    have hva := a.validB_iff.1 va
    have hvb := b.validB_iff.1 vb
    obtain ⟨i0, i1, l1, l2, l3⟩ := id hva.lim
    obtain ⟨n1, n2⟩ := asgN_le hva
    obtain ⟨ni, hni⟩ : ∃ ni : Nat, a.inp = ni := ⟨a.inp.toNat, by omega⟩
    obtain ⟨N, hN⟩ : ∃ N, N = asgN a := ⟨_, rfl⟩
    have n4 : ni ≤ 4 := by omega
    have hn32 : a.next.length ≤ 3 := l1
    have ho3 : a.outs.length ≤ 3 := l3
    have hsh : (2 : Int) ^ (ni + a.next.length) = (N : Int) := by rw [hN]; unfold asgN; rw [hni]; simp
    have hwp : wrap64 (2 ^ (ni + a.next.length)) = (N : Int) := by rw [wrap_pow (by omega)]; exact hsh
    have hto : ((ni : Int) + (a.next.length : Int)).toNat = ni + a.next.length := by omega
    rw [← s1, ← s2, ← s3, hni] at HW HB
    rw [← s1, ← s2, ← s3, hni]
    have HH : Hid (sifB a b = true ∧ a.inp = ni ∧ b.inp = ni ∧ a.next.length = b.next.length ∧ a.outs.length = b.outs.length) := ⟨hs, hni, by rw [← s1]; exact hni, s2, s3⟩
    have HVV := Lib.hid (And.intro hva hvb)
    rw [← hN] at n2 ⊢
    have HNN := Lib.hid hN
    clear va vb s1 s2 s3 hva hvb hni hN n1 l1 l2 l3 hs hsh i0 i1 HG
    obtain ⟨R, hR⟩ : ∃ R, R = (List.range N).all (resEq a b) := ⟨_, rfl⟩
    rw [← hR, Bool.true_and]
    have HR := Lib.hid hR
    clear hR
    go_enter Try.func56, Try.ntmps56
    go_upto_region 1 with fail
    rw [← HW.out.1]
    try rw [← HW.out.2.1]
    have ca := (blk_all (HB.out _ (Below.refl _ _)).1).1
    have cb := (blk_all (HB.out _ (Below.refl _ _)).2.1).1
    go_upto_region 5 with (go_at_call 25; ((with_reducible refine (SameInterface_s _ _ a b _ (HB.out _ (Below.refl _ _)).2.2.1 (HB.out _ (Below.refl _ _)).2.2.2.1).mono ?_); rintro e w1 ⟨rfl, hq⟩; rw [HH.out.1]; have H1 := Lib.hid hq; clear hq ca cb; have ca := (blk_all (HB.out _ H1.out).1).1))
    clear ca
    go_loopw [6] (fun i wr => ∃ k : Nat, k ≤ N ∧ i = .int .i64 k ∧ (∀ j, j < k → resEq a b j = true) ∧ Below W0.heap.size W0 wr) (fun i _ => N - (intOf i).toNat)
    case atStart => exact ⟨0, Nat.zero_le _, rfl, fun j hj => by omega, H1.out⟩
    case round =>
      obtain ⟨k, hk, rfl, hall, hb⟩ := hrel
      have HK := Lib.hid (And.intro hall hb)
      clear hall hb
      by_cases hlt : k < N
      · have hkpw : (1 : Int) ≤ 2 ^ ni := by have : (0 : Int) < 2 ^ ni := Int.pow_pos (by decide); omega
        have d0 : 0 ≤ (k : Int) / 2 ^ ni := Int.ediv_nonneg (by omega) (by omega)
        have d1 : (k : Int) / 2 ^ ni ≤ 1000000 := Int.le_trans (Int.ediv_le_self _ (by omega)) (by omega)
        obtain ⟨S, hS⟩ : ∃ S, S = bitsV ((k : Int) / 2 ^ ni) a.next.length := ⟨_, rfl⟩
        obtain ⟨I, hI⟩ : ∃ I, I = bitsV (k : Int) ni := ⟨_, rfl⟩
        obtain ⟨pO, hpO⟩ : ∃ pO, pO = a.outs.map (litB (evalV a k (-1) false)) := ⟨_, rfl⟩
        obtain ⟨pS, hpS⟩ : ∃ pS, pS = a.next.map (litB (evalV a k (-1) false)) := ⟨_, rfl⟩
        obtain ⟨qO, hqO⟩ : ∃ qO, qO = b.outs.map (litB (evalV b k (-1) false)) := ⟨_, rfl⟩
        obtain ⟨qS, hqS⟩ : ∃ qS, qS = b.next.map (litB (evalV b k (-1) false)) := ⟨_, rfl⟩
        have hres : resEq a b k = (decide (pS = qS) && decide (pO = qO)) := by
          rw [hpO, hpS, hqO, hqS]
          unfold resEq resV
          rw [Bool.eq_iff_iff]
          simp only [decide_eq_true_eq, Bool.and_eq_true, List.map_append]
          constructor
          · intro h
            exact List.append_inj h (by simp [HH.out.2.2.2.1])
          · intro h
            rw [h.1, h.2]
        have hA1 : valsV (-1) false (false :: (I ++ S)) a.gates = evalV a k (-1) false := by rw [hI, hS]; exact evalV_asg a k ni HH.out.2.1
        have hB1 : valsV (-1) false (false :: (I ++ S)) b.gates = evalV b k (-1) false := by rw [hI, hS, HH.out.2.2.2.1]; exact evalV_asg b k ni HH.out.2.2.1
        have hSl : S.length = a.next.length := by rw [hS]; exact bitsV_length _ _
        have hIl : I.length = ni := by rw [hI]; exact bitsV_length _ _
        have HPA : Hid (∀ (W : World) (ss si : Option Addr) (cs ci : Nat), Below W0.heap.size W0 W → Sl W ss (bools S) → Sl W si (bools I) → Calls Try.prog 73 #[.agg #[.int .i64 ni, .slice sn a.next.length cn, .slice sg a.gates.length cg, .slice so a.outs.length co], .slice ss a.next.length cs, .slice si ni ci] W fun e w' => ∃ s1 c1 s2 c2, e = .returned (.agg #[.slice s1 a.outs.length c1, .slice s2 a.next.length c2]) ∧ Sl w' s1 (bools pO) ∧ Sl w' s2 (bools pS) ∧ Below W.heap.size W w') := fun W ss si cs ci hW h1 h2 => by
          have h := l2Step_any _ a ss si cs ci S I W (HB.out _ hW).2.2.1 HVV.out.1 h1 h2 hSl ni hIl HH.out.2.1
          rw [hA1, ← hpO, ← hpS] at h
          exact h
        have HPB : Hid (∀ (W : World) (ss si : Option Addr) (cs ci : Nat), Below W0.heap.size W0 W → Sl W ss (bools S) → Sl W si (bools I) → Calls Try.prog 73 #[.agg #[.int .i64 ni, .slice tn a.next.length dn, .slice tg b.gates.length dg, .slice to_ a.outs.length do_], .slice ss a.next.length cs, .slice si ni ci] W fun e w' => ∃ s1 c1 s2 c2, e = .returned (.agg #[.slice s1 a.outs.length c1, .slice s2 a.next.length c2]) ∧ Sl w' s1 (bools qO) ∧ Sl w' s2 (bools qS) ∧ Below W.heap.size W w') := fun W ss si cs ci hW h1 h2 => by
          have h := l2Step_any _ b ss si cs ci S I W (HB.out _ hW).2.2.2.1 HVV.out.2 h1 h2 (by rw [hSl]; exact HH.out.2.2.2.1) ni hIl HH.out.2.2.1
          rw [hB1, ← hqO, ← hqS, ← HH.out.2.2.2.1, ← HH.out.2.2.2.2] at h
          exact h
        have HP : Hid (pO.length = a.outs.length ∧ pS.length = a.next.length ∧ qO.length = a.outs.length ∧ qS.length = a.next.length) := ⟨by rw [hpO]; simp, by rw [hpS]; simp, by rw [hqO]; simp [HH.out.2.2.2.2], by rw [hqS]; simp [HH.out.2.2.2.1]⟩
        have HSI := Lib.hid (And.intro hS hI)
        have HRES := Lib.hid hres
        clear hS hI hpO hpS hqO hqS hres hA1 hB1 hSl hIl hkpw
        have ca := (blk_all (HB.out _ HK.out.2).1).1
        go_upto_region 8 with (go_at_call 74; ((with_reducible refine (l4Bits_any (k : Int) ni _ (by omega) (by omega) (by omega)).mono ?_); rintro e w2 ⟨si, ci, rfl, h2, hq⟩; rw [← HSI.out.2] at h2; have H2 := Lib.hid (And.intro h2 (HK.out.2.trans (hq.mono HK.out.2.size))); clear h2 hq ca))
        refine wp_region_T (fun w' => ∀ o, w'.cell? ⟨A, o, none⟩ = #[Value.int .i64 ni, .slice sn a.next.length cn, .slice sg a.gates.length cg, .slice so a.outs.length co][o]?) (.q 0 (.q 1 (.q 2 (.q 3 (.q 4 (.q 5 (.q 6 (.e 7 (.q 8 .nil))))))))) (by kernel_rfl) (by kernel_rfl) (by kernel_rfl) (blk_all (HB.out _ (H2.out.2.trans ((Below.refl _ _).drew.mono H2.out.2.size))).1).1 ?_
        have hd := (Below.refl w2.heap.size w2).drew
        revert hd
        generalize w2.drew = Wd
        intro hd
        have H2 := Lib.hid (And.intro (H2.out.1.mono hd) (H2.out.2.trans (hd.mono H2.out.2.size)))
        clear hd
        have ca := (blk_all (HB.out _ H2.out.2).1).1
        repeat (first | (refine ordt_s (o := ?_) ?_ ?_ ?_; rotate_left 1; (focus ((simp only [zD, zE, zF]) <;> rfl)); (focus rfl); simp only [Act.put, zA, zB, zC]) | (refine ordt_q (o := ?_) (v := ?_) ?_ ?_ ?_ ?_; rotate_left 2; (focus ((simp only [zD, zE, zF]) <;> rfl)); (focus rfl); (focus (intro w' hS; (try dsimp only at hS); go_split_ands; go_simp; (try (with_reducible rfl)))); simp only [Act.put, zA, zB, zC]))
        refine ordt_e ?_
        (refine op_e (o := ?_) ?_ ?_ (fun K hK => ?_); rotate_left 1; (focus ((simp only [zD, zE, zF]) <;> rfl)); (focus rfl); go_simp)
        refine (l4Bits_any _ _ _ d0 d1 (by omega)).mono ?_
        rintro e w3 ⟨ss, cs, rfl, h3, hq⟩
        rw [← HSI.out.1] at h3
        have H3 := Lib.hid (And.intro h3 (And.intro (H2.out.1.mono hq) (H2.out.2.trans (hq.mono H2.out.2.size))))
        clear h3 hq ca
        have ca := (blk_all (HB.out _ H3.out.2.2).1).1
        refine hK.out _ _ ca ?_
        clear hK K
        (try simp only [Act.put, zA, zB, zC])
        repeat (first | (refine ordt_s (o := ?_) ?_ ?_ ?_; rotate_left 1; (focus ((simp only [zD, zE, zF]) <;> rfl)); (focus rfl); simp only [Act.put, zA, zB, zC]) | (refine ordt_q (o := ?_) (v := ?_) ?_ ?_ ?_ ?_; rotate_left 2; (focus ((simp only [zD, zE, zF]) <;> rfl)); (focus rfl); (focus (intro w' hS; (try dsimp only at hS); go_split_ands; go_simp; (try (with_reducible rfl)))); simp only [Act.put, zA, zB, zC]))
        refine ordt_nil ?_
        go_upto_region 10 with (go_at_call 73; ((with_reducible refine (HPA.out _ ss si cs ci H3.out.2.2 H3.out.1 H3.out.2.1).mono ?_); rintro e w5 ⟨s1, c1, s2, c2, rfl, h1, h2, hq⟩; have H5 := Lib.hid (And.intro (And.intro h1 h2) hq); clear h1 h2 hq ca))
        obtain ⟨X, hX⟩ : ∃ X, X = w5.heap.size := ⟨_, rfl⟩
        obtain ⟨W5, hW5⟩ : ∃ W5, W5 = w5.alloc (.cells #[.slice s1 a.outs.length c1, .slice s2 a.next.length c2] 36) := ⟨_, rfl⟩
        have b5 : Below w5.heap.size w5 W5 := by rw [hW5]; go_grown
        have x5 : W5.heap[X]? = some (.cells #[.slice s1 a.outs.length c1, .slice s2 a.next.length c2] 36 (0, 0)) := by rw [hW5, hX]; exact blk_new _ _
        have b35 := H5.out.2.trans (b5.mono H5.out.2.size)
        have HX : Hid (∀ W, Below W5.heap.size W5 W → ((∀ o, W.cell? ⟨X, o, none⟩ = #[Value.slice s1 a.outs.length c1, .slice s2 a.next.length c2][o]?) ∧ Sl W s1 (bools pO) ∧ Sl W s2 (bools pS)) ∧ (Sl W ss (bools S) ∧ Sl W si (bools I)) ∧ Below W0.heap.size W0 W) := fun W hW => by
          have hb := b5.trans (hW.mono b5.size)
          have hb2 := b35.trans (hW.mono b35.size)
          exact ⟨⟨(blk_all (blk_below hW (blk_lt x5) x5)).1, H5.out.1.1.mono hb, H5.out.1.2.mono hb⟩, ⟨H3.out.1.mono hb2, H3.out.2.1.mono hb2⟩, H3.out.2.2.trans (hb2.mono H3.out.2.2.size)⟩
        rw [← hW5, ← hX]
        clear hW5 hX b5 x5 b35 H5
        have cb := (blk_all (HB.out _ (HX.out _ (Below.refl _ _)).2.2).2.1).1
        go_upto_region 11 with (go_at_call 73; ((with_reducible refine (HPB.out _ ss si cs ci (HX.out _ (Below.refl _ _)).2.2 (HX.out _ (Below.refl _ _)).2.1.1 (HX.out _ (Below.refl _ _)).2.1.2).mono ?_); rintro e w6 ⟨s3, c3, s4, c4, rfl, h1, h2, hq⟩; have H6 := Lib.hid (And.intro (And.intro h1 h2) hq); clear h1 h2 hq cb))
        obtain ⟨Y, hY⟩ : ∃ Y, Y = w6.heap.size := ⟨_, rfl⟩
        obtain ⟨W6, hW6⟩ : ∃ W6, W6 = w6.alloc (.cells #[.slice s3 a.outs.length c3, .slice s4 a.next.length c4] 36) := ⟨_, rfl⟩
        have b6 : Below w6.heap.size w6 W6 := by rw [hW6]; go_grown
        have x6 : W6.heap[Y]? = some (.cells #[.slice s3 a.outs.length c3, .slice s4 a.next.length c4] 36 (0, 0)) := by rw [hW6, hY]; exact blk_new _ _
        have HY : Hid (∀ W, Below W6.heap.size W6 W → Below W5.heap.size W5 W ∧ (∀ o, W.cell? ⟨Y, o, none⟩ = #[Value.slice s3 a.outs.length c3, .slice s4 a.next.length c4][o]?) ∧ Sl W s3 (bools qO) ∧ Sl W s4 (bools qS)) := fun W hW => by
          have hb := b6.trans (hW.mono b6.size)
          exact ⟨H6.out.2.trans (hb.mono H6.out.2.size), (blk_all (blk_below hW (blk_lt x6) x6)).1, H6.out.1.1.mono hb, H6.out.1.2.mono hb⟩
        rw [← hW6, ← hY]
        clear hW6 hY b6 x6 H6
        have H7 := Lib.hid (Below.refl W6.heap.size W6)
        have cx := (HX.out _ (HY.out _ H7.out).1).1.1
        have cy := (HY.out _ H7.out).2.1
        cases eO : decide (pO = qO)
        · have HEO := Lib.hid eO
          clear eO
          have HRf : Hid (R = false) := by
            show _ = _
            rw [HR.out]
            simp only [List.all_eq_false]
            exact ⟨k, List.mem_range.2 hlt, by rw [HRES.out, HEO.out]; simp⟩
          go_wp2_with (go_at_call 45; ((with_reducible refine (l4Same_any s1 s3 pO qO a.outs.length _ _ _ (HX.out _ (HY.out _ H7.out).1).1.2.1 (HY.out _ H7.out).2.2.1 HP.out.1 HP.out.2.2.1 (by omega)).mono ?_); rintro e w7 ⟨rfl, hd⟩; rw [HEO.out]; have H7 := Lib.hid (H7.out.trans ((hd.below _).mono H7.out.size)); clear hd cx cy; obtain ⟨rc, rf⟩ := blk_all (HRC.out _ (HX.out _ (HY.out _ H7.out).1).2.2)))
          clear rc rf
          have hZ : (((w7.setCell ⟨A + 2, 0, none⟩ (.bool true)).setCell ⟨A + 2, 1, none⟩ (.slice ss a.next.length cs)).setCell ⟨A + 2, 2, none⟩ (.slice si ni ci)).heap[A + 2]? = some (.cells #[.bool true, .slice ss a.next.length cs, .slice si ni ci] 82 (0, 0)) := by
            simpa using blk_set (o := 2) (v := .slice si ni ci) (blk_set (o := 1) (v := .slice ss a.next.length cs) (blk_set (o := 0) (v := .bool true) (HRC.out _ (HX.out _ (HY.out _ H7.out).1).2.2)))
          have hA2 := HW.out.2.1
          have hbz := (((HB.out _ (HX.out _ (HY.out _ H7.out).1).2.2).2.2.2.2.setCell (p := ⟨A + 2, 0, none⟩) (by simp; omega) (.bool true)).setCell (p := ⟨A + 2, 1, none⟩) (by simp; omega) (.slice ss a.next.length cs)).setCell (p := ⟨A + 2, 2, none⟩) (by simp; omega) (.slice si ni ci)
          revert hZ hbz
          generalize (((w7.setCell ⟨A + 2, 0, none⟩ (.bool true)).setCell ⟨A + 2, 1, none⟩ (.slice ss a.next.length cs)).setCell ⟨A + 2, 2, none⟩ (.slice si ni ci)) = WZ
          intro hZ hbz
          have cr := (blk_all hZ).1
          exact bodyPost_ret (v := .agg #[.bool true, .slice ss a.next.length cs, .slice si ni ci]) (by simp [results, Try.results56, go_sem, cr]) rfl ⟨_, _, fd_ret (by rw [HRf.out]; rfl), hbz⟩
        · have HEO := Lib.hid eO
          clear eO
          cases eS : decide (pS = qS)
          · have HES := Lib.hid eS
            clear eS
            have HRf : Hid (R = false) := by
              show _ = _
              rw [HR.out]
              simp only [List.all_eq_false]
              exact ⟨k, List.mem_range.2 hlt, by rw [HRES.out, HES.out]; simp⟩
            go_wp2_with (first
              | (go_at_call 45; ((with_reducible refine (l4Same_any s1 s3 pO qO a.outs.length _ _ _ (HX.out _ (HY.out _ H7.out).1).1.2.1 (HY.out _ H7.out).2.2.1 HP.out.1 HP.out.2.2.1 (by omega)).mono ?_); rintro e w7 ⟨rfl, hd⟩; rw [HEO.out]; have H7 := Lib.hid (H7.out.trans ((hd.below _).mono H7.out.size)); clear hd cx cy; have cx := (HX.out _ (HY.out _ H7.out).1).1.1; have cy := (HY.out _ H7.out).2.1))
              | (go_at_call 45; ((with_reducible refine (l4Same_any s2 s4 pS qS a.next.length _ _ _ (HX.out _ (HY.out _ H7.out).1).1.2.2 (HY.out _ H7.out).2.2.2 HP.out.2.1 HP.out.2.2.2 (by omega)).mono ?_); rintro e w8 ⟨rfl, hd⟩; rw [HES.out]; have H7 := Lib.hid (H7.out.trans ((hd.below _).mono H7.out.size)); clear hd cx cy; obtain ⟨rc, rf⟩ := blk_all (HRC.out _ (HX.out _ (HY.out _ H7.out).1).2.2))))
            clear rc rf
            have hZ : (((w8.setCell ⟨A + 2, 0, none⟩ (.bool true)).setCell ⟨A + 2, 1, none⟩ (.slice ss a.next.length cs)).setCell ⟨A + 2, 2, none⟩ (.slice si ni ci)).heap[A + 2]? = some (.cells #[.bool true, .slice ss a.next.length cs, .slice si ni ci] 82 (0, 0)) := by
              simpa using blk_set (o := 2) (v := .slice si ni ci) (blk_set (o := 1) (v := .slice ss a.next.length cs) (blk_set (o := 0) (v := .bool true) (HRC.out _ (HX.out _ (HY.out _ H7.out).1).2.2)))
            have hA2 := HW.out.2.1
            have hbz := (((HB.out _ (HX.out _ (HY.out _ H7.out).1).2.2).2.2.2.2.setCell (p := ⟨A + 2, 0, none⟩) (by simp; omega) (.bool true)).setCell (p := ⟨A + 2, 1, none⟩) (by simp; omega) (.slice ss a.next.length cs)).setCell (p := ⟨A + 2, 2, none⟩) (by simp; omega) (.slice si ni ci)
            revert hZ hbz
            generalize (((w8.setCell ⟨A + 2, 0, none⟩ (.bool true)).setCell ⟨A + 2, 1, none⟩ (.slice ss a.next.length cs)).setCell ⟨A + 2, 2, none⟩ (.slice si ni ci)) = WZ
            intro hZ hbz
            have cr := (blk_all hZ).1
            exact bodyPost_ret (v := .agg #[.bool true, .slice ss a.next.length cs, .slice si ni ci]) (by simp [results, Try.results56, go_sem, cr]) rfl ⟨_, _, fd_ret (by rw [HRf.out]; rfl), hbz⟩
          · have HES := Lib.hid eS
            clear eS
            go_wp2_with (first
              | (go_at_call 45; ((with_reducible refine (l4Same_any s1 s3 pO qO a.outs.length _ _ _ (HX.out _ (HY.out _ H7.out).1).1.2.1 (HY.out _ H7.out).2.2.1 HP.out.1 HP.out.2.2.1 (by omega)).mono ?_); rintro e w7 ⟨rfl, hd⟩; rw [HEO.out]; have H7 := Lib.hid (H7.out.trans ((hd.below _).mono H7.out.size)); clear hd cx cy; have cx := (HX.out _ (HY.out _ H7.out).1).1.1; have cy := (HY.out _ H7.out).2.1))
              | (go_at_call 45; ((with_reducible refine (l4Same_any s2 s4 pS qS a.next.length _ _ _ (HX.out _ (HY.out _ H7.out).1).1.2.2 (HY.out _ H7.out).2.2.2 HP.out.2.1 HP.out.2.2.2 (by omega)).mono ?_); rintro e w8 ⟨rfl, hd⟩; rw [HES.out]; have H7 := Lib.hid (H7.out.trans ((hd.below _).mono H7.out.size)); clear hd cx cy)))
            go_roundw
            case rel =>
              refine ⟨k + 1, by omega, by go_num, fun j hj => ?_, (HX.out _ (HY.out _ H7.out).1).2.2⟩
              rcases Nat.lt_or_ge j k with h | h
              · exact HK.out.1 j h
              · obtain rfl : j = k := by omega
                rw [HRES.out, HEO.out, HES.out]; rfl
            case measure => simp [intOf]; omega
      · obtain rfl : k = N := by omega
        have HRt : Hid (R = true) := by
          show _ = _
          rw [HR.out, List.all_eq_true]
          exact fun j hj => HK.out.1 j (List.mem_range.1 hj)
        obtain ⟨rc, rf⟩ := blk_all (HRC.out _ HK.out.2)
        go_wp2_with fail
        clear rc rf
        have hZ : (((wr.setCell ⟨A + 2, 0, none⟩ (.bool false)).setCell ⟨A + 2, 1, none⟩ (.slice none 0 0)).setCell ⟨A + 2, 2, none⟩ (.slice none 0 0)).heap[A + 2]? = some (.cells #[.bool false, .slice none 0 0, .slice none 0 0] 82 (0, 0)) := by
          simpa using blk_set (o := 2) (v := .slice none 0 0) (blk_set (o := 1) (v := .slice none 0 0) (blk_set (o := 0) (v := .bool false) (HRC.out _ HK.out.2)))
        have hA2 := HW.out.2.1
        have hbz := (((HB.out _ HK.out.2).2.2.2.2.setCell (p := ⟨A + 2, 0, none⟩) (by simp; omega) (.bool false)).setCell (p := ⟨A + 2, 1, none⟩) (by simp; omega) (.slice none 0 0)).setCell (p := ⟨A + 2, 2, none⟩) (by simp; omega) (.slice none 0 0)
        revert hZ hbz
        generalize (((wr.setCell ⟨A + 2, 0, none⟩ (.bool false)).setCell ⟨A + 2, 1, none⟩ (.slice none 0 0)).setCell ⟨A + 2, 2, none⟩ (.slice none 0 0)) = WZ
        intro hZ hbz
        have cr := (blk_all hZ).1
        exact bodyPost_ret (v := .agg #[.bool false, .slice none 0 0, .slice none 0 0]) (by simp [results, Try.results56, go_sem, cr]) rfl ⟨_, _, fd_ret (by rw [HRt.out]; rfl), hbz⟩

set_option maxRecDepth 100000 in
set_option maxHeartbeats 1600000 in
theorem Equivalent_s (u v : Value) (a b : Cir) (w : World) (ha : CirV w u a) (hb : CirV w v b) :
    Calls Try.prog 24 #[u, v] w fun e w' => e = .returned (.bool (equivB a b)) ∧ Below w.heap.size w w' := by
  have HG := Lib.hid (And.intro ha hb)
  obtain ⟨sn, cn, sg, cg, so, co, rfl, -, -, -, ka1, ka2, ka3⟩ := ha
  obtain ⟨tn, dn, tg, dg, to_, do_, rfl, -, -, -, kb1, kb2, kb3⟩ := hb
  obtain ⟨W0, hW0⟩ : ∃ W0, W0 = ((w.alloc (.cells #[.int .i64 a.inp, .slice sn a.next.length cn, .slice sg a.gates.length cg, .slice so a.outs.length co] 26)).alloc (.cells #[.int .i64 b.inp, .slice tn b.next.length dn, .slice tg b.gates.length dg, .slice to_ b.outs.length do_] 26)) := ⟨_, rfl⟩
  obtain ⟨A, hA⟩ : ∃ A, A = w.heap.size := ⟨_, rfl⟩
  have z1 : W0.heap.size = A + 2 := by rw [hW0, hA]; simp
  have z2 : W0.heap[A]? = some (.cells #[.int .i64 a.inp, .slice sn a.next.length cn, .slice sg a.gates.length cg, .slice so a.outs.length co] 26 (0, 0)) := by rw [hW0, hA]; exact blk_old (blk_new w _)
  have z3 : W0.heap[A + 1]? = some (.cells #[.int .i64 b.inp, .slice tn b.next.length dn, .slice tg b.gates.length dg, .slice to_ b.outs.length do_] 26 (0, 0)) := by rw [hW0, hA]; exact blk_at (by simp)
  have z4 : Below w.heap.size w W0 := by rw [hW0]; go_grown
  have HW := Lib.hid (And.intro hW0 (And.intro hA z1))
  have HB : Hid (∀ W, Below W0.heap.size W0 W → W.heap[A]? = some (.cells #[.int .i64 a.inp, .slice sn a.next.length cn, .slice sg a.gates.length cg, .slice so a.outs.length co] 26 (0, 0)) ∧ W.heap[A + 1]? = some (.cells #[.int .i64 b.inp, .slice tn b.next.length dn, .slice tg b.gates.length dg, .slice to_ b.outs.length do_] 26 (0, 0)) ∧ CirV W (.agg #[.int .i64 a.inp, .slice sn a.next.length cn, .slice sg a.gates.length cg, .slice so a.outs.length co]) a ∧ CirV W (.agg #[.int .i64 b.inp, .slice tn b.next.length dn, .slice tg b.gates.length dg, .slice to_ b.outs.length do_]) b ∧ Below w.heap.size w W) := fun W hW => ⟨blk_below hW (by omega) z2, blk_below hW (by omega) z3, HG.out.1.mono (z4.trans (hW.mono z4.size)), HG.out.2.mono (z4.trans (hW.mono z4.size)), z4.trans (hW.mono z4.size)⟩
  clear hW0 hA z1 z2 z3 z4
  obtain ⟨R, hR⟩ : ∃ R, R = equivB a b := ⟨_, rfl⟩
  rw [← hR]
  have hfd : ∀ w' (r : Bool) v1 v2, (Instr.field 82 (.agg #[.bool r, v1, v2]) 0).run Try.prog w' = .ok (.bool r) w' := by intro w' r v1 v2; kernel_rfl
  cases hs : sifB a b
  · have HS := Lib.hid hs
    have HE : Hid (R = false) := by show _ = _; rw [hR]; simp [equivB, hs]
    clear hs hR
    go_enter Try.func24, Try.ntmps24
    go_upto_region 1 with fail
    rw [← HW.out.1]
    try rw [← HW.out.2.1]
    have ca := (blk_all (HB.out _ (Below.refl _ _)).1).1
    have cb := (blk_all (HB.out _ (Below.refl _ _)).2.1).1
    go_wp2_with (go_at_call 25; ((with_reducible refine (SameInterface_s _ _ a b _ (HB.out _ (Below.refl _ _)).2.2.1 (HB.out _ (Below.refl _ _)).2.2.2.1).mono ?_); rintro e w1 ⟨rfl, hq⟩; rw [HS.out]; have H1 := Lib.hid hq; clear hq ca cb))
    go_ret
    exact ⟨ret_bool HE.out.symm, (HB.out _ H1.out).2.2.2.2⟩
  · have HS := Lib.hid hs
    obtain ⟨q, hq⟩ : ∃ q, q = (List.range (asgN a)).all (resEq a b) := ⟨_, rfl⟩
    have HE : Hid (R = q) := by show _ = _; rw [hR, hq]; simp [equivB, hs]
    have HQ := Lib.hid hq
    clear hs hR hq
    go_enter Try.func24, Try.ntmps24
    go_upto_region 1 with fail
    rw [← HW.out.1]
    try rw [← HW.out.2.1]
    have ca := (blk_all (HB.out _ (Below.refl _ _)).1).1
    have cb := (blk_all (HB.out _ (Below.refl _ _)).2.1).1
    cases q
    all_goals
      go_wp2_with (first
        | (go_at_call 25; ((with_reducible refine (SameInterface_s _ _ a b _ (HB.out _ (Below.refl _ _)).2.2.1 (HB.out _ (Below.refl _ _)).2.2.2.1).mono ?_); rintro e w1 ⟨rfl, hq⟩; rw [HS.out]; have H1 := Lib.hid hq; clear hq ca cb; have ca := (blk_all (HB.out _ H1.out).1).1; have cb := (blk_all (HB.out _ H1.out).2.1).1))
        | (go_at_call 56; ((with_reducible refine (FindDifference_s _ _ a b _ (HB.out _ H1.out).2.2.1 (HB.out _ H1.out).2.2.2.1).mono ?_); rintro e w2 ⟨v1, v2, rfl, hq⟩; rw [HS.out, ← HQ.out]; have H2 := Lib.hid (H1.out.trans (hq.mono H1.out.size)); clear hq ca cb)))
      go_ret
      exact ⟨ret_bool HE.out.symm, (HB.out _ H2.out).2.2.2.2⟩

end Go.Proofs.Ytaboipnigeaopaa
