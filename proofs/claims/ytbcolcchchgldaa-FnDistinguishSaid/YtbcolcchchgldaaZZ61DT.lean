import Derived.Test.YtbcolcchchgldaaZZ61EN
import Derived.Test.YtbcolcchchgldaaZZ61OH
import Derived.Test.YtbcolcchchgldaaZZ61DL
import Derived.Test.YtbcolcchchgldaaZZ61DJ
namespace Go.Proofs.Ytbcolcchchgldaa
set_option linter.unusedVariables false
set_option linter.unusedSimpArgs false
open Go.RowKit

/-! Part of the proof of one law. -/

def DisOwn (r : Option (List Int)) (ni : Nat) (w : World) (e : Ending) (w' : World) : Prop :=
  ∃ s cap vs, e = .returned (.agg #[.bool r.isSome, .slice s (r.elim [] (rowsX ni)).length cap]) ∧ OwnSB w' w.heap.size (.slice s (r.elim [] (rowsX ni)).length cap) vs (r.elim [] (rowsX ni)) ∧ Below w.heap.size w w'

theorem OwnSB.setlow {w : World} {base r o : Nat} {v u : Value} {vs : List Value} {rows : List (List Bool)} (h : OwnSB w base v vs rows) (hr : r < base) : OwnSB (w.setCell ⟨r, o, none⟩ u) base v vs rows :=
  ⟨own_set_ne h.out (fun e => by have := (own_blk h.out e).1; omega) _, fun i x q e1 e2 => own_set_ne (h.row i x q e1 e2) (fun e => by have := (own_blk (h.row i x q e1 e2) e).1; omega) _, h.inj⟩

set_option maxRecDepth 100000 in
set_option maxHeartbeats 6400000 in
theorem Distinguish_i (u v : Value) (a b : Cir) (w : World) (ha : CirV w u a) (hb : CirV w v b) :
    Calls Try.prog 48 #[u, v] w (DisOwn (disR a b) a.inp.toNat w) := by
  have HG := Lib.hid (And.intro ha hb)
  obtain ⟨sn, cn, sg, cg, so, co, rfl, -, -, -, ka1, ka2, ka3⟩ := ha
  obtain ⟨tn, dn, tg, dg, to_, do_, rfl, -, -, -, kb1, kb2, kb3⟩ := hb
  obtain ⟨W0, hW0⟩ : ∃ W0, W0 = (((w.alloc (.cells #[.int .i64 a.inp, .slice sn a.next.length cn, .slice sg a.gates.length cg, .slice so a.outs.length co] 26)).alloc (.cells #[.int .i64 b.inp, .slice tn b.next.length dn, .slice tg b.gates.length dg, .slice to_ b.outs.length do_] 26)).alloc (.cells #[.bool false, .slice none 0 0] 60)) := ⟨_, rfl⟩
  obtain ⟨A, hA⟩ : ∃ A, A = w.heap.size := ⟨_, rfl⟩
  have z1 : W0.heap.size = A + 3 := by rw [hW0, hA]; simp
  have z2 : W0.heap[A]? = some (.cells #[.int .i64 a.inp, .slice sn a.next.length cn, .slice sg a.gates.length cg, .slice so a.outs.length co] 26 (0, 0)) := by rw [hW0, hA]; exact blk_old (blk_old (blk_new w _))
  have z3 : W0.heap[A + 1]? = some (.cells #[.int .i64 b.inp, .slice tn b.next.length dn, .slice tg b.gates.length dg, .slice to_ b.outs.length do_] 26 (0, 0)) := by rw [hW0, hA]; exact blk_old (blk_at (by simp))
  have z5 : W0.heap[A + 2]? = some (.cells #[.bool false, .slice none 0 0] 60 (0, 0)) := by rw [hW0, hA]; exact blk_at (by simp)
  have z4 : Below w.heap.size w W0 := by rw [hW0]; go_grown
  have HW := Lib.hid (And.intro hW0 (And.intro hA z1))
  have HB : Hid (∀ W, Below (A + 3) W0 W → W.heap[A]? = some (.cells #[.int .i64 a.inp, .slice sn a.next.length cn, .slice sg a.gates.length cg, .slice so a.outs.length co] 26 (0, 0)) ∧ W.heap[A + 1]? = some (.cells #[.int .i64 b.inp, .slice tn b.next.length dn, .slice tg b.gates.length dg, .slice to_ b.outs.length do_] 26 (0, 0)) ∧ CirV W (.agg #[.int .i64 a.inp, .slice sn a.next.length cn, .slice sg a.gates.length cg, .slice so a.outs.length co]) a ∧ CirV W (.agg #[.int .i64 b.inp, .slice tn b.next.length dn, .slice tg b.gates.length dg, .slice to_ b.outs.length do_]) b ∧ Below w.heap.size w W ∧ W.heap[A + 2]? = some (.cells #[.bool false, .slice none 0 0] 60 (0, 0)) ∧ A + 3 ≤ W.heap.size) := fun W hW => ⟨blk_below hW (by omega) z2, blk_below hW (by omega) z3, HG.out.1.mono (z4.trans (hW.mono (by have := z4.size; omega))), HG.out.2.mono (z4.trans (hW.mono (by have := z4.size; omega))), z4.trans (hW.mono (by have := z4.size; omega)), blk_below hW (by omega) z5, by have := hW.size; omega⟩
  clear hW0 hA z1 z2 z3 z4 z5
  cases h1 : a.validB
  · have hs : cmpB a b = false := by simp [cmpB, h1]
    have HE := Lib.hid (disR_no hs)
    have HV := Lib.hid h1
    clear h1 hs
    go_enter Try.func48, Try.ntmps48
    go_upto_region 1 with fail
    rw [← HW.out.1]
    try rw [← HW.out.2.1]
    have ca := (blk_all (HB.out _ (Below.refl _ _)).1).1
    have cb := (blk_all (HB.out _ (Below.refl _ _)).2.1).1
    go_wp2_with (first | (go_at_call 18; ((with_reducible refine (CircuitValid_i _ a _ (HB.out _ (Below.refl _ _)).2.2.1).mono ?_); rintro e w1 ⟨rfl, hq⟩; rw [HV.out]; have H1 : Hid (Below (A + 3) W0 w1) := (by have h := HW.out.2.2; exact hq.mono (by omega)); clear hq ca cb; obtain ⟨rc, rf⟩ := blk_all (HB.out _ H1.out).2.2.2.2.2.1)))
    clear rc rf
    have hZ : ((w1.setCell ⟨A + 2, 0, none⟩ (.bool false)).setCell ⟨A + 2, 1, none⟩ (.slice none 0 0)).heap[A + 2]? = some (.cells #[.bool false, .slice none 0 0] 60 (0, 0)) := by
      simpa using blk_set (o := 1) (v := .slice none 0 0) (blk_set (o := 0) (v := .bool false) (HB.out _ H1.out).2.2.2.2.2.1)
    have hA2 := HW.out.2.1
    have hbz := ((HB.out _ H1.out).2.2.2.2.1.setCell (p := ⟨A + 2, 0, none⟩) (by simp; omega) (.bool false)).setCell (p := ⟨A + 2, 1, none⟩) (by simp; omega) (.slice none 0 0)
    revert hZ hbz
    generalize ((w1.setCell ⟨A + 2, 0, none⟩ (.bool false)).setCell ⟨A + 2, 1, none⟩ (.slice none 0 0)) = WZ
    intro hZ hbz
    have cr := (blk_all hZ).1
    exact bodyPost_ret (v := .agg #[.bool false, .slice none 0 0]) (by simp [results, Try.results48, go_sem, cr]) rfl (by rw [HE.out]; exact ⟨none, 0, [], rfl, OwnSB.nil _ _, hbz⟩)
  · cases h2 : b.validB
    · have hs : cmpB a b = false := by simp [cmpB, h2]
      have HE := Lib.hid (disR_no hs)
      have HV := Lib.hid (And.intro h1 h2)
      clear h1 h2 hs
      go_enter Try.func48, Try.ntmps48
      go_upto_region 1 with fail
      rw [← HW.out.1]
      try rw [← HW.out.2.1]
      have ca := (blk_all (HB.out _ (Below.refl _ _)).1).1
      have cb := (blk_all (HB.out _ (Below.refl _ _)).2.1).1
      go_wp2_with (first | (go_at_call 18; ((with_reducible refine (CircuitValid_i _ a _ (HB.out _ (Below.refl _ _)).2.2.1).mono ?_); rintro e w1 ⟨rfl, hq⟩; rw [HV.out.1]; have H1 : Hid (Below (A + 3) W0 w1) := (by have h := HW.out.2.2; exact hq.mono (by omega)); clear hq ca cb; have ca := (blk_all (HB.out _ H1.out).1).1; have cb := (blk_all (HB.out _ H1.out).2.1).1)) | (go_at_call 18; ((with_reducible refine (CircuitValid_i _ b _ (HB.out _ H1.out).2.2.2.1).mono ?_); rintro e w2 ⟨rfl, hq⟩; rw [HV.out.2]; have H2 : Hid (Below (A + 3) W0 w2) := H1.out.trans (hq.mono (HB.out _ H1.out).2.2.2.2.2.2); clear hq ca cb; have ca := (blk_all (HB.out _ H2.out).1).1; have cb := (blk_all (HB.out _ H2.out).2.1).1; obtain ⟨rc, rf⟩ := blk_all (HB.out _ H2.out).2.2.2.2.2.1)))
      clear rc rf
      have hZ : ((w2.setCell ⟨A + 2, 0, none⟩ (.bool false)).setCell ⟨A + 2, 1, none⟩ (.slice none 0 0)).heap[A + 2]? = some (.cells #[.bool false, .slice none 0 0] 60 (0, 0)) := by
        simpa using blk_set (o := 1) (v := .slice none 0 0) (blk_set (o := 0) (v := .bool false) (HB.out _ H2.out).2.2.2.2.2.1)
      have hA2 := HW.out.2.1
      have hbz := ((HB.out _ H2.out).2.2.2.2.1.setCell (p := ⟨A + 2, 0, none⟩) (by simp; omega) (.bool false)).setCell (p := ⟨A + 2, 1, none⟩) (by simp; omega) (.slice none 0 0)
      revert hZ hbz
      generalize ((w2.setCell ⟨A + 2, 0, none⟩ (.bool false)).setCell ⟨A + 2, 1, none⟩ (.slice none 0 0)) = WZ
      intro hZ hbz
      have cr := (blk_all hZ).1
      exact bodyPost_ret (v := .agg #[.bool false, .slice none 0 0]) (by simp [results, Try.results48, go_sem, cr]) rfl (by rw [HE.out]; exact ⟨none, 0, [], rfl, OwnSB.nil _ _, hbz⟩)
    · by_cases e1 : a.inp = b.inp
      · by_cases e3 : a.outs.length = b.outs.length
        · have e0 := disR_yes (cmpB_iff.2 ⟨h1, h2, e1, e3⟩)
          have hva := a.validB_iff.1 h1
          have hvb := b.validB_iff.1 h2
          obtain ⟨qa1, qa2, qa3, -, -⟩ := id hva.lim
          obtain ⟨-, -, qb3, -, -⟩ := id hvb.lim
          obtain ⟨ni, hni⟩ : ∃ ni : Nat, a.inp = ni := ⟨a.inp.toNat, by omega⟩
          obtain ⟨R, hR⟩ : ∃ R, R = disR a b := ⟨_, rfl⟩
          rw [← hR]
          have hRd : R = disD a b := by rw [hR, e0]
          have HDF : Hid (∀ (W : World) (s : Int × Int) (x : Nat), Below (A + 3) W0 W → 0 ≤ s.1 → s.1 ≤ 100 → 0 ≤ s.2 → s.2 ≤ 100 → x ≤ 100 → Calls Try.prog (103) #[pairV s, .int .i64 x, .pointer (some ⟨A, 0, none⟩), .pointer (some ⟨A + 1, 0, none⟩)] W fun e w' => e = .returned (.tuple #[pairV (stpD a b s x), .bool (hitD a b s x)]) ∧ Below W.heap.size W w') := fun W s x hW k1 k2 k3 k4 k5 => by
            obtain ⟨⟨_, _, _, _, _, _, ea, a1, a2, a3, -⟩, _, _, _, _, _, _, eb, b1, b2, b3, -⟩ := HG.out
            cases ea
            cases eb
            have hw := (HB.out W hW).2.2.2.2.1
            exact differ_any a b A (A + 1) sn sg so tn tg to_ cn cg co dn dg do_ s.1 s.2 x W (CirAt.of_blk (HB.out W hW).1) (a1.mono hw) (a2.mono hw) (a3.mono hw) hva (CirAt.of_blk (HB.out W hW).2.1) (b1.mono hw) (b2.mono hw) (b3.mono hw) hvb k1 k2 k3 k4 k5
          have HSE : Hid (∀ W, Below (A + 3) W0 W → Calls Try.prog 105 #[.int .i64 ni, .agg #[.int .i64 0, .int .i64 0], .func (.func (103)) #[] #[.pointer (some ⟨A, 0, none⟩), .pointer (some ⟨A + 1, 0, none⟩)]] W (SchPost R ni W)) := fun W hW => by
            rw [hRd]
            exact search_any a b A (A + 1) ni W hva hvb hni (fun W' s x hW' => HDF.out W' s x (hW.trans (hW'.mono (HB.out W hW).2.2.2.2.2.2)))
          have HV := Lib.hid (And.intro h1 h2)
          rw [← e1, ← e3, hni] at HW HB
          rw [← e1, ← e3, hni, Int.toNat_natCast]
          clear e0 hva hvb h1 h2 e1 e3 hR hni hRd HDF HG
          go_enter Try.func48, Try.ntmps48
          go_upto_region 1 with fail
          rw [← HW.out.1]
          try rw [← HW.out.2.1]
          have ca := (blk_all (HB.out _ (Below.refl _ _)).1).1
          have cb := (blk_all (HB.out _ (Below.refl _ _)).2.1).1

          go_upto_region 4 with (first | (go_at_call 18; ((with_reducible refine (CircuitValid_i _ a _ (HB.out _ (Below.refl _ _)).2.2.1).mono ?_); rintro e w1 ⟨rfl, hq⟩; rw [HV.out.1]; have H1 : Hid (Below (A + 3) W0 w1) := (by have h := HW.out.2.2; exact hq.mono (by omega)); clear hq ca cb; have ca := (blk_all (HB.out _ H1.out).1).1; have cb := (blk_all (HB.out _ H1.out).2.1).1)) | (go_at_call 18; ((with_reducible refine (CircuitValid_i _ b _ (HB.out _ H1.out).2.2.2.1).mono ?_); rintro e w2 ⟨rfl, hq⟩; rw [HV.out.2]; have H2 : Hid (Below (A + 3) W0 w2) := H1.out.trans (hq.mono (HB.out _ H1.out).2.2.2.2.2.2); clear hq ca cb; have ca := (blk_all (HB.out _ H2.out).1).1; have cb := (blk_all (HB.out _ H2.out).2.1).1)))
          go_wp2_with (go_at_call 105; (with_reducible refine (HSE.out _ H2.out).mono ?_); rintro e9 w9 ⟨s9, c9, vs9, rfl, h9, hq9⟩; have H9 := Lib.hid (And.intro h9 (H2.out.trans (hq9.mono (HB.out _ H2.out).2.2.2.2.2.2))); obtain ⟨rc, rf⟩ := blk_all (HB.out _ (H2.out.trans (hq9.mono (HB.out _ H2.out).2.2.2.2.2.2))).2.2.2.2.2.1; clear h9 hq9 ca cb)
          have hlow : A + 2 < w2.heap.size := by have := (HB.out _ H2.out).2.2.2.2.2.2; omega
          have hw2 : w.heap.size ≤ w2.heap.size := (HB.out _ H2.out).2.2.2.2.1.size
          clear rc rf
          have hZ : ((w9.setCell ⟨A + 2, 0, none⟩ (.bool R.isSome)).setCell ⟨A + 2, 1, none⟩ (.slice s9 (R.elim [] (rowsX ni)).length c9)).heap[A + 2]? = some (.cells #[.bool R.isSome, .slice s9 (R.elim [] (rowsX ni)).length c9] 60 (0, 0)) := by
            simpa using blk_set (o := 1) (v := .slice s9 (R.elim [] (rowsX ni)).length c9) (blk_set (o := 0) (v := .bool R.isSome) (HB.out _ H9.out.2).2.2.2.2.2.1)
          have hA2 := HW.out.2.1
          have hbz := ((HB.out _ H9.out.2).2.2.2.2.1.setCell (p := ⟨A + 2, 0, none⟩) (by simp; omega) (.bool R.isSome)).setCell (p := ⟨A + 2, 1, none⟩) (by simp; omega) (.slice s9 (R.elim [] (rowsX ni)).length c9)
          have hsb := OwnSB.setlow (o := 1) (u := .slice s9 (R.elim [] (rowsX ni)).length c9) (OwnSB.setlow (o := 0) (u := .bool R.isSome) H9.out.1 hlow) hlow
          revert hZ hbz hsb
          generalize ((w9.setCell ⟨A + 2, 0, none⟩ (.bool R.isSome)).setCell ⟨A + 2, 1, none⟩ (.slice s9 (R.elim [] (rowsX ni)).length c9)) = WZ
          intro hZ hbz hsb
          have cr := (blk_all hZ).1
          exact bodyPost_ret (v := .agg #[.bool R.isSome, .slice s9 (R.elim [] (rowsX ni)).length c9]) (by simp [results, Try.results48, go_sem, cr]) rfl ⟨s9, c9, vs9, rfl, hsb.base hw2, hbz⟩
        · have hs : cmpB a b = false := by simp [cmpB, e3]
          have HE := Lib.hid (disR_no hs)
          have q3 : ¬ ((a.outs.length : Int) = (b.outs.length : Int)) := by omega
          rw [← e1] at HW HB ⊢
          have HV := Lib.hid (And.intro h1 h2)
          clear h1 h2 hs e1 e3
          go_enter Try.func48, Try.ntmps48
          go_upto_region 1 with fail
          rw [← HW.out.1]
          try rw [← HW.out.2.1]
          have ca := (blk_all (HB.out _ (Below.refl _ _)).1).1
          have cb := (blk_all (HB.out _ (Below.refl _ _)).2.1).1
          go_wp2_with (first | (go_at_call 18; ((with_reducible refine (CircuitValid_i _ a _ (HB.out _ (Below.refl _ _)).2.2.1).mono ?_); rintro e w1 ⟨rfl, hq⟩; rw [HV.out.1]; have H1 : Hid (Below (A + 3) W0 w1) := (by have h := HW.out.2.2; exact hq.mono (by omega)); clear hq ca cb; have ca := (blk_all (HB.out _ H1.out).1).1; have cb := (blk_all (HB.out _ H1.out).2.1).1)) | (go_at_call 18; ((with_reducible refine (CircuitValid_i _ b _ (HB.out _ H1.out).2.2.2.1).mono ?_); rintro e w2 ⟨rfl, hq⟩; rw [HV.out.2]; have H2 : Hid (Below (A + 3) W0 w2) := H1.out.trans (hq.mono (HB.out _ H1.out).2.2.2.2.2.2); clear hq ca cb; have ca := (blk_all (HB.out _ H2.out).1).1; have cb := (blk_all (HB.out _ H2.out).2.1).1; obtain ⟨rc, rf⟩ := blk_all (HB.out _ H2.out).2.2.2.2.2.1)))
          clear rc rf
          have hZ : ((w2.setCell ⟨A + 2, 0, none⟩ (.bool false)).setCell ⟨A + 2, 1, none⟩ (.slice none 0 0)).heap[A + 2]? = some (.cells #[.bool false, .slice none 0 0] 60 (0, 0)) := by
            simpa using blk_set (o := 1) (v := .slice none 0 0) (blk_set (o := 0) (v := .bool false) (HB.out _ H2.out).2.2.2.2.2.1)
          have hA2 := HW.out.2.1
          have hbz := ((HB.out _ H2.out).2.2.2.2.1.setCell (p := ⟨A + 2, 0, none⟩) (by simp; omega) (.bool false)).setCell (p := ⟨A + 2, 1, none⟩) (by simp; omega) (.slice none 0 0)
          revert hZ hbz
          generalize ((w2.setCell ⟨A + 2, 0, none⟩ (.bool false)).setCell ⟨A + 2, 1, none⟩ (.slice none 0 0)) = WZ
          intro hZ hbz
          have cr := (blk_all hZ).1
          exact bodyPost_ret (v := .agg #[.bool false, .slice none 0 0]) (by simp [results, Try.results48, go_sem, cr]) rfl (by rw [HE.out]; exact ⟨none, 0, [], rfl, OwnSB.nil _ _, hbz⟩)
      · have hs : cmpB a b = false := by simp [cmpB, e1]
        have HE := Lib.hid (disR_no hs)
        have HV := Lib.hid (And.intro h1 h2)
        clear h1 h2 hs
        go_enter Try.func48, Try.ntmps48
        go_upto_region 1 with fail
        rw [← HW.out.1]
        try rw [← HW.out.2.1]
        have ca := (blk_all (HB.out _ (Below.refl _ _)).1).1
        have cb := (blk_all (HB.out _ (Below.refl _ _)).2.1).1
        go_wp2_with (first | (go_at_call 18; ((with_reducible refine (CircuitValid_i _ a _ (HB.out _ (Below.refl _ _)).2.2.1).mono ?_); rintro e w1 ⟨rfl, hq⟩; rw [HV.out.1]; have H1 : Hid (Below (A + 3) W0 w1) := (by have h := HW.out.2.2; exact hq.mono (by omega)); clear hq ca cb; have ca := (blk_all (HB.out _ H1.out).1).1; have cb := (blk_all (HB.out _ H1.out).2.1).1)) | (go_at_call 18; ((with_reducible refine (CircuitValid_i _ b _ (HB.out _ H1.out).2.2.2.1).mono ?_); rintro e w2 ⟨rfl, hq⟩; rw [HV.out.2]; have H2 : Hid (Below (A + 3) W0 w2) := H1.out.trans (hq.mono (HB.out _ H1.out).2.2.2.2.2.2); clear hq ca cb; have ca := (blk_all (HB.out _ H2.out).1).1; have cb := (blk_all (HB.out _ H2.out).2.1).1; obtain ⟨rc, rf⟩ := blk_all (HB.out _ H2.out).2.2.2.2.2.1)))
        clear rc rf
        have hZ : ((w2.setCell ⟨A + 2, 0, none⟩ (.bool false)).setCell ⟨A + 2, 1, none⟩ (.slice none 0 0)).heap[A + 2]? = some (.cells #[.bool false, .slice none 0 0] 60 (0, 0)) := by
          simpa using blk_set (o := 1) (v := .slice none 0 0) (blk_set (o := 0) (v := .bool false) (HB.out _ H2.out).2.2.2.2.2.1)
        have hA2 := HW.out.2.1
        have hbz := ((HB.out _ H2.out).2.2.2.2.1.setCell (p := ⟨A + 2, 0, none⟩) (by simp; omega) (.bool false)).setCell (p := ⟨A + 2, 1, none⟩) (by simp; omega) (.slice none 0 0)
        revert hZ hbz
        generalize ((w2.setCell ⟨A + 2, 0, none⟩ (.bool false)).setCell ⟨A + 2, 1, none⟩ (.slice none 0 0)) = WZ
        intro hZ hbz
        have cr := (blk_all hZ).1
        exact bodyPost_ret (v := .agg #[.bool false, .slice none 0 0]) (by simp [results, Try.results48, go_sem, cr]) rfl (by rw [HE.out]; exact ⟨none, 0, [], rfl, OwnSB.nil _ _, hbz⟩)

theorem markW_nat {u : List Bool} {l : Int} {p : Nat} (h : l / 2 = p) : markW u l = u.set p true := by unfold markW; rw [h, Int.toNat_natCast]

set_option maxRecDepth 100000 in
set_option maxHeartbeats 3200000 in
theorem l20Used_any (v : Value) (c : Cir) (w : World) (h : CirV w v c) (hv : c.valid) :
    Calls Try.prog 110 #[v] w fun e w' => ∃ s, e = .returned (.slice s c.vars.toNat c.vars.toNat) ∧ Sl w' s (bools (usedW c)) ∧ Below w.heap.size w w' := by
  have HG := Lib.hid h
  obtain ⟨sn, cn, sg, cg, so, co, rfl, h1, h2, h3, -, -, -⟩ := h
  obtain ⟨i0, i1, l1, l2, l3⟩ := id hv.lim
  obtain ⟨ni, hni⟩ : ∃ ni : Nat, c.inp = ni := ⟨c.inp.toNat, by omega⟩
  obtain ⟨V, hV⟩ : ∃ V : Nat, c.vars = V := ⟨c.vars.toNat, by unfold Cir.vars; omega⟩
  obtain ⟨F, hF⟩ : ∃ F : Nat, c.first = F := ⟨c.first.toNat, by unfold Cir.first; omega⟩
  have hVF : V = F + c.gates.length := by
    have e : c.vars = c.first + c.gates.length := rfl
    omega
  have hFn : F = 1 + ni + c.next.length := by unfold Cir.first at hF; omega
  have eF : 1 + (ni : Int) + (c.next.length : Int) = F := by omega
  have hV22 : V ≤ 22 := by omega
  have n4 : ni ≤ 4 := by omega
  rw [show c.vars.toNat = V by omega]
  have HV := Lib.hid (And.intro hv (And.intro hV (And.intro hF (And.intro hni (And.intro hFn eF)))))
  have HS := Lib.hid (And.intro h1 (And.intro h2 h3))
  have hw1 : IntKind.i64.wrap ((F : Int) + (c.gates.length : Int)) = (V : Int) := by rw [IntWalk.i64_in _ ⟨by omega, by omega⟩]; omega
  have hmk := fun W => mkBools W V (by omega)
  rw [hni] at HG ⊢
  clear h1 h2 h3 hv hV hF hni hVF hFn eF i0 i1
  obtain ⟨A, hA⟩ : ∃ A, A = w.heap.size := ⟨_, rfl⟩
  obtain ⟨W0, hW0⟩ : ∃ W0, W0 = w.alloc (.cells #[.int .i64 ni, .slice sn c.next.length cn, .slice sg c.gates.length cg, .slice so c.outs.length co] 26) := ⟨_, rfl⟩
  have z1 : W0.heap[A]? = some (.cells #[.int .i64 ni, .slice sn c.next.length cn, .slice sg c.gates.length cg, .slice so c.outs.length co] 26 (0, 0)) := by rw [hW0, hA]; exact blk_new _ _
  have z2 : Below w.heap.size w W0 := by rw [hW0]; exact (Below.refl _ _).alloc (Nat.le_refl _) _
  have HA := Lib.hid (And.intro hW0 hA)
  have HW := Lib.hid (And.intro z1 z2)
  have hAl := blk_lt z1
  have hA2 : w.heap.size ≤ A := by omega
  clear hW0 hA z2
  go_enter Try.func110, Try.ntmps110
  go_upto_region 1 with fail
  rw [← HA.out.1, ← HA.out.2]
  refine wp_region_T (fun w' => ∀ o, w'.cell? ⟨A, o, none⟩ = #[Value.int .i64 ni, .slice sn c.next.length cn, .slice sg c.gates.length cg, .slice so c.outs.length co][o]?) (.q 0 (.q 2 (.q 3 (.q 4 (.e 1 (.q 5 (.e 6 (.q 7 .nil)))))))) (by kernel_rfl) (by kernel_rfl) (by kernel_rfl) (blk_all z1).1 ?_
  clear z1
  repeat (first | (refine ordt_s (o := ?_) ?_ ?_ ?_; rotate_left 1; (focus ((simp only [zD, zE, zF]) <;> rfl)); (focus rfl); simp only [Act.put, zA, zB, zC]) | (refine ordt_q (o := ?_) (v := ?_) ?_ ?_ ?_ ?_; rotate_left 2; (focus ((simp only [zD, zE, zF]) <;> rfl)); (focus rfl); (focus (intro w' hS; (try dsimp only at hS); go_split_ands; go_simp; (try (with_reducible rfl)))); simp only [Act.put, zA, zB, zC]))
  refine ordt_e ?_
  (refine op_e (o := ?_) ?_ ?_ (fun K hK => ?_); rotate_left 1; (focus ((simp only [zD, zE, zF]) <;> rfl)); (focus rfl); go_simp)
  refine (l1First_any _ _ _ _ _ _ _ (by omega) (by omega)).mono ?_
  rintro e w2 ⟨rfl, hq⟩
  rw [HV.out.2.2.2.2.2]
  have hb2 : Below W0.heap.size W0 w2 := (Below.refl _ _).drew.trans hq
  refine hK.out _ _ (blk_all (blk_below hb2 hAl HW.out.1)).1 ?_
  clear hK K hq
  have H2 := Lib.hid hb2
  clear hb2
  (try simp only [Act.put, zA, zB, zC])
  repeat (first | (refine ordt_s (o := ?_) ?_ ?_ ?_; rotate_left 1; (focus ((simp only [zD, zE, zF]) <;> rfl)); (focus rfl); simp only [Act.put, zA, zB, zC]) | (refine ordt_q (o := ?_) (v := ?_) ?_ ?_ ?_ ?_; rotate_left 2; (focus ((simp only [zD, zE, zF]) <;> rfl)); (focus rfl); (focus (intro w' hS; (try dsimp only at hS); go_split_ands; go_simp; (try (with_reducible rfl)))); simp only [Act.put, zA, zB, zC]))
  refine ordt_e ?_
  (refine op_e (o := ?_) ?_ ?_ (fun K hK => ?_); rotate_left 1; (focus ((simp only [zD, zE, zF]) <;> rfl)); (focus rfl); go_simp)
  have hgx := blk_new w2 (.cells (bools (List.replicate V false)).toArray 4)
  have hb3 := H2.out.alloc H2.out.size (.cells (bools (List.replicate V false)).toArray 4)
  obtain ⟨G, hG⟩ : ∃ G, G = w2.heap.size := ⟨_, rfl⟩
  have hGA : A < G := by rw [hG]; exact Nat.lt_of_lt_of_le hAl H2.out.size
  rw [← hG] at hgx
  rw [← hG]
  have hG0 : W0.heap.size ≤ G := by rw [hG]; exact H2.out.size
  clear hG
  revert hgx hb3
  generalize w2.alloc (.cells (bools (List.replicate V false)).toArray 4) = W1
  intro hb3 hgx
  refine hK.out _ _ (blk_all (blk_below hb3 hAl HW.out.1)).1 ?_
  clear hK K
  have hou : outW c 0 = List.replicate V false := by unfold outW; rw [HV.out.2.1]; rfl
  rw [← hou] at hgx
  have H1 := Lib.hid (And.intro hgx (And.intro (blk_below hb3 hAl HW.out.1) (HW.out.2.trans (hb3.mono HW.out.2.size))))
  have hGl := blk_lt hgx
  clear hgx hb3 hou H2 hw1
  (try simp only [Act.put, zA, zB, zC])
  repeat (first | (refine ordt_s (o := ?_) ?_ ?_ ?_; rotate_left 1; (focus ((simp only [zD, zE, zF]) <;> rfl)); (focus rfl); simp only [Act.put, zA, zB, zC]) | (refine ordt_q (o := ?_) (v := ?_) ?_ ?_ ?_ ?_; rotate_left 2; (focus ((simp only [zD, zE, zF]) <;> rfl)); (focus rfl); (focus (intro w' hS; (try dsimp only at hS); go_split_ands; go_simp; (try (with_reducible rfl)))); simp only [Act.put, zA, zB, zC]))
  refine ordt_nil ?_
  have HX : Hid (∀ W, Below G W1 W → (∀ o, W.cell? ⟨A, o, none⟩ = #[Value.int .i64 ni, .slice sn c.next.length cn, .slice sg c.gates.length cg, .slice so c.outs.length co][o]?) ∧ CirV W (.agg #[.int .i64 ni, .slice sn c.next.length cn, .slice sg c.gates.length cg, .slice so c.outs.length co]) c ∧ Below w.heap.size w W) := fun W hW => by
    have h9 : Below w.heap.size w W := H1.out.2.2.trans (hW.mono (by have h1 := HW.out.2.size; omega))
    exact ⟨(blk_all (blk_below hW hGA H1.out.2.1)).1, HG.out.mono h9, h9⟩
  clear hmk
  go_upto_region 3 with fail
  go_loopw [4] (fun i wr => ∃ k : Nat, k ≤ c.outs.length ∧ i = .int .i64 k ∧ wr.heap[G]? = some (.cells (bools (outW c k)).toArray 4 (0, 0)) ∧ Below G W1 wr) (fun i _ => c.outs.length - (intOf i).toNat)
  case atStart => exact ⟨0, Nat.zero_le _, rfl, H1.out.1, Below.refl _ _⟩
  case round =>
    obtain ⟨k, hk, rfl, hg, hbl⟩ := hrel
    have ca := (HX.out _ hbl).1
    by_cases hlt : k < c.outs.length
    · obtain ⟨l, hl⟩ := get_of_lt hlt
      obtain ⟨x0, x1⟩ : 0 ≤ l ∧ l < 2 * c.vars := HV.out.1.outs l (List.mem_of_getElem? hl)
      rw [HV.out.2.1] at x1
      obtain ⟨p, hp⟩ : ∃ p : Nat, l / 2 = p := ⟨(l / 2).toNat, by omega⟩
      have hpV : p < V := by omega
      obtain ⟨b, off, rfl, -, z⟩ := HS.out.2.2.int (HX.out _ hbl).2.2 hl
      have hlen : (outW c k).length = V := by rw [outW_length, HV.out.2.1]; omega
      obtain ⟨y, hy⟩ := get_of_lt (l := outW c k) (k := p) (by omega)
      have hc2 := bools_cell hg hy
      have hf2 : wr.frozen? ⟨G, p, none⟩ = false := blk_free hg
      have HR := Lib.hid (And.intro hg (And.intro hbl hl))
      have HPp := Lib.hid hp
      clear hg hbl hl hy hlen
      go_wp2_with fail
      clear hp
      go_roundw
      case rel =>
        refine ⟨k + 1, by omega, by go_num, ?_, HR.out.2.1.setCell (Nat.le_refl _) _⟩
        rw [outW_snoc HR.out.2.2, markW_nat HPp.out]
        exact bools_blk_set HR.out.1 p true
      case measure => simp [intOf]; omega
    · obtain rfl : k = c.outs.length := by omega
      obtain ⟨u0, hu0⟩ : ∃ u0, u0 = outW c c.outs.length := ⟨_, rfl⟩
      rw [← hu0] at hg
      have hul : u0.length = V := by rw [hu0, outW_length, HV.out.2.1]; omega
      have HU := Lib.hid (And.intro hu0 hul)
      have HR := Lib.hid (And.intro hg hbl)
      clear hg hbl hu0 hul
      go_upto_region 7 with fail
      clear ca
      go_loopw [5] (fun i wr => ∃ r : Nat, r ≤ c.next.length + 1 ∧ i = .int .i64 r ∧ wr.heap[G]? = some (.cells (bools (rndsW c r u0)).toArray 4 (0, 0)) ∧ Below G W1 wr) (fun i _ => c.next.length + 1 - (intOf i).toNat)
      case atStart => exact ⟨0, Nat.zero_le _, rfl, HR.out.1, HR.out.2⟩
      case round =>
        obtain ⟨r, hr, rfl, hg, hbl⟩ := hrel
        have ca := (HX.out _ hbl).1
        by_cases hlr : r < c.next.length + 1
        · obtain ⟨u, hu⟩ : ∃ u, u = rndsW c r u0 := ⟨_, rfl⟩
          rw [← hu] at hg
          have hul : u.length = V := by rw [hu, rndsW_length]; exact HU.out.2
          obtain ⟨ws, rfl⟩ : ∃ ws, ws = wr := ⟨_, rfl⟩
          have HRr := Lib.hid (And.intro hg (And.intro hbl (And.intro hu hul)))
          clear hg hbl hu hul
          have hlr2 : (r : Int) ≤ (c.next.length : Int) := by omega
          go_upto_region 10 with fail
          clear ca
          go_loopw [6] (fun i wr => ∃ k : Nat, k ≤ c.next.length ∧ i = .int .i64 k ∧ wr.heap[G]? = some (.cells (bools (latW c u k)).toArray 4 (0, 0)) ∧ Below G W1 wr) (fun i _ => c.next.length - (intOf i).toNat)
          case atStart => exact ⟨0, Nat.zero_le _, rfl, HRr.out.1, HRr.out.2.1⟩
          case round =>
            obtain ⟨k, hk, rfl, hg, hbl⟩ := hrel
            have ca := (HX.out _ hbl).1
            by_cases hlt : k < c.next.length
            · obtain ⟨l, hl⟩ := get_of_lt hlt
              obtain ⟨x0, x1⟩ : 0 ≤ l ∧ l < 2 * c.vars := HV.out.1.next l (List.mem_of_getElem? hl)
              rw [HV.out.2.1] at x1
              obtain ⟨p, hp⟩ : ∃ p : Nat, l / 2 = p := ⟨(l / 2).toNat, by omega⟩
              have hpV : p < V := by omega
              obtain ⟨b, off, rfl, -, z⟩ := HS.out.1.int (HX.out _ hbl).2.2 hl
              have hlen : (latW c u k).length = V := by rw [latW_length]; exact HRr.out.2.2.2
              obtain ⟨y, hy⟩ := get_of_lt (l := latW c u k) (k := p) (by omega)
              obtain ⟨q, hq⟩ : ∃ q : Nat, (ni : Int) + 1 + (k : Int) = q := ⟨ni + 1 + k, by omega⟩
              have hqV : q < V := by have := HV.out.2.2.2.2.1; have := HV.out.2.2.1; have := HV.out.2.1; have e : c.vars = c.first + c.gates.length := rfl; omega
              obtain ⟨x, hx⟩ := get_of_lt (l := latW c u k) (k := q) (by omega)
              have hstep := latW_some (c := c) (u := u) hl
              have hxe : (latW c u k).getD (1 + c.inp.toNat + k) false = x := by
                rw [show 1 + c.inp.toNat + k = q by have := HV.out.2.2.2.1; omega, List.getD_eq_getElem?_getD, hx]; rfl
              rw [hxe] at hstep
              have hc1 := bools_cell hg hx
              have hc2 := bools_cell hg hy
              have hf2 : wr.frozen? ⟨G, p, none⟩ = false := blk_free hg
              have HR := Lib.hid (And.intro hg (And.intro hbl hstep))
              have HPp := Lib.hid hp
              clear hg hbl hl hy hx hlen hstep hxe
              cases x
              · go_wp2_with fail
                clear hp hq
                go_roundw
                case rel => exact ⟨k + 1, by omega, by go_num, by rw [HR.out.2.2, if_neg (by simp)]; exact HR.out.1, HR.out.2.1⟩
                case measure => simp [intOf]; omega
              · go_wp2_with fail
                clear hp hq
                go_roundw
                case rel =>
                  refine ⟨k + 1, by omega, by go_num, ?_, HR.out.2.1.setCell (Nat.le_refl _) _⟩
                  rw [HR.out.2.2, if_pos rfl, markW_nat HPp.out]
                  exact bools_blk_set HR.out.1 p true
                case measure => simp [intOf]; omega
            · obtain rfl : k = c.next.length := by omega
              obtain ⟨T, hT⟩ : ∃ T, T = rndW c u := ⟨_, rfl⟩
              have HT := Lib.hid hT
              clear hT
              have HR := Lib.hid (And.intro hg hbl)
              clear hg hbl
              go_upto_region 15 with fail
              clear ca
              go_loopw [7] (fun i wr => ∃ (n : Nat) (u' : List Bool), n ≤ c.gates.length ∧ i = .int .i64 ((n : Int) - 1) ∧ wr.heap[G]? = some (.cells (bools u').toArray 4 (0, 0)) ∧ u'.length = V ∧ gatW c n u' = T ∧ Below G W1 wr) (fun i _ => (intOf i + 1).toNat)
              case atStart => exact ⟨c.gates.length, latW c u c.next.length, Nat.le_refl _, rfl, HR.out.1, by rw [latW_length]; exact HRr.out.2.2.2, HT.out.symm, HR.out.2⟩
              case round =>
                obtain ⟨n, u', hn, rfl, hg, hul, hgt, hbl⟩ := hrel
                have ca := (HX.out _ hbl).1
                by_cases hn0 : n = 0
                · subst hn0
                  have hu'T : u' = T := hgt
                  subst hu'T
                  have HR := Lib.hid (And.intro hg hbl)
                  clear hg hul hgt hbl
                  go_wp2_with fail
                  go_roundw
                  case rel => exact ⟨r + 1, by omega, by go_num, by show _ = some (Obj.cells (bools (rndW c (rndsW c r u0))).toArray _ _); rw [← HRr.out.2.2.1, ← HT.out]; exact HR.out.1, HR.out.2⟩
                  case measure => simp [intOf] <;> omega
                · obtain ⟨j, rfl⟩ : ∃ j, n = j + 1 := ⟨n - 1, by omega⟩
                  rw [show ((j + 1 : Nat) : Int) - 1 = (j : Int) by omega]
                  obtain ⟨g, hgj⟩ := get_of_lt (l := c.gates) (k := j) (by omega)
                  obtain ⟨⟨a0, a1⟩, b0, b1⟩ := valid_gate HV.out.1 hgj
                  rw [HV.out.2.2.1] at a1 b1
                  obtain ⟨gb, gf, rfl, -, za, zb⟩ := HS.out.2.1.gate (HX.out _ hbl).2.2 hgj
                  obtain ⟨p, hp⟩ : ∃ p : Nat, g.a / 2 = p := ⟨(g.a / 2).toNat, by omega⟩
                  obtain ⟨p2, hp2⟩ : ∃ p : Nat, g.b / 2 = p := ⟨(g.b / 2).toNat, by omega⟩
                  obtain ⟨q, hq⟩ : ∃ q : Nat, (F : Int) + (j : Int) = q := ⟨F + j, by omega⟩
                  have hqV : q < V := by have h1 := HV.out.2.1; have h2 := HV.out.2.2.1; have e : c.vars = c.first + c.gates.length := rfl; omega
                  have hpV : p < V := by omega
                  have hp2V : p2 < V := by omega
                  have ha60 : g.a ≤ 60 := by omega
                  have hb60 : g.b ≤ 60 := by omega
                  obtain ⟨x, hx⟩ := get_of_lt (l := u') (k := q) (by omega)
                  rw [gatW_some hgj] at hgt
                  have hxe : u'.getD (c.first.toNat + j) false = x := by
                    rw [show c.first.toNat + j = q by have := HV.out.2.2.1; omega, List.getD_eq_getElem?_getD, hx]; rfl
                  rw [hxe] at hgt
                  have HR := Lib.hid (And.intro hg (And.intro hbl (And.intro hul (And.intro hgt hx))))
                  have HP := Lib.hid (And.intro hp hp2)
                  have HZ : Hid (∀ W, Below G W1 W → W.cell? ⟨gb, gf + j * 2, none⟩ = some (.int .i64 g.a) ∧ W.cell? ⟨gb, gf + j * 2 + 1, none⟩ = some (.int .i64 g.b)) := fun W hW => by
                    obtain ⟨_, _, e1, -, q1, q2⟩ := HS.out.2.1.gate (HX.out _ hW).2.2 hgj
                    cases e1
                    exact ⟨q1, q2⟩
                  clear hg hbl hul hgt hx hxe hgj za zb hp hp2 a1 b1
                  go_upto_region 18 with (go_at_call 76; ((with_reducible refine (l1First_any _ _ _ _ _ _ _ (by omega) (by omega)).mono ?_); rintro e w3 ⟨rfl, hq3⟩; rw [HV.out.2.2.2.2.2]; have H3 := Lib.hid (And.intro (blk_below hq3 (blk_lt HR.out.1) HR.out.1) (HR.out.2.1.trans (hq3.mono (Nat.le_of_lt (blk_lt HR.out.1))))); clear hq3 ca; have cq := bools_cell H3.out.1 HR.out.2.2.2.2; have ca := (HX.out _ H3.out.2).1; cases x))
                  · clear ca cq hq
                    go_roundw
                    case rel => exact ⟨j, u', by omega, by go_num, H3.out.1, HR.out.2.2.1, by have := HR.out.2.2.2.1; simpa using this, H3.out.2⟩
                    case measure => simp [intOf] <;> omega
                  · obtain ⟨y, hy⟩ := get_of_lt (l := u') (k := p) (by have := HR.out.2.2.1; omega)
                    obtain ⟨za, zb⟩ := HZ.out _ H3.out.2
                    have hc2 := bools_cell H3.out.1 hy
                    have hf2 : w3.frozen? ⟨G, p, none⟩ = false := blk_free H3.out.1
                    have hp := HP.out.1
                    clear cq hq hy zb
                    go_upto_region 19 with fail
                    clear ca za hc2 hf2 hp
                    have hg4 := bools_blk_set H3.out.1 p true
                    have hb4 := H3.out.2.setCell (p := ⟨G, p, none⟩) (Nat.le_refl _) (.bool true)
                    revert hg4 hb4
                    generalize w3.setCell ⟨G, p, none⟩ (.bool true) = w4
                    intro hg4 hb4
                    obtain ⟨y2, hy2⟩ := get_of_lt (l := u'.set p true) (k := p2) (by have := HR.out.2.2.1; simp; omega)
                    obtain ⟨za, zb⟩ := HZ.out _ hb4
                    have ca := (HX.out _ hb4).1
                    have hc2 := bools_cell hg4 hy2
                    have hf2 : w4.frozen? ⟨G, p2, none⟩ = false := blk_free hg4
                    have hp2 := HP.out.2
                    have H4 := Lib.hid (And.intro hg4 hb4)
                    clear hg4 hb4 hy2 za
                    go_wp2_with fail
                    clear hp2
                    go_roundw
                    case rel =>
                      refine ⟨j, (u'.set p true).set p2 true, by omega, by go_num, bools_blk_set H4.out.1 p2 true, by simp; exact HR.out.2.2.1, ?_, H4.out.2.setCell (Nat.le_refl _) _⟩
                      have h9 : gatW c j (markW (markW u' g.a) g.b) = T := HR.out.2.2.2.1
                      rw [markW_nat HP.out.1, markW_nat HP.out.2] at h9
                      exact h9
                    case measure => simp [intOf] <;> omega
        · obtain rfl : r = c.next.length + 1 := by omega
          have hfin : rndsW c (c.next.length + 1) u0 = usedW c := by unfold usedW; rw [HU.out.1]
          rw [hfin] at hg
          have HR := Lib.hid (And.intro hg hbl)
          clear hg hbl hfin
          go_wp2_with fail
          go_ret
          exact ⟨_, rfl, Sl.toB HR.out.1, (HX.out _ HR.out.2).2.2⟩

end Go.Proofs.Ytbcolcchchgldaa
