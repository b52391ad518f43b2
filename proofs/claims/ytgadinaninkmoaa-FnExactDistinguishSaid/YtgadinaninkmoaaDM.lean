import Derived.Test.YtgadinaninkmoaaDL
import Derived.Test.YtgadinaninkmoaaDJ
namespace Go.Proofs.Ytgadinaninkmoaa
set_option linter.unusedVariables false
set_option linter.unusedSimpArgs false
open Go.RowKit

/-! Distinguish and SequentiallyEquivalent. -/

def DisOwn (r : Option (List Int)) (ni : Nat) (w : World) (e : Ending) (w' : World) : Prop :=
  ∃ s cap vs, e = .returned (.agg #[.bool r.isSome, .slice s (r.elim [] (rowsX ni)).length cap]) ∧ OwnSB w' w.heap.size (.slice s (r.elim [] (rowsX ni)).length cap) vs (r.elim [] (rowsX ni)) ∧ Below w.heap.size w w'
theorem OwnSB.setlow {w : World} {base r o : Nat} {v u : Value} {vs : List Value} {rows : List (List Bool)} (h : OwnSB w base v vs rows) (hr : r < base) : OwnSB (w.setCell ⟨r, o, none⟩ u) base v vs rows :=
  ⟨own_set_ne h.out (fun e => by have := (own_blk h.out e).1; omega) _, fun i x q e1 e2 => own_set_ne (h.row i x q e1 e2) (fun e => by have := (own_blk (h.row i x q e1 e2) e).1; omega) _, h.inj⟩

set_option maxRecDepth 100000 in
set_option maxHeartbeats 6400000 in
theorem Distinguish_i (u v : Value) (a b : Cir) (w : World) (ha : CirV w u a) (hb : CirV w v b) :
    Calls Try.prog 7 #[u, v] w (DisOwn (disR a b) a.inp.toNat w) := by
  have HG := Lib.hid (And.intro ha hb)
  obtain ⟨sn, cn, sg, cg, so, co, rfl, -, -, -, ka1, ka2, ka3⟩ := ha
  obtain ⟨tn, dn, tg, dg, to_, do_, rfl, -, -, -, kb1, kb2, kb3⟩ := hb
  obtain ⟨W0, hW0⟩ : ∃ W0, W0 = (((w.alloc (.cells #[.int .i64 a.inp, .slice sn a.next.length cn, .slice sg a.gates.length cg, .slice so a.outs.length co] 33)).alloc (.cells #[.int .i64 b.inp, .slice tn b.next.length dn, .slice tg b.gates.length dg, .slice to_ b.outs.length do_] 33)).alloc (.cells #[.bool false, .slice none 0 0] 29)) := ⟨_, rfl⟩
  obtain ⟨A, hA⟩ : ∃ A, A = w.heap.size := ⟨_, rfl⟩
  have z1 : W0.heap.size = A + 3 := by rw [hW0, hA]; simp
  have z2 : W0.heap[A]? = some (.cells #[.int .i64 a.inp, .slice sn a.next.length cn, .slice sg a.gates.length cg, .slice so a.outs.length co] 33 (0, 0)) := by rw [hW0, hA]; exact blk_old (blk_old (blk_new w _))
  have z3 : W0.heap[A + 1]? = some (.cells #[.int .i64 b.inp, .slice tn b.next.length dn, .slice tg b.gates.length dg, .slice to_ b.outs.length do_] 33 (0, 0)) := by rw [hW0, hA]; exact blk_old (blk_at (by simp))
  have z5 : W0.heap[A + 2]? = some (.cells #[.bool false, .slice none 0 0] 29 (0, 0)) := by rw [hW0, hA]; exact blk_at (by simp)
  have z4 : Below w.heap.size w W0 := by rw [hW0]; go_grown
  have HW := Lib.hid (And.intro hW0 (And.intro hA z1))
  have HB : Hid (∀ W, Below (A + 3) W0 W → W.heap[A]? = some (.cells #[.int .i64 a.inp, .slice sn a.next.length cn, .slice sg a.gates.length cg, .slice so a.outs.length co] 33 (0, 0)) ∧ W.heap[A + 1]? = some (.cells #[.int .i64 b.inp, .slice tn b.next.length dn, .slice tg b.gates.length dg, .slice to_ b.outs.length do_] 33 (0, 0)) ∧ CirV W (.agg #[.int .i64 a.inp, .slice sn a.next.length cn, .slice sg a.gates.length cg, .slice so a.outs.length co]) a ∧ CirV W (.agg #[.int .i64 b.inp, .slice tn b.next.length dn, .slice tg b.gates.length dg, .slice to_ b.outs.length do_]) b ∧ Below w.heap.size w W ∧ W.heap[A + 2]? = some (.cells #[.bool false, .slice none 0 0] 29 (0, 0)) ∧ A + 3 ≤ W.heap.size) := fun W hW => ⟨blk_below hW (by omega) z2, blk_below hW (by omega) z3, HG.out.1.mono (z4.trans (hW.mono (by have := z4.size; omega))), HG.out.2.mono (z4.trans (hW.mono (by have := z4.size; omega))), z4.trans (hW.mono (by have := z4.size; omega)), blk_below hW (by omega) z5, by have := hW.size; omega⟩
  clear hW0 hA z1 z2 z3 z4 z5
  cases h1 : a.validB
  · have hs : cmpB a b = false := by simp [cmpB, h1]
    have HE := Lib.hid (disR_no hs)
    have HV := Lib.hid h1
    clear h1 hs
    go_enter Try.func7, Try.ntmps7
    go_upto_region 1 with fail
    rw [← HW.out.1]
    try rw [← HW.out.2.1]
    have ca := (blk_all (HB.out _ (Below.refl _ _)).1).1
    have cb := (blk_all (HB.out _ (Below.refl _ _)).2.1).1
    go_wp2_with (first | (go_at_call 23; ((with_reducible refine (CircuitValid_i _ a _ (HB.out _ (Below.refl _ _)).2.2.1).mono ?_); rintro e w1 ⟨rfl, hq⟩; rw [HV.out]; have H1 : Hid (Below (A + 3) W0 w1) := (by have h := HW.out.2.2; exact hq.mono (by omega)); clear hq ca cb; obtain ⟨rc, rf⟩ := blk_all (HB.out _ H1.out).2.2.2.2.2.1)))
    clear rc rf
    have hZ : ((w1.setCell ⟨A + 2, 0, none⟩ (.bool false)).setCell ⟨A + 2, 1, none⟩ (.slice none 0 0)).heap[A + 2]? = some (.cells #[.bool false, .slice none 0 0] 29 (0, 0)) := by
      simpa using blk_set (o := 1) (v := .slice none 0 0) (blk_set (o := 0) (v := .bool false) (HB.out _ H1.out).2.2.2.2.2.1)
    have hA2 := HW.out.2.1
    have hbz := ((HB.out _ H1.out).2.2.2.2.1.setCell (p := ⟨A + 2, 0, none⟩) (by simp; omega) (.bool false)).setCell (p := ⟨A + 2, 1, none⟩) (by simp; omega) (.slice none 0 0)
    revert hZ hbz
    generalize ((w1.setCell ⟨A + 2, 0, none⟩ (.bool false)).setCell ⟨A + 2, 1, none⟩ (.slice none 0 0)) = WZ
    intro hZ hbz
    have cr := (blk_all hZ).1
    exact bodyPost_ret (v := .agg #[.bool false, .slice none 0 0]) (by simp [results, Try.results7, go_sem, cr]) rfl (by rw [HE.out]; exact ⟨none, 0, [], rfl, OwnSB.nil _ _, hbz⟩)
  · cases h2 : b.validB
    · have hs : cmpB a b = false := by simp [cmpB, h2]
      have HE := Lib.hid (disR_no hs)
      have HV := Lib.hid (And.intro h1 h2)
      clear h1 h2 hs
      go_enter Try.func7, Try.ntmps7
      go_upto_region 1 with fail
      rw [← HW.out.1]
      try rw [← HW.out.2.1]
      have ca := (blk_all (HB.out _ (Below.refl _ _)).1).1
      have cb := (blk_all (HB.out _ (Below.refl _ _)).2.1).1
      go_wp2_with (first | (go_at_call 23; ((with_reducible refine (CircuitValid_i _ a _ (HB.out _ (Below.refl _ _)).2.2.1).mono ?_); rintro e w1 ⟨rfl, hq⟩; rw [HV.out.1]; have H1 : Hid (Below (A + 3) W0 w1) := (by have h := HW.out.2.2; exact hq.mono (by omega)); clear hq ca cb; have ca := (blk_all (HB.out _ H1.out).1).1; have cb := (blk_all (HB.out _ H1.out).2.1).1)) | (go_at_call 23; ((with_reducible refine (CircuitValid_i _ b _ (HB.out _ H1.out).2.2.2.1).mono ?_); rintro e w2 ⟨rfl, hq⟩; rw [HV.out.2]; have H2 : Hid (Below (A + 3) W0 w2) := H1.out.trans (hq.mono (HB.out _ H1.out).2.2.2.2.2.2); clear hq ca cb; have ca := (blk_all (HB.out _ H2.out).1).1; have cb := (blk_all (HB.out _ H2.out).2.1).1; obtain ⟨rc, rf⟩ := blk_all (HB.out _ H2.out).2.2.2.2.2.1)))
      clear rc rf
      have hZ : ((w2.setCell ⟨A + 2, 0, none⟩ (.bool false)).setCell ⟨A + 2, 1, none⟩ (.slice none 0 0)).heap[A + 2]? = some (.cells #[.bool false, .slice none 0 0] 29 (0, 0)) := by
        simpa using blk_set (o := 1) (v := .slice none 0 0) (blk_set (o := 0) (v := .bool false) (HB.out _ H2.out).2.2.2.2.2.1)
      have hA2 := HW.out.2.1
      have hbz := ((HB.out _ H2.out).2.2.2.2.1.setCell (p := ⟨A + 2, 0, none⟩) (by simp; omega) (.bool false)).setCell (p := ⟨A + 2, 1, none⟩) (by simp; omega) (.slice none 0 0)
      revert hZ hbz
      generalize ((w2.setCell ⟨A + 2, 0, none⟩ (.bool false)).setCell ⟨A + 2, 1, none⟩ (.slice none 0 0)) = WZ
      intro hZ hbz
      have cr := (blk_all hZ).1
      exact bodyPost_ret (v := .agg #[.bool false, .slice none 0 0]) (by simp [results, Try.results7, go_sem, cr]) rfl (by rw [HE.out]; exact ⟨none, 0, [], rfl, OwnSB.nil _ _, hbz⟩)
    · by_cases e1 : a.inp = b.inp
      · by_cases e3 : a.outs.length = b.outs.length
        · have e0 := disR_yes (cmpB_iff.2 ⟨h1, h2, e1, e3⟩)
          have hva := a.validB_iff.1 h1
          have hvb := b.validB_iff.1 h2
          obtain ⟨qa1, qa2, qa3, -, -⟩ := id hva.lim
          obtain ⟨-, -, qb3, -, -⟩ := id hvb.lim
          obtain ⟨ni, hni⟩ : ∃ ni : Nat, a.inp = ni := ⟨a.inp.toNat, by omega⟩
          obtain ⟨R, hR⟩ : ∃ R, R = disR a b := ⟨_, rfl⟩
          rw [← hR]
          have hRd : R = disD a b := by rw [hR, e0]
          have HDF : Hid (∀ (W : World) (s : Int × Int) (x : Nat), Below (A + 3) W0 W → 0 ≤ s.1 → s.1 ≤ 100 → 0 ≤ s.2 → s.2 ≤ 100 → x ≤ 100 → Calls Try.prog (24) #[pairV s, .int .i64 x, .pointer (some ⟨A, 0, none⟩), .pointer (some ⟨A + 1, 0, none⟩)] W fun e w' => e = .returned (.tuple #[pairV (stpD a b s x), .bool (hitD a b s x)]) ∧ Below W.heap.size W w') := fun W s x hW k1 k2 k3 k4 k5 => by
            obtain ⟨⟨_, _, _, _, _, _, ea, a1, a2, a3, -⟩, _, _, _, _, _, _, eb, b1, b2, b3, -⟩ := HG.out
            cases ea
            cases eb
            have hw := (HB.out W hW).2.2.2.2.1
            exact differ_any a b A (A + 1) sn sg so tn tg to_ cn cg co dn dg do_ s.1 s.2 x W (CirAt.of_blk (HB.out W hW).1) (a1.mono hw) (a2.mono hw) (a3.mono hw) hva (CirAt.of_blk (HB.out W hW).2.1) (b1.mono hw) (b2.mono hw) (b3.mono hw) hvb k1 k2 k3 k4 k5
          have HSE : Hid (∀ W, Below (A + 3) W0 W → Calls Try.prog 26 #[.int .i64 ni, .agg #[.int .i64 0, .int .i64 0], .func (.func (24)) #[] #[.pointer (some ⟨A, 0, none⟩), .pointer (some ⟨A + 1, 0, none⟩)]] W (SchPost R ni W)) := fun W hW => by
            rw [hRd]
            exact search_any a b A (A + 1) ni W hva hvb hni (fun W' s x hW' => HDF.out W' s x (hW.trans (hW'.mono (HB.out W hW).2.2.2.2.2.2)))
          have HV := Lib.hid (And.intro h1 h2)
          rw [← e1, ← e3, hni] at HW HB
          rw [← e1, ← e3, hni, Int.toNat_natCast]
          clear e0 hva hvb h1 h2 e1 e3 hR hni hRd HDF HG
          go_enter Try.func7, Try.ntmps7
          go_upto_region 1 with fail
          rw [← HW.out.1]
          try rw [← HW.out.2.1]
          have ca := (blk_all (HB.out _ (Below.refl _ _)).1).1
          have cb := (blk_all (HB.out _ (Below.refl _ _)).2.1).1

          go_upto_region 4 with (first | (go_at_call 23; ((with_reducible refine (CircuitValid_i _ a _ (HB.out _ (Below.refl _ _)).2.2.1).mono ?_); rintro e w1 ⟨rfl, hq⟩; rw [HV.out.1]; have H1 : Hid (Below (A + 3) W0 w1) := (by have h := HW.out.2.2; exact hq.mono (by omega)); clear hq ca cb; have ca := (blk_all (HB.out _ H1.out).1).1; have cb := (blk_all (HB.out _ H1.out).2.1).1)) | (go_at_call 23; ((with_reducible refine (CircuitValid_i _ b _ (HB.out _ H1.out).2.2.2.1).mono ?_); rintro e w2 ⟨rfl, hq⟩; rw [HV.out.2]; have H2 : Hid (Below (A + 3) W0 w2) := H1.out.trans (hq.mono (HB.out _ H1.out).2.2.2.2.2.2); clear hq ca cb; have ca := (blk_all (HB.out _ H2.out).1).1; have cb := (blk_all (HB.out _ H2.out).2.1).1)))
          go_wp2_with (go_at_call 26; (with_reducible refine (HSE.out _ H2.out).mono ?_); rintro e9 w9 ⟨s9, c9, vs9, rfl, h9, hq9⟩; have H9 := Lib.hid (And.intro h9 (H2.out.trans (hq9.mono (HB.out _ H2.out).2.2.2.2.2.2))); obtain ⟨rc, rf⟩ := blk_all (HB.out _ (H2.out.trans (hq9.mono (HB.out _ H2.out).2.2.2.2.2.2))).2.2.2.2.2.1; clear h9 hq9 ca cb)
          have hlow : A + 2 < w2.heap.size := by have := (HB.out _ H2.out).2.2.2.2.2.2; omega
          have hw2 : w.heap.size ≤ w2.heap.size := (HB.out _ H2.out).2.2.2.2.1.size
          clear rc rf
          have hZ : ((w9.setCell ⟨A + 2, 0, none⟩ (.bool R.isSome)).setCell ⟨A + 2, 1, none⟩ (.slice s9 (R.elim [] (rowsX ni)).length c9)).heap[A + 2]? = some (.cells #[.bool R.isSome, .slice s9 (R.elim [] (rowsX ni)).length c9] 29 (0, 0)) := by
            simpa using blk_set (o := 1) (v := .slice s9 (R.elim [] (rowsX ni)).length c9) (blk_set (o := 0) (v := .bool R.isSome) (HB.out _ H9.out.2).2.2.2.2.2.1)
          have hA2 := HW.out.2.1
          have hbz := ((HB.out _ H9.out.2).2.2.2.2.1.setCell (p := ⟨A + 2, 0, none⟩) (by simp; omega) (.bool R.isSome)).setCell (p := ⟨A + 2, 1, none⟩) (by simp; omega) (.slice s9 (R.elim [] (rowsX ni)).length c9)
          have hsb := OwnSB.setlow (o := 1) (u := .slice s9 (R.elim [] (rowsX ni)).length c9) (OwnSB.setlow (o := 0) (u := .bool R.isSome) H9.out.1 hlow) hlow
          revert hZ hbz hsb
          generalize ((w9.setCell ⟨A + 2, 0, none⟩ (.bool R.isSome)).setCell ⟨A + 2, 1, none⟩ (.slice s9 (R.elim [] (rowsX ni)).length c9)) = WZ
          intro hZ hbz hsb
          have cr := (blk_all hZ).1
          exact bodyPost_ret (v := .agg #[.bool R.isSome, .slice s9 (R.elim [] (rowsX ni)).length c9]) (by simp [results, Try.results7, go_sem, cr]) rfl ⟨s9, c9, vs9, rfl, hsb.base hw2, hbz⟩
        · have hs : cmpB a b = false := by simp [cmpB, e3]
          have HE := Lib.hid (disR_no hs)
          have q3 : ¬ ((a.outs.length : Int) = (b.outs.length : Int)) := by omega
          rw [← e1] at HW HB ⊢
          have HV := Lib.hid (And.intro h1 h2)
          clear h1 h2 hs e1 e3
          go_enter Try.func7, Try.ntmps7
          go_upto_region 1 with fail
          rw [← HW.out.1]
          try rw [← HW.out.2.1]
          have ca := (blk_all (HB.out _ (Below.refl _ _)).1).1
          have cb := (blk_all (HB.out _ (Below.refl _ _)).2.1).1
          go_wp2_with (first | (go_at_call 23; ((with_reducible refine (CircuitValid_i _ a _ (HB.out _ (Below.refl _ _)).2.2.1).mono ?_); rintro e w1 ⟨rfl, hq⟩; rw [HV.out.1]; have H1 : Hid (Below (A + 3) W0 w1) := (by have h := HW.out.2.2; exact hq.mono (by omega)); clear hq ca cb; have ca := (blk_all (HB.out _ H1.out).1).1; have cb := (blk_all (HB.out _ H1.out).2.1).1)) | (go_at_call 23; ((with_reducible refine (CircuitValid_i _ b _ (HB.out _ H1.out).2.2.2.1).mono ?_); rintro e w2 ⟨rfl, hq⟩; rw [HV.out.2]; have H2 : Hid (Below (A + 3) W0 w2) := H1.out.trans (hq.mono (HB.out _ H1.out).2.2.2.2.2.2); clear hq ca cb; have ca := (blk_all (HB.out _ H2.out).1).1; have cb := (blk_all (HB.out _ H2.out).2.1).1; obtain ⟨rc, rf⟩ := blk_all (HB.out _ H2.out).2.2.2.2.2.1)))
          clear rc rf
          have hZ : ((w2.setCell ⟨A + 2, 0, none⟩ (.bool false)).setCell ⟨A + 2, 1, none⟩ (.slice none 0 0)).heap[A + 2]? = some (.cells #[.bool false, .slice none 0 0] 29 (0, 0)) := by
            simpa using blk_set (o := 1) (v := .slice none 0 0) (blk_set (o := 0) (v := .bool false) (HB.out _ H2.out).2.2.2.2.2.1)
          have hA2 := HW.out.2.1
          have hbz := ((HB.out _ H2.out).2.2.2.2.1.setCell (p := ⟨A + 2, 0, none⟩) (by simp; omega) (.bool false)).setCell (p := ⟨A + 2, 1, none⟩) (by simp; omega) (.slice none 0 0)
          revert hZ hbz
          generalize ((w2.setCell ⟨A + 2, 0, none⟩ (.bool false)).setCell ⟨A + 2, 1, none⟩ (.slice none 0 0)) = WZ
          intro hZ hbz
          have cr := (blk_all hZ).1
          exact bodyPost_ret (v := .agg #[.bool false, .slice none 0 0]) (by simp [results, Try.results7, go_sem, cr]) rfl (by rw [HE.out]; exact ⟨none, 0, [], rfl, OwnSB.nil _ _, hbz⟩)
      · have hs : cmpB a b = false := by simp [cmpB, e1]
        have HE := Lib.hid (disR_no hs)
        have HV := Lib.hid (And.intro h1 h2)
        clear h1 h2 hs
        go_enter Try.func7, Try.ntmps7
        go_upto_region 1 with fail
        rw [← HW.out.1]
        try rw [← HW.out.2.1]
        have ca := (blk_all (HB.out _ (Below.refl _ _)).1).1
        have cb := (blk_all (HB.out _ (Below.refl _ _)).2.1).1
        go_wp2_with (first | (go_at_call 23; ((with_reducible refine (CircuitValid_i _ a _ (HB.out _ (Below.refl _ _)).2.2.1).mono ?_); rintro e w1 ⟨rfl, hq⟩; rw [HV.out.1]; have H1 : Hid (Below (A + 3) W0 w1) := (by have h := HW.out.2.2; exact hq.mono (by omega)); clear hq ca cb; have ca := (blk_all (HB.out _ H1.out).1).1; have cb := (blk_all (HB.out _ H1.out).2.1).1)) | (go_at_call 23; ((with_reducible refine (CircuitValid_i _ b _ (HB.out _ H1.out).2.2.2.1).mono ?_); rintro e w2 ⟨rfl, hq⟩; rw [HV.out.2]; have H2 : Hid (Below (A + 3) W0 w2) := H1.out.trans (hq.mono (HB.out _ H1.out).2.2.2.2.2.2); clear hq ca cb; have ca := (blk_all (HB.out _ H2.out).1).1; have cb := (blk_all (HB.out _ H2.out).2.1).1; obtain ⟨rc, rf⟩ := blk_all (HB.out _ H2.out).2.2.2.2.2.1)))
        clear rc rf
        have hZ : ((w2.setCell ⟨A + 2, 0, none⟩ (.bool false)).setCell ⟨A + 2, 1, none⟩ (.slice none 0 0)).heap[A + 2]? = some (.cells #[.bool false, .slice none 0 0] 29 (0, 0)) := by
          simpa using blk_set (o := 1) (v := .slice none 0 0) (blk_set (o := 0) (v := .bool false) (HB.out _ H2.out).2.2.2.2.2.1)
        have hA2 := HW.out.2.1
        have hbz := ((HB.out _ H2.out).2.2.2.2.1.setCell (p := ⟨A + 2, 0, none⟩) (by simp; omega) (.bool false)).setCell (p := ⟨A + 2, 1, none⟩) (by simp; omega) (.slice none 0 0)
        revert hZ hbz
        generalize ((w2.setCell ⟨A + 2, 0, none⟩ (.bool false)).setCell ⟨A + 2, 1, none⟩ (.slice none 0 0)) = WZ
        intro hZ hbz
        have cr := (blk_all hZ).1
        exact bodyPost_ret (v := .agg #[.bool false, .slice none 0 0]) (by simp [results, Try.results7, go_sem, cr]) rfl (by rw [HE.out]; exact ⟨none, 0, [], rfl, OwnSB.nil _ _, hbz⟩)

end Go.Proofs.Ytgadinaninkmoaa
