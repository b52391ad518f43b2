import Derived.Test.YtddmgphlhfilnaaCF
import Derived.Test.YtddmgphlhfilnaaC1
import Derived.Test.YtddmgphlhfilnaaP2
namespace Go.Proofs.Ytddmgphlhfilnaa
set_option linter.unusedVariables false
set_option linter.unusedSimpArgs false
open Go.RowKit

/-! The law FnExactSatisfy. -/

set_option maxHeartbeats 800000 in
theorem markIntSS_own (base : Nat) (s : Option Addr) (cap : Nat) (rows : List (List Int)) (k : Int) (w0 w : World) (h0 : OwnSS w0 base (.slice s rows.length cap) rows) (hb : Below w0.heap.size w0 w) (hn : rows.length + lens rows ≤ 1048576) (hk : 0 ≤ k) (hk2 : k ≤ 1000) :
    Calls Try.prog 45 #[.slice s rows.length cap, .int .i64 k] w fun e w' => e = .returned (.int .i64 (k + lens rows)) ∧ Chg (fun q => base ≤ q ∧ q < w0.heap.size) w w' := by
  have hL := lens_nonneg rows
  have hll := lens_take_le rows
  have hmem : ∀ r ∈ rows, (r.length : Int) ≤ lens rows := fun r hr => lens_mem hr
  obtain ⟨vs, v1, v2, v3⟩ := h0
  have H := Lib.hid (And.intro v1 (And.intro v2 (And.intro v3 (And.intro hb (And.intro hll hmem)))))
  clear v1 v2 v3 hb hll hmem
  go_enter Try.func45, Try.ntmps45
  go_wp2_with fail
  go_loopw [1, 5] (fun v1 i wr => ∃ j : Nat, j ≤ rows.length ∧ i = .int .i64 j ∧ v1 = .int .i64 (k + lens (rows.take j)) ∧
      (∀ (i : Nat) (r : List Int) (u : Value), j ≤ i → rows[i]? = some r → vs[i]? = some u → wr.ownsRow base 3 1 u r.length (ints r)) ∧ wr.ownsRow base 36 1 (.slice s rows.length cap) rows.length vs ∧ Chg (fun q => base ≤ q ∧ q < w0.heap.size) w wr) (fun _ i _ => rows.length - (intOf i).toNat)
  case atStart =>
    refine ⟨0, Nat.zero_le _, rfl, by simp [lens], fun i r u _ h1 h2 => ?_, own_below H.out.1 H.out.2.2.2.1, Chg.refl _ _⟩
    obtain ⟨u', hu', ho⟩ := H.out.2.1 i r h1
    rw [hu'] at h2; cases h2
    exact own_below ho H.out.2.2.2.1
  case round =>
    obtain ⟨j, hj, rfl, rfl, hrw, hov, hc⟩ := hrel
    have hL0 := lens_nonneg (rows.take j)
    have hL1 := H.out.2.2.2.2.1 j
    by_cases hlt : j < rows.length
    · obtain ⟨r, hrj⟩ := get_of_lt hlt
      obtain ⟨u, huj, hou0⟩ := H.out.2.1 j r hrj
      have hou := hrw j r u (Nat.le_refl _) hrj huj
      obtain ⟨sr, cr, rfl⟩ := own_shape hou
      obtain ⟨g, rfl⟩ : ∃ g, s = some ⟨g, 0, none⟩ := by
        rcases own_some hov with ⟨_, e, _⟩ | ⟨g, e⟩
        · omega
        · exact ⟨g, e⟩
      have hz : wr.cell? ⟨g, j, none⟩ = some (.slice sr r.length cr) := (hov.cellAt j (by omega)).trans huj
      have hrl := H.out.2.2.2.2.2 r (List.mem_of_getElem? hrj)
      have hsn := lens_snoc hrj
      have HR := Lib.hid (And.intro hrw (And.intro hov (And.intro hc (And.intro hrj (And.intro huj (And.intro hou0 (And.intro hou hsn)))))))
      clear hrw hov hc hrj huj hou0 hou hsn
      go_wp2_with (go_at_call 46; ((refine (markIntS_any base sr r.length cr r _ _ HR.out.2.2.2.2.2.2.1 (by omega) (by omega) (by omega)).mono ?_); rintro e w1 ⟨rfl, ho1, hg1⟩; have HM := Lib.hid (Chg.of_grown hg1); clear ho1 hg1))
      obtain ⟨hrw, hov, hc, hrj, huj, hou0, hou, hsn⟩ := HR.out
      go_roundw
      case rel =>
        refine ⟨j + 1, by omega, by go_num, by rw [hsn]; go_num, fun i r' u' h1 h2 h3 => ?_, HM.out.own hov (fun k hk hs => own_ty hov hou (by decide) hk hs), hc.trans (HM.out.mono fun q e => own_blk hou0 e)⟩
        exact HM.out.own (hrw i r' u' (by omega) h2 h3) (fun q hq hs => by have := H.out.2.2.1 i j u' _ q h3 huj hq hs; omega)
      case measure => simp [intOf]; omega
    · obtain rfl : j = rows.length := by omega
      rw [List.take_length]
      have HR := Lib.hid hc
      clear hrw hov hc
      go_wp2_with fail
      go_ret
      exact ⟨rfl, HR.out⟩

set_option maxHeartbeats 3200000 in
theorem FnExactSatisfy_any (s : Option Addr) (cap : Nat) (rows : List (List Int)) (w : World) (hs : SlS w s rows) (hl : rows.length ≤ 9223372036854775807) (hr : ∀ r ∈ rows, r.length ≤ 9223372036854775807) :
    Calls Try.prog 11 #[.slice s rows.length cap] w fun e w' => e = .returned (.bool true) ∧ Below w.heap.size w w' := by
  have HS : Hid (SlS w s rows) := hs
  have HR : Hid (∀ r ∈ rows, r.length ≤ 9223372036854775807) := hr
  clear hs hr
  by_cases hc : rows.length + lens rows ≤ 1048576
  · have h1 : leftOf 1048576 (rows.length + lens rows) = 1048576 - (rows.length + lens rows) := by unfold leftOf; rw [if_pos hc]
    have hL := lens_nonneg rows
    have HN : Hid (rows.length ≤ 1048576 ∧ ∀ r ∈ rows, r.length ≤ 1048576) := by
      exact ⟨by omega, fun r hr => by have := lens_mem hr; omega⟩
    have H1 := Lib.hid h1
    clear h1
    have hk0 : decide (1 + lens rows < 0) = false := by simp; omega
    go_enter Try.func11, Try.ntmps11
    go_wp2_with (go_at_call 39; refine (szIntSS_any _ _ _ _ _ (by omega) (by omega) HS.out hl HR.out).mono ?_; rintro e w' ⟨rfl, rfl⟩; rw [H1.out])
    refine (toIntSS_any _ _ _ _ HN.out.1 HN.out.2 HS.out).mono ?_
    rintro e w1 ⟨s1, c1, rfl, ho1, hb1⟩
    have H1 := Lib.hid (And.intro ho1 hb1)
    have z1 := hb1.size
    clear ho1 hb1
    go_wp2_with fail
    refine (Satisfy_s _ _ _ _ H1.out.1.sls HN.out.1 HN.out.2).mono ?_
    rintro e w2 ⟨s2, c2, o, rfl, a1, a2, a3⟩
    obtain ⟨r, hr⟩ : ∃ r, r = o.getD [] := ⟨_, rfl⟩
    obtain ⟨b, hbo⟩ : ∃ b, b = o.isSome := ⟨_, rfl⟩
    have hr26 : r.length ≤ 26 := by rw [hr]; exact satP_len a2
    rw [← hr] at a1 ⊢
    rw [← hbo]
    have z2 := a3.size
    have H2 := Lib.hid (And.intro a1 (And.intro a2 (And.intro (H1.out.2.trans (a3.mono z1)) (And.intro hr hbo))))
    clear a1 a2 a3 hr hbo
    go_wp2_with fail
    refine (toIntSS_any _ _ _ _ HN.out.1 HN.out.2 (HS.out.mono H2.out.2.2.1)).mono ?_
    rintro e w3 ⟨s3, c3, rfl, ho3, hb3⟩
    have z3 := hb3.size
    have H3 := Lib.hid (And.intro ho3 (And.intro hb3 (H2.out.2.2.1.trans (hb3.mono (by omega)))))
    clear ho3 hb3
    go_wp2_with fail
    refine (Satisfy_i _ _ _ _ H3.out.1.sls HN.out.1 HN.out.2).mono ?_
    rintro e w4 ⟨s4, c4, o', rfl, a1, a2, a3⟩
    obtain rfl : o' = o := satP_uniq a2 H2.out.2.1
    rw [← H2.out.2.2.2.1] at a1 ⊢
    rw [← H2.out.2.2.2.2]
    have z4 := a3.size
    have H4 := Lib.hid (And.intro a1 (And.intro a3 (And.intro (H2.out.1.mono (H3.out.2.1.trans (a3.mono z3))) (H3.out.2.2.trans (a3.mono (by omega))))))
    clear a1 a2 a3
    cases b
    all_goals
      go_wp2_with (go_at_call 43; ((with_reducible refine (eqIntS_any s4 s2 r r _ _ _ (own_sl H4.out.1) H4.out.2.2.1 (by omega) (by omega)).mono ?_); rintro e w5 ⟨rfl, n5, rfl⟩; rw [decide_eq_true (rfl : r = r)]))
      refine (toIntSS_any _ _ _ _ HN.out.1 HN.out.2 (HS.out.mono (below_n H4.out.2.2.2 n5))).mono ?_
      rintro e w6 ⟨s6, c6, rfl, ho6, hb6⟩
      have hb46 : Below w4.heap.size w4 w6 := (below_n (Below.refl _ _) n5).trans hb6
      have z6 := hb46.size
      have H6 := Lib.hid (And.intro ho6 (And.intro hb46 (H4.out.2.1.trans (hb46.mono z4))))
      clear ho6 hb6 hb46
      go_wp2_with (go_at_call 44; ((refine (eqIntSS_any s3 s6 rows rows _ _ _ (H3.out.1.sls.mono H6.out.2.2) H6.out.1.sls HN.out.1 HN.out.1 HN.out.2 HN.out.2).mono ?_); rintro e w7 ⟨rfl, n7, rfl⟩; rw [decide_eq_true (rfl : rows = rows)]))
      refine (markIntSS_own _ s3 c3 rows _ w3 _ H3.out.1 (below_n H6.out.2.2 n7) hc (by omega) (by omega)).mono ?_
      rintro e w8 ⟨rfl, hq⟩
      have hz6n : (w6.drewN n7).heap.size = w6.heap.size := rfl
      have z8 := hq.size
      rw [hz6n] at z8
      have hbig : Below w2.heap.size w6 w8 := (below_n (Below.refl w2.heap.size w6) n7).trans (hq.below (by rw [hz6n]; omega) (fun k hk hs => by omega))
      have hg0 : w8.ownsRow w3.heap.size 3 1 (.slice s4 r.length c4) r.length (ints r) := hq.own (own_below (own_below H4.out.1 H6.out.2.1) (below_n (Below.refl _ _) n7)) (fun k hk hs => by have := (own_blk H4.out.1 hk).1; omega)
      have hw0 : Sl w8 s2 (ints r) := H2.out.1.mono ((H3.out.2.1.trans (H6.out.2.2.mono z3)).trans hbig)
      have hbw : Below w.heap.size w w8 := (H3.out.2.2.trans (H6.out.2.2.mono (by omega))).trans (hbig.mono (by omega))
      have H8 := Lib.hid (And.intro hg0 (And.intro hw0 hbw))
      clear hq hbig hg0 hw0 hbw hz6n
      go_wp2_with (go_at_call 43; ((with_reducible refine (eqIntS_any s4 s2 r r _ _ _ (own_sl H8.out.1) H8.out.2.1 (by omega) (by omega)).mono ?_); rintro e w9 ⟨rfl, n9, rfl⟩; rw [decide_eq_true (rfl : r = r)]))
      refine (markIntS_any _ s4 _ _ _ _ _ (own_below H8.out.1 (below_n (Below.refl _ _) n9)) (by omega) (by omega) (by omega)).mono ?_
      rintro e w10 ⟨rfl, ho, hg⟩
      have hz8n : (w8.drewN n9).heap.size = w8.heap.size := rfl
      have hc10 := Chg.of_grown hg
      have z10 := hc10.size
      rw [hz8n] at z10
      have hbig : Below w2.heap.size w8 w10 := (below_n (Below.refl w2.heap.size w8) n9).trans (hc10.below (by rw [hz8n]; omega) (fun k hk hs => by have := (own_blk H4.out.1 hs).1; omega))
      have H10 := Lib.hid (And.intro ho (And.intro (H8.out.2.1.mono' (fun a ha hne => by
        rcases H2.out.1 with h | ⟨b, off, e, h⟩
        · exact absurd h hne
        · rw [e] at ha; cases ha; exact Sl.lt h hne) hbig) (H8.out.2.2.trans (hbig.mono (by omega)))))
      clear ho hg hbig hc10 hz8n
      go_wp2_with (go_at_call 47; ((with_reducible refine (heldIntS_any s4 _ _ _ _ (own_sl H10.out.1) (by omega) (by omega) (by omega)).mono ?_); rintro e w11 ⟨rfl, n11, rfl⟩))
      refine (toIntSS_any _ _ _ _ HN.out.1 HN.out.2 (HS.out.mono (below_n H10.out.2.2 n11))).mono ?_
      rintro e w12 ⟨s12, c12, rfl, ho12, hb12⟩
      have hb1012 : Below w10.heap.size w10 w12 := (below_n (Below.refl _ _) n11).trans hb12
      have z12 := hb1012.size
      have H12 := Lib.hid (And.intro ho12 hb1012)
      clear ho12 hb12 hb1012
      go_wp2_with fail
      refine (Satisfy_i _ _ _ _ H12.out.1.sls HN.out.1 HN.out.2).mono ?_
      rintro e w13 ⟨s13, c13, o'', rfl, a1, a2, a3⟩
      have eo : o'' = o' := satP_uniq a2 H2.out.2.1
      rw [eo, ← H2.out.2.2.2.1] at a1
      rw [eo, ← H2.out.2.2.2.1, ← H2.out.2.2.2.2]
      have hb13 := H12.out.2.trans (a3.mono z12)
      have H13 := Lib.hid (And.intro a1 (And.intro (H10.out.2.1.mono hb13) (And.intro (own_below H10.out.1 hb13) (H10.out.2.2.trans (hb13.mono H10.out.2.2.size)))))
      clear a1 a2 a3 hb13 eo
      go_wp2_with (first
        | (go_at_call 43; ((with_reducible refine (eqIntS_any s13 s2 r r _ _ _ (own_sl H13.out.1) H13.out.2.1 (by omega) (by omega)).mono ?_); rintro e w14 ⟨rfl, n14, rfl⟩; rw [decide_eq_true (rfl : r = r)]))
        | (go_at_call 47; ((with_reducible refine (heldIntS_any s4 _ _ _ _ (own_sl (own_below H13.out.2.2.1 (below_n (Below.refl _ _) n14))) (by omega) (by omega) (by omega)).mono ?_); rintro e w15 ⟨rfl, n15, rfl⟩)))
      go_ret
      exact ⟨rfl, by first | exact below_n H13.out.2.2.2 _ | exact below_n (below_n H13.out.2.2.2 _) _⟩
  · have h1 : leftOf 1048576 (rows.length + lens rows) = -1 := by unfold leftOf; rw [if_neg hc]
    have H1 := Lib.hid h1
    clear h1
    go_enter Try.func11, Try.ntmps11
    go_wp2_with (go_at_call 39; refine (szIntSS_any _ _ _ _ _ (by omega) (by omega) HS.out hl HR.out).mono ?_; rintro e w' ⟨rfl, rfl⟩; rw [H1.out])
    go_ret
    exact ⟨rfl, Below.refl _ _⟩

end Go.Proofs.Ytddmgphlhfilnaa
