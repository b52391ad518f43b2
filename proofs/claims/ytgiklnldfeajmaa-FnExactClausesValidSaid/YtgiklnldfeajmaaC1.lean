import Derived.Test.YtgiklnldfeajmaaB3
import Derived.Deep.RegionWith
namespace Go.Proofs.Ytgiklnldfeajmaa
open Go.RowKit

theorem lens_mem {rows : List (List Int)} {r : List Int} (h : r ∈ rows) : (r.length : Int) ≤ lens rows := by
  induction rows with
  | nil => cases h
  | cons x rows ih =>
    have := lens_nonneg rows
    rcases List.mem_cons.1 h with rfl | h
    · unfold lens at *; simp at *; omega
    · have := ih h
      unfold lens at *; simp at *; omega

set_option maxHeartbeats 400000 in
theorem FnExactClausesValid_any (s : Option Addr) (cap : Nat) (rows : List (List Int)) (w : World) (hs : SlS w s rows) (hl : rows.length ≤ 9223372036854775807) (hr : ∀ r ∈ rows, r.length ≤ 9223372036854775807) :
    Calls Try.prog 3 #[.slice s rows.length cap] w fun e w' => e = .returned (.bool true) ∧ Below w.heap.size w w' := by
  have HS : Hid (SlS w s rows) := hs
  have HR : Hid (∀ r ∈ rows, r.length ≤ 9223372036854775807) := hr
  clear hs hr
  by_cases hc : rows.length + lens rows ≤ 1048576
  · have h1 : leftOf 1048576 (rows.length + lens rows) = 1048576 - (rows.length + lens rows) := by unfold leftOf; rw [if_pos hc]
    have HN : Hid (rows.length ≤ 1048576 ∧ ∀ r ∈ rows, r.length ≤ 1048576) := by
      have := lens_nonneg rows
      exact ⟨by omega, fun r hr => by have := lens_mem hr; omega⟩
    have H1 := Lib.hid h1
    clear h1
    go_enter Try.func3, Try.ntmps3
    go_wp2_with (go_at_call 9; refine (szIntSS_any _ _ _ _ _ (by omega) (by omega) HS.out hl HR.out).mono ?_; rintro e w' ⟨rfl, rfl⟩; rw [H1.out])
    refine (toIntSS_any _ _ _ _ HN.out.1 HN.out.2 HS.out).mono ?_
    rintro e w1 ⟨s1, c1, rfl, ho1, hb1⟩
    have H1 := Lib.hid (And.intro ho1 hb1)
    clear ho1 hb1
    go_wp2_with fail
    refine (ClausesValid_s _ _ _ _ H1.out.1.sls HN.out.1 HN.out.2).mono ?_
    rintro e w' ⟨rfl, rfl⟩
    go_wp2_with fail
    refine (toIntSS_any _ _ _ _ HN.out.1 HN.out.2 (HS.out.mono H1.out.2)).mono ?_
    rintro e w2 ⟨s2, c2, rfl, ho2, hb2⟩
    have H2 := Lib.hid (And.intro ho2 hb2)
    clear ho2 hb2
    go_wp2_with fail
    refine (ClausesValid_i _ _ _ _ H2.out.1.sls HN.out.1 HN.out.2).mono ?_
    rintro e w' ⟨rfl, rfl⟩
    go_wp2_with fail
    refine (toIntSS_any _ _ _ _ HN.out.1 HN.out.2 (HS.out.mono (H1.out.2.trans (H2.out.2.mono H1.out.2.size)))).mono ?_
    rintro e w3 ⟨s3, c3, rfl, ho3, hb3⟩
    have H3 := Lib.hid (And.intro ho3 hb3)
    clear ho3 hb3
    go_wp2_with fail
    refine (eqIntSS_any _ _ _ _ _ _ _ (H2.out.1.sls.mono H3.out.2) H3.out.1.sls HN.out.1 HN.out.1 HN.out.2 HN.out.2).mono ?_
    rintro e w4 ⟨rfl, hd4⟩
    have H4 := Lib.hid hd4
    clear hd4
    go_wp2
    go_ret
    exact ⟨rfl, ((H1.out.2.trans (H2.out.2.mono H1.out.2.size)).trans (H3.out.2.mono (Nat.le_trans H1.out.2.size H2.out.2.size))).trans (H4.out.below _)⟩
  · have h1 : leftOf 1048576 (rows.length + lens rows) = -1 := by unfold leftOf; rw [if_neg hc]
    have H1 := Lib.hid h1
    clear h1
    go_enter Try.func3, Try.ntmps3
    go_wp2_with (go_at_call 9; refine (szIntSS_any _ _ _ _ _ (by omega) (by omega) HS.out hl HR.out).mono ?_; rintro e w' ⟨rfl, rfl⟩; rw [H1.out])
    go_ret
    exact ⟨rfl, Below.refl _ _⟩

end Go.Proofs.Ytgiklnldfeajmaa
