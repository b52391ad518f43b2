import Derived.Test.YtgiklnldfeajmaaD4
import Derived.Test.YtgiklnldfeajmaaA3
namespace Go.Proofs.Ytgiklnldfeajmaa
open Go.RowKit

theorem OwnSS.base {w : World} {base base' : Nat} {v : Value} {rows : List (List Int)} (h : OwnSS w base v rows) (hb : base' ≤ base) : OwnSS w base' v rows := by
  obtain ⟨vs, h1, h2, h3⟩ := h
  exact ⟨vs, own_base h1 hb, fun i r hr => let ⟨u, hu, ho⟩ := h2 i r hr; ⟨u, hu, own_base ho hb⟩, h3⟩

/-- A formula that was drawn. -/
def DrawnF (w : World) (e : Ending) (w' : World) : Prop :=
  ∃ (s' : Option Addr) (c' : Nat) (rows : List (List Int)), e = .returned (.slice s' rows.length c') ∧ OwnSS w' w.heap.size (.slice s' rows.length c') rows ∧ rows.length ≤ 81 ∧ (∀ r ∈ rows, r.length ≤ 4) ∧ Below w.heap.size w w'

theorem DrawClausesValid_any (s : Option Addr) (cap : Nat) (xs : List Int) (w : World) (hs : Sl w s (u8s xs)) (hl : xs.length ≤ 1048576) (hcap : xs.length ≤ cap) (hcap2 : cap ≤ 9223372036854775807) (hr : ∀ x ∈ xs, 0 ≤ x ∧ x ≤ 255) :
    Calls Try.prog 19 #[.slice s xs.length cap] w (DrawnF w) := by
  have HH := Lib.hid (l20Open_any s cap xs w hs hl hcap hcap2 hr)
  clear hs hr
  go_enter Try.func19, Try.ntmps19
  go_wp2_with (first
    | (go_at_call 39; (with_reducible refine HH.out.mono ?_); rintro e w1 ⟨c, rfl, h1, h2, h3⟩; have H1 := Lib.hid (And.intro h1 (And.intro h2 h3)); clear h1 h2 h3)
    | (go_at_call 38; (with_reducible refine (l20Clauses_any _ _ _ _ _ _ _ H1.out.1 (by omega) (by omega) (by omega)).mono ?_); rintro e w2 ⟨s', c', rows, p', rfl, h1, h2, h3, h4, h5, h6⟩; have H2 := Lib.hid (And.intro h1 (And.intro h2 (And.intro h3 h6))); clear h1 h2 h3 h4 h5 h6))
  go_ret
  obtain ⟨h1, h2, h3, h4⟩ := H2.out
  obtain ⟨g1, g2, g3⟩ := H1.out
  have hs2 := g2.size
  exact ⟨s', c', rows, rfl, h1.ss.base (by omega), h2, h3, g2.trans (h4.below (Nat.le_refl _) (by omega))⟩

theorem alive_any (w : World) : Calls Try.prog 20 #[] w fun e w' => e = .returned (.bool true) ∧ Below w.heap.size w w' := by
  go_enter Try.func20, Try.ntmps20
  go_wp2_with (go_at_call 40; (refine (CircuitValid_i _ ⟨0, [], [], []⟩ _ ⟨none, 0, none, 0, none, 0, rfl, .inl rfl, .inl rfl, .inl rfl, by simp, by simp, by simp⟩).mono ?_); rintro e w' ⟨rfl, hq⟩; have HQ := Lib.hid hq; clear hq)
  go_ret
  exact ⟨by congr 1, HQ.out⟩

end Go.Proofs.Ytgiklnldfeajmaa
