import Derived.Test.YtbbefoohelcokaaY0
import Derived.Test.YtbbefoohelcokaaOA
import Derived.Test.YtbbefoohelcokaaA4
import Derived.Test.YtbbefoohelcokaaV3
import Derived.Test.YtbbefoohelcokaaR1
namespace Go.Proofs.Ytbbefoohelcokaa
set_option linter.unusedVariables false
set_option linter.unusedSimpArgs false
open Go.RowKit

theorem OwnSS.base {w : World} {base base' : Nat} {v : Value} {rows : List (List Int)} (h : OwnSS w base v rows) (hb : base' ≤ base) : OwnSS w base' v rows := by
  obtain ⟨vs, h1, h2, h3⟩ := h
  exact ⟨vs, own_base h1 hb, fun i r hr => let ⟨u, hu, ho⟩ := h2 i r hr; ⟨u, hu, own_base ho hb⟩, h3⟩

/-- A formula that was drawn. -/
def DrawnF (w : World) (e : Ending) (w' : World) : Prop :=
  ∃ (s' : Option Addr) (c' : Nat) (rows : List (List Int)), e = .returned (.slice s' rows.length c') ∧ OwnSS w' w.heap.size (.slice s' rows.length c') rows ∧ rows.length ≤ 81 ∧ (∀ r ∈ rows, r.length ≤ 4) ∧ Below w.heap.size w w'

theorem alive_any (w : World) : Calls Try.prog 9 #[] w fun e w' => e = .returned (.bool true) ∧ Below w.heap.size w w' := by
  go_enter Try.func9, Try.ntmps9
  go_wp2_with (go_at_call 7; (refine (CircuitValid_i _ ⟨0, [], [], []⟩ _ ⟨none, 0, none, 0, none, 0, rfl, .inl rfl, .inl rfl, .inl rfl, by simp, by simp, by simp⟩).mono ?_); rintro e w' ⟨rfl, hq⟩; have HQ := Lib.hid hq; clear hq)
  go_ret
  exact ⟨by congr 1, HQ.out⟩

/-! A literal exists; how many variables there are. -/

theorem asgN_le2 {c : Cir} (h : c.valid) : 1 ≤ asgN c ∧ asgN c ≤ 128 := by
  obtain ⟨q1, q2, q3, q4, q5⟩ := h.lim
  unfold asgN
  exact ⟨Nat.pow_pos (by omega), Nat.le_trans (Nat.pow_le_pow_right (by omega) (show c.inp.toNat + c.next.length ≤ 7 by omega)) (by decide)⟩

end Go.Proofs.Ytbbefoohelcokaa
