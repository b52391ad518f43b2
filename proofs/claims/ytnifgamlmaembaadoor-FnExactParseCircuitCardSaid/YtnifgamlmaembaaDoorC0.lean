import Derived.Test.YtnifgamlmaembaaDoorB5
import Derived.Deep.RegionHeld3
namespace Go.Proofs.YtnifgamlmaembaaDoor
set_option linter.unusedVariables false
set_option linter.unusedSimpArgs false
open Go.RowKit

/-- A circuit that came in: whatever its lengths. -/
def CirA (w : World) (v : Value) (c : Cir) : Prop :=
  ∃ sn cn sg cg so co, v = .agg #[.int .i64 c.inp, .slice sn c.next.length cn, .slice sg c.gates.length cg, .slice so c.outs.length co] ∧
    Sl w sn (ints c.next) ∧ Sl w sg (gcells c.gates) ∧ Sl w so (ints c.outs) ∧ c.next.length ≤ 9223372036854775807 ∧ c.gates.length ≤ 9223372036854775807 ∧ c.outs.length ≤ 9223372036854775807
theorem CirA.v {w : World} {v : Value} {c : Cir} (h : CirA w v c) (hs : c.size ≤ 1048576) : CirV w v c := by
  obtain ⟨sn, cn, sg, cg, so, co, hv, h1, h2, h3, h4⟩ := h
  rw [Cir.size_eq] at hs
  exact ⟨sn, cn, sg, cg, so, co, hv, h1, h2, h3, by omega, by omega, by omega⟩

theorem toCircuit_c (v : Value) (c : Cir) (w : World) (h : CirV w v c) :
    Calls Tryd.prog 8 #[v] w fun e w' => ∃ b1 b2 b3, e = .returned (.agg #[.int .i64 c.inp, .slice (some ⟨b1, 0, none⟩) c.next.length c.next.length, .slice (some ⟨b2, 0, none⟩) c.gates.length c.gates.length, .slice (some ⟨b3, 0, none⟩) c.outs.length c.outs.length]) ∧
      CirV w' (.agg #[.int .i64 c.inp, .slice (some ⟨b1, 0, none⟩) c.next.length c.next.length, .slice (some ⟨b2, 0, none⟩) c.gates.length c.gates.length, .slice (some ⟨b3, 0, none⟩) c.outs.length c.outs.length]) c ∧ Below w.heap.size w w' := by
  obtain ⟨-, -, -, -, -, -, -, -, -, -, l1, l2, l3⟩ := id h
  refine (toCircuit_any v c w h).mono ?_
  rintro e w' ⟨b1, b2, b3, rfl, -, -, -, h1, h2, h3, hb⟩
  exact ⟨b1, b2, b3, rfl, ⟨_, _, _, _, _, _, rfl, Sl.toA h1, Sl.toA h2, Sl.toA h3, l1, l2, l3⟩, hb⟩

end Go.Proofs.YtnifgamlmaembaaDoor
