import Derived.Test.YtddmgphlhfilnaaZ2
import Derived.Test.YtddmgphlhfilnaaA5
namespace Go.Proofs.Ytddmgphlhfilnaa
set_option linter.unusedVariables false
set_option linter.unusedSimpArgs false
open Go.RowKit

/-! The value of a gate. -/

theorem evalV_gate {c : Cir} (hv : c.valid) (x : Int) {i : Nat} {g : Gt} (hg : c.gates[i]? = some g) :
    litB (evalV c x (-1) false) (2 * (c.first + i)) = (litB (evalV c x (-1) false) g.a && litB (evalV c x (-1) false) g.b) := by
  obtain ⟨⟨a0, a2⟩, b0, b2⟩ := valid_gate hv hg
  obtain ⟨q1, q2, q3, q4, q5⟩ := hv.lim
  have eF : c.first = 1 + c.inp + c.next.length := rfl
  have hi := (List.getElem?_eq_some_iff.1 hg).1
  rw [evalV_no]
  have e1 : valsV (-1) false (asgV c x) c.gates = valsV (-1) false (valsV (-1) false (asgV c x) (c.gates.take (i + 1))) (c.gates.drop (i + 1)) := by
    rw [← valsV_append, List.take_append_drop]
  obtain ⟨r, hr⟩ := valsV_pre (-1) false (valsV (-1) false (asgV c x) (c.gates.take (i + 1))) (c.gates.drop (i + 1))
  rw [e1, hr, valsV_snoc hg]
  obtain ⟨vs, hvs⟩ : ∃ vs, vs = valsV (-1) false (asgV c x) (c.gates.take i) := ⟨_, rfl⟩
  rw [← hvs]
  have hlen : vs.length = c.first.toNat + i := by
    rw [hvs, valsV_length, asgV_length, List.length_take]; omega
  unfold stepV
  rw [if_neg (by omega)]
  have p1 : (2 * (c.first + (i : Int)) / 2).toNat = vs.length := by omega
  have la : litB (vs ++ [litB vs g.a && litB vs g.b] ++ r) g.a = litB vs g.a := by rw [List.append_assoc]; exact litB_pre (by omega)
  have lb : litB (vs ++ [litB vs g.a && litB vs g.b] ++ r) g.b = litB vs g.b := by rw [List.append_assoc]; exact litB_pre (by omega)
  rw [la, lb]
  unfold litB
  rw [p1]
  have e2 : decide (2 * (c.first + (i : Int)) % 2 = 1) = false := by rw [decide_eq_false_iff_not]; omega
  rw [e2]
  simp [List.getD, List.getElem?_append]

end Go.Proofs.Ytddmgphlhfilnaa
