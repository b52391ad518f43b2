import Derived.Test.YtbbefoohelcokaaV2
import Derived.Test.YtbbefoohelcokaaQ1
namespace Go.Proofs.Ytbbefoohelcokaa
set_option linter.unusedVariables false
set_option linter.unusedSimpArgs false
open Go.RowKit

theorem Sl.src {w : World} {s : Option Addr} {cs : List Value} (h : Sl w s cs) (hp : 0 < cs.length) : ∃ ad, s = some ad ∧ ∀ (j : Nat) (v : Value), cs[j]? = some v → w.cell? (ad.add j) = some v := by
  obtain ⟨b, off, rfl, _, hc⟩ := h.at hp
  exact ⟨_, rfl, fun j v hv => by rw [addr_add]; exact hc j v hv⟩
theorem splice_app {A B C cs : List Value} {off : Nat} (h : A.length = off) (hb : B.length = cs.length) : splice (A ++ (B ++ C)) off cs = A ++ (cs ++ C) := by
  unfold splice
  rw [List.take_left' h, ← List.append_assoc A B C, List.drop_left' (by rw [List.length_append, h, hb])]
theorem splice_vals (V ni nn ng : Nat) (hV : V = 1 + ni + nn + ng) (I S : List Bool) (hI : I.length = ni) (hS : S.length = nn) : splice (splice (bools (List.replicate V false)) 1 (bools I)) (1 + ni) (bools S) = bools ((false :: (I ++ S)) ++ List.replicate ng false) := by
  have e : bools (List.replicate V false) = [Value.bool false] ++ (List.replicate ni (Value.bool false) ++ (List.replicate nn (Value.bool false) ++ List.replicate ng (Value.bool false))) := by
    rw [List.replicate_append_replicate, List.replicate_append_replicate, hV, show 1 + ni + nn + ng = ni + (nn + ng) + 1 from by omega, List.replicate_succ]
    simp [bools]
  rw [e, splice_app (A := [Value.bool false]) (off := 1) rfl (by simp [hI]), ← List.append_assoc, splice_app (by simp [hI]; omega) (by simp [hS])]
  simp [bools]

end Go.Proofs.Ytbbefoohelcokaa
