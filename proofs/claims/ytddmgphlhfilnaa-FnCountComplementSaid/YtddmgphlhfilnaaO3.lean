import Derived.Test.YtddmgphlhfilnaaO1
import Derived.Test.YtddmgphlhfilnaaD1
namespace Go.Proofs.Ytddmgphlhfilnaa
set_option linter.unusedVariables false
set_option linter.unusedSimpArgs false
open Go.RowKit Go.ChangeShapes Go.WideShapes Go.ChangeAt

variable {H : Type} {enc : TypeId × Value → H} {P : Program} {w : World}

theorem wf_u8 {n : Int} (h : (Lit.int .u8 n).wf = true) : 0 ≤ n ∧ n ≤ 255 := by
  simpa [Lit.wf, IntKind.min, IntKind.max, IntKind.bits, IntKind.signed] using h

/-- A slice of bytes as it comes in. -/
structure Bts (w : World) (s : Option Addr) (cap : Nat) (xs : List Int) : Prop where
  sl : Sl w s (u8s xs)
  len : xs.length ≤ 9223372036854775807
  cap1 : xs.length ≤ cap
  cap2 : cap ≤ 9223372036854775807
  range : ∀ x ∈ xs, 0 ≤ x ∧ x ≤ 255

theorem open_u8s {t e : TypeId} {fuel : Nat} {v : Value} {held : Bool} {base : Nat} {x : DataW H × List MemPlace} (ht : P.underlying t = some (.slice e)) (he : P.underlying e = some (.int .u8)) (ce : P.cellsOf e = 1)
    (h : DataW.trod enc P w base (fun _ => true) held fuel t [v] = some x) :
    ∃ (s : Option Addr) (xs : List Int) (c : Nat), v = .slice s xs.length c ∧ Bts w s c xs := by
  rcases open_ints ht he ce h with ⟨hcs, _⟩ | ⟨a, l, c, zs, hcs, _, hl, hm, hz, _, hcell, hwz⟩
  · simp at hcs; subst hcs
    exact ⟨none, [], 0, rfl, .inl rfl, by simp, by simp, by simp, by simp⟩
  · simp at hcs; subst hcs
    have hz' : zs.length = c := by simpa using hz
    have hlen : (zs.take l).length = l := by rw [List.length_take]; omega
    unfold maxLen at hm
    refine ⟨some a, zs.take l, c, by rw [hlen], ?_, by rw [hlen]; omega, by rw [hlen]; omega, by omega, fun n hn => wf_u8 (hwz n (List.mem_of_mem_take hn))⟩
    refine sl_of_add fun j v hv => ?_
    simp only [u8s, List.getElem?_map] at hv
    obtain ⟨z, hz, rfl⟩ := Option.map_eq_some_iff.1 hv
    rw [List.getElem?_take] at hz
    split at hz
    · rw [hcell j (by omega)]; simp [List.getD, hz]
    · cases hz

end Go.Proofs.Ytddmgphlhfilnaa
