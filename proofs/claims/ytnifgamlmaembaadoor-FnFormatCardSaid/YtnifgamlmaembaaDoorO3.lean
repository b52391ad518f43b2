import Derived.Test.YtnifgamlmaembaaDoorA4
import Derived.ProofKit
import Derived.OpenShut
import Derived.Deep.Matrix
import Derived.Test.YtnifgamlmaembaaDoorD3
namespace Go.Proofs.YtnifgamlmaembaaDoor
set_option linter.unusedVariables false
set_option linter.unusedSimpArgs false
open Go.RowKit Go.ChangeShapes Go.WideShapes Go.ChangeAt

/-! Arguments as they come in, opened into the words of the walks. -/

theorem sl_of_add {w : World} {a : Addr} {cs : List Value} (h : ∀ (j : Nat) (v : Value), cs[j]? = some v → w.cell? (a.add j) = some v) : Sl w (some a) cs := by
  by_cases he : cs = []
  · exact .inl he
  · obtain ⟨b, off, spot⟩ := a
    match cs, he with
    | c :: cs, _ =>
      have h0 := h 0 c rfl
      have hspot : spot = none := by simpa [Addr.add] using World.cell?_spot h0
      subst hspot
      exact .inr ⟨b, off, rfl, fun j v hv => by rw [← addr_add]; exact h j v hv⟩

variable {H : Type} {enc : TypeId × Value → H} {P : Program} {w : World}

theorem open_SlS {t e q : TypeId} {fuel : Nat} {a0 : Option Addr} {len cap : Nat} {held : Bool} {base : Nat} {x : DataW H × List MemPlace} (ht : P.underlying t = some (.slice e)) (he : P.underlying e = some (.slice q)) (hq : P.underlying q = some (.int .i64))
    (ce : P.cellsOf e = 1) (cq : P.cellsOf q = 1) (h : DataW.trod enc P w base (fun _ => true) held fuel t [.slice a0 len cap] = some x) :
    ∃ rows : List (List Int), rows.length = len ∧ SlS w a0 rows ∧ len ≤ maxLen ∧ ∀ r ∈ rows, r.length ≤ maxLen ∧ ∀ n ∈ r, (Lit.int .i64 n).wf = true := by
  rcases Deep.open_int_rows ht he hq ce cq h with ⟨hcs, _⟩ | ⟨a, len', cap', A, L, C, Z, hcs, _, hl, hm, _, hrows⟩
  · simp at hcs
    obtain ⟨rfl, rfl, rfl⟩ := hcs
    exact ⟨[], rfl, ⟨[], rfl, .inl rfl, by simp⟩, by simp [maxLen], by simp⟩
  · simp only [List.cons.injEq, Value.slice.injEq, and_true] at hcs
    obtain ⟨rfl, rfl, rfl⟩ := hcs
    have hZ : ∀ r, r < len → ((Z r).take (L r)).length = L r := fun r hr => by
      obtain ⟨_, h2, _, h4, _⟩ := hrows r (by omega)
      rw [List.length_take]; omega
    refine ⟨(List.range len).map fun r => (Z r).take (L r), by simp, ⟨(List.range len).map fun r => .slice (A r) (L r) (C r), by simp, ?_, ?_⟩, by omega, ?_⟩
    · refine sl_of_add fun j v hv => ?_
      rw [List.getElem?_map] at hv
      obtain ⟨r, hr, rfl⟩ := Option.map_eq_some_iff.1 hv
      obtain ⟨hj, rfl⟩ := List.getElem?_eq_some_iff.1 hr
      rw [List.getElem_range]
      exact (hrows j (by simp at hj; omega)).1
    · intro i r hi
      rw [List.getElem?_map] at hi
      obtain ⟨k, hk, rfl⟩ := Option.map_eq_some_iff.1 hi
      obtain ⟨hj, rfl⟩ := List.getElem?_eq_some_iff.1 hk
      simp at hj
      rw [List.getElem_range, hZ i hj]
      refine ⟨A i, C i, by simp [hj], ?_⟩
      obtain ⟨_, h2, _, h4, _, h6, h7⟩ := hrows i (by omega)
      cases hA : A i with
      | none => have := h6 hA; left; apply List.eq_nil_of_length_eq_zero; rw [ints_length, hZ i hj]; omega
      | some a' =>
        refine sl_of_add fun j v hv => ?_
        simp only [ints, List.getElem?_map] at hv
        obtain ⟨z, hz, rfl⟩ := Option.map_eq_some_iff.1 hv
        rw [List.getElem?_take] at hz
        split at hz
        · rw [(h7 a' hA).2 j (by omega)]
          simp [List.getD, hz]
        · cases hz
    · intro r hr
      obtain ⟨i, hi, rfl⟩ := List.mem_map.1 hr
      simp at hi
      obtain ⟨_, h2, h3, h4, h5, _⟩ := hrows i (by omega)
      exact ⟨by rw [hZ i hi]; omega, fun n hn => h5 n (List.mem_of_mem_take hn)⟩

variable {H : Type} {enc : TypeId × Value → H} {P : Program} {w : World}

theorem wf_u8 {n : Int} (h : (Lit.int .u8 n).wf = true) : 0 ≤ n ∧ n ≤ 255 := by
  simpa [Lit.wf, IntKind.min, IntKind.max, IntKind.bits, IntKind.signed] using h

/-- A slice of bytes as it comes in. -/
structure Bts (w : World) (s : Option Addr) (cap : Nat) (xs : List Int) : Prop where
  sl : Sl w s (u8s xs)
  len : xs.length ≤ 9223372036854775807
  cap1 : xs.length ≤ cap
  cap2 : cap ≤ 9223372036854775807
  range : ∀ x ∈ xs, 0 ≤ x ∧ x ≤ 255

theorem open_u8s {t e : TypeId} {fuel : Nat} {v : Value} {held : Bool} {base : Nat} {x : DataW H × List MemPlace} (ht : P.underlying t = some (.slice e)) (he : P.underlying e = some (.int .u8)) (ce : P.cellsOf e = 1)
    (h : DataW.trod enc P w base (fun _ => true) held fuel t [v] = some x) :
    ∃ (s : Option Addr) (xs : List Int) (c : Nat), v = .slice s xs.length c ∧ Bts w s c xs := by
  rcases open_ints ht he ce h with ⟨hcs, _⟩ | ⟨a, l, c, zs, hcs, _, hl, hm, hz, _, hcell, hwz⟩
  · simp at hcs; subst hcs
    exact ⟨none, [], 0, rfl, .inl rfl, by simp, by simp, by simp, by simp⟩
  · simp at hcs; subst hcs
    have hz' : zs.length = c := by simpa using hz
    have hlen : (zs.take l).length = l := by rw [List.length_take]; omega
    unfold maxLen at hm
    refine ⟨some a, zs.take l, c, by rw [hlen], ?_, by rw [hlen]; omega, by rw [hlen]; omega, by omega, fun n hn => wf_u8 (hwz n (List.mem_of_mem_take hn))⟩
    refine sl_of_add fun j v hv => ?_
    simp only [u8s, List.getElem?_map] at hv
    obtain ⟨z, hz, rfl⟩ := Option.map_eq_some_iff.1 hv
    rw [List.getElem?_take] at hz
    split at hz
    · rw [hcell j (by omega)]; simp [List.getD, hz]
    · cases hz

end Go.Proofs.YtnifgamlmaembaaDoor
