import Derived.Test.YtnifgamlmaembaaDoorO3
import Derived.Test.YtnifgamlmaembaaDoorTH
import Derived.Test.YtnifgamlmaembaaDoorTL
import Derived.Test.YtnifgamlmaembaaDoorRows
import Derived.SliceStrings
import Derived.Stop.LaidErr
import Derived.MakeChecks
import Derived.LaidMore
namespace Go.Proofs.YtnifgamlmaembaaDoor
set_option linter.unusedVariables false
set_option linter.unusedSimpArgs false
open Go.RowKit

/-! Rows of strings as arguments; what the listed variables hold. -/

section
variable {H : Type} {enc : TypeId × Value → H} {P : Program} {w : World}

theorem open_strs {t e : TypeId} {fuel : Nat} {v : Value} {held : Bool} {base : Nat} {x : DataW H × List MemPlace} (ht : P.underlying t = some (.slice e)) (he : P.underlying e = some .string) (ce : P.cellsOf e = 1)
    (h : DataW.trod enc P w base (fun _ => true) held fuel t [v] = some x) :
    ∃ (s : Option Addr) (ls : List Tx) (c : Nat), v = .slice s ls.length c ∧ Sl w s (strs ls) ∧ ls.length ≤ 9223372036854775807 ∧ ∀ y ∈ ls, y.length ≤ 9223372036854775807 := by
  rcases Go.ChangeShapes.open_strings ht he ce h with ⟨hcs, _⟩ | ⟨a, l, c, ss, hcs, _, hl, hm, hz, _, hcell, hwz⟩
  · simp at hcs; subst hcs
    exact ⟨none, [], 0, rfl, .inl rfl, by simp, by simp⟩
  · simp at hcs; subst hcs
    have hz' : ss.length = c := by simpa using hz
    have hlen : ((ss.take l).map fun s => s.data.toList).length = l := by rw [List.length_map, List.length_take]; omega
    refine ⟨some a, (ss.take l).map fun s => s.data.toList, c, by rw [hlen], ?_, by rw [hlen]; unfold maxLen at hm; omega, fun y hy => ?_⟩
    · refine sl_of_add fun j v hv => ?_
      unfold strs at hv
      rw [List.getElem?_map, List.getElem?_map, List.getElem?_take] at hv
      split at hv
      · rw [hcell j (by omega)]
        cases hj : ss[j]? with
        | none => rw [hj] at hv; cases hv
        | some s =>
          rw [hj] at hv
          simp only [Option.map_some, Option.some.injEq] at hv
          subst hv
          rw [List.getD, hj]
          unfold sv
          simp
      · cases hv
    · obtain ⟨s, hs, rfl⟩ := List.mem_map.1 hy
      have h1 := hwz s (List.mem_of_mem_take hs)
      have h2 : s.data.toList.length = s.size := by rw [Array.length_toList]; rfl
      unfold maxLen at h1
      omega
end

/-- A variable of type int holds some int. -/
theorem int_of_shape {P : Program} {w : World} {g : Nat} {t : TypeId} {zero : Array Value} (h : w.ShapedOpen P) (hg : g < P.globals.size)
    (h0 : ((begin P (fun _ _ => 0) default).world.heap[g]?).bind Obj.row? = some (zero, t)) (hz : zero.size = 1)
    (hb : P.buildable t = true) (hc : P.cellTypes P.depth t = some [t]) (hu : P.underlying t = some (.int .i64)) : ∃ n, w.cell? ⟨g, 0, none⟩ = some (.int .i64 n) := by
  obtain ⟨cs, hh, hs, hr⟩ := h.1 g zero t hg h0
  obtain ⟨ts, hts, _, hall⟩ := hr hb
  rw [hc] at hts
  cases hts
  have h1 : 0 < cs.size := by omega
  obtain ⟨u, hu', hok⟩ := hall 0 cs[0] (by simp [h1])
  have : u = t := by simpa using hu'.symm
  subst this
  have hcell : w.cell? ⟨g, 0, none⟩ = some cs[0] := by simp [World.cell?, hh, h1]
  rw [hcell]
  unfold Cell.ok at hok
  rw [hu] at hok
  cases hv : cs[0] <;> rw [hv] at hok <;> first | exact ⟨_, rfl⟩ | simp at hok
  obtain ⟨rfl, -⟩ := hok
  exact ⟨_, rfl⟩

/-- A world that holds what the rows list: the door's own, with the pinned table. -/
noncomputable def doorWorld (os : Os) : World :=
  { World.doorLaid Tryd.prog 400 os with heap := (World.doorLaid Tryd.prog 400 os).heap.modify 4 (putCells (aggCells Rows.laid_unicode_utf8_first)) }

/-- A listed variable of an interface type holds an interface value. -/
theorem laid_iface {P : Program} {n nm : String} {d : DataW Unit} {r : List (String × DataW Unit)} {W : World} {g : Nat} {ti : TypeId} {ms : Array (String × TypeId)}
    (h : laidMet P ((n, .iface nm d) :: r) W) (hg : P.globalNamed n = some g) (ht : (P.globals[g]?).map (·.type) = some ti) (hi : P.underlying ti = some (.interface ms)) : ∃ u v, W.cell? ⟨g, 0, none⟩ = some (.iface u v) := by
  obtain ⟨ps, ⟨g0, t0, cs0, f0, p0, q0, hg0, ht0, hv0, hd0, _, e0⟩, _, hrows⟩ := h
  obtain rfl := Option.some.inj (hg.symm.trans hg0)
  obtain rfl := Option.some.inj (ht.symm.trans ht0)
  obtain ⟨l0⟩ := cs0
  obtain ⟨f1, u, v, rfl, -, -⟩ := iface_of_trod hi hd0
  exact ⟨u, v, by simpa using World.var?_cell hg0 hv0 0⟩

/-- What the row's list and the world's shape give. -/
theorem gl_of {W : World} (hL : laidMetH Tryd.prog Rows.fnExactParseCircuitRow.laid W) (hS : W.ShapedOpen Tryd.prog) : Gl W := by
  rw [MakeChecks.laidMetH_plain _ _ _ (by kernel_rfl)] at hL
  have h4 := (show laidMet Tryd.prog (_ :: _ :: _ :: _ :: (_, Rows.laid_strconv_ErrRange) :: (_, Rows.laid_strconv_ErrSyntax) :: _) W from hL).tail.tail.tail.tail
  obtain ⟨u2, v2, c2⟩ := laid_iface (g := 2) h4 (by kernel_rfl) (by kernel_rfl) Tryd.underlying83
  obtain ⟨u1, v1, c1⟩ := laid_iface (g := 1) h4.tail (by kernel_rfl) (by kernel_rfl) Tryd.underlying83
  have hm := int_of_shape (g := 0) (t := 3) hS (of_decide_eq_true (by kernel_rfl)) (zero := #[.int .i64 0]) (by kernel_rfl) rfl (by kernel_rfl) (by kernel_rfl) Tryd.underlying3
  refine ⟨hm, ⟨_, _, c1⟩, ⟨_, _, c2⟩, ?_⟩
  rcases Nat.lt_or_ge 2 W.heap.size with h | h
  · exact h
  · simp [World.cell?, Array.getElem?_eq_none h] at c2

end Go.Proofs.YtnifgamlmaembaaDoor
