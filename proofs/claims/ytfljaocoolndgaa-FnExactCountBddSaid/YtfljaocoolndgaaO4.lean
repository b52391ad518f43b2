import Derived.Test.YtfljaocoolndgaaO1
import Derived.Test.YtfljaocoolndgaaN0
import Derived.Lib.SmallJoins
import Derived.Deep.Strs
namespace Go.Proofs.Ytfljaocoolndgaa
set_option linter.unusedVariables false
set_option linter.unusedSimpArgs false
open Go.RowKit Go.ChangeShapes Go.WideShapes Go.ChangeAt

theorem ncells_inv {gs : List Nd} {j : Nat} {v : Value} (h : (ncells gs)[j]? = some v) : ∃ (k : Nat) (g : Nd), gs[k]? = some g ∧ (j = 3 * k ∧ v = .int .i64 g.v ∨ j = 3 * k + 1 ∧ v = .int .i64 g.lo ∨ j = 3 * k + 2 ∧ v = .int .i64 g.hi) := by
  induction gs generalizing j with
  | nil => simp [ncells] at h
  | cons x gs ih =>
    have e : ncells (x :: gs) = .int .i64 x.v :: .int .i64 x.lo :: .int .i64 x.hi :: ncells gs := rfl
    rw [e] at h
    match j, h with
    | 0, h => simp at h; exact ⟨0, x, rfl, .inl ⟨rfl, h.symm⟩⟩
    | 1, h => simp at h; exact ⟨0, x, rfl, .inr (.inl ⟨rfl, h.symm⟩)⟩
    | 2, h => simp at h; exact ⟨0, x, rfl, .inr (.inr ⟨rfl, h.symm⟩)⟩
    | j + 3, h =>
      obtain ⟨k, g, hg, hk⟩ := ih (j := j) (by simpa using h)
      refine ⟨k + 1, g, by simpa using hg, ?_⟩
      rcases hk with ⟨rfl, rfl⟩ | ⟨rfl, rfl⟩ | ⟨rfl, rfl⟩
      · exact .inl ⟨by omega, rfl⟩
      · exact .inr (.inl ⟨by omega, rfl⟩)
      · exact .inr (.inr ⟨by omega, rfl⟩)

theorem addr_add3 (a : Addr) (p q : Nat) : (a.add p).add q = a.add (p + q) := by
  obtain ⟨b, o, s⟩ := a
  unfold Addr.add
  by_cases hp : p = 0 <;> by_cases hq : q = 0 <;> simp [hp, hq, Nat.add_assoc]

variable {H : Type} {enc : TypeId × Value → H} {P : Program} {w : World}

theorem open_nodes {t e q : TypeId} {g0 g1 g2 : Field} {fuel : Nat} {v : Value} {held : Bool} {base : Nat} {x : DataW H × List MemPlace} (ht : P.underlying t = some (.slice e)) (he : P.underlying e = some (.struct #[g0, g1, g2])) (hq : P.underlying q = some (.int .i64))
    (ce : P.cellsOf e = 3) (cq : P.cellsOf q = 1) (e0 : g0.type = q) (e1 : g1.type = q) (e2 : g2.type = q) (o0 : g0.offset = 0) (o1 : g1.offset = 1) (o2 : g2.offset = 2)
    (h : DataW.trod enc P w base (fun _ => true) held fuel t [v] = some x) :
    ∃ (s : Option Addr) (gs : List Nd) (c : Nat), v = .slice s gs.length c ∧ Sl w s (ncells gs) ∧ gs.length ≤ 9223372036854775807 := by
  rcases Deep.open_slice ht h with ⟨hcs, _⟩ | ⟨a, len, cap, m, n, D, Pl, hcs, _, hl, hm, hmm, _, hx⟩
  · simp at hcs; subst hcs
    exact ⟨none, [], 0, rfl, .inl rfl, by simp⟩
  · simp at hcs; subst hcs
    simp only [if_true] at hmm
    have hone : ∀ i, i < len → ∃ g : Nd, w.cell? (a.add (3 * i)) = some (.int .i64 g.v) ∧ w.cell? (a.add (3 * i + 1)) = some (.int .i64 g.lo) ∧ w.cell? (a.add (3 * i + 2)) = some (.int .i64 g.hi) := by
      intro i hi
      obtain ⟨cs', h1, h2⟩ := hx i (by omega)
      rw [ce] at h1
      obtain ⟨y0, y1, y2, k, _, hlen, k0, k1, k2⟩ := Deep.trod_struct3 he h2
      rw [ce] at hlen
      rw [e0, o0, cq] at k0
      rw [e1, o1, cq] at k1
      rw [e2, o2, cq] at k2
      obtain ⟨c0, c1, c2, rfl⟩ : ∃ c0 c1 c2, cs' = [c0, c1, c2] := by
        match cs', hlen with
        | [c0, c1, c2], _ => exact ⟨c0, c1, c2, rfl⟩
      obtain ⟨x0, z0, _, wf0⟩ := DataW.trod_int hq k0
      obtain ⟨x1, z1, _, wf1⟩ := DataW.trod_int hq k1
      obtain ⟨x2, z2, _, wf2⟩ := DataW.trod_int hq k2
      simp at z0 z1 z2
      subst z0 z1 z2
      obtain ⟨_, _, hcell⟩ := World.cells?_some h1
      have q0 := hcell 0 (by simp)
      have q1 := hcell 1 (by simp)
      have q2 := hcell 2 (by simp)
      have ha : ∀ (p q : Nat), (a.add p).add q = a.add (p + q) := fun p q => addr_add3 a p q
      simp only [ha, Nat.add_zero, Nat.mul_comm i 3] at q0 q1 q2
      exact ⟨⟨x0, x1, x2⟩, by simpa using q0, by simpa using q1, by simpa using q2⟩
    obtain ⟨G, hG⟩ := Deep.choose_lt (α := Nd) hone
    have hlen : ((List.range len).map G).length = len := by simp
    refine ⟨some a, (List.range len).map G, cap, by rw [hlen], ?_, by rw [hlen]; unfold maxLen at hm; omega⟩
    refine sl_of_add fun j v hv => ?_
    obtain ⟨k, g, hg, hk⟩ := ncells_inv hv
    rw [List.getElem?_map] at hg
    obtain ⟨i, hi, rfl⟩ := Option.map_eq_some_iff.1 hg
    obtain ⟨hlt, rfl⟩ := List.getElem?_eq_some_iff.1 hi
    simp at hlt
    rw [List.getElem_range] at hk
    have := hG k hlt
    rcases hk with ⟨rfl, rfl⟩ | ⟨rfl, rfl⟩ | ⟨rfl, rfl⟩
    · exact this.1
    · exact this.2.1
    · exact this.2.2

theorem open_bdd {t tn te ti : TypeId} {f0 f1 g0 g1 g2 : Field} {r : Reach} {b0 : Nat} {v : Value} {held : Bool} {base : Nat} {d : DataW H} {p : List MemPlace}
    (hs : P.underlying t = some (.struct #[f0, f1])) (hone : Deep.oneCellFields P #[f0, f1] = true) (hC : P.cellsOf t = 2) (e0 : f0.type = tn) (e1 : f1.type = ti)
    (hti : P.underlying ti = some (.int .i64)) (htn : P.underlying tn = some (.slice te)) (hte : P.underlying te = some (.struct #[g0, g1, g2])) (k0 : g0.type = ti) (k1 : g1.type = ti) (k2 : g2.type = ti) (o0 : g0.offset = 0) (o1 : g1.offset = 1) (o2 : g2.offset = 2)
    (ci : P.cellsOf ti = 1) (ce : P.cellsOf te = 3) (hv : Value.okWide P w r b0 t v) (h : DataW.Trod enc P w base (fun _ => true) held t v d p) :
    ∃ c : Bd, BdA w v c := by
  obtain ⟨v0, v1, y0, y1, n, rfl, _, _, h0, h1⟩ := Joins.open_agg2 hs hone hC hv h
  rw [e0] at h0
  rw [e1] at h1
  obtain ⟨x, hx, _, wx⟩ := DataW.trod_int hti h1
  simp at hx; subst hx
  obtain ⟨sg, gs, cg, rfl, s2, l2⟩ := open_nodes htn hte hti ce ci k0 k1 k2 o0 o1 o2 h0
  exact ⟨⟨gs, x⟩, ⟨sg, cg, rfl, s2, l2⟩⟩

end Go.Proofs.Ytfljaocoolndgaa
