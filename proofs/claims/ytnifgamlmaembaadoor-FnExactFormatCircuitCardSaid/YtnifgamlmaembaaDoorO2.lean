import Derived.Test.YtnifgamlmaembaaDoorO3
import Derived.Test.YtnifgamlmaembaaDoorC0
import Derived.Lib.SmallJoins
namespace Go.Proofs.YtnifgamlmaembaaDoor
set_option linter.unusedVariables false
set_option linter.unusedSimpArgs false
open Go.RowKit Go.ChangeShapes Go.WideShapes Go.ChangeAt

theorem gcells_inv {gs : List Gt} {j : Nat} {v : Value} (h : (gcells gs)[j]? = some v) : ∃ (k : Nat) (g : Gt), gs[k]? = some g ∧ (j = 2 * k ∧ v = .int .i64 g.a ∨ j = 2 * k + 1 ∧ v = .int .i64 g.b) := by
  induction gs generalizing j with
  | nil => simp [gcells] at h
  | cons x gs ih =>
    have e : gcells (x :: gs) = .int .i64 x.a :: .int .i64 x.b :: gcells gs := rfl
    rw [e] at h
    match j, h with
    | 0, h => simp at h; exact ⟨0, x, rfl, .inl ⟨rfl, h.symm⟩⟩
    | 1, h => simp at h; exact ⟨0, x, rfl, .inr ⟨rfl, h.symm⟩⟩
    | j + 2, h =>
      obtain ⟨k, g, hg, hk⟩ := ih (j := j) (by simpa using h)
      refine ⟨k + 1, g, by simpa using hg, ?_⟩
      rcases hk with ⟨rfl, rfl⟩ | ⟨rfl, rfl⟩
      · exact .inl ⟨by omega, rfl⟩
      · exact .inr ⟨by omega, rfl⟩

instance : Inhabited Gt := ⟨⟨0, 0⟩⟩

theorem addr_add2 (a : Addr) (p q : Nat) : (a.add p).add q = a.add (p + q) := by
  obtain ⟨b, o, s⟩ := a
  unfold Addr.add
  by_cases hp : p = 0 <;> by_cases hq : q = 0 <;> simp [hp, hq, Nat.add_assoc]

variable {H : Type} {enc : TypeId × Value → H} {P : Program} {w : World}

theorem wf_i64 {n : Int} (h : (Lit.int .i64 n).wf = true) : -9223372036854775808 ≤ n ∧ n ≤ 9223372036854775807 := by
  simpa [Lit.wf, IntKind.min, IntKind.max, IntKind.bits, IntKind.signed] using h

theorem open_ints' {t e : TypeId} {fuel : Nat} {v : Value} {held : Bool} {base : Nat} {x : DataW H × List MemPlace} (ht : P.underlying t = some (.slice e)) (he : P.underlying e = some (.int .i64)) (ce : P.cellsOf e = 1)
    (h : DataW.trod enc P w base (fun _ => true) held fuel t [v] = some x) :
    ∃ (s : Option Addr) (xs : List Int) (c : Nat), v = .slice s xs.length c ∧ Sl w s (ints xs) ∧ xs.length ≤ 9223372036854775807 ∧ ∀ n ∈ xs, (Lit.int .i64 n).wf = true := by
  rcases open_ints ht he ce h with ⟨hcs, _⟩ | ⟨a, l, c, zs, hcs, _, hl, hm, hz, _, hcell, hwz⟩
  · simp at hcs; subst hcs
    exact ⟨none, [], 0, rfl, .inl rfl, by simp, by simp⟩
  · simp at hcs; subst hcs
    have hz' : zs.length = c := by simpa using hz
    have hlen : (zs.take l).length = l := by rw [List.length_take]; omega
    refine ⟨some a, zs.take l, c, by rw [hlen], ?_, by rw [hlen]; unfold maxLen at hm; omega, fun n hn => hwz n (List.mem_of_mem_take hn)⟩
    refine sl_of_add fun j v hv => ?_
    simp only [ints, List.getElem?_map] at hv
    obtain ⟨z, hz, rfl⟩ := Option.map_eq_some_iff.1 hv
    rw [List.getElem?_take] at hz
    split at hz
    · rw [hcell j (by omega)]; simp [List.getD, hz]
    · cases hz

theorem open_gates {t e q : TypeId} {g0 g1 : Field} {fuel : Nat} {v : Value} {held : Bool} {base : Nat} {x : DataW H × List MemPlace} (ht : P.underlying t = some (.slice e)) (he : P.underlying e = some (.struct #[g0, g1])) (hq : P.underlying q = some (.int .i64))
    (ce : P.cellsOf e = 2) (cq : P.cellsOf q = 1) (e0 : g0.type = q) (e1 : g1.type = q) (o0 : g0.offset = 0) (o1 : g1.offset = 1)
    (h : DataW.trod enc P w base (fun _ => true) held fuel t [v] = some x) :
    ∃ (s : Option Addr) (gs : List Gt) (c : Nat), v = .slice s gs.length c ∧ Sl w s (gcells gs) ∧ gs.length ≤ 9223372036854775807 ∧ ∀ g ∈ gs, (Lit.int .i64 g.a).wf = true ∧ (Lit.int .i64 g.b).wf = true := by
  rcases Deep.open_slice ht h with ⟨hcs, _⟩ | ⟨a, len, cap, m, n, D, Pl, hcs, _, hl, hm, hmm, _, hx⟩
  · simp at hcs; subst hcs
    exact ⟨none, [], 0, rfl, .inl rfl, by simp, by simp⟩
  · simp at hcs; subst hcs
    simp only [if_true] at hmm
    have hone : ∀ i, i < len → ∃ g : Gt, w.cell? (a.add (2 * i)) = some (.int .i64 g.a) ∧ w.cell? (a.add (2 * i + 1)) = some (.int .i64 g.b) ∧ (Lit.int .i64 g.a).wf = true ∧ (Lit.int .i64 g.b).wf = true := by
      intro i hi
      obtain ⟨cs', h1, h2⟩ := hx i (by omega)
      rw [ce] at h1
      obtain ⟨y0, y1, k, _, hlen, k0, k1⟩ := trod_struct2 he h2
      rw [ce] at hlen
      rw [e0, o0, cq] at k0
      rw [e1, o1, cq] at k1
      obtain ⟨c0, c1, rfl⟩ : ∃ c0 c1, cs' = [c0, c1] := by
        match cs', hlen with
        | [c0, c1], _ => exact ⟨c0, c1, rfl⟩
      obtain ⟨x0, z0, _, wf0⟩ := DataW.trod_int hq k0
      obtain ⟨x1, z1, _, wf1⟩ := DataW.trod_int hq k1
      simp at z0 z1
      subst z0 z1
      obtain ⟨_, _, hcell⟩ := World.cells?_some h1
      have q0 := hcell 0 (by simp)
      have q1 := hcell 1 (by simp)
      have ha : ∀ (p q : Nat), (a.add p).add q = a.add (p + q) := fun p q => addr_add2 a p q
      simp only [ha, Nat.add_zero, Nat.mul_comm i 2] at q0 q1
      exact ⟨⟨x0, x1⟩, by simpa using q0, by simpa using q1, wf0, wf1⟩
    obtain ⟨G, hG⟩ := Deep.choose_lt (α := Gt) hone
    have hlen : ((List.range len).map G).length = len := by simp
    refine ⟨some a, (List.range len).map G, cap, by rw [hlen], ?_, by rw [hlen]; unfold maxLen at hm; omega, ?_⟩
    · refine sl_of_add fun j v hv => ?_
      obtain ⟨k, g, hg, hk⟩ := gcells_inv hv
      rw [List.getElem?_map] at hg
      obtain ⟨i, hi, rfl⟩ := Option.map_eq_some_iff.1 hg
      obtain ⟨hlt, rfl⟩ := List.getElem?_eq_some_iff.1 hi
      simp at hlt
      rw [List.getElem_range] at hk
      have := hG k hlt
      rcases hk with ⟨rfl, rfl⟩ | ⟨rfl, rfl⟩
      · exact this.1
      · exact this.2.1
    · intro g hg
      obtain ⟨i, hi, rfl⟩ := List.mem_map.1 hg
      simp at hi
      exact (hG i hi).2.2

theorem open_circuit {t tn tg te ti : TypeId} {f0 f1 f2 f3 g0 g1 : Field} {r : Reach} {b0 : Nat} {v : Value} {held : Bool} {base : Nat} {d : DataW H} {p : List MemPlace}
    (hs : P.underlying t = some (.struct #[f0, f1, f2, f3])) (hone : Deep.oneCellFields P #[f0, f1, f2, f3] = true) (hC : P.cellsOf t = 4) (e0 : f0.type = ti) (e1 : f1.type = tn) (e2 : f2.type = tg) (e3 : f3.type = tn)
    (hti : P.underlying ti = some (.int .i64)) (htn : P.underlying tn = some (.slice ti)) (htg : P.underlying tg = some (.slice te)) (hte : P.underlying te = some (.struct #[g0, g1])) (k0 : g0.type = ti) (k1 : g1.type = ti) (o0 : g0.offset = 0) (o1 : g1.offset = 1)
    (ci : P.cellsOf ti = 1) (ce : P.cellsOf te = 2) (hv : Value.okWide P w r b0 t v) (h : DataW.Trod enc P w base (fun _ => true) held t v d p) :
    ∃ c : Cir, CirA w v c ∧ (Lit.int .i64 c.inp).wf = true := by
  obtain ⟨v0, v1, v2, v3, y0, y1, y2, y3, n, rfl, _, _, h0, h1, h2, h3⟩ := Joins.open_agg4 hs hone hC hv h
  rw [e0] at h0
  rw [e1] at h1
  rw [e2] at h2
  rw [e3] at h3
  obtain ⟨x, hx, _, wx⟩ := DataW.trod_int hti h0
  simp at hx; subst hx
  obtain ⟨sn, nx, cn, rfl, s1, l1, _⟩ := open_ints' htn hti ci h1
  obtain ⟨sg, gs, cg, rfl, s2, l2, _⟩ := open_gates htg hte hti ce ci k0 k1 o0 o1 h2
  obtain ⟨so, ox, co, rfl, s3, l3, _⟩ := open_ints' htn hti ci h3
  exact ⟨⟨x, nx, gs, ox⟩, ⟨sn, cn, sg, cg, so, co, rfl, s1, s2, s3, l1, l2, l3⟩, wx⟩

end Go.Proofs.YtnifgamlmaembaaDoor
