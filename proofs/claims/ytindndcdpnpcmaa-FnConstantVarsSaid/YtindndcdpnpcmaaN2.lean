import Derived.Test.YtindndcdpnpcmaaN1
import Derived.Test.YtindndcdpnpcmaaL4
import Derived.Deep.DeepCutAuto
namespace Go.Proofs.Ytindndcdpnpcmaa
set_option linter.unusedVariables false
set_option linter.unusedSimpArgs false
open Go.RowKit

def basicP (i : Nat) (x : Nd) : Prop := 0 ≤ x.v ∧ x.v ≤ 6 ∧ 0 ≤ x.lo ∧ x.lo < i ∧ 0 ≤ x.hi ∧ x.hi < i ∧ x.lo ≠ x.hi
instance (i : Nat) (x : Nd) : Decidable (basicP i x) := inferInstanceAs (Decidable (_ ∧ _))
def freshP (ns : List Nd) (i : Nat) (x : Nd) : Prop := ∀ k, k < i → 2 ≤ k → ns[k]? ≠ some x
instance (ns : List Nd) (i : Nat) (x : Nd) : Decidable (freshP ns i x) := inferInstanceAs (Decidable (∀ k, k < i → _))
structure okAt (ns : List Nd) (i : Nat) (x : Nd) : Prop where
  basic : basicP i x
  lo : 1 < x.lo → x.v < (ns.getD x.lo.toNat default).v
  hi : 1 < x.hi → x.v < (ns.getD x.hi.toNat default).v
  fresh : freshP ns i x
instance (ns : List Nd) (i : Nat) (x : Nd) : Decidable (okAt ns i x) :=
  decidable_of_iff (basicP i x ∧ (1 < x.lo → x.v < (ns.getD x.lo.toNat default).v) ∧ (1 < x.hi → x.v < (ns.getD x.hi.toNat default).v) ∧ freshP ns i x) ⟨fun h => ⟨h.1, h.2.1, h.2.2.1, h.2.2.2⟩, fun h => ⟨h.1, h.2, h.3, h.4⟩⟩
def okTo (ns : List Nd) (n : Nat) : Prop := ∀ i, i < n → 2 ≤ i → okAt ns i (ns.getD i default)
instance (ns : List Nd) (n : Nat) : Decidable (okTo ns n) := inferInstanceAs (Decidable (∀ i, i < n → _))
structure Bd.head (d : Bd) : Prop where
  l2 : 2 ≤ d.nodes.length
  l1000 : d.nodes.length ≤ 1000
  r0 : 0 ≤ d.root
  r1 : d.root < d.nodes.length
  n0 : d.nodes[0]? = some ⟨0, 0, 0⟩
  n1 : d.nodes[1]? = some ⟨0, 0, 0⟩
instance (d : Bd) : Decidable d.head :=
  decidable_of_iff (2 ≤ d.nodes.length ∧ d.nodes.length ≤ 1000 ∧ 0 ≤ d.root ∧ d.root < d.nodes.length ∧ d.nodes[0]? = some ⟨0, 0, 0⟩ ∧ d.nodes[1]? = some ⟨0, 0, 0⟩) ⟨fun ⟨a, b, c, d, e, f⟩ => ⟨a, b, c, d, e, f⟩, fun ⟨a, b, c, d, e, f⟩ => ⟨a, b, c, d, e, f⟩⟩
def Bd.valid (d : Bd) : Prop := d.head ∧ okTo d.nodes d.nodes.length
instance (d : Bd) : Decidable d.valid := inferInstanceAs (Decidable (_ ∧ _))
def Bd.validB (d : Bd) : Bool := decide d.valid
theorem Bd.validB_iff (d : Bd) : d.validB = true ↔ d.valid := by simp [Bd.validB]
theorem Bd.validB_true {d : Bd} (h : d.valid) : d.validB = true := by simpa [Bd.validB] using h
theorem Bd.validB_false {d : Bd} (h : ¬ d.valid) : d.validB = false := by simpa [Bd.validB] using h
theorem getD_of {ns : List Nd} {k : Nat} {x : Nd} (h : ns[k]? = some x) : ns.getD k default = x := by simp [List.getD, h]
theorem okTo_snoc {ns : List Nd} {k : Nat} {x : Nd} (h : okTo ns k) (hx : ns[k]? = some x) (h1 : okAt ns k x) : okTo ns (k + 1) := by
  intro i hi h2
  by_cases e : i = k
  · subst e; rw [getD_of hx]; exact h1
  · exact h i (by omega) h2
theorem okTo_two (ns : List Nd) : okTo ns 2 := by intro i h1 h2; omega
theorem freshP_two (ns : List Nd) (x : Nd) : freshP ns 2 x := by intro i h1 h2; omega
theorem freshP_snoc {ns : List Nd} {k : Nat} {x y : Nd} (h : freshP ns k x) (hy : ns[k]? = some y) (h1 : y ≠ x) : freshP ns (k + 1) x := by
  intro i hi h2 e
  by_cases hk : i = k
  · subst hk; rw [hy] at e; cases e; exact h1 rfl
  · exact h i (by omega) h2 e
theorem validB_not {d : Bd} {k : Nat} {x : Nd} (hx : d.nodes[k]? = some x) (hk : 2 ≤ k) (h : ¬ okAt d.nodes k x) : false = d.validB := by
  refine (Bd.validB_false fun hv => h ?_).symm
  have := hv.2 k (List.getElem?_eq_some_iff.1 hx).1 hk
  rwa [getD_of hx] at this

theorem Sl.nodeAt {w wr : World} {b off : Nat} {gs : List Nd} (h : Sl w (some ⟨b, off, none⟩) (ncells gs)) (hbl : Below w.heap.size w wr) {k : Nat} {g : Nd} (hg : gs[k]? = some g) :
    b < w.heap.size ∧ wr.cell? ⟨b, off + k * 3, none⟩ = some (.int .i64 g.v) ∧ wr.cell? ⟨b, off + k * 3 + 1, none⟩ = some (.int .i64 g.lo) ∧ wr.cell? ⟨b, off + k * 3 + 2, none⟩ = some (.int .i64 g.hi) := by
  obtain ⟨b', off', e, h1, h2⟩ := h.node hbl hg
  simp only [Option.some.injEq, Addr.mk.injEq, and_true] at e
  obtain ⟨rfl, rfl⟩ := e
  exact ⟨h1, h2⟩

theorem l1In_yes (n lo hi : Int) (w : World) (h1 : lo ≤ n) (h2 : n ≤ hi) :
    Calls Try.prog 76 #[.int .i64 n, .int .i64 lo, .int .i64 hi] w fun e w' => e = .returned (.bool true) ∧ w = w' := by
  refine (l1In_any n lo hi w).mono ?_
  rintro e w' ⟨rfl, rfl⟩
  exact ⟨by simp [h1, h2], rfl⟩

end Go.Proofs.Ytindndcdpnpcmaa
