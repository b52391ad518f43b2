import Derived.WalkKit
import Derived.Deep.RegionHeld3
import Derived.BigQuiet
namespace Go.Proofs.Ytjggcojbgkpooaa
set_option linter.unusedVariables false
set_option linter.unusedSimpArgs false
open Go.RowKit

/-! A region that draws its order, walked in ONE order of ours: quiet operations (one value in every world that meets S), skipped ones, and effects that come up alone. -/

section
variable {P : Program} {ops : Array Oper} {Q : Exit → Act → World → Prop} {S : World → Prop}

def OnlyNormal (Q : Exit → Act → World → Prop) : Exit → Act → World → Prop
  | .normal, a, w => Q .normal a w
  | _, _, _ => False

def okOrd (ops : Array Oper) : List (Nat × Bool) → Array Bool → Bool
  | [], l => (Region.ready .any ops l).isEmpty
  | (i, false) :: r, l => (Region.ready .any ops l).contains i && (Region.free .any ops l i && okOrd ops r (l.setIfInBounds i true))
  | (i, true) :: r, l => (Region.ready .any ops l == [i]) && okOrd ops r (l.setIfInBounds i true)

def wpOrd (P : Program) (ops : Array Oper) (Q : Exit → Act → World → Prop) (S : World → Prop) : List (Nat × Bool) → Act → World → Prop
  | [], a, w => Q .normal a w
  | (i, false) :: r, a, w => ∃ o v, ops[i]? = some o ∧ YieldsIf P ops S o v a ∧ wpOrd P ops Q S r (a.put o.dst v) w
  | (i, true) :: r, a, w => wpOp P ops (OnlyNormal Q) i (fun a' w' => S w' ∧ wpOrd P ops Q S r a' w') a w

theorem ord_nil {a : Act} {w : World} (h : Q .normal a w) : wpOrd P ops Q S [] a w := h
theorem ord_q {i : Nat} {r : List (Nat × Bool)} {o : Oper} {v : Value} {a : Act} {w : World} (ho : ops[i]? = some o) (hw : Region.wanted o (yielded ops a.tmps) = true)
    (hv : ∀ w', S w' → (execOp a.eval o).run P w' = .ok (.value v) w') (h : wpOrd P ops Q S r (a.put o.dst v) w) : wpOrd P ops Q S ((i, false) :: r) a w :=
  ⟨o, v, ho, .inl ⟨hw, hv⟩, h⟩
theorem ord_s {i : Nat} {r : List (Nat × Bool)} {o : Oper} {a : Act} {w : World} (ho : ops[i]? = some o) (hw : Region.wanted o (yielded ops a.tmps) = false)
    (h : wpOrd P ops Q S r (a.put o.dst undef) w) : wpOrd P ops Q S ((i, false) :: r) a w :=
  ⟨o, undef, ho, .inr ⟨hw, rfl⟩, h⟩
theorem ord_es {i : Nat} {r : List (Nat × Bool)} {o : Oper} {a : Act} {w : World} (ho : ops[i]? = some o) (hw : Region.wanted o (yielded ops a.tmps) = false) (hS : S w)
    (h : wpOrd P ops Q S r (a.put o.dst undef) w) : wpOrd P ops Q S ((i, true) :: r) a w := by
  show wpOp _ _ _ _ _ _ _
  unfold wpOp
  simp only [ho, hw, Bool.false_eq_true, if_false]
  exact ⟨hS, h⟩
theorem ord_e {i : Nat} {r : List (Nat × Bool)} {o : Oper} {a : Act} {w : World} (ho : ops[i]? = some o) (hw : Region.wanted o (yielded ops a.tmps) = true)
    (h : ∀ K : Act → World → Prop, Shut (∀ a' w', S w' → wpOrd P ops Q S r a' w' → K a' w') → o.wp P a w K (OnlyNormal Q)) : wpOrd P ops Q S ((i, true) :: r) a w := by
  show wpOp _ _ _ _ _ _ _
  unfold wpOp
  simp only [ho, hw, if_true]
  exact .inl (h _ (fun a' w' h1 h2 => ⟨h1, h2⟩))

theorem wpAnyH_of_ord (hs : Region.noSelect ops = true) : ∀ (ord : List (Nat × Bool)) (l : Array Bool) (a : Act) (w : World), okOrd ops ord l = true → S w → wpOrd P ops Q S ord a w →
    wpAnyH P .any ops (OnlyNormal Q) S ord.length l a w
  | [], l, a, w, hok, _, h => wpAnyH_done (P := P) (Q := OnlyNormal Q) (S := S) (by simpa [okOrd] using hok) h 0
  | (i, false) :: r, l, a, w, hok, hS, h => by
    obtain ⟨o, v, ho, hy, hn⟩ := h
    simp only [okOrd, Bool.and_eq_true] at hok
    exact wpAnyH_take ho hs hok.2.1 hok.1 (fun _ _ _ h => h) hy hS (wpAnyH_of_ord hs r _ _ _ hok.2.2 hS hn)
  | (i, true) :: r, l, a, w, hok, _, h => by
    simp only [okOrd, Bool.and_eq_true, beq_iff_eq] at hok
    refine wpAnyH_all hok.1 (by simp) ?_
    intro j hj
    simp only [List.mem_singleton] at hj
    subst hj
    exact wpOp_mono (fun a' w' h' => ⟨h'.1, wpAnyH_of_ord hs r _ _ _ hok.2 h'.1 h'.2⟩) h

theorem OnlyNormal.imp' : ∀ (e : Exit) (a : Act) (w : World), OnlyNormal Q e a w → Q e a w := fun e a w h => by
  cases e <;> first | exact h | exact (h : False).elim

/-- THE REGION. -/
theorem wp_region_ord {id : Nat} {a : Act} {w : World} {l : List Oper} (S : World → Prop) (ord : List (Nat × Bool)) (hm : P.follows .mixedOrders = true) (hs : Region.noSelect l.toArray = true)
    (hl : (ord.length == l.length) = true) (hok : okOrd l.toArray ord (Array.replicate l.length false) = true) (hS : S w.drew) (h : wpOrd P l.toArray Q S ord a w.drew) : (Code.region id l.toArray true).wp P Q a w := by
  refine Code.wp_mono (Q := OnlyNormal Q) OnlyNormal.imp' (wp_region_held (S := S) hm ?_)
  have := wpAnyH_of_ord hs ord (Array.replicate l.length false) a w.drew hok hS h
  rw [beq_iff_eq] at hl
  simpa [hl] using this
end

end Go.Proofs.Ytjggcojbgkpooaa
