import Derived.WalkKit
import Derived.Deep.RegionHeld3
import Derived.BigQuiet
namespace Go.Proofs.Ytindndcdpnpcmaa
set_option linter.unusedVariables false
set_option linter.unusedSimpArgs false
open Go.RowKit

/-! A region that draws its order, walked in ONE order of ours: quiet operations (one value in every world that meets S), skipped ones, and effects that come up alone. -/

section
variable {P : Program} {ops : Array Oper} {Q : Exit → Act → World → Prop} {S : World → Prop}

def OnlyNormal (Q : Exit → Act → World → Prop) : Exit → Act → World → Prop
  | .normal, a, w => Q .normal a w
  | _, _, _ => False

def okOrd (ops : Array Oper) : List (Nat × Bool) → Array Bool → Bool
  | [], l => (Region.ready .any ops l).isEmpty
  | (i, false) :: r, l => (Region.ready .any ops l).contains i && (Region.free .any ops l i && okOrd ops r (l.setIfInBounds i true))
  | (i, true) :: r, l => (Region.ready .any ops l == [i]) && okOrd ops r (l.setIfInBounds i true)

def wpOrd (P : Program) (ops : Array Oper) (Q : Exit → Act → World → Prop) (S : World → Prop) : List (Nat × Bool) → Act → World → Prop
  | [], a, w => Q .normal a w
  | (i, false) :: r, a, w => ∃ o v, ops[i]? = some o ∧ YieldsIf P ops S o v a ∧ wpOrd P ops Q S r (a.put o.dst v) w
  | (i, true) :: r, a, w => wpOp P ops (OnlyNormal Q) i (fun a' w' => S w' ∧ wpOrd P ops Q S r a' w') a w

theorem ord_nil {a : Act} {w : World} (h : Q .normal a w) : wpOrd P ops Q S [] a w := h
theorem ord_q {i : Nat} {r : List (Nat × Bool)} {o : Oper} {v : Value} {a : Act} {w : World} (ho : ops[i]? = some o) (hw : Region.wanted o (yielded ops a.tmps) = true)
    (hv : ∀ w', S w' → (execOp a.eval o).run P w' = .ok (.value v) w') (h : wpOrd P ops Q S r (a.put o.dst v) w) : wpOrd P ops Q S ((i, false) :: r) a w :=
  ⟨o, v, ho, .inl ⟨hw, hv⟩, h⟩
theorem ord_s {i : Nat} {r : List (Nat × Bool)} {o : Oper} {a : Act} {w : World} (ho : ops[i]? = some o) (hw : Region.wanted o (yielded ops a.tmps) = false)
    (h : wpOrd P ops Q S r (a.put o.dst undef) w) : wpOrd P ops Q S ((i, false) :: r) a w :=
  ⟨o, undef, ho, .inr ⟨hw, rfl⟩, h⟩
theorem ord_es {i : Nat} {r : List (Nat × Bool)} {o : Oper} {a : Act} {w : World} (ho : ops[i]? = some o) (hw : Region.wanted o (yielded ops a.tmps) = false) (hS : S w)
    (h : wpOrd P ops Q S r (a.put o.dst undef) w) : wpOrd P ops Q S ((i, true) :: r) a w := by
  show wpOp _ _ _ _ _ _ _
  unfold wpOp
  simp only [ho, hw, Bool.false_eq_true, if_false]
  exact ⟨hS, h⟩
theorem ord_e {i : Nat} {r : List (Nat × Bool)} {o : Oper} {a : Act} {w : World} (ho : ops[i]? = some o) (hw : Region.wanted o (yielded ops a.tmps) = true)
    (h : ∀ K : Act → World → Prop, Shut (∀ a' w', S w' → wpOrd P ops Q S r a' w' → K a' w') → o.wp P a w K (OnlyNormal Q)) : wpOrd P ops Q S ((i, true) :: r) a w := by
  show wpOp _ _ _ _ _ _ _
  unfold wpOp
  simp only [ho, hw, if_true]
  exact .inl (h _ (fun a' w' h1 h2 => ⟨h1, h2⟩))

theorem wpAnyH_of_ord (hs : Region.noSelect ops = true) : ∀ (ord : List (Nat × Bool)) (l : Array Bool) (a : Act) (w : World), okOrd ops ord l = true → S w → wpOrd P ops Q S ord a w →
    wpAnyH P .any ops (OnlyNormal Q) S ord.length l a w
  | [], l, a, w, hok, _, h => wpAnyH_done (P := P) (Q := OnlyNormal Q) (S := S) (by simpa [okOrd] using hok) h 0
  | (i, false) :: r, l, a, w, hok, hS, h => by
    obtain ⟨o, v, ho, hy, hn⟩ := h
    simp only [okOrd, Bool.and_eq_true] at hok
    exact wpAnyH_take ho hs hok.2.1 hok.1 (fun _ _ _ h => h) hy hS (wpAnyH_of_ord hs r _ _ _ hok.2.2 hS hn)
  | (i, true) :: r, l, a, w, hok, _, h => by
    simp only [okOrd, Bool.and_eq_true, beq_iff_eq] at hok
    refine wpAnyH_all hok.1 (by simp) ?_
    intro j hj
    simp only [List.mem_singleton] at hj
    subst hj
    exact wpOp_mono (fun a' w' h' => ⟨h'.1, wpAnyH_of_ord hs r _ _ _ hok.2 h'.1 h'.2⟩) h

theorem OnlyNormal.imp' : ∀ (e : Exit) (a : Act) (w : World), OnlyNormal Q e a w → Q e a w := fun e a w h => by
  cases e <;> first | exact h | exact (h : False).elim

/-- THE REGION. -/
theorem wp_region_ord {id : Nat} {a : Act} {w : World} {l : List Oper} (S : World → Prop) (ord : List (Nat × Bool)) (hm : P.follows .mixedOrders = true) (hs : Region.noSelect l.toArray = true)
    (hl : (ord.length == l.length) = true) (hok : okOrd l.toArray ord (Array.replicate l.length false) = true) (hS : S w.drew) (h : wpOrd P l.toArray Q S ord a w.drew) : (Code.region id l.toArray true).wp P Q a w := by
  refine Code.wp_mono (Q := OnlyNormal Q) OnlyNormal.imp' (wp_region_held (S := S) hm ?_)
  have := wpAnyH_of_ord hs ord (Array.replicate l.length false) a w.drew hok hS h
  rw [beq_iff_eq] at hl
  simpa [hl] using this
end

/-! As L1, by a tree: where two effects are ready at once both ways are walked. -/

inductive OT where
  | nil : OT
  | q : Nat → OT → OT
  | e : Nat → OT → OT
  | two : Nat → OT → Nat → OT → OT
  | thr : Nat → OT → Nat → OT → Nat → OT → OT

section
variable {P : Program} {ops : Array Oper} {Q : Exit → Act → World → Prop} {S : World → Prop}

def okT (ops : Array Oper) : OT → Nat → Array Bool → Bool
  | .nil, 0, l => (Region.ready .any ops l).isEmpty
  | .q i r, n + 1, l => (Region.ready .any ops l).contains i && (Region.free .any ops l i && okT ops r n (l.setIfInBounds i true))
  | .e i r, n + 1, l => (Region.ready .any ops l == [i]) && okT ops r n (l.setIfInBounds i true)
  | .two i ri j rj, n + 1, l => (Region.ready .any ops l == [i, j]) && (okT ops ri n (l.setIfInBounds i true) && okT ops rj n (l.setIfInBounds j true))
  | .thr i ri j rj k rk, n + 1, l => (Region.ready .any ops l == [i, j, k]) && (okT ops ri n (l.setIfInBounds i true) && (okT ops rj n (l.setIfInBounds j true) && okT ops rk n (l.setIfInBounds k true)))
  | _, _, _ => false

def wpT (P : Program) (ops : Array Oper) (Q : Exit → Act → World → Prop) (S : World → Prop) : OT → Act → World → Prop
  | .nil, a, w => Q .normal a w
  | .q i r, a, w => ∃ o v, ops[i]? = some o ∧ YieldsIf P ops S o v a ∧ wpT P ops Q S r (a.put o.dst v) w
  | .e i r, a, w => wpOp P ops (OnlyNormal Q) i (fun a' w' => S w' ∧ wpT P ops Q S r a' w') a w
  | .two i ri j rj, a, w => wpOp P ops (OnlyNormal Q) i (fun a' w' => S w' ∧ wpT P ops Q S ri a' w') a w ∧ wpOp P ops (OnlyNormal Q) j (fun a' w' => S w' ∧ wpT P ops Q S rj a' w') a w
  | .thr i ri j rj k rk, a, w => wpOp P ops (OnlyNormal Q) i (fun a' w' => S w' ∧ wpT P ops Q S ri a' w') a w ∧ wpOp P ops (OnlyNormal Q) j (fun a' w' => S w' ∧ wpT P ops Q S rj a' w') a w ∧ wpOp P ops (OnlyNormal Q) k (fun a' w' => S w' ∧ wpT P ops Q S rk a' w') a w

theorem ordt_nil {a : Act} {w : World} (h : Q .normal a w) : wpT P ops Q S .nil a w := h
theorem ordt_q {i : Nat} {r : OT} {o : Oper} {v : Value} {a : Act} {w : World} (ho : ops[i]? = some o) (hw : Region.wanted o (yielded ops a.tmps) = true)
    (hv : ∀ w', S w' → (execOp a.eval o).run P w' = .ok (.value v) w') (h : wpT P ops Q S r (a.put o.dst v) w) : wpT P ops Q S (.q i r) a w :=
  ⟨o, v, ho, .inl ⟨hw, hv⟩, h⟩
theorem ordt_s {i : Nat} {r : OT} {o : Oper} {a : Act} {w : World} (ho : ops[i]? = some o) (hw : Region.wanted o (yielded ops a.tmps) = false)
    (h : wpT P ops Q S r (a.put o.dst undef) w) : wpT P ops Q S (.q i r) a w :=
  ⟨o, undef, ho, .inr ⟨hw, rfl⟩, h⟩
theorem op_e {i : Nat} {r : OT} {o : Oper} {a : Act} {w : World} (ho : ops[i]? = some o) (hw : Region.wanted o (yielded ops a.tmps) = true)
    (h : ∀ K : Act → World → Prop, Shut (∀ a' w', S w' → wpT P ops Q S r a' w' → K a' w') → o.wp P a w K (OnlyNormal Q)) : wpOp P ops (OnlyNormal Q) i (fun a' w' => S w' ∧ wpT P ops Q S r a' w') a w := by
  unfold wpOp
  simp only [ho, hw, if_true]
  exact .inl (h _ (fun a' w' h1 h2 => ⟨h1, h2⟩))
theorem ordt_e {i : Nat} {r : OT} {a : Act} {w : World} (h : wpOp P ops (OnlyNormal Q) i (fun a' w' => S w' ∧ wpT P ops Q S r a' w') a w) : wpT P ops Q S (.e i r) a w := h
theorem ordt_two {i j : Nat} {ri rj : OT} {a : Act} {w : World} (h : wpOp P ops (OnlyNormal Q) i (fun a' w' => S w' ∧ wpT P ops Q S ri a' w') a w) (h' : wpOp P ops (OnlyNormal Q) j (fun a' w' => S w' ∧ wpT P ops Q S rj a' w') a w) : wpT P ops Q S (.two i ri j rj) a w := ⟨h, h'⟩

theorem ordt_thr {i j k : Nat} {ri rj rk : OT} {a : Act} {w : World} (h : wpOp P ops (OnlyNormal Q) i (fun a' w' => S w' ∧ wpT P ops Q S ri a' w') a w) (h' : wpOp P ops (OnlyNormal Q) j (fun a' w' => S w' ∧ wpT P ops Q S rj a' w') a w) (h'' : wpOp P ops (OnlyNormal Q) k (fun a' w' => S w' ∧ wpT P ops Q S rk a' w') a w) : wpT P ops Q S (.thr i ri j rj k rk) a w := ⟨h, h', h''⟩

theorem wpAnyH_of_T (hs : Region.noSelect ops = true) : ∀ (t : OT) (n : Nat) (l : Array Bool) (a : Act) (w : World), okT ops t n l = true → S w → wpT P ops Q S t a w → wpAnyH P .any ops (OnlyNormal Q) S n l a w
  | .nil, 0, l, a, w, hok, _, h => wpAnyH_done (P := P) (Q := OnlyNormal Q) (S := S) (by simpa [okT] using hok) h 0
  | .q i r, n + 1, l, a, w, hok, hS, h => by
    obtain ⟨o, v, ho, hy, hn⟩ := h
    simp only [okT, Bool.and_eq_true] at hok
    exact wpAnyH_take ho hs hok.2.1 hok.1 (fun _ _ _ h => h) hy hS (wpAnyH_of_T hs r n _ _ _ hok.2.2 hS hn)
  | .e i r, n + 1, l, a, w, hok, _, h => by
    simp only [okT, Bool.and_eq_true, beq_iff_eq] at hok
    refine wpAnyH_all hok.1 (by simp) ?_
    intro j hj
    simp only [List.mem_singleton] at hj
    subst hj
    exact wpOp_mono (fun a' w' h' => ⟨h'.1, wpAnyH_of_T hs r n _ _ _ hok.2 h'.1 h'.2⟩) h
  | .two i ri j rj, n + 1, l, a, w, hok, _, h => by
    simp only [okT, Bool.and_eq_true, beq_iff_eq] at hok
    refine wpAnyH_all hok.1 (by simp) ?_
    intro q hq
    simp only [List.mem_cons, List.mem_singleton, List.not_mem_nil, or_false] at hq
    rcases hq with rfl | rfl
    · exact wpOp_mono (fun a' w' h' => ⟨h'.1, wpAnyH_of_T hs ri n _ _ _ hok.2.1 h'.1 h'.2⟩) h.1
    · exact wpOp_mono (fun a' w' h' => ⟨h'.1, wpAnyH_of_T hs rj n _ _ _ hok.2.2 h'.1 h'.2⟩) h.2
  | .thr i ri j rj k rk, n + 1, l, a, w, hok, _, h => by
    simp only [okT, Bool.and_eq_true, beq_iff_eq] at hok
    refine wpAnyH_all hok.1 (by simp) ?_
    intro q hq
    simp only [List.mem_cons, List.mem_singleton, List.not_mem_nil, or_false] at hq
    rcases hq with rfl | rfl | rfl
    · exact wpOp_mono (fun a' w' h' => ⟨h'.1, wpAnyH_of_T hs ri n _ _ _ hok.2.1 h'.1 h'.2⟩) h.1
    · exact wpOp_mono (fun a' w' h' => ⟨h'.1, wpAnyH_of_T hs rj n _ _ _ hok.2.2.1 h'.1 h'.2⟩) h.2.1
    · exact wpOp_mono (fun a' w' h' => ⟨h'.1, wpAnyH_of_T hs rk n _ _ _ hok.2.2.2 h'.1 h'.2⟩) h.2.2
  | .nil, n + 1, _, _, _, hok, _, _ => by simp [okT] at hok
  | .q _ _, 0, _, _, _, hok, _, _ => by simp [okT] at hok
  | .e _ _, 0, _, _, _, hok, _, _ => by simp [okT] at hok
  | .two _ _ _ _, 0, _, _, _, hok, _, _ => by simp [okT] at hok
  | .thr _ _ _ _ _ _, 0, _, _, _, hok, _, _ => by simp [okT] at hok

/-- THE REGION. -/
theorem wp_region_T {id : Nat} {a : Act} {w : World} {l : List Oper} (S : World → Prop) (t : OT) (hm : P.follows .mixedOrders = true) (hs : Region.noSelect l.toArray = true)
    (hok : okT l.toArray t l.length (Array.replicate l.length false) = true) (hS : S w.drew) (h : wpT P l.toArray Q S t a w.drew) : (Code.region id l.toArray true).wp P Q a w := by
  refine Code.wp_mono (Q := OnlyNormal Q) OnlyNormal.imp' (wp_region_held (S := S) hm ?_)
  have := wpAnyH_of_T hs t l.length (Array.replicate l.length false) a w.drew hok hS h
  simpa using this
end

end Go.Proofs.Ytindndcdpnpcmaa
