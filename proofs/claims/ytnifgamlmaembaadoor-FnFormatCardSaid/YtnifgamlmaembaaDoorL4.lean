import Derived.WalkKit
import Derived.Deep.RegionHeld3
import Derived.BigQuiet
import Derived.StillTail
namespace Go.Proofs.YtnifgamlmaembaaDoor
set_option linter.unusedVariables false
set_option linter.unusedSimpArgs false
open Go.RowKit

/-! A region that draws its order, walked in ONE order of ours: quiet operations (one value in every world that meets S), skipped ones, and effects that come up alone. -/

section
variable {P : Program} {ops : Array Oper} {Q : Exit → Act → World → Prop} {S : World → Prop}

def OnlyNormal (Q : Exit → Act → World → Prop) : Exit → Act → World → Prop
  | .normal, a, w => Q .normal a w
  | _, _, _ => False

def okOrd (ops : Array Oper) : List (Nat × Bool) → Array Bool → Bool
  | [], l => (Region.ready .any ops l).isEmpty
  | (i, false) :: r, l => (Region.ready .any ops l).contains i && (Region.free .any ops l i && okOrd ops r (l.setIfInBounds i true))
  | (i, true) :: r, l => (Region.ready .any ops l == [i]) && okOrd ops r (l.setIfInBounds i true)

def wpOrd (P : Program) (ops : Array Oper) (Q : Exit → Act → World → Prop) (S : World → Prop) : List (Nat × Bool) → Act → World → Prop
  | [], a, w => Q .normal a w
  | (i, false) :: r, a, w => ∃ o v, ops[i]? = some o ∧ YieldsIf P ops S o v a ∧ wpOrd P ops Q S r (a.put o.dst v) w
  | (i, true) :: r, a, w => wpOp P ops (OnlyNormal Q) i (fun a' w' => S w' ∧ wpOrd P ops Q S r a' w') a w

theorem ord_nil {a : Act} {w : World} (h : Q .normal a w) : wpOrd P ops Q S [] a w := h
theorem ord_q {i : Nat} {r : List (Nat × Bool)} {o : Oper} {v : Value} {a : Act} {w : World} (ho : ops[i]? = some o) (hw : Region.wanted o (yielded ops a.tmps) = true)
    (hv : ∀ w', S w' → (execOp a.eval o).run P w' = .ok (.value v) w') (h : wpOrd P ops Q S r (a.put o.dst v) w) : wpOrd P ops Q S ((i, false) :: r) a w :=
  ⟨o, v, ho, .inl ⟨hw, hv⟩, h⟩
theorem ord_s {i : Nat} {r : List (Nat × Bool)} {o : Oper} {a : Act} {w : World} (ho : ops[i]? = some o) (hw : Region.wanted o (yielded ops a.tmps) = false)
    (h : wpOrd P ops Q S r (a.put o.dst undef) w) : wpOrd P ops Q S ((i, false) :: r) a w :=
  ⟨o, undef, ho, .inr ⟨hw, rfl⟩, h⟩
theorem ord_es {i : Nat} {r : List (Nat × Bool)} {o : Oper} {a : Act} {w : World} (ho : ops[i]? = some o) (hw : Region.wanted o (yielded ops a.tmps) = false) (hS : S w)
    (h : wpOrd P ops Q S r (a.put o.dst undef) w) : wpOrd P ops Q S ((i, true) :: r) a w := by
  show wpOp _ _ _ _ _ _ _
  unfold wpOp
  simp only [ho, hw, Bool.false_eq_true, if_false]
  exact ⟨hS, h⟩
theorem ord_e {i : Nat} {r : List (Nat × Bool)} {o : Oper} {a : Act} {w : World} (ho : ops[i]? = some o) (hw : Region.wanted o (yielded ops a.tmps) = true)
    (h : ∀ K : Act → World → Prop, Shut (∀ a' w', S w' → wpOrd P ops Q S r a' w' → K a' w') → o.wp P a w K (OnlyNormal Q)) : wpOrd P ops Q S ((i, true) :: r) a w := by
  show wpOp _ _ _ _ _ _ _
  unfold wpOp
  simp only [ho, hw, if_true]
  exact .inl (h _ (fun a' w' h1 h2 => ⟨h1, h2⟩))

theorem wpAnyH_of_ord (hs : Region.noSelect ops = true) : ∀ (ord : List (Nat × Bool)) (l : Array Bool) (a : Act) (w : World), okOrd ops ord l = true → S w → wpOrd P ops Q S ord a w →
    wpAnyH P .any ops (OnlyNormal Q) S ord.length l a w
  | [], l, a, w, hok, _, h => wpAnyH_done (P := P) (Q := OnlyNormal Q) (S := S) (by simpa [okOrd] using hok) h 0
  | (i, false) :: r, l, a, w, hok, hS, h => by
    obtain ⟨o, v, ho, hy, hn⟩ := h
    simp only [okOrd, Bool.and_eq_true] at hok
    exact wpAnyH_take ho hs hok.2.1 hok.1 (fun _ _ _ h => h) hy hS (wpAnyH_of_ord hs r _ _ _ hok.2.2 hS hn)
  | (i, true) :: r, l, a, w, hok, _, h => by
    simp only [okOrd, Bool.and_eq_true, beq_iff_eq] at hok
    refine wpAnyH_all hok.1 (by simp) ?_
    intro j hj
    simp only [List.mem_singleton] at hj
    subst hj
    exact wpOp_mono (fun a' w' h' => ⟨h'.1, wpAnyH_of_ord hs r _ _ _ hok.2 h'.1 h'.2⟩) h

theorem OnlyNormal.imp' : ∀ (e : Exit) (a : Act) (w : World), OnlyNormal Q e a w → Q e a w := fun e a w h => by
  cases e <;> first | exact h | exact (h : False).elim

/-- THE REGION. -/
theorem wp_region_ord {id : Nat} {a : Act} {w : World} {l : List Oper} (S : World → Prop) (ord : List (Nat × Bool)) (hm : P.follows .mixedOrders = true) (hs : Region.noSelect l.toArray = true)
    (hl : (ord.length == l.length) = true) (hok : okOrd l.toArray ord (Array.replicate l.length false) = true) (hS : S w.drew) (h : wpOrd P l.toArray Q S ord a w.drew) : (Code.region id l.toArray true).wp P Q a w := by
  refine Code.wp_mono (Q := OnlyNormal Q) OnlyNormal.imp' (wp_region_held (S := S) hm ?_)
  have := wpAnyH_of_ord hs ord (Array.replicate l.length false) a w.drew hok hS h
  rw [beq_iff_eq] at hl
  simpa [hl] using this
end

/-! As L1, by a tree: where two effects are ready at once both ways are walked. -/

inductive OT where
  | nil : OT
  | q : Nat → OT → OT
  | e : Nat → OT → OT
  | two : Nat → OT → Nat → OT → OT
  | thr : Nat → OT → Nat → OT → Nat → OT → OT

section
variable {P : Program} {ops : Array Oper} {Q : Exit → Act → World → Prop} {S : World → Prop}

def okT (ops : Array Oper) : OT → Nat → Array Bool → Bool
  | .nil, 0, l => (Region.ready .any ops l).isEmpty
  | .q i r, n + 1, l => (Region.ready .any ops l).contains i && (Region.free .any ops l i && okT ops r n (l.setIfInBounds i true))
  | .e i r, n + 1, l => (Region.ready .any ops l == [i]) && okT ops r n (l.setIfInBounds i true)
  | .two i ri j rj, n + 1, l => (Region.ready .any ops l == [i, j]) && (okT ops ri n (l.setIfInBounds i true) && okT ops rj n (l.setIfInBounds j true))
  | .thr i ri j rj k rk, n + 1, l => (Region.ready .any ops l == [i, j, k]) && (okT ops ri n (l.setIfInBounds i true) && (okT ops rj n (l.setIfInBounds j true) && okT ops rk n (l.setIfInBounds k true)))
  | _, _, _ => false

def wpT (P : Program) (ops : Array Oper) (Q : Exit → Act → World → Prop) (S : World → Prop) : OT → Act → World → Prop
  | .nil, a, w => Q .normal a w
  | .q i r, a, w => ∃ o v, ops[i]? = some o ∧ YieldsIf P ops S o v a ∧ wpT P ops Q S r (a.put o.dst v) w
  | .e i r, a, w => wpOp P ops (OnlyNormal Q) i (fun a' w' => S w' ∧ wpT P ops Q S r a' w') a w
  | .two i ri j rj, a, w => wpOp P ops (OnlyNormal Q) i (fun a' w' => S w' ∧ wpT P ops Q S ri a' w') a w ∧ wpOp P ops (OnlyNormal Q) j (fun a' w' => S w' ∧ wpT P ops Q S rj a' w') a w
  | .thr i ri j rj k rk, a, w => wpOp P ops (OnlyNormal Q) i (fun a' w' => S w' ∧ wpT P ops Q S ri a' w') a w ∧ wpOp P ops (OnlyNormal Q) j (fun a' w' => S w' ∧ wpT P ops Q S rj a' w') a w ∧ wpOp P ops (OnlyNormal Q) k (fun a' w' => S w' ∧ wpT P ops Q S rk a' w') a w

theorem ordt_nil {a : Act} {w : World} (h : Q .normal a w) : wpT P ops Q S .nil a w := h
theorem ordt_q {i : Nat} {r : OT} {o : Oper} {v : Value} {a : Act} {w : World} (ho : ops[i]? = some o) (hw : Region.wanted o (yielded ops a.tmps) = true)
    (hv : ∀ w', S w' → (execOp a.eval o).run P w' = .ok (.value v) w') (h : wpT P ops Q S r (a.put o.dst v) w) : wpT P ops Q S (.q i r) a w :=
  ⟨o, v, ho, .inl ⟨hw, hv⟩, h⟩
theorem ordt_s {i : Nat} {r : OT} {o : Oper} {a : Act} {w : World} (ho : ops[i]? = some o) (hw : Region.wanted o (yielded ops a.tmps) = false)
    (h : wpT P ops Q S r (a.put o.dst undef) w) : wpT P ops Q S (.q i r) a w :=
  ⟨o, undef, ho, .inr ⟨hw, rfl⟩, h⟩
theorem op_e {i : Nat} {r : OT} {o : Oper} {a : Act} {w : World} (ho : ops[i]? = some o) (hw : Region.wanted o (yielded ops a.tmps) = true)
    (h : ∀ K : Act → World → Prop, Shut (∀ a' w', S w' → wpT P ops Q S r a' w' → K a' w') → o.wp P a w K (OnlyNormal Q)) : wpOp P ops (OnlyNormal Q) i (fun a' w' => S w' ∧ wpT P ops Q S r a' w') a w := by
  unfold wpOp
  simp only [ho, hw, if_true]
  exact .inl (h _ (fun a' w' h1 h2 => ⟨h1, h2⟩))
theorem ordt_e {i : Nat} {r : OT} {a : Act} {w : World} (h : wpOp P ops (OnlyNormal Q) i (fun a' w' => S w' ∧ wpT P ops Q S r a' w') a w) : wpT P ops Q S (.e i r) a w := h
theorem ordt_two {i j : Nat} {ri rj : OT} {a : Act} {w : World} (h : wpOp P ops (OnlyNormal Q) i (fun a' w' => S w' ∧ wpT P ops Q S ri a' w') a w) (h' : wpOp P ops (OnlyNormal Q) j (fun a' w' => S w' ∧ wpT P ops Q S rj a' w') a w) : wpT P ops Q S (.two i ri j rj) a w := ⟨h, h'⟩

theorem ordt_thr {i j k : Nat} {ri rj rk : OT} {a : Act} {w : World} (h : wpOp P ops (OnlyNormal Q) i (fun a' w' => S w' ∧ wpT P ops Q S ri a' w') a w) (h' : wpOp P ops (OnlyNormal Q) j (fun a' w' => S w' ∧ wpT P ops Q S rj a' w') a w) (h'' : wpOp P ops (OnlyNormal Q) k (fun a' w' => S w' ∧ wpT P ops Q S rk a' w') a w) : wpT P ops Q S (.thr i ri j rj k rk) a w := ⟨h, h', h''⟩

theorem wpAnyH_of_T (hs : Region.noSelect ops = true) : ∀ (t : OT) (n : Nat) (l : Array Bool) (a : Act) (w : World), okT ops t n l = true → S w → wpT P ops Q S t a w → wpAnyH P .any ops (OnlyNormal Q) S n l a w
  | .nil, 0, l, a, w, hok, _, h => wpAnyH_done (P := P) (Q := OnlyNormal Q) (S := S) (by simpa [okT] using hok) h 0
  | .q i r, n + 1, l, a, w, hok, hS, h => by
    obtain ⟨o, v, ho, hy, hn⟩ := h
    simp only [okT, Bool.and_eq_true] at hok
    exact wpAnyH_take ho hs hok.2.1 hok.1 (fun _ _ _ h => h) hy hS (wpAnyH_of_T hs r n _ _ _ hok.2.2 hS hn)
  | .e i r, n + 1, l, a, w, hok, _, h => by
    simp only [okT, Bool.and_eq_true, beq_iff_eq] at hok
    refine wpAnyH_all hok.1 (by simp) ?_
    intro j hj
    simp only [List.mem_singleton] at hj
    subst hj
    exact wpOp_mono (fun a' w' h' => ⟨h'.1, wpAnyH_of_T hs r n _ _ _ hok.2 h'.1 h'.2⟩) h
  | .two i ri j rj, n + 1, l, a, w, hok, _, h => by
    simp only [okT, Bool.and_eq_true, beq_iff_eq] at hok
    refine wpAnyH_all hok.1 (by simp) ?_
    intro q hq
    simp only [List.mem_cons, List.mem_singleton, List.not_mem_nil, or_false] at hq
    rcases hq with rfl | rfl
    · exact wpOp_mono (fun a' w' h' => ⟨h'.1, wpAnyH_of_T hs ri n _ _ _ hok.2.1 h'.1 h'.2⟩) h.1
    · exact wpOp_mono (fun a' w' h' => ⟨h'.1, wpAnyH_of_T hs rj n _ _ _ hok.2.2 h'.1 h'.2⟩) h.2
  | .thr i ri j rj k rk, n + 1, l, a, w, hok, _, h => by
    simp only [okT, Bool.and_eq_true, beq_iff_eq] at hok
    refine wpAnyH_all hok.1 (by simp) ?_
    intro q hq
    simp only [List.mem_cons, List.mem_singleton, List.not_mem_nil, or_false] at hq
    rcases hq with rfl | rfl | rfl
    · exact wpOp_mono (fun a' w' h' => ⟨h'.1, wpAnyH_of_T hs ri n _ _ _ hok.2.1 h'.1 h'.2⟩) h.1
    · exact wpOp_mono (fun a' w' h' => ⟨h'.1, wpAnyH_of_T hs rj n _ _ _ hok.2.2.1 h'.1 h'.2⟩) h.2.1
    · exact wpOp_mono (fun a' w' h' => ⟨h'.1, wpAnyH_of_T hs rk n _ _ _ hok.2.2.2 h'.1 h'.2⟩) h.2.2
  | .nil, n + 1, _, _, _, hok, _, _ => by simp [okT] at hok
  | .q _ _, 0, _, _, _, hok, _, _ => by simp [okT] at hok
  | .e _ _, 0, _, _, _, hok, _, _ => by simp [okT] at hok
  | .two _ _ _ _, 0, _, _, _, hok, _, _ => by simp [okT] at hok
  | .thr _ _ _ _ _ _, 0, _, _, _, hok, _, _ => by simp [okT] at hok

/-- THE REGION. -/
theorem wp_region_T {id : Nat} {a : Act} {w : World} {l : List Oper} (S : World → Prop) (t : OT) (hm : P.follows .mixedOrders = true) (hs : Region.noSelect l.toArray = true)
    (hok : okT l.toArray t l.length (Array.replicate l.length false) = true) (hS : S w.drew) (h : wpT P l.toArray Q S t a w.drew) : (Code.region id l.toArray true).wp P Q a w := by
  refine Code.wp_mono (Q := OnlyNormal Q) OnlyNormal.imp' (wp_region_held (S := S) hm ?_)
  have := wpAnyH_of_T hs t l.length (Array.replicate l.length false) a w.drew hok hS h
  simpa using this
end

/-! As L3, but behind the last operation (number n, for which all others wait) S need not hold. -/

inductive OE where
  | nil : OE
  | q : Nat → OE → OE
  | e : Nat → OE → OE
  | two : Nat → OE → Nat → OE → OE
  | z : Nat → OE

section
variable {P : Program} {ops : Array Oper} {Q : Exit → Act → World → Prop} {S : World → Prop} {n : Nat}

def wpAnyE (P : Program) (ops : Array Oper) (Q : Exit → Act → World → Prop) (S : World → Prop) (n : Nat) : Nat → Array Bool → Act → World → Prop
  | 0, listed, a, w => Region.ready .any ops listed = [] ∧ Q .normal a w
  | fuel + 1, listed, a, w =>
    (Region.ready .any ops listed = [] → Q .normal a w) ∧
    ∀ i ∈ Region.ready .any ops listed, wpOp P ops Q i (fun a' w' => (i ≠ n → S w') ∧ wpAnyE P ops Q S n fuel (listed.setIfInBounds i true) a' w') a w

theorem wpAny_of_E : ∀ (fuel : Nat) (listed : Array Bool) (a : Act) (w : World), wpAnyE P ops Q S n fuel listed a w → wpAny P .any ops Q fuel listed a w
  | 0, _, _, _, h => h
  | fuel + 1, _, _, _, h => ⟨h.1, fun i hi => wpOp_mono (fun a' w' h' => wpAny_of_E fuel _ a' w' h'.2) (h.2 i hi)⟩

theorem wpAnyE_first (hsk : Region.sinkB .any ops n = true) (hch : Region.chainB .any ops n = true) (hn : n < ops.size) {i : Nat} {oi : Oper} {v : Value} (hin : i < n) (hi : ops[i]? = some oi) (hsel : ∀ (j : Nat) (o : Oper) cs b, ops[j]? = some o → o.op ≠ .select cs b)
    (hQ : ∀ c a w, Q (.panic c) (a.put oi.dst v) w → Q (.panic c) a w) :
    ∀ (fuel : Nat) (listed : Array Bool) (a : Act) (w : World),
      (∀ j oj, ops[j]? = some oj → j ≠ i → listed.getD j true = false → (∀ e ∈ oj.after, Region.binds .any e = true → e.on ≠ i) → oi.apart ops oj = true) →
      HeadInv .any ops n listed → i ∈ Region.ready .any ops listed → YieldsIf P ops S oi v a → S w →
      wpAnyE P ops Q S n fuel (listed.setIfInBounds i true) (a.put oi.dst v) w → wpAnyE P ops Q S n (fuel + 1) listed a w := by
  intro fuel
  induction fuel with
  | zero =>
    intro listed a w _ inv hr hy hS H
    refine ⟨fun h => (by rw [h] at hr; cases hr), fun j hj => ?_⟩
    by_cases hji : j = i
    · subst hji; exact hy.wpOp hi hS ⟨fun _ => hS, H⟩
    · have := ready_mono hj hji
      rw [H.1] at this
      cases this
  | succ fuel ih =>
    intro listed a w hfree inv hr hy hS H
    refine ⟨fun h => (by rw [h] at hr; cases hr), fun j hj => ?_⟩
    by_cases hji : j = i
    · subst hji; exact hy.wpOp hi hS ⟨fun _ => hS, H⟩
    · have h1 := H.2 j (ready_mono hj hji)
      obtain ⟨hjun, oj, hoj, hall⟩ := mem_ready.1 hj
      have hnot : ∀ e ∈ oj.after, Region.binds .any e = true → e.on ≠ i := fun e he hb heq => by
        have h1 := hall e he hb
        have h0 := (mem_ready.1 hr).1
        rw [heq] at h1
        rcases Nat.lt_or_ge i listed.size with h' | h'
        · simp [h'] at h0 h1; rw [h0] at h1; cases h1
        · simp [Array.getElem?_eq_none h'] at h1
      have hjn : j < n := by
        rcases Nat.lt_or_ge j n with h' | h'
        · exact h'
        · exact absurd hj (tail_waits hsk hch hn inv (n - i) i rfl hin (mem_ready.1 hr).1 j h')
      have h2 := wpOp_putIf hoj (hfree j oj hoj hji hjun hnot) (fun cs b => hsel i oi cs b hi) (fun cs b => hsel j oj cs b hoj) hQ hy h1
      have hfree' : ∀ k ok, ops[k]? = some ok → k ≠ i → (listed.setIfInBounds j true).getD k true = false →
          (∀ e ∈ ok.after, Region.binds .any e = true → e.on ≠ i) → oi.apart ops ok = true := fun k ok hk hki hun hno => by
        refine hfree k ok hk hki ?_ hno
        by_cases hjk : j = k
        · subst hjk; exact hjun
        · rw [getD_set_ne true hjk] at hun; exact hun
      refine wpOp_mono (fun a' w' h3 => ⟨h3.2.1, ih (listed.setIfInBounds j true) a' w' hfree' (inv.set hj hjn) (ready_mono hr (Ne.symm hji)) h3.1 (h3.2.1 (by omega)) ?_⟩) h2
      rw [Array.setIfInBounds_comm _ _ hji]
      exact h3.2.2

def okE (ops : Array Oper) (n : Nat) : OE → Nat → Array Bool → Bool
  | .nil, 0, l => (Region.ready .any ops l).isEmpty
  | .q i r, m + 1, l => (Region.ready .any ops l).contains i && (Region.free .any ops l i && (decide (i < n) && okE ops n r m (l.setIfInBounds i true)))
  | .e i r, m + 1, l => (Region.ready .any ops l == [i]) && (decide (i < n) && okE ops n r m (l.setIfInBounds i true))
  | .two i ri j rj, m + 1, l => (Region.ready .any ops l == [i, j]) && ((decide (i < n) && decide (j < n)) && (okE ops n ri m (l.setIfInBounds i true) && okE ops n rj m (l.setIfInBounds j true)))
  | .z i, m + 1, l => (Region.ready .any ops l == [i]) && (Region.ready .any ops (l.setIfInBounds i true)).isEmpty && i == n
  | _, _, _ => false

def wpE (P : Program) (ops : Array Oper) (Q : Exit → Act → World → Prop) (S : World → Prop) : OE → Act → World → Prop
  | .nil, a, w => Q .normal a w
  | .q i r, a, w => ∃ o v, ops[i]? = some o ∧ YieldsIf P ops S o v a ∧ wpE P ops Q S r (a.put o.dst v) w
  | .e i r, a, w => wpOp P ops (OnlyNormal Q) i (fun a' w' => S w' ∧ wpE P ops Q S r a' w') a w
  | .two i ri j rj, a, w => wpOp P ops (OnlyNormal Q) i (fun a' w' => S w' ∧ wpE P ops Q S ri a' w') a w ∧ wpOp P ops (OnlyNormal Q) j (fun a' w' => S w' ∧ wpE P ops Q S rj a' w') a w
  | .z i, a, w => wpOp P ops (OnlyNormal Q) i (fun a' w' => Q .normal a' w') a w

theorem orde_nil {a : Act} {w : World} (h : Q .normal a w) : wpE P ops Q S .nil a w := h
theorem orde_q {i : Nat} {r : OE} {o : Oper} {v : Value} {a : Act} {w : World} (ho : ops[i]? = some o) (hw : Region.wanted o (yielded ops a.tmps) = true)
    (hv : ∀ w', S w' → (execOp a.eval o).run P w' = .ok (.value v) w') (h : wpE P ops Q S r (a.put o.dst v) w) : wpE P ops Q S (.q i r) a w :=
  ⟨o, v, ho, .inl ⟨hw, hv⟩, h⟩
theorem orde_s {i : Nat} {r : OE} {o : Oper} {a : Act} {w : World} (ho : ops[i]? = some o) (hw : Region.wanted o (yielded ops a.tmps) = false)
    (h : wpE P ops Q S r (a.put o.dst undef) w) : wpE P ops Q S (.q i r) a w :=
  ⟨o, undef, ho, .inr ⟨hw, rfl⟩, h⟩
theorem ope_e {i : Nat} {r : OE} {o : Oper} {a : Act} {w : World} (ho : ops[i]? = some o) (hw : Region.wanted o (yielded ops a.tmps) = true)
    (h : ∀ K : Act → World → Prop, Shut (∀ a' w', S w' → wpE P ops Q S r a' w' → K a' w') → o.wp P a w K (OnlyNormal Q)) : wpOp P ops (OnlyNormal Q) i (fun a' w' => S w' ∧ wpE P ops Q S r a' w') a w := by
  unfold wpOp
  simp only [ho, hw, if_true]
  exact .inl (h _ (fun a' w' h1 h2 => ⟨h1, h2⟩))
theorem orde_e {i : Nat} {r : OE} {a : Act} {w : World} (h : wpOp P ops (OnlyNormal Q) i (fun a' w' => S w' ∧ wpE P ops Q S r a' w') a w) : wpE P ops Q S (.e i r) a w := h
theorem orde_two {i j : Nat} {ri rj : OE} {a : Act} {w : World} (h : wpOp P ops (OnlyNormal Q) i (fun a' w' => S w' ∧ wpE P ops Q S ri a' w') a w) (h' : wpOp P ops (OnlyNormal Q) j (fun a' w' => S w' ∧ wpE P ops Q S rj a' w') a w) : wpE P ops Q S (.two i ri j rj) a w := ⟨h, h'⟩
theorem orde_z {i : Nat} {o : Oper} {a : Act} {w : World} (ho : ops[i]? = some o) (hw : Region.wanted o (yielded ops a.tmps) = true)
    (h : ∀ K : Act → World → Prop, Shut (∀ a' w', Q .normal a' w' → K a' w') → o.wp P a w K (OnlyNormal Q)) : wpE P ops Q S (.z i) a w := by
  show wpOp _ _ _ _ _ _ _
  unfold wpOp
  simp only [ho, hw, if_true]
  exact .inl (h _ (fun a' w' h => h))

theorem wpAnyE_of (hs : Region.noSelect ops = true) (hsk : Region.sinkB .any ops n = true) (hch : Region.chainB .any ops n = true) (hn : n < ops.size) :
    ∀ (t : OE) (m : Nat) (l : Array Bool) (a : Act) (w : World), okE ops n t m l = true → HeadInv .any ops n l → S w → wpE P ops Q S t a w → wpAnyE P ops (OnlyNormal Q) S n m l a w
  | .nil, 0, l, a, w, hok, _, _, h => ⟨by simpa [okE] using hok, h⟩
  | .q i r, m + 1, l, a, w, hok, inv, hS, h => by
    obtain ⟨o, v, ho, hy, hn2⟩ := h
    simp only [okE, Bool.and_eq_true, decide_eq_true_eq] at hok
    have hr : i ∈ Region.ready .any ops l := by simpa using hok.1
    exact wpAnyE_first hsk hch hn hok.2.2.1 ho (Region.noSelect_spec hs) (fun _ _ _ h => h) m l a w (Region.free_spec ho hok.2.1) inv hr hy hS (wpAnyE_of hs hsk hch hn r m _ _ _ hok.2.2.2 (inv.set hr hok.2.2.1) hS hn2)
  | .e i r, m + 1, l, a, w, hok, inv, _, h => by
    simp only [okE, Bool.and_eq_true, beq_iff_eq, decide_eq_true_eq] at hok
    refine ⟨fun h0 => (by rw [hok.1] at h0; cases h0), fun j hj => ?_⟩
    have hj2 := hj
    rw [hok.1, List.mem_singleton] at hj
    subst hj
    exact wpOp_mono (fun a' w' h' => ⟨fun _ => h'.1, wpAnyE_of hs hsk hch hn r m _ _ _ hok.2.2 (inv.set hj2 hok.2.1) h'.1 h'.2⟩) h
  | .two i ri j rj, m + 1, l, a, w, hok, inv, _, h => by
    simp only [okE, Bool.and_eq_true, beq_iff_eq, decide_eq_true_eq] at hok
    refine ⟨fun h0 => (by rw [hok.1] at h0; cases h0), fun q hq => ?_⟩
    have hq2 := hq
    rw [hok.1] at hq
    simp only [List.mem_cons, List.not_mem_nil, or_false] at hq
    rcases hq with rfl | rfl
    · exact wpOp_mono (fun a' w' h' => ⟨fun _ => h'.1, wpAnyE_of hs hsk hch hn ri m _ _ _ hok.2.2.1 (inv.set hq2 hok.2.1.1) h'.1 h'.2⟩) h.1
    · exact wpOp_mono (fun a' w' h' => ⟨fun _ => h'.1, wpAnyE_of hs hsk hch hn rj m _ _ _ hok.2.2.2 (inv.set hq2 hok.2.1.2) h'.1 h'.2⟩) h.2
  | .z i, m + 1, l, a, w, hok, _, _, h => by
    simp only [okE, Bool.and_eq_true, beq_iff_eq] at hok
    refine ⟨fun h0 => (by rw [hok.1.1] at h0; cases h0), fun j hj => ?_⟩
    rw [hok.1.1, List.mem_singleton] at hj
    subst hj
    have he : Region.ready .any ops (l.setIfInBounds j true) = [] := by simpa using hok.1.2
    refine wpOp_mono (fun a' w' h' => ⟨fun hne => absurd hok.2 hne, ?_⟩) h
    cases m with
    | zero => exact ⟨he, h'⟩
    | succ m => exact ⟨fun _ => h', by rw [he]; simp⟩
  | .nil, m + 1, _, _, _, hok, _, _, _ => by simp [okE] at hok
  | .q _ _, 0, _, _, _, hok, _, _, _ => by simp [okE] at hok
  | .e _ _, 0, _, _, _, hok, _, _, _ => by simp [okE] at hok
  | .two _ _ _ _, 0, _, _, _, hok, _, _, _ => by simp [okE] at hok
  | .z _, 0, _, _, _, hok, _, _, _ => by simp [okE] at hok

/-- THE REGION. -/
theorem wp_region_E {id : Nat} {a : Act} {w : World} {l : List Oper} (S : World → Prop) (n : Nat) (t : OE) (hm : P.follows .mixedOrders = true) (hs : Region.noSelect l.toArray = true) (hsk : Region.sinkB .any l.toArray n = true) (hch : Region.chainB .any l.toArray n = true) (hn : (n + 1 == l.length) = true)
    (hok : okE l.toArray n t l.length (Array.replicate l.length false) = true) (hS : S w.drew) (h : wpE P l.toArray Q S t a w.drew) : (Code.region id l.toArray true).wp P Q a w := by
  have hn2 : n < l.toArray.size := by rw [beq_iff_eq] at hn; simp; omega
  refine Code.wp_mono (Q := OnlyNormal Q) OnlyNormal.imp' (wp_region_any hm ?_)
  refine wpAny_of_E (S := S) (n := n) _ _ _ _ ?_
  have inv : HeadInv .any l.toArray n (Array.replicate l.length false) := by
    refine ⟨by simp, fun j oj _ hl => ?_, fun t ht ht2 => ?_⟩
    · rw [getD_replicate_false] at hl; cases hl
    · have : t < l.length := by simpa using ht2
      simp [this]
  have := wpAnyE_of (P := P) (Q := Q) hs hsk hch hn2 t l.length (Array.replicate l.length false) a w.drew hok inv hS h
  simpa using this
end

end Go.Proofs.YtnifgamlmaembaaDoor
