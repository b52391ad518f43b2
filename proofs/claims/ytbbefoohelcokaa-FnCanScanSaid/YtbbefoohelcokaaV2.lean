import Derived.Test.YtbbefoohelcokaaOA
import Derived.Test.YtbbefoohelcokaaM1
import Derived.Laws.OwnMore
import Derived.Test.YtbbefoohelcokaaA4
import Derived.Laws.CopyOwn
namespace Go.Proofs.Ytbbefoohelcokaa
set_option linter.unusedVariables false
set_option linter.unusedSimpArgs false
open Go.RowKit

/-! values of a circuit's variables, as lists. -/
def litB (vs : List Bool) (l : Int) : Bool := vs.getD (l / 2).toNat false != decide (l % 2 = 1)
def stepV (st : Int) (val : Bool) (vs : List Bool) (g : Gt) : List Bool := vs ++ [if (vs.length : Int) = st then val else litB vs g.a && litB vs g.b]
def valsV (st : Int) (val : Bool) (b0 : List Bool) (gs : List Gt) : List Bool := gs.foldl (stepV st val) b0
theorem valsV_length (st : Int) (val : Bool) (b0 : List Bool) (gs : List Gt) : (valsV st val b0 gs).length = b0.length + gs.length := by
  induction gs generalizing b0 with
  | nil => simp [valsV]
  | cons g gs ih =>
    show (valsV st val (stepV st val b0 g) gs).length = _
    rw [ih]; simp [stepV]; omega
theorem valsV_append (st : Int) (val : Bool) (b0 : List Bool) (gs hs : List Gt) : valsV st val b0 (gs ++ hs) = valsV st val (valsV st val b0 gs) hs := by
  simp [valsV, List.foldl_append]
theorem valsV_snoc {st : Int} {val : Bool} {b0 : List Bool} {gs : List Gt} {k : Nat} {g : Gt} (h : gs[k]? = some g) : valsV st val b0 (gs.take (k + 1)) = stepV st val (valsV st val b0 (gs.take k)) g := by
  rw [List.take_add_one, h]
  simp [valsV, List.foldl_append]
theorem valsV_pre (st : Int) (val : Bool) (b0 : List Bool) (gs : List Gt) : ∃ r, valsV st val b0 gs = b0 ++ r := by
  induction gs generalizing b0 with
  | nil => exact ⟨[], by simp [valsV]⟩
  | cons g gs ih =>
    obtain ⟨r, hr⟩ := ih (stepV st val b0 g)
    exact ⟨[if (b0.length : Int) = st then val else litB b0 g.a && litB b0 g.b] ++ r, by
      show valsV st val (stepV st val b0 g) gs = _
      rw [hr]; simp [stepV]⟩
theorem litB_pre {vs r : List Bool} {l : Int} (h : (l / 2).toNat < vs.length) : litB (vs ++ r) l = litB vs l := by
  unfold litB
  simp [List.getD, List.getElem?_append_left h]
def bitsV (x : Int) (n : Nat) : List Bool := (List.range n).map fun (i : Nat) => decide (x / 2 ^ i % 2 = 1)
theorem bitsV_length (x : Int) (n : Nat) : (bitsV x n).length = n := by simp [bitsV]
theorem bitsV_snoc (x : Int) (n : Nat) : bitsV x (n + 1) = bitsV x n ++ [decide (x / 2 ^ n % 2 = 1)] := by
  simp [bitsV, List.range_succ]

def bools (xs : List Bool) : List Value := xs.map Value.bool
@[simp] theorem bools_length (xs : List Bool) : (bools xs).length = xs.length := by simp [bools]
theorem bools_get {xs : List Bool} {k : Nat} {x : Bool} (h : xs[k]? = some x) : (bools xs)[k]? = some (.bool x) := by simp [bools, h]
theorem bools_append (xs ys : List Bool) : bools xs ++ bools ys = bools (xs ++ ys) := by simp [bools]
theorem bools_one (xs : List Bool) : ∀ u ∈ bools xs, u.oneCell' = true := by
  intro u hu
  obtain ⟨x, _, rfl⟩ := List.mem_map.1 hu
  rfl
theorem Sl.bool {w wr : World} {s : Option Addr} {xs : List Bool} (h : Sl w s (bools xs)) (hbl : Below w.heap.size w wr) {k : Nat} {x : Bool} (hx : xs[k]? = some x) :
    ∃ b off, s = some ⟨b, off, none⟩ ∧ b < w.heap.size ∧ wr.cell? ⟨b, off + k, none⟩ = some (.bool x) := by
  have hlt : k < xs.length := (List.getElem?_eq_some_iff.1 hx).1
  obtain ⟨b, off, rfl, hbw, hcs⟩ := h.at (k := k) (by simpa using hlt)
  exact ⟨b, off, rfl, hbw, by rw [hbl.cell (by exact hbw)]; exact hcs _ _ (bools_get hx)⟩

/-! the values of a circuit for an assignment. -/
def asgV (c : Cir) (x : Int) : List Bool := false :: (bitsV x c.inp.toNat ++ bitsV (x / 2 ^ c.inp.toNat) c.next.length)
theorem asgV_length (c : Cir) (x : Int) : (asgV c x).length = 1 + c.inp.toNat + c.next.length := by simp [asgV, bitsV_length]; omega
def stuckB (st : Int) (val : Bool) (b : List Bool) : List Bool := if 0 ≤ st then b.set st.toNat val else b
theorem stuckB_length (st : Int) (val : Bool) (b : List Bool) : (stuckB st val b).length = b.length := by unfold stuckB; split <;> simp
def evalV (c : Cir) (x st : Int) (val : Bool) : List Bool := valsV st val (stuckB st val (asgV c x)) c.gates
theorem evalV_length (c : Cir) (x st : Int) (val : Bool) : (evalV c x st val).length = 1 + c.inp.toNat + c.next.length + c.gates.length := by
  unfold evalV; rw [valsV_length, stuckB_length, asgV_length]
theorem evalV_no (c : Cir) (x : Int) (val : Bool) : evalV c x (-1) val = valsV (-1) val (asgV c x) c.gates := by
  unfold evalV stuckB; rw [if_neg (by omega)]
def tailV (st : Int) (val : Bool) (m n : Nat) : List Bool := (List.range n).map fun (j : Nat) => decide (((m + j : Nat) : Int) = st) && val
theorem tailV_length (st : Int) (val : Bool) (m n : Nat) : (tailV st val m n).length = n := by simp [tailV]
theorem tailV_zero (st : Int) (val : Bool) (m : Nat) : tailV st val m 0 = [] := rfl
theorem tailV_cons (st : Int) (val : Bool) (m n : Nat) : tailV st val m (n + 1) = (decide ((m : Int) = st) && val) :: tailV st val (m + 1) n := by
  unfold tailV
  rw [List.range_succ_eq_map, List.map_cons, List.map_map]
  refine congr (congrArg _ (by simp)) ?_
  apply List.map_congr_left
  intro j _
  simp only [Function.comp]
  rw [show m + 1 + j = m + (j + 1) from by omega]
/-- The step of a round: the cell behind the known values is set, or is the stuck one's. -/
theorem tail_set {st : Int} {val : Bool} {vs : List Bool} {g : Gt} {n : Nat} (h : (vs.length : Int) ≠ st) : (vs ++ tailV st val vs.length (n + 1)).set vs.length (litB vs g.a && litB vs g.b) = stepV st val vs g ++ tailV st val (vs.length + 1) n := by
  rw [tailV_cons, List.set_append_right _ _ (Nat.le_refl _), Nat.sub_self, List.set_cons_zero]
  unfold stepV
  rw [if_neg h]; simp
theorem tail_keep {st : Int} {val : Bool} {vs : List Bool} {g : Gt} {n : Nat} (h : (vs.length : Int) = st) : vs ++ tailV st val vs.length (n + 1) = stepV st val vs g ++ tailV st val (vs.length + 1) n := by
  rw [tailV_cons]
  unfold stepV
  rw [if_pos h, decide_eq_true h]; simp
theorem tailV_none (val : Bool) (m n : Nat) : tailV (-1) val m n = List.replicate n false := by
  unfold tailV
  apply List.ext_getElem
  · simp
  · intro i h1 h2
    simp
    intro h; omega
theorem tail_stuck {st : Nat} {val : Bool} {b : List Bool} {n : Nat} (h : st < b.length + n) : (b ++ List.replicate n false).set st val = stuckB st val b ++ tailV st val b.length n := by
  unfold stuckB
  rw [if_pos (by omega)]
  apply List.ext_getElem
  · simp [tailV_length]
  · intro i h1 h2
    simp only [List.length_set, List.length_append, List.length_replicate] at h1
    rw [List.getElem_set]
    by_cases e : st = i
    · subst e
      rw [if_pos rfl]
      by_cases hb : st < b.length
      · rw [List.getElem_append_left (by simpa using hb)]; simp
      · rw [List.getElem_append_right (by simp; omega)]
        simp [tailV]
        intro h; omega
    · rw [if_neg e]
      by_cases hb : i < b.length
      · rw [List.getElem_append_left hb, List.getElem_append_left (by simpa using hb), List.getElem_set_ne (by simpa using e)]
      · rw [List.getElem_append_right (by omega), List.getElem_append_right (by simp; omega)]
        simp [tailV]
        intro h; omega
theorem valsV_get {st : Int} {val : Bool} {b0 : List Bool} {gs : List Gt} {j : Nat} (h : j < b0.length + gs.length) : ∃ x, (valsV st val b0 gs)[j]? = some x := get_of_lt (by rw [valsV_length]; exact h)
def resV (c : Cir) (x st : Int) (val : Bool) : List Bool := (c.next ++ c.outs).map (litB (evalV c x st val))
theorem resV_length (c : Cir) (x st : Int) (val : Bool) : (resV c x st val).length = c.next.length + c.outs.length := by simp [resV]
def detV (c : Cir) (v : Int) (val : Bool) (x : Int) : Bool := !decide (resV c x (-1) false = resV c x v val)
def asgN (c : Cir) : Nat := 2 ^ (c.inp.toNat + c.next.length)
def findN (p : Int → Bool) (N : Nat) : Int := ((List.range N).find? (fun (x : Nat) => p (x : Int))).elim (-1) (fun x => (x : Int))
theorem findN_none {p : Int → Bool} {N : Nat} (h : ∀ x : Nat, x < N → p x = false) : findN p N = -1 := by
  unfold findN
  rw [List.find?_eq_none.2 (by intro (x : Nat) hx; simpa using h x (List.mem_range.1 hx))]; rfl
theorem findN_some {p : Int → Bool} {N x : Nat} (hx : x < N) (hp : p x = true) (h : ∀ y : Nat, y < x → p y = false) : findN p N = x := by
  unfold findN
  have : (List.range N).find? (fun (x : Nat) => p (x : Int)) = some x := by
    rw [List.find?_range_eq_some]
    exact ⟨hp, by simpa using hx, fun j hj => by simpa using h j hj⟩
  rw [this]; rfl

/-! Values of a circuit's variables: the program's walks. -/

theorem litB_eq {vs : List Bool} {l : Int} {p : Nat} {x : Bool} (hp : l / 2 = (p : Int)) (hx : vs[p]? = some x) : litB vs l = (x != decide (l % 2 = 1)) := by
  unfold litB
  rw [hp, Int.toNat_natCast, List.getD_eq_getElem?_getD, hx]; rfl

theorem wrap_pow {m : Nat} (h : m ≤ 8) : wrap64 (2 ^ m) = 2 ^ m := by
  have : ∀ m : Fin 9, wrap64 (2 ^ m.val) = 2 ^ m.val := by decide +kernel
  exact this ⟨m, by omega⟩

end Go.Proofs.Ytbbefoohelcokaa
