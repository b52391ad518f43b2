import Derived.Test.YtfjfihbhjljfcaaV2
import Derived.Test.YtfjfihbhjljfcaaQ1
import Derived.Test.YtfjfihbhjljfcaaA4
import Derived.Test.YtfjfihbhjljfcaaL4
import Derived.Laws.BytesArg
namespace Go.Proofs.Ytfjfihbhjljfcaa
set_option linter.unusedVariables false
set_option linter.unusedSimpArgs false
open Go.RowKit

/-! Values of a circuit's variables: the reference's walks. -/

/-! Functions of variables: equal, opposite. The reference's walks. -/

def colV (c : Cir) (p : Nat) (x : Nat) : Bool := (evalV c (x : Int) (-1) false).getD p false
def eqAll (f g : Nat → Bool) (N : Nat) : Bool := (List.range N).all fun x => f x == g x
def neAll (f g : Nat → Bool) (N : Nat) : Bool := (List.range N).all fun x => f x != g x
theorem eqAll_succ (f g : Nat → Bool) (N : Nat) : eqAll f g (N + 1) = (eqAll f g N && (f N == g N)) := by simp [eqAll, List.range_succ]
theorem neAll_succ (f g : Nat → Bool) (N : Nat) : neAll f g (N + 1) = (neAll f g N && (f N != g N)) := by simp [neAll, List.range_succ]
def sameV (c : Cir) (p q : Nat) : Int := if eqAll (colV c p) (colV c q) (asgN c) then 1 else if neAll (colV c p) (colV c q) (asgN c) then -1 else 0
theorem beq_nbne (x y : Bool) : (x == y) = ((!x) != y) := by cases x <;> cases y <;> rfl
theorem bne_nbeq (x y : Bool) : (x != y) = ((!x) == y) := by cases x <;> cases y <;> rfl
theorem colV_get {c : Cir} {p x : Nat} {y : Bool} (h : (evalV c (x : Int) (-1) false)[p]? = some y) : colV c p x = y := by
  unfold colV; rw [List.getD_eq_getElem?_getD, h]; rfl
theorem Sl.bool2 {w wr : World} {s : Option Addr} {xs : List Bool} (h : Sl w s (bools xs)) (hbl : Below w.heap.size w wr) {j k : Nat} {x y : Bool} (hx : xs[j]? = some x) (hy : xs[k]? = some y) :
    ∃ b off, s = some ⟨b, off, none⟩ ∧ b < w.heap.size ∧ wr.cell? ⟨b, off + j, none⟩ = some (.bool x) ∧ wr.cell? ⟨b, off + k, none⟩ = some (.bool y) := by
  have hlt : j < xs.length := (List.getElem?_eq_some_iff.1 hx).1
  obtain ⟨b, off, rfl, hbw, hcs⟩ := h.at (k := j) (by simpa using hlt)
  exact ⟨b, off, rfl, hbw, by rw [hbl.cell (by exact hbw)]; exact hcs _ _ (bools_get hx), by rw [hbl.cell (by exact hbw)]; exact hcs _ _ (bools_get hy)⟩
theorem asgN_le {c : Cir} (h : c.valid) : 1 ≤ asgN c ∧ asgN c ≤ 128 := by
  obtain ⟨q1, q2, q3, q4, q5⟩ := h.lim
  unfold asgN
  exact ⟨Nat.pow_pos (by omega), Nat.le_trans (Nat.pow_le_pow_right (by omega) (show c.inp.toNat + c.next.length ≤ 7 by omega)) (by decide)⟩
theorem evalV_asg (c : Cir) (x : Int) (ni : Nat) (hi : c.inp = ni) : valsV (-1) false (false :: (bitsV x ni ++ bitsV (x / 2 ^ ni) c.next.length)) c.gates = evalV c x (-1) false := by
  rw [evalV_no]; unfold asgV; rw [hi]; simp

/-! Functions of variables as strings: the program's walks. -/

def bnum (f : Nat → Bool) (x : Nat) : Int := if f x then 49 else 48
def bnums (f : Nat → Bool) (N : Nat) : List Int := (List.range N).map (bnum f)
theorem bnums_length (f : Nat → Bool) (N : Nat) : (bnums f N).length = N := by simp [bnums]
theorem bnums_succ (f : Nat → Bool) (N : Nat) : bnums f (N + 1) = bnums f N ++ [bnum f N] := by simp [bnums, List.range_succ]
def bstr (f : Nat → Bool) (N : Nat) : ByteArray := strOfNums (bnums f N)
theorem bstr_size (f : Nat → Bool) (N : Nat) : (bstr f N).size = N := by unfold bstr; rw [strOfNums_size, bnums_length]
theorem bstr_get (f : Nat → Bool) (N i : Nat) (h : i < (bstr f N).size) : (bstr f N)[i].toNat = if f i then 49 else 48 := by
  have h2 : i < N := by rw [bstr_size] at h; exact h
  have e : (bstr f N)[i] = UInt8.ofNat (bnum f i).toNat := by
    simp [bstr, strOfNums, bnums, ByteArray.getElem_eq_getElem_data]
  rw [e]
  unfold bnum
  split <;> rfl
theorem bstr_beq (f g : Nat → Bool) (N k : Nat) (h1 : k < (bstr f N).size) (h2 : k < (bstr g N).size) : (((bstr f N)[k].toNat : Int) == ((bstr g N)[k].toNat : Int)) = (f k == g k) := by
  rw [bstr_get, bstr_get]
  cases f k <;> cases g k <;> rfl
def eqCnt (f g : Nat → Bool) (k : Nat) : Nat := ((List.range k).filter fun x => f x == g x).length
theorem eqCnt_succ (f g : Nat → Bool) (k : Nat) : eqCnt f g (k + 1) = eqCnt f g k + (if f k = g k then 1 else 0) := by
  unfold eqCnt
  rw [List.range_succ, List.filter_append, List.length_append]
  by_cases h : f k = g k <;> simp [h]
theorem eqCnt_le (f g : Nat → Bool) (k : Nat) : eqCnt f g k ≤ k := by
  have := List.length_filter_le (fun x => f x == g x) (List.range k); simpa [eqCnt] using this
theorem eqCnt_all (f g : Nat → Bool) (k : Nat) : eqCnt f g k = k ↔ eqAll f g k = true := by
  induction k with
  | zero => simp [eqCnt, eqAll]
  | succ k ih =>
    rw [eqCnt_succ, eqAll_succ, Bool.and_eq_true, ← ih]
    have := eqCnt_le f g k
    by_cases h : f k = g k
    · simp [h]
    · simp [h]; omega
theorem eqCnt_none (f g : Nat → Bool) (k : Nat) : eqCnt f g k = 0 ↔ neAll f g k = true := by
  induction k with
  | zero => simp [eqCnt, neAll]
  | succ k ih =>
    rw [eqCnt_succ, neAll_succ, Bool.and_eq_true, ← ih]
    by_cases h : f k = g k <;> simp [h]

end Go.Proofs.Ytfjfihbhjljfcaa
