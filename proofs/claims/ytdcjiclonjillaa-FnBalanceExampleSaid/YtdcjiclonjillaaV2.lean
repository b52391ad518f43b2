import Derived.Test.YtdcjiclonjillaaOA
import Derived.Test.YtdcjiclonjillaaM1
import Derived.Laws.OwnMore
import Derived.Test.YtdcjiclonjillaaA4
import Derived.Laws.CopyOwn
namespace Go.Proofs.Ytdcjiclonjillaa
set_option linter.unusedVariables false
set_option linter.unusedSimpArgs false
open Go.RowKit

/-! values of a circuit's variables, as lists. -/
def litB (vs : List Bool) (l : Int) : Bool := vs.getD (l / 2).toNat false != decide (l % 2 = 1)
def stepV (st : Int) (val : Bool) (vs : List Bool) (g : Gt) : List Bool := vs ++ [if (vs.length : Int) = st then val else litB vs g.a && litB vs g.b]
def valsV (st : Int) (val : Bool) (b0 : List Bool) (gs : List Gt) : List Bool := gs.foldl (stepV st val) b0
theorem valsV_length (st : Int) (val : Bool) (b0 : List Bool) (gs : List Gt) : (valsV st val b0 gs).length = b0.length + gs.length := by
  induction gs generalizing b0 with
  | nil => simp [valsV]
  | cons g gs ih =>
    show (valsV st val (stepV st val b0 g) gs).length = _
    rw [ih]; simp [stepV]; omega
theorem valsV_append (st : Int) (val : Bool) (b0 : List Bool) (gs hs : List Gt) : valsV st val b0 (gs ++ hs) = valsV st val (valsV st val b0 gs) hs := by
  simp [valsV, List.foldl_append]
theorem valsV_snoc {st : Int} {val : Bool} {b0 : List Bool} {gs : List Gt} {k : Nat} {g : Gt} (h : gs[k]? = some g) : valsV st val b0 (gs.take (k + 1)) = stepV st val (valsV st val b0 (gs.take k)) g := by
  rw [List.take_add_one, h]
  simp [valsV, List.foldl_append]
theorem valsV_pre (st : Int) (val : Bool) (b0 : List Bool) (gs : List Gt) : ∃ r, valsV st val b0 gs = b0 ++ r := by
  induction gs generalizing b0 with
  | nil => exact ⟨[], by simp [valsV]⟩
  | cons g gs ih =>
    obtain ⟨r, hr⟩ := ih (stepV st val b0 g)
    exact ⟨[if (b0.length : Int) = st then val else litB b0 g.a && litB b0 g.b] ++ r, by
      show valsV st val (stepV st val b0 g) gs = _
      rw [hr]; simp [stepV]⟩
theorem litB_pre {vs r : List Bool} {l : Int} (h : (l / 2).toNat < vs.length) : litB (vs ++ r) l = litB vs l := by
  unfold litB
  simp [List.getD, List.getElem?_append_left h]
def bitsV (x : Int) (n : Nat) : List Bool := (List.range n).map fun (i : Nat) => decide (x / 2 ^ i % 2 = 1)
theorem bitsV_length (x : Int) (n : Nat) : (bitsV x n).length = n := by simp [bitsV]
theorem bitsV_snoc (x : Int) (n : Nat) : bitsV x (n + 1) = bitsV x n ++ [decide (x / 2 ^ n % 2 = 1)] := by
  simp [bitsV, List.range_succ]

def bools (xs : List Bool) : List Value := xs.map Value.bool
@[simp] theorem bools_length (xs : List Bool) : (bools xs).length = xs.length := by simp [bools]
theorem bools_get {xs : List Bool} {k : Nat} {x : Bool} (h : xs[k]? = some x) : (bools xs)[k]? = some (.bool x) := by simp [bools, h]
theorem bools_append (xs ys : List Bool) : bools xs ++ bools ys = bools (xs ++ ys) := by simp [bools]
theorem bools_one (xs : List Bool) : ∀ u ∈ bools xs, u.oneCell' = true := by
  intro u hu
  obtain ⟨x, _, rfl⟩ := List.mem_map.1 hu
  rfl
theorem Sl.bool {w wr : World} {s : Option Addr} {xs : List Bool} (h : Sl w s (bools xs)) (hbl : Below w.heap.size w wr) {k : Nat} {x : Bool} (hx : xs[k]? = some x) :
    ∃ b off, s = some ⟨b, off, none⟩ ∧ b < w.heap.size ∧ wr.cell? ⟨b, off + k, none⟩ = some (.bool x) := by
  have hlt : k < xs.length := (List.getElem?_eq_some_iff.1 hx).1
  obtain ⟨b, off, rfl, hbw, hcs⟩ := h.at (k := k) (by simpa using hlt)
  exact ⟨b, off, rfl, hbw, by rw [hbl.cell (by exact hbw)]; exact hcs _ _ (bools_get hx)⟩

/-! the values of a circuit for an assignment. -/
def asgV (c : Cir) (x : Int) : List Bool := false :: (bitsV x c.inp.toNat ++ bitsV (x / 2 ^ c.inp.toNat) c.next.length)
theorem asgV_length (c : Cir) (x : Int) : (asgV c x).length = 1 + c.inp.toNat + c.next.length := by simp [asgV, bitsV_length]; omega
def stuckB (st : Int) (val : Bool) (b : List Bool) : List Bool := if 0 ≤ st then b.set st.toNat val else b
theorem stuckB_length (st : Int) (val : Bool) (b : List Bool) : (stuckB st val b).length = b.length := by unfold stuckB; split <;> simp
def evalV (c : Cir) (x st : Int) (val : Bool) : List Bool := valsV st val (stuckB st val (asgV c x)) c.gates
theorem evalV_length (c : Cir) (x st : Int) (val : Bool) : (evalV c x st val).length = 1 + c.inp.toNat + c.next.length + c.gates.length := by
  unfold evalV; rw [valsV_length, stuckB_length, asgV_length]
theorem evalV_no (c : Cir) (x : Int) (val : Bool) : evalV c x (-1) val = valsV (-1) val (asgV c x) c.gates := by
  unfold evalV stuckB; rw [if_neg (by omega)]
def tailV (st : Int) (val : Bool) (m n : Nat) : List Bool := (List.range n).map fun (j : Nat) => decide (((m + j : Nat) : Int) = st) && val
theorem tailV_length (st : Int) (val : Bool) (m n : Nat) : (tailV st val m n).length = n := by simp [tailV]
theorem tailV_zero (st : Int) (val : Bool) (m : Nat) : tailV st val m 0 = [] := rfl
theorem tailV_cons (st : Int) (val : Bool) (m n : Nat) : tailV st val m (n + 1) = (decide ((m : Int) = st) && val) :: tailV st val (m + 1) n := by
  unfold tailV
  rw [List.range_succ_eq_map, List.map_cons, List.map_map]
  refine congr (congrArg _ (by simp)) ?_
  apply List.map_congr_left
  intro j _
  simp only [Function.comp]
  rw [show m + 1 + j = m + (j + 1) from by omega]
/-- The step of a round: the cell behind the known values is set, or is the stuck one's. -/
theorem tail_set {st : Int} {val : Bool} {vs : List Bool} {g : Gt} {n : Nat} (h : (vs.length : Int) ≠ st) : (vs ++ tailV st val vs.length (n + 1)).set vs.length (litB vs g.a && litB vs g.b) = stepV st val vs g ++ tailV st val (vs.length + 1) n := by
  rw [tailV_cons, List.set_append_right _ _ (Nat.le_refl _), Nat.sub_self, List.set_cons_zero]
  unfold stepV
  rw [if_neg h]; simp
theorem tail_keep {st : Int} {val : Bool} {vs : List Bool} {g : Gt} {n : Nat} (h : (vs.length : Int) = st) : vs ++ tailV st val vs.length (n + 1) = stepV st val vs g ++ tailV st val (vs.length + 1) n := by
  rw [tailV_cons]
  unfold stepV
  rw [if_pos h, decide_eq_true h]; simp
theorem tailV_none (val : Bool) (m n : Nat) : tailV (-1) val m n = List.replicate n false := by
  unfold tailV
  apply List.ext_getElem
  · simp
  · intro i h1 h2
    simp
    intro h; omega
theorem tail_stuck {st : Nat} {val : Bool} {b : List Bool} {n : Nat} (h : st < b.length + n) : (b ++ List.replicate n false).set st val = stuckB st val b ++ tailV st val b.length n := by
  unfold stuckB
  rw [if_pos (by omega)]
  apply List.ext_getElem
  · simp [tailV_length]
  · intro i h1 h2
    simp only [List.length_set, List.length_append, List.length_replicate] at h1
    rw [List.getElem_set]
    by_cases e : st = i
    · subst e
      rw [if_pos rfl]
      by_cases hb : st < b.length
      · rw [List.getElem_append_left (by simpa using hb)]; simp
      · rw [List.getElem_append_right (by simp; omega)]
        simp [tailV]
        intro h; omega
    · rw [if_neg e]
      by_cases hb : i < b.length
      · rw [List.getElem_append_left hb, List.getElem_append_left (by simpa using hb), List.getElem_set_ne (by simpa using e)]
      · rw [List.getElem_append_right (by omega), List.getElem_append_right (by simp; omega)]
        simp [tailV]
        intro h; omega
theorem valsV_get {st : Int} {val : Bool} {b0 : List Bool} {gs : List Gt} {j : Nat} (h : j < b0.length + gs.length) : ∃ x, (valsV st val b0 gs)[j]? = some x := get_of_lt (by rw [valsV_length]; exact h)
def resV (c : Cir) (x st : Int) (val : Bool) : List Bool := (c.next ++ c.outs).map (litB (evalV c x st val))
theorem resV_length (c : Cir) (x st : Int) (val : Bool) : (resV c x st val).length = c.next.length + c.outs.length := by simp [resV]
def detV (c : Cir) (v : Int) (val : Bool) (x : Int) : Bool := !decide (resV c x (-1) false = resV c x v val)
def asgN (c : Cir) : Nat := 2 ^ (c.inp.toNat + c.next.length)
def findN (p : Int → Bool) (N : Nat) : Int := ((List.range N).find? (fun (x : Nat) => p (x : Int))).elim (-1) (fun x => (x : Int))
theorem findN_none {p : Int → Bool} {N : Nat} (h : ∀ x : Nat, x < N → p x = false) : findN p N = -1 := by
  unfold findN
  rw [List.find?_eq_none.2 (by intro (x : Nat) hx; simpa using h x (List.mem_range.1 hx))]; rfl
theorem findN_some {p : Int → Bool} {N x : Nat} (hx : x < N) (hp : p x = true) (h : ∀ y : Nat, y < x → p y = false) : findN p N = x := by
  unfold findN
  have : (List.range N).find? (fun (x : Nat) => p (x : Int)) = some x := by
    rw [List.find?_range_eq_some]
    exact ⟨hp, by simpa using hx, fun j hj => by simpa using h j hj⟩
  rw [this]; rfl

/-! Values of a circuit's variables: the program's walks. -/

theorem elem_bool : ElemOf Try.prog 55 4 (.bool false) 1 1 :=
  ⟨by kernel_rfl, info_parts (by kernel_rfl), rfl, by omega⟩

theorem mkBools (w : World) (n : Nat) (h : n ≤ 1048576) : (Instr.makeSlice 55 (.int .i64 (n : Int)) (.int .i64 (n : Int))).run Try.prog w = .ok (.slice (some ⟨w.heap.size, 0, none⟩) n n) (w.alloc (.cells (bools (List.replicate n false)).toArray 4)) := by
  obtain ⟨i, hi, h1, h2, h3⟩ := info_parts (P := Try.prog) (e := 4) (z := .bool false) (size := 1) (bytes := 1) (by kernel_rfl)
  have := run_make (P := Try.prog) w 55 4 i (.bool false) (by kernel_rfl) hi h1 .i64 .i64 n n (by omega) (by omega) (by rw [h3]; omega) (by omega)
  rw [this, h2]
  have e : madeCells #[Value.bool false] n = (bools (List.replicate n false)).toArray := by
    apply Array.ext'
    rw [toList_madeCells_one]; simp [bools]
  simp [Value.cells, e]
theorem bools_set (xs : List Bool) (p : Nat) (v : Bool) : (bools xs).toArray.setIfInBounds p (.bool v) = (bools (xs.set p v)).toArray := by
  apply Array.ext'
  simp [bools, List.map_set]
theorem bools_cell {w : World} {g p : Nat} {xs : List Bool} {t : TypeId} {x : Bool} (h : w.heap[g]? = some (.cells (bools xs).toArray t (0, 0))) (hx : xs[p]? = some x) : w.cell? ⟨g, p, none⟩ = some (.bool x) := by
  rw [blk_cell h]; simpa using bools_get hx
theorem bools_blk_set {w : World} {g : Nat} {xs : List Bool} {t : TypeId} (h : w.heap[g]? = some (.cells (bools xs).toArray t (0, 0))) (p : Nat) (v : Bool) : (w.setCell ⟨g, p, none⟩ (.bool v)).heap[g]? = some (.cells (bools (xs.set p v)).toArray t (0, 0)) := by
  rw [← bools_set]; exact blk_set h
theorem Sl.toB {w : World} {g : Nat} {xs : List Bool} {t : TypeId} {fz : Nat × Nat} (h : w.heap[g]? = some (.cells (bools xs).toArray t fz)) : Sl w (some ⟨g, 0, none⟩) (bools xs) := by
  have := Sl.blk h; simpa using this

theorem litB_eq {vs : List Bool} {l : Int} {p : Nat} {x : Bool} (hp : l / 2 = (p : Int)) (hx : vs[p]? = some x) : litB vs l = (x != decide (l % 2 = 1)) := by
  unfold litB
  rw [hp, Int.toNat_natCast, List.getD_eq_getElem?_getD, hx]; rfl

theorem litValue_any (s : Option Addr) (vs : List Bool) (cap : Nat) (l : Int) (w : World) (h : Sl w s (bools vs)) (h0 : 0 ≤ l) (h1 : l ≤ 1000000) (h2 : l / 2 < vs.length) :
    Calls Try.prog 97 #[.slice s vs.length cap, .int .i64 l] w fun e w' => e = .returned (.bool (litB vs l)) ∧ w = w' := by
  obtain ⟨p, hp⟩ : ∃ p : Nat, l / 2 = p := ⟨(l / 2).toNat, by omega⟩
  have p2 : p < vs.length := by omega
  obtain ⟨x, hx⟩ := get_of_lt p2
  obtain ⟨b, off, rfl, hbw, hz⟩ := h.bool (Below.refl _ _) hx
  rw [litB_eq hp hx]
  have hand := i64_and1 l
  have H := Lib.hid (And.intro h hx)
  clear h hx h2
  go_enter Try.func97, Try.ntmps97
  go_wp2
  go_ret
  exact ⟨rfl, rfl⟩

set_option maxHeartbeats 400000 in
theorem bitsOf_any (x : Int) (n : Nat) (w : World) (h0 : 0 ≤ x) (h1 : x ≤ 1000000) (hn : n ≤ 20) :
    Calls Try.prog 96 #[.int .i64 x, .int .i64 n] w fun e w' => ∃ s, e = .returned (.slice s n n) ∧ Sl w' s (bools (bitsV x n)) ∧ Below w.heap.size w w' := by
  have hmk := fun w => mkBools w n (by omega)
  go_enter Try.func96, Try.ntmps96
  go_wp2
  go_loopw [11] (fun i wr => ∃ k : Nat, k ≤ n ∧ i = .int .i64 k ∧ wr.heap[w.heap.size]? = some (.cells (bools (bitsV x k ++ List.replicate (n - k) false)).toArray 4 (0, 0)) ∧ Below w.heap.size w wr) (fun i _ => n - (intOf i).toNat)
  case atStart => exact ⟨0, Nat.zero_le _, rfl, blk_new _ _, (Below.refl _ _).alloc (Nat.le_refl _) _⟩
  case round =>
    obtain ⟨k, hk, rfl, hb, hbl⟩ := hrel
    by_cases hlt : k < n
    · have hlen : (bitsV x k ++ List.replicate (n - k) false).length = n := by simp [bitsV_length]; omega
      obtain ⟨y, hy⟩ := get_of_lt (l := bitsV x k ++ List.replicate (n - k) false) (k := k) (by omega)
      have hc := bools_cell hb hy
      have hf : wr.frozen? ⟨w.heap.size, k, none⟩ = false := blk_free hb
      have hpw : (1 : Int) ≤ 2 ^ k := by have : (0 : Int) < 2 ^ k := Int.pow_pos (by decide); omega
      have q1 : 0 ≤ x / 2 ^ k := Int.ediv_nonneg h0 (by omega)
      have q2 : x / 2 ^ k ≤ 1000000 := Int.le_trans (Int.ediv_le_self _ h0) h1
      have hand := i64_and1 (x / 2 ^ k)
      have HR := Lib.hid (And.intro hb (And.intro hbl hpw))
      clear hb hbl hpw hy hlen
      go_wp2
      obtain ⟨hb, hbl, hpw⟩ := HR.out
      go_roundw
      case rel =>
        refine ⟨k + 1, by omega, by go_num, ?_, hbl.setCell (Nat.le_refl _) _⟩
        have := bools_blk_set hb k (decide (x / 2 ^ k % 2 = 1))
        rw [List.set_append_right _ _ (by rw [bitsV_length]; exact Nat.le_refl _), bitsV_length, Nat.sub_self, show n - k = n - (k + 1) + 1 from by omega, List.replicate_succ, List.set_cons_zero] at this
        rw [bitsV_snoc, List.append_assoc]
        exact this
      case measure => simp [intOf]; omega
    · obtain rfl : k = n := by omega
      rw [Nat.sub_self] at hb
      have HR := Lib.hid (And.intro hb hbl)
      clear hb hbl
      go_wp2
      go_ret
      exact ⟨_, rfl, by have := Sl.toB HR.out.1; simpa using this, HR.out.2⟩

theorem latchBits_any (b : Nat) (inp x : Int) (sn : Option Addr) (nn cn : Nat) (vg vo : Value) (w : World) (h : CirAt w b inp (.slice sn nn cn) vg vo) (hi : 0 ≤ inp ∧ inp ≤ 4) (hn : nn ≤ 3) (h0 : 0 ≤ x) (h1 : x ≤ 1000000) :
    Calls Try.prog 80 #[.pointer (some ⟨b, 0, none⟩), .int .i64 x] w fun e w' => ∃ s, e = .returned (.slice s nn nn) ∧ Sl w' s (bools (bitsV (x / 2 ^ inp.toNat) nn)) ∧ Below w.heap.size w w' := by
  have HB : Hid (b < w.heap.size) := World.block_lt_of_cell? w _ h.h0
  obtain ⟨c0, c1, c2, c3⟩ := h
  obtain ⟨hi, hi'⟩ := hi
  have hpw : (1 : Int) ≤ 2 ^ inp.toNat := by have : (0 : Int) < 2 ^ inp.toNat := Int.pow_pos (by decide); omega
  have q1 : 0 ≤ x / 2 ^ inp.toNat := Int.ediv_nonneg h0 (by omega)
  have q2 : x / 2 ^ inp.toNat ≤ 1000000 := Int.le_trans (Int.ediv_le_self _ h0) h1
  clear hpw
  go_enter Try.func80, Try.ntmps80
  go_wp2_with fail
  go_region_held3 (fun w' => w'.cell? ⟨b, 0, none⟩ = some (.int .i64 inp) ∧ w'.cell? ⟨b, 1, none⟩ = some (.slice sn nn cn))
    (first
      | go_keep
      | (go_split_ands; refine ⟨?_, ?_⟩ <;> (rw [HBL.out.cell HB.out]; assumption)))
    ((go_at_call 96; ((refine (bitsOf_any _ _ _ q1 q2 (by omega)).mono ?_); rintro e w1 ⟨s, rfl, hs, hb⟩; have HBL := Lib.hid hb; have HS := Lib.hid hs; clear hb hs)))
  go_wp2
  go_ret
  exact ⟨_, rfl, HS.out, (Below.refl _ _).drew.trans HBL.out⟩

theorem inputBits_any (b : Nat) (inp x : Int) (vn vg vo : Value) (w : World) (h : CirAt w b inp vn vg vo) (n : Nat) (hn : inp = n) (hn4 : n ≤ 4) (h0 : 0 ≤ x) (h1 : x ≤ 1000000) :
    Calls Try.prog 81 #[.pointer (some ⟨b, 0, none⟩), .int .i64 x] w fun e w' => ∃ s, e = .returned (.slice s n n) ∧ Sl w' s (bools (bitsV x n)) ∧ Below w.heap.size w w' := by
  subst hn
  obtain ⟨c0, c1, c2, c3⟩ := h
  go_enter Try.func81, Try.ntmps81
  go_wp2_with (go_at_call 96; ((refine (bitsOf_any _ _ _ h0 h1 (by omega)).mono ?_); rintro e w1 ⟨s, rfl, hs, hb⟩; have HBL := Lib.hid hb; have HS := Lib.hid hs; clear hb hs))
  go_ret
  exact ⟨_, rfl, HS.out, HBL.out⟩

theorem wrap_pow {m : Nat} (h : m ≤ 8) : wrap64 (2 ^ m) = 2 ^ m := by
  have : ∀ m : Fin 9, wrap64 (2 ^ m.val) = 2 ^ m.val := by decide +kernel
  exact this ⟨m, by omega⟩

theorem assignments_any (b : Nat) (inp : Int) (sn : Option Addr) (nn cn : Nat) (vg vo : Value) (w : World) (h : CirAt w b inp (.slice sn nn cn) vg vo) (hi : 0 ≤ inp ∧ inp ≤ 4) (hn : nn ≤ 3) :
    Calls Try.prog 77 #[.pointer (some ⟨b, 0, none⟩)] w fun e w' => e = .returned (.int .i64 ((2 ^ (inp.toNat + nn) : Nat) : Int)) ∧ Drew w w' := by
  obtain ⟨c0, c1, c2, c3⟩ := h
  obtain ⟨hi, hi'⟩ := hi
  go_enter Try.func77, Try.ntmps77
  go_wp2
  go_quiet (fail)
  go_wp2
  go_ret
  refine ⟨ret_int ?_, _, rfl⟩
  rw [show (inp + (nn : Int)).toNat = inp.toNat + nn from by omega, wrap_pow (by omega)]
  simp

theorem mkBools0 (w : World) (n : Nat) (h : n ≤ 1048576) : (Instr.makeSlice 55 (.int .i64 0) (.int .i64 (n : Int))).run Try.prog w = .ok (.slice (some ⟨w.heap.size, 0, none⟩) 0 n) (w.alloc (.cells (bools (List.replicate n false)).toArray 4)) := by
  obtain ⟨i, hi, h1, h2, h3⟩ := info_parts (P := Try.prog) (e := 4) (z := .bool false) (size := 1) (bytes := 1) (by kernel_rfl)
  have := run_make (P := Try.prog) w 55 4 i (.bool false) (by kernel_rfl) hi h1 .i64 .i64 0 n (by omega) (by omega) (by rw [h3]; omega) (by omega)
  rw [this, h2]
  have e : madeCells #[Value.bool false] n = (bools (List.replicate n false)).toArray := by
    apply Array.ext'
    rw [toList_madeCells_one]; simp [bools]
  simp [Value.cells, e]

set_option maxHeartbeats 400000 in
theorem litValues_any (s t : Option Addr) (vs : List Bool) (cap capl : Nat) (xs : List Int) (w : World) (h : Sl w s (bools vs)) (ht : Sl w t (ints xs)) (hx : ∀ x ∈ xs, 0 ≤ x ∧ x ≤ 1000000 ∧ x / 2 < vs.length) (hl : xs.length ≤ 1000) :
    Calls Try.prog 95 #[.slice s vs.length cap, .slice t xs.length capl] w fun e w' => ∃ s c, e = .returned (.slice s xs.length c) ∧ Sl w' s (bools (xs.map (litB vs))) ∧ Below w.heap.size w w' := by
  have H := Lib.hid (And.intro h (And.intro ht hx))
  clear h ht hx
  have hmk := fun w => mkBools0 w xs.length (by omega)
  have hA : Below w.heap.size w (w.alloc (.cells (bools (List.replicate xs.length false)).toArray 4)) := (Below.refl _ _).alloc (Nat.le_refl _) _
  have ho : (w.alloc (.cells (bools (List.replicate xs.length false)).toArray 4)).ownsRow w.heap.size 4 1 (.slice (some ⟨w.heap.size, 0, none⟩) 0 xs.length) 0 [] := by
    have := World.ownsRow_made (base := w.heap.size) (e := 4) (size := 1) w (bools (List.replicate xs.length false)).toArray xs.length (Nat.le_refl _) (by unfold maxLen; omega) (by simp)
    simpa using this
  have HO := Lib.hid (And.intro ho hA)
  clear ho hA
  go_enter Try.func95, Try.ntmps95
  go_wp2
  clear hmk
  revert HO
  generalize w.alloc (.cells (bools (List.replicate xs.length false)).toArray 4) = WA
  intro HO
  go_loopw [13, 5] (fun i v wr => ∃ (k : Nat) (s : Option Addr) (c : Nat), k ≤ xs.length ∧ i = .int .i64 k ∧ v = .slice s k c ∧ wr.ownsRow w.heap.size 4 1 v k (bools ((xs.take k).map (litB vs))) ∧ Below w.heap.size w wr) (fun i _ _ => xs.length - (intOf i).toNat)
  case atStart => exact ⟨0, _, _, Nat.zero_le _, rfl, rfl, by simpa [bools] using HO.out.1, HO.out.2⟩
  case round =>
    obtain ⟨k, so, c, hk, rfl, rfl, ho, hbl⟩ := hrel
    by_cases hlt : k < xs.length
    · obtain ⟨x, hx⟩ := get_of_lt hlt
      obtain ⟨b, off, rfl, hbw, hz⟩ := H.out.2.1.int hbl hx
      obtain ⟨x0, x1, x2⟩ := H.out.2.2 x (List.mem_of_getElem? hx)
      have hbs := hbl.size
      have HR := Lib.hid (And.intro ho (And.intro hbl hx))
      clear ho hbl hx
      go_wp2_with (first
        | (go_at_call 97; ((refine (litValue_any _ _ _ _ _ (H.out.1.mono HR.out.2.1) x0 x1 x2).mono ?_); rintro e w' ⟨rfl, rfl⟩))
        | (at_builtin; refine wpl_app rfl _ _ rfl elem_bool (own_below HR.out.1 ((Below.refl _ _).alloc (Nat.le_refl _) _)) rfl rfl rfl (Sl.new _ _ _) (by simp [Value.oneCell']) (k + 1) rfl _ rfl (by unfold maxLen; omega) (by omega) (by simp; omega) ?_; intro s3 c3 w3 h3 hb3 _ _; have HA := Lib.hid (And.intro h3 hb3); clear h3 hb3))
      obtain ⟨ho, hbl, hx⟩ := HR.out
      go_roundw
      case rel =>
        refine ⟨k + 1, s3, c3, by omega, by go_num, rfl, ?_, (hbl.alloc hbs _).trans HA.out.2⟩
        have := HA.out.1
        rw [List.take_add_one, hx]
        simpa [bools] using this
      case measure => simp [intOf]; omega
    · obtain rfl : k = xs.length := by omega
      rw [List.take_length] at ho
      have HR := Lib.hid (And.intro ho hbl)
      clear ho hbl
      go_wp2
      go_ret
      exact ⟨_, _, rfl, own_sl HR.out.1, HR.out.2⟩

end Go.Proofs.Ytdcjiclonjillaa
