import Derived.Test.YtdcjiclonjillaaZZ63Q1
import Derived.Test.YtdcjiclonjillaaZZ63L4
import Derived.Test.YtdcjiclonjillaaZZ63OA
import Derived.Laws.OwnMore
import Derived.Laws.CopyOwn
import Derived.Laws.BytesArg
namespace Go.Proofs.Ytdcjiclonjillaa
set_option linter.unusedVariables false
set_option linter.unusedSimpArgs false
open Go.RowKit

/-! Part of the proof of one law. -/

def litB (vs : List Bool) (l : Int) : Bool := vs.getD (l / 2).toNat false != decide (l % 2 = 1)

def stepV (st : Int) (val : Bool) (vs : List Bool) (g : Gt) : List Bool := vs ++ [if (vs.length : Int) = st then val else litB vs g.a && litB vs g.b]

def valsV (st : Int) (val : Bool) (b0 : List Bool) (gs : List Gt) : List Bool := gs.foldl (stepV st val) b0

theorem valsV_length (st : Int) (val : Bool) (b0 : List Bool) (gs : List Gt) : (valsV st val b0 gs).length = b0.length + gs.length := by
  induction gs generalizing b0 with
  | nil => simp [valsV]
  | cons g gs ih =>
    show (valsV st val (stepV st val b0 g) gs).length = _
    rw [ih]; simp [stepV]; omega

theorem valsV_append (st : Int) (val : Bool) (b0 : List Bool) (gs hs : List Gt) : valsV st val b0 (gs ++ hs) = valsV st val (valsV st val b0 gs) hs := by
  simp [valsV, List.foldl_append]

theorem valsV_snoc {st : Int} {val : Bool} {b0 : List Bool} {gs : List Gt} {k : Nat} {g : Gt} (h : gs[k]? = some g) : valsV st val b0 (gs.take (k + 1)) = stepV st val (valsV st val b0 (gs.take k)) g := by
  rw [List.take_add_one, h]
  simp [valsV, List.foldl_append]

theorem valsV_pre (st : Int) (val : Bool) (b0 : List Bool) (gs : List Gt) : ∃ r, valsV st val b0 gs = b0 ++ r := by
  induction gs generalizing b0 with
  | nil => exact ⟨[], by simp [valsV]⟩
  | cons g gs ih =>
    obtain ⟨r, hr⟩ := ih (stepV st val b0 g)
    exact ⟨[if (b0.length : Int) = st then val else litB b0 g.a && litB b0 g.b] ++ r, by
      show valsV st val (stepV st val b0 g) gs = _
      rw [hr]; simp [stepV]⟩

theorem litB_pre {vs r : List Bool} {l : Int} (h : (l / 2).toNat < vs.length) : litB (vs ++ r) l = litB vs l := by
  unfold litB
  simp [List.getD, List.getElem?_append_left h]

def bitsV (x : Int) (n : Nat) : List Bool := (List.range n).map fun (i : Nat) => decide (x / 2 ^ i % 2 = 1)

theorem bitsV_length (x : Int) (n : Nat) : (bitsV x n).length = n := by simp [bitsV]

theorem bitsV_snoc (x : Int) (n : Nat) : bitsV x (n + 1) = bitsV x n ++ [decide (x / 2 ^ n % 2 = 1)] := by
  simp [bitsV, List.range_succ]

def bools (xs : List Bool) : List Value := xs.map Value.bool

@[simp] theorem bools_length (xs : List Bool) : (bools xs).length = xs.length := by simp [bools]

theorem bools_get {xs : List Bool} {k : Nat} {x : Bool} (h : xs[k]? = some x) : (bools xs)[k]? = some (.bool x) := by simp [bools, h]

theorem bools_append (xs ys : List Bool) : bools xs ++ bools ys = bools (xs ++ ys) := by simp [bools]

theorem bools_one (xs : List Bool) : ∀ u ∈ bools xs, u.oneCell' = true := by
  intro u hu
  obtain ⟨x, _, rfl⟩ := List.mem_map.1 hu
  rfl

theorem Sl.bool {w wr : World} {s : Option Addr} {xs : List Bool} (h : Sl w s (bools xs)) (hbl : Below w.heap.size w wr) {k : Nat} {x : Bool} (hx : xs[k]? = some x) :
    ∃ b off, s = some ⟨b, off, none⟩ ∧ b < w.heap.size ∧ wr.cell? ⟨b, off + k, none⟩ = some (.bool x) := by
  have hlt : k < xs.length := (List.getElem?_eq_some_iff.1 hx).1
  obtain ⟨b, off, rfl, hbw, hcs⟩ := h.at (k := k) (by simpa using hlt)
  exact ⟨b, off, rfl, hbw, by rw [hbl.cell (by exact hbw)]; exact hcs _ _ (bools_get hx)⟩

/-! the values of a circuit for an assignment. -/
def asgV (c : Cir) (x : Int) : List Bool := false :: (bitsV x c.inp.toNat ++ bitsV (x / 2 ^ c.inp.toNat) c.next.length)

theorem asgV_length (c : Cir) (x : Int) : (asgV c x).length = 1 + c.inp.toNat + c.next.length := by simp [asgV, bitsV_length]; omega

def stuckB (st : Int) (val : Bool) (b : List Bool) : List Bool := if 0 ≤ st then b.set st.toNat val else b

theorem stuckB_length (st : Int) (val : Bool) (b : List Bool) : (stuckB st val b).length = b.length := by unfold stuckB; split <;> simp

def evalV (c : Cir) (x st : Int) (val : Bool) : List Bool := valsV st val (stuckB st val (asgV c x)) c.gates

theorem evalV_length (c : Cir) (x st : Int) (val : Bool) : (evalV c x st val).length = 1 + c.inp.toNat + c.next.length + c.gates.length := by
  unfold evalV; rw [valsV_length, stuckB_length, asgV_length]

theorem evalV_no (c : Cir) (x : Int) (val : Bool) : evalV c x (-1) val = valsV (-1) val (asgV c x) c.gates := by
  unfold evalV stuckB; rw [if_neg (by omega)]

def tailV (st : Int) (val : Bool) (m n : Nat) : List Bool := (List.range n).map fun (j : Nat) => decide (((m + j : Nat) : Int) = st) && val

theorem tailV_length (st : Int) (val : Bool) (m n : Nat) : (tailV st val m n).length = n := by simp [tailV]

theorem tailV_zero (st : Int) (val : Bool) (m : Nat) : tailV st val m 0 = [] := rfl

theorem tailV_cons (st : Int) (val : Bool) (m n : Nat) : tailV st val m (n + 1) = (decide ((m : Int) = st) && val) :: tailV st val (m + 1) n := by
  unfold tailV
  rw [List.range_succ_eq_map, List.map_cons, List.map_map]
  refine congr (congrArg _ (by simp)) ?_
  apply List.map_congr_left
  intro j _
  simp only [Function.comp]
  rw [show m + 1 + j = m + (j + 1) from by omega]

/-- The step of a round: the cell behind the known values is set, or is the stuck one's. -/
theorem tail_set {st : Int} {val : Bool} {vs : List Bool} {g : Gt} {n : Nat} (h : (vs.length : Int) ≠ st) : (vs ++ tailV st val vs.length (n + 1)).set vs.length (litB vs g.a && litB vs g.b) = stepV st val vs g ++ tailV st val (vs.length + 1) n := by
  rw [tailV_cons, List.set_append_right _ _ (Nat.le_refl _), Nat.sub_self, List.set_cons_zero]
  unfold stepV
  rw [if_neg h]; simp

theorem tail_keep {st : Int} {val : Bool} {vs : List Bool} {g : Gt} {n : Nat} (h : (vs.length : Int) = st) : vs ++ tailV st val vs.length (n + 1) = stepV st val vs g ++ tailV st val (vs.length + 1) n := by
  rw [tailV_cons]
  unfold stepV
  rw [if_pos h, decide_eq_true h]; simp

theorem tailV_none (val : Bool) (m n : Nat) : tailV (-1) val m n = List.replicate n false := by
  unfold tailV
  apply List.ext_getElem
  · simp
  · intro i h1 h2
    simp
    intro h; omega

theorem tail_stuck {st : Nat} {val : Bool} {b : List Bool} {n : Nat} (h : st < b.length + n) : (b ++ List.replicate n false).set st val = stuckB st val b ++ tailV st val b.length n := by
  unfold stuckB
  rw [if_pos (by omega)]
  apply List.ext_getElem
  · simp [tailV_length]
  · intro i h1 h2
    simp only [List.length_set, List.length_append, List.length_replicate] at h1
    rw [List.getElem_set]
    by_cases e : st = i
    · subst e
      rw [if_pos rfl]
      by_cases hb : st < b.length
      · rw [List.getElem_append_left (by simpa using hb)]; simp
      · rw [List.getElem_append_right (by simp; omega)]
        simp [tailV]
        intro h; omega
    · rw [if_neg e]
      by_cases hb : i < b.length
      · rw [List.getElem_append_left hb, List.getElem_append_left (by simpa using hb), List.getElem_set_ne (by simpa using e)]
      · rw [List.getElem_append_right (by omega), List.getElem_append_right (by simp; omega)]
        simp [tailV]
        intro h; omega

def resV (c : Cir) (x st : Int) (val : Bool) : List Bool := (c.next ++ c.outs).map (litB (evalV c x st val))

theorem resV_length (c : Cir) (x st : Int) (val : Bool) : (resV c x st val).length = c.next.length + c.outs.length := by simp [resV]

def detV (c : Cir) (v : Int) (val : Bool) (x : Int) : Bool := !decide (resV c x (-1) false = resV c x v val)

def asgN (c : Cir) : Nat := 2 ^ (c.inp.toNat + c.next.length)

def findN (p : Int → Bool) (N : Nat) : Int := ((List.range N).find? (fun (x : Nat) => p (x : Int))).elim (-1) (fun x => (x : Int))

theorem findN_none {p : Int → Bool} {N : Nat} (h : ∀ x : Nat, x < N → p x = false) : findN p N = -1 := by
  unfold findN
  rw [List.find?_eq_none.2 (by intro (x : Nat) hx; simpa using h x (List.mem_range.1 hx))]; rfl

theorem findN_some {p : Int → Bool} {N x : Nat} (hx : x < N) (hp : p x = true) (h : ∀ y : Nat, y < x → p y = false) : findN p N = x := by
  unfold findN
  have : (List.range N).find? (fun (x : Nat) => p (x : Int)) = some x := by
    rw [List.find?_range_eq_some]
    exact ⟨hp, by simpa using hx, fun j hj => by simpa using h j hj⟩
  rw [this]; rfl

/-! Values of a circuit's variables: the program's walks. -/

theorem elem_bool : ElemOf Try.prog 55 4 (.bool false) 1 1 :=
  ⟨by kernel_rfl, info_parts (by kernel_rfl), rfl, by omega⟩

theorem mkBools (w : World) (n : Nat) (h : n ≤ 1048576) : (Instr.makeSlice 55 (.int .i64 (n : Int)) (.int .i64 (n : Int))).run Try.prog w = .ok (.slice (some ⟨w.heap.size, 0, none⟩) n n) (w.alloc (.cells (bools (List.replicate n false)).toArray 4)) := by
  obtain ⟨i, hi, h1, h2, h3⟩ := info_parts (P := Try.prog) (e := 4) (z := .bool false) (size := 1) (bytes := 1) (by kernel_rfl)
  have := run_make (P := Try.prog) w 55 4 i (.bool false) (by kernel_rfl) hi h1 .i64 .i64 n n (by omega) (by omega) (by rw [h3]; omega) (by omega)
  rw [this, h2]
  have e : madeCells #[Value.bool false] n = (bools (List.replicate n false)).toArray := by
    apply Array.ext'
    rw [toList_madeCells_one]; simp [bools]
  simp [Value.cells, e]

theorem bools_set (xs : List Bool) (p : Nat) (v : Bool) : (bools xs).toArray.setIfInBounds p (.bool v) = (bools (xs.set p v)).toArray := by
  apply Array.ext'
  simp [bools, List.map_set]

theorem bools_cell {w : World} {g p : Nat} {xs : List Bool} {t : TypeId} {x : Bool} (h : w.heap[g]? = some (.cells (bools xs).toArray t (0, 0))) (hx : xs[p]? = some x) : w.cell? ⟨g, p, none⟩ = some (.bool x) := by
  rw [blk_cell h]; simpa using bools_get hx

theorem bools_blk_set {w : World} {g : Nat} {xs : List Bool} {t : TypeId} (h : w.heap[g]? = some (.cells (bools xs).toArray t (0, 0))) (p : Nat) (v : Bool) : (w.setCell ⟨g, p, none⟩ (.bool v)).heap[g]? = some (.cells (bools (xs.set p v)).toArray t (0, 0)) := by
  rw [← bools_set]; exact blk_set h

theorem Sl.toB {w : World} {g : Nat} {xs : List Bool} {t : TypeId} {fz : Nat × Nat} (h : w.heap[g]? = some (.cells (bools xs).toArray t fz)) : Sl w (some ⟨g, 0, none⟩) (bools xs) := by
  have := Sl.blk h; simpa using this

theorem litB_eq {vs : List Bool} {l : Int} {p : Nat} {x : Bool} (hp : l / 2 = (p : Int)) (hx : vs[p]? = some x) : litB vs l = (x != decide (l % 2 = 1)) := by
  unfold litB
  rw [hp, Int.toNat_natCast, List.getD_eq_getElem?_getD, hx]; rfl

theorem litValue_any (s : Option Addr) (vs : List Bool) (cap : Nat) (l : Int) (w : World) (h : Sl w s (bools vs)) (h0 : 0 ≤ l) (h1 : l ≤ 1000000) (h2 : l / 2 < vs.length) :
    Calls Try.prog 97 #[.slice s vs.length cap, .int .i64 l] w fun e w' => e = .returned (.bool (litB vs l)) ∧ w = w' := by
  obtain ⟨p, hp⟩ : ∃ p : Nat, l / 2 = p := ⟨(l / 2).toNat, by omega⟩
  have p2 : p < vs.length := by omega
  obtain ⟨x, hx⟩ := get_of_lt p2
  obtain ⟨b, off, rfl, hbw, hz⟩ := h.bool (Below.refl _ _) hx
  rw [litB_eq hp hx]
  have hand := i64_and1 l
  have H := Lib.hid (And.intro h hx)
  clear h hx h2
  go_enter Try.func97, Try.ntmps97
  go_wp2
  go_ret
  exact ⟨rfl, rfl⟩

set_option maxHeartbeats 400000 in
theorem bitsOf_any (x : Int) (n : Nat) (w : World) (h0 : 0 ≤ x) (h1 : x ≤ 1000000) (hn : n ≤ 20) :
    Calls Try.prog 96 #[.int .i64 x, .int .i64 n] w fun e w' => ∃ s, e = .returned (.slice s n n) ∧ Sl w' s (bools (bitsV x n)) ∧ Below w.heap.size w w' := by
  have hmk := fun w => mkBools w n (by omega)
  go_enter Try.func96, Try.ntmps96
  go_wp2
  go_loopw [11] (fun i wr => ∃ k : Nat, k ≤ n ∧ i = .int .i64 k ∧ wr.heap[w.heap.size]? = some (.cells (bools (bitsV x k ++ List.replicate (n - k) false)).toArray 4 (0, 0)) ∧ Below w.heap.size w wr) (fun i _ => n - (intOf i).toNat)
  case atStart => exact ⟨0, Nat.zero_le _, rfl, blk_new _ _, (Below.refl _ _).alloc (Nat.le_refl _) _⟩
  case round =>
    obtain ⟨k, hk, rfl, hb, hbl⟩ := hrel
    by_cases hlt : k < n
    · have hlen : (bitsV x k ++ List.replicate (n - k) false).length = n := by simp [bitsV_length]; omega
      obtain ⟨y, hy⟩ := get_of_lt (l := bitsV x k ++ List.replicate (n - k) false) (k := k) (by omega)
      have hc := bools_cell hb hy
      have hf : wr.frozen? ⟨w.heap.size, k, none⟩ = false := blk_free hb
      have hpw : (1 : Int) ≤ 2 ^ k := by have : (0 : Int) < 2 ^ k := Int.pow_pos (by decide); omega
      have q1 : 0 ≤ x / 2 ^ k := Int.ediv_nonneg h0 (by omega)
      have q2 : x / 2 ^ k ≤ 1000000 := Int.le_trans (Int.ediv_le_self _ h0) h1
      have hand := i64_and1 (x / 2 ^ k)
      have HR := Lib.hid (And.intro hb (And.intro hbl hpw))
      clear hb hbl hpw hy hlen
      go_wp2
      obtain ⟨hb, hbl, hpw⟩ := HR.out
      go_roundw
      case rel =>
        refine ⟨k + 1, by omega, by go_num, ?_, hbl.setCell (Nat.le_refl _) _⟩
        have := bools_blk_set hb k (decide (x / 2 ^ k % 2 = 1))
        rw [List.set_append_right _ _ (by rw [bitsV_length]; exact Nat.le_refl _), bitsV_length, Nat.sub_self, show n - k = n - (k + 1) + 1 from by omega, List.replicate_succ, List.set_cons_zero] at this
        rw [bitsV_snoc, List.append_assoc]
        exact this
      case measure => simp [intOf]; omega
    · obtain rfl : k = n := by omega
      rw [Nat.sub_self] at hb
      have HR := Lib.hid (And.intro hb hbl)
      clear hb hbl
      go_wp2
      go_ret
      exact ⟨_, rfl, by have := Sl.toB HR.out.1; simpa using this, HR.out.2⟩

theorem latchBits_any (b : Nat) (inp x : Int) (sn : Option Addr) (nn cn : Nat) (vg vo : Value) (w : World) (h : CirAt w b inp (.slice sn nn cn) vg vo) (hi : 0 ≤ inp ∧ inp ≤ 4) (hn : nn ≤ 3) (h0 : 0 ≤ x) (h1 : x ≤ 1000000) :
    Calls Try.prog 80 #[.pointer (some ⟨b, 0, none⟩), .int .i64 x] w fun e w' => ∃ s, e = .returned (.slice s nn nn) ∧ Sl w' s (bools (bitsV (x / 2 ^ inp.toNat) nn)) ∧ Below w.heap.size w w' := by
  have HB : Hid (b < w.heap.size) := World.block_lt_of_cell? w _ h.h0
  obtain ⟨c0, c1, c2, c3⟩ := h
  obtain ⟨hi, hi'⟩ := hi
  have hpw : (1 : Int) ≤ 2 ^ inp.toNat := by have : (0 : Int) < 2 ^ inp.toNat := Int.pow_pos (by decide); omega
  have q1 : 0 ≤ x / 2 ^ inp.toNat := Int.ediv_nonneg h0 (by omega)
  have q2 : x / 2 ^ inp.toNat ≤ 1000000 := Int.le_trans (Int.ediv_le_self _ h0) h1
  clear hpw
  go_enter Try.func80, Try.ntmps80
  go_wp2_with fail
  go_region_held3 (fun w' => w'.cell? ⟨b, 0, none⟩ = some (.int .i64 inp) ∧ w'.cell? ⟨b, 1, none⟩ = some (.slice sn nn cn))
    (first
      | go_keep
      | (go_split_ands; refine ⟨?_, ?_⟩ <;> (rw [HBL.out.cell HB.out]; assumption)))
    ((go_at_call 96; ((refine (bitsOf_any _ _ _ q1 q2 (by omega)).mono ?_); rintro e w1 ⟨s, rfl, hs, hb⟩; have HBL := Lib.hid hb; have HS := Lib.hid hs; clear hb hs)))
  go_wp2
  go_ret
  exact ⟨_, rfl, HS.out, (Below.refl _ _).drew.trans HBL.out⟩

theorem inputBits_any (b : Nat) (inp x : Int) (vn vg vo : Value) (w : World) (h : CirAt w b inp vn vg vo) (n : Nat) (hn : inp = n) (hn4 : n ≤ 4) (h0 : 0 ≤ x) (h1 : x ≤ 1000000) :
    Calls Try.prog 81 #[.pointer (some ⟨b, 0, none⟩), .int .i64 x] w fun e w' => ∃ s, e = .returned (.slice s n n) ∧ Sl w' s (bools (bitsV x n)) ∧ Below w.heap.size w w' := by
  subst hn
  obtain ⟨c0, c1, c2, c3⟩ := h
  go_enter Try.func81, Try.ntmps81
  go_wp2_with (go_at_call 96; ((refine (bitsOf_any _ _ _ h0 h1 (by omega)).mono ?_); rintro e w1 ⟨s, rfl, hs, hb⟩; have HBL := Lib.hid hb; have HS := Lib.hid hs; clear hb hs))
  go_ret
  exact ⟨_, rfl, HS.out, HBL.out⟩

theorem wrap_pow {m : Nat} (h : m ≤ 8) : wrap64 (2 ^ m) = 2 ^ m := by
  have : ∀ m : Fin 9, wrap64 (2 ^ m.val) = 2 ^ m.val := by decide +kernel
  exact this ⟨m, by omega⟩

theorem assignments_any (b : Nat) (inp : Int) (sn : Option Addr) (nn cn : Nat) (vg vo : Value) (w : World) (h : CirAt w b inp (.slice sn nn cn) vg vo) (hi : 0 ≤ inp ∧ inp ≤ 4) (hn : nn ≤ 3) :
    Calls Try.prog 77 #[.pointer (some ⟨b, 0, none⟩)] w fun e w' => e = .returned (.int .i64 ((2 ^ (inp.toNat + nn) : Nat) : Int)) ∧ Drew w w' := by
  obtain ⟨c0, c1, c2, c3⟩ := h
  obtain ⟨hi, hi'⟩ := hi
  go_enter Try.func77, Try.ntmps77
  go_wp2
  go_quiet (fail)
  go_wp2
  go_ret
  refine ⟨ret_int ?_, _, rfl⟩
  rw [show (inp + (nn : Int)).toNat = inp.toNat + nn from by omega, wrap_pow (by omega)]
  simp

theorem mkBools0 (w : World) (n : Nat) (h : n ≤ 1048576) : (Instr.makeSlice 55 (.int .i64 0) (.int .i64 (n : Int))).run Try.prog w = .ok (.slice (some ⟨w.heap.size, 0, none⟩) 0 n) (w.alloc (.cells (bools (List.replicate n false)).toArray 4)) := by
  obtain ⟨i, hi, h1, h2, h3⟩ := info_parts (P := Try.prog) (e := 4) (z := .bool false) (size := 1) (bytes := 1) (by kernel_rfl)
  have := run_make (P := Try.prog) w 55 4 i (.bool false) (by kernel_rfl) hi h1 .i64 .i64 0 n (by omega) (by omega) (by rw [h3]; omega) (by omega)
  rw [this, h2]
  have e : madeCells #[Value.bool false] n = (bools (List.replicate n false)).toArray := by
    apply Array.ext'
    rw [toList_madeCells_one]; simp [bools]
  simp [Value.cells, e]

set_option maxHeartbeats 400000 in
theorem litValues_any (s t : Option Addr) (vs : List Bool) (cap capl : Nat) (xs : List Int) (w : World) (h : Sl w s (bools vs)) (ht : Sl w t (ints xs)) (hx : ∀ x ∈ xs, 0 ≤ x ∧ x ≤ 1000000 ∧ x / 2 < vs.length) (hl : xs.length ≤ 1000) :
    Calls Try.prog 95 #[.slice s vs.length cap, .slice t xs.length capl] w fun e w' => ∃ s c, e = .returned (.slice s xs.length c) ∧ Sl w' s (bools (xs.map (litB vs))) ∧ Below w.heap.size w w' := by
  have H := Lib.hid (And.intro h (And.intro ht hx))
  clear h ht hx
  have hmk := fun w => mkBools0 w xs.length (by omega)
  have hA : Below w.heap.size w (w.alloc (.cells (bools (List.replicate xs.length false)).toArray 4)) := (Below.refl _ _).alloc (Nat.le_refl _) _
  have ho : (w.alloc (.cells (bools (List.replicate xs.length false)).toArray 4)).ownsRow w.heap.size 4 1 (.slice (some ⟨w.heap.size, 0, none⟩) 0 xs.length) 0 [] := by
    have := World.ownsRow_made (base := w.heap.size) (e := 4) (size := 1) w (bools (List.replicate xs.length false)).toArray xs.length (Nat.le_refl _) (by unfold maxLen; omega) (by simp)
    simpa using this
  have HO := Lib.hid (And.intro ho hA)
  clear ho hA
  go_enter Try.func95, Try.ntmps95
  go_wp2
  clear hmk
  revert HO
  generalize w.alloc (.cells (bools (List.replicate xs.length false)).toArray 4) = WA
  intro HO
  go_loopw [13, 5] (fun i v wr => ∃ (k : Nat) (s : Option Addr) (c : Nat), k ≤ xs.length ∧ i = .int .i64 k ∧ v = .slice s k c ∧ wr.ownsRow w.heap.size 4 1 v k (bools ((xs.take k).map (litB vs))) ∧ Below w.heap.size w wr) (fun i _ _ => xs.length - (intOf i).toNat)
  case atStart => exact ⟨0, _, _, Nat.zero_le _, rfl, rfl, by simpa [bools] using HO.out.1, HO.out.2⟩
  case round =>
    obtain ⟨k, so, c, hk, rfl, rfl, ho, hbl⟩ := hrel
    by_cases hlt : k < xs.length
    · obtain ⟨x, hx⟩ := get_of_lt hlt
      obtain ⟨b, off, rfl, hbw, hz⟩ := H.out.2.1.int hbl hx
      obtain ⟨x0, x1, x2⟩ := H.out.2.2 x (List.mem_of_getElem? hx)
      have hbs := hbl.size
      have HR := Lib.hid (And.intro ho (And.intro hbl hx))
      clear ho hbl hx
      go_wp2_with (first
        | (go_at_call 97; ((refine (litValue_any _ _ _ _ _ (H.out.1.mono HR.out.2.1) x0 x1 x2).mono ?_); rintro e w' ⟨rfl, rfl⟩))
        | (at_builtin; refine wpl_app rfl _ _ rfl elem_bool (own_below HR.out.1 ((Below.refl _ _).alloc (Nat.le_refl _) _)) rfl rfl rfl (Sl.new _ _ _) (by simp [Value.oneCell']) (k + 1) rfl _ rfl (by unfold maxLen; omega) (by omega) (by simp; omega) ?_; intro s3 c3 w3 h3 hb3 _ _; have HA := Lib.hid (And.intro h3 hb3); clear h3 hb3))
      obtain ⟨ho, hbl, hx⟩ := HR.out
      go_roundw
      case rel =>
        refine ⟨k + 1, s3, c3, by omega, by go_num, rfl, ?_, (hbl.alloc hbs _).trans HA.out.2⟩
        have := HA.out.1
        rw [List.take_add_one, hx]
        simpa [bools] using this
      case measure => simp [intOf]; omega
    · obtain rfl : k = xs.length := by omega
      rw [List.take_length] at ho
      have HR := Lib.hid (And.intro ho hbl)
      clear ho hbl
      go_wp2
      go_ret
      exact ⟨_, _, rfl, own_sl HR.out.1, HR.out.2⟩

theorem l2Lit_any (s : Option Addr) (vs : List Bool) (cap : Nat) (l : Int) (w : World) (h : Sl w s (bools vs)) (h0 : 0 ≤ l) (h1 : l ≤ 1000000) (h2 : l / 2 < vs.length) :
    Calls Try.prog 101 #[.slice s vs.length cap, .int .i64 l] w fun e w' => e = .returned (.bool (litB vs l)) ∧ w = w' := by
  obtain ⟨p, hp⟩ : ∃ p : Nat, l / 2 = p := ⟨(l / 2).toNat, by omega⟩
  have p2 : p < vs.length := by omega
  obtain ⟨x, hx⟩ := get_of_lt p2
  obtain ⟨b, off, rfl, hbw, hz⟩ := h.bool (Below.refl _ _) hx
  rw [litB_eq hp hx]
  have H := Lib.hid (And.intro h hx)
  clear h hx h2
  go_enter Try.func101, Try.ntmps101
  go_wp2
  go_ret
  exact ⟨rfl, rfl⟩

set_option maxHeartbeats 400000 in
theorem l4Bits_any (x : Int) (n : Nat) (w : World) (h0 : 0 ≤ x) (h1 : x ≤ 1000000) (hn : n ≤ 20) :
    Calls Try.prog 99 #[.int .i64 x, .int .i64 n] w fun e w' => ∃ s c, e = .returned (.slice s n c) ∧ Sl w' s (bools (bitsV x n)) ∧ Below w.heap.size w w' := by
  have hA : Below w.heap.size w (w.alloc (.cells #[] 4)) := (Below.refl _ _).alloc (Nat.le_refl _) _
  have ho : (w.alloc (.cells #[] 4)).ownsRow w.heap.size 4 1 (.slice (some ⟨w.heap.size, 0, none⟩) 0 0) 0 [] := own_of_blk (n := 0) (cur := #[]) (blk_new w _) (Nat.le_refl _) (by simp) (by unfold maxLen; omega)
  have HO := Lib.hid (And.intro ho hA)
  clear ho hA
  go_enter Try.func99, Try.ntmps99
  go_wp2
  revert HO
  generalize w.alloc (.cells #[] 4) = WA
  intro HO
  go_loopw [6, 5] (fun i v wr => ∃ (k : Nat) (s : Option Addr) (c : Nat), k ≤ n ∧ i = .int .i64 k ∧ v = .slice s k c ∧ wr.ownsRow w.heap.size 4 1 v k (bools (bitsV x k)) ∧ Below w.heap.size w wr) (fun i _ _ => n - (intOf i).toNat)
  case atStart => exact ⟨0, _, _, Nat.zero_le _, rfl, rfl, HO.out.1, HO.out.2⟩
  case round =>
    obtain ⟨k, so, c, hk, rfl, rfl, ho, hbl⟩ := hrel
    by_cases hlt : k < n
    · have hpw : (1 : Int) ≤ 2 ^ k := by have : (0 : Int) < 2 ^ k := Int.pow_pos (by decide); omega
      have q1 : 0 ≤ x / 2 ^ k := Int.ediv_nonneg h0 (by omega)
      have q2 : x / 2 ^ k ≤ 1000000 := Int.le_trans (Int.ediv_le_self _ h0) h1
      have hbs := hbl.size
      have HR := Lib.hid (And.intro ho (And.intro hbl hpw))
      clear ho hbl hpw
      go_wp2_with (at_builtin; refine wpl_app rfl _ _ rfl elem_bool (own_below HR.out.1 ((Below.refl _ _).alloc (Nat.le_refl _) _)) rfl rfl rfl (Sl.new _ _ _) (by simp [Value.oneCell']) (k + 1) rfl _ rfl (by unfold maxLen; omega) (by omega) (by simp; omega) ?_; intro s3 c3 w3 h3 hb3 _ _; have HA := Lib.hid (And.intro h3 hb3); clear h3 hb3)
      go_roundw
      case rel =>
        refine ⟨k + 1, s3, c3, by omega, by go_num, rfl, ?_, (HR.out.2.1.alloc hbs _).trans HA.out.2⟩
        have e := HA.out.1
        rw [bitsV_snoc]
        unfold bools at *
        rw [List.map_append]
        exact e
      case measure => simp [intOf]; omega
    · obtain rfl : k = n := by omega
      have HR := Lib.hid (And.intro ho hbl)
      clear ho hbl
      go_wp2
      go_ret
      exact ⟨_, _, rfl, own_sl HR.out.1, HR.out.2⟩

set_option maxRecDepth 100000 in
set_option maxHeartbeats 800000 in
theorem l2Values_any (v : Value) (c : Cir) (ss si : Option Addr) (cs ci : Nat) (S I : List Bool) (w : World) (h : CirV w v c) (hv : c.valid) (hS : Sl w ss (bools S)) (hI : Sl w si (bools I))
    (lS : S.length = c.next.length) (ni : Nat) (lI : I.length = ni) (li : c.inp = ni) :
    Calls Try.prog 98 #[v, .slice ss c.next.length cs, .slice si ni ci] w fun e w' => ∃ s n cc, e = .returned (.slice s n cc) ∧ n = (valsV (-1) false (false :: (I ++ S)) c.gates).length ∧
      Sl w' s (bools (valsV (-1) false (false :: (I ++ S)) c.gates)) ∧ Below w.heap.size w w' := by
  obtain ⟨sn, cn, sg, cg, so, co, rfl, h1, h2, h3, hl1, hl2, hl3⟩ := h
  obtain ⟨f1, f2, f3, f4⟩ := valid_first hv
  obtain ⟨q1, q2, q3, q4, q5⟩ := id hv.lim
  have eF : c.first = 1 + c.inp + c.next.length := rfl
  have n4 : ni ≤ 4 := by omega
  obtain ⟨F, hF⟩ : ∃ F, F = 1 + ni + c.next.length := ⟨_, rfl⟩
  have eF2 : c.first = (F : Int) := by omega
  have f8 : F ≤ 8 := by omega
  have lB : (false :: (I ++ S)).length = F := by simp; omega
  have lF : 1 + ni + c.next.length ≤ F := by omega
  have H := Lib.hid (And.intro h2 (And.intro hv (And.intro hS (And.intro hI (And.intro lS (And.intro lI (And.intro eF2 (And.intro hF lB))))))))
  have hL : Below w.heap.size w (w.alloc (.cells #[.int .i64 c.inp, .slice sn c.next.length cn, .slice sg c.gates.length cg, .slice so c.outs.length co] 28)) := by go_grown
  have hN := blk_new w (.cells #[.int .i64 c.inp, .slice sn c.next.length cn, .slice sg c.gates.length cg, .slice so c.outs.length co] 28)
  have HL := Lib.hid (And.intro hL hN)
  have hb1 := hL.alloc hL.size (.cells #[.bool false] 4)
  have ho1 : ((w.alloc (.cells #[.int .i64 c.inp, .slice sn c.next.length cn, .slice sg c.gates.length cg, .slice so c.outs.length co] 28)).alloc (.cells #[.bool false] 4)).ownsRow (w.heap.size + 1) 4 1 (.slice (some ⟨w.heap.size + 1, 0, none⟩) 1 1) 1 (bools [false]) :=
    own_of_blk (n := 1) (cur := #[.bool false]) (blk_at (by simp)) (Nat.le_refl _) (by simp) (by unfold maxLen; omega)
  have hn1 := blk_old (o := .cells #[.bool false] 4) hN
  have hz1 : ((w.alloc (.cells #[.int .i64 c.inp, .slice sn c.next.length cn, .slice sg c.gates.length cg, .slice so c.outs.length co] 28)).alloc (.cells #[.bool false] 4)).heap.size = w.heap.size + 2 := by simp
  have H1 := Lib.hid (And.intro hb1 (And.intro ho1 (And.intro hn1 hz1)))
  clear h1 h2 h3 hv hS hI lS lI li f1 f2 f3 f4 q1 q2 q5 eF hF eF2 lB hL hN hb1 ho1 hn1 hz1
  go_enter Try.func98, Try.ntmps98
  go_wp2_with (first
    | (at_builtin; refine wpl_app rfl (.tmp 9) (.tmp 10) rfl elem_bool H1.out.2.1 rfl rfl (by simp [H.out.2.2.2.2.2.1]) (H.out.2.2.2.1.mono H1.out.1) (bools_one _) (1 + ni) rfl (bools ([false] ++ I)) (by rw [bools_append]) (by unfold maxLen; omega) (by omega) (by have := H1.out.2.2.2; omega) ?_; intro s3 c3 w3 h3 hb3 _ _; have HA := Lib.hid (And.intro h3 hb3); clear h3 hb3)
    | (at_builtin; refine wpl_app rfl (.tmp 12) (.tmp 13) rfl elem_bool HA.out.1 rfl rfl (by simp [H.out.2.2.2.2.1]) (H.out.2.2.1.mono (H1.out.1.trans (HA.out.2.mono (Nat.le_succ _)))) (bools_one _) (1 + ni + c.next.length) rfl (bools ([false] ++ I ++ S)) (by rw [bools_append]) (by unfold maxLen; omega) (by omega) (by have := H1.out.2.2.2; have := HA.out.2.size; omega) ?_; intro s4 c4 w4 h4 hb4 _ _; have HB := Lib.hid (And.intro h4 hb4); clear h4 hb4))
  have hb := HA.out.2.trans HB.out.2
  have ho := HB.out.1
  clear HA HB
  revert H1 hb
  generalize ((w.alloc (.cells #[.int .i64 c.inp, .slice sn c.next.length cn, .slice sg c.gates.length cg, .slice so c.outs.length co] 28)).alloc (.cells #[.bool false] 4)) = W1
  intro H1 hb
  obtain ⟨B0, hB0⟩ : ∃ B0, B0 = false :: (I ++ S) := ⟨_, rfl⟩
  have e1 : [false] ++ I ++ S = B0 := by rw [hB0]; simp
  rw [e1, ← H.out.2.2.2.2.2.2.2.1] at ho
  have eN : 1 + ni + c.next.length = F := H.out.2.2.2.2.2.2.2.1.symm
  rw [eN]
  have lB : B0.length = F := by rw [hB0]; exact H.out.2.2.2.2.2.2.2.2
  have HX := Lib.hid (And.intro hb (And.intro ho (And.intro hB0 lB)))
  clear hb ho hB0 lB e1 eN lF
  go_loopw [8, 7] (fun i v wr => ∃ (k : Nat) (s : Option Addr) (cc : Nat), k ≤ c.gates.length ∧ i = .int .i64 k ∧ v = .slice s (F + k) cc ∧ wr.ownsRow (w.heap.size + 1) 4 1 v (F + k) (bools (valsV (-1) false B0 (c.gates.take k))) ∧ Below (w.heap.size + 1) W1 wr) (fun i _ _ => c.gates.length - (intOf i).toNat)
  case atStart => exact ⟨0, _, _, Nat.zero_le _, rfl, rfl, by simpa [valsV] using HX.out.2.1, HX.out.1⟩
  case round =>
    obtain ⟨k, s7, c7, hk, rfl, rfl, ho, hbl⟩ := hrel
    have hbw : Below w.heap.size w wr := H1.out.1.trans (hbl.mono (Nat.le_succ _))
    have hcb := (blk_all (blk_below hbl (Nat.lt_succ_self _) H1.out.2.2.1)).1
    have hsz : w.heap.size + 2 ≤ wr.heap.size := by have h1 := hbl.size; have h2 := H1.out.2.2.2; omega
    by_cases hlt : k < c.gates.length
    · obtain ⟨g, hg⟩ := get_of_lt hlt
      obtain ⟨gb, off, rfl, hbw2, z1, z2⟩ := H.out.1.gate hbw hg
      obtain ⟨⟨a1, a2⟩, b1, b2⟩ := valid_gate H.out.2.1 hg
      have hfF := H.out.2.2.2.2.2.2.1
      have a3 : g.a / 2 < F + k := by omega
      have b3 : g.b / 2 < F + k := by omega
      have a4 : g.a ≤ 1000000 := by omega
      have b4 : g.b ≤ 1000000 := by omega
      obtain ⟨P, hP⟩ : ∃ P, P = valsV (-1) false B0 (c.gates.take k) := ⟨_, rfl⟩
      have lP : P.length = F + k := by rw [hP, valsV_length, HX.out.2.2.2, List.length_take]; omega
      rw [← hP] at ho
      have hsn : valsV (-1) false B0 (c.gates.take (k + 1)) = P ++ [litB P g.a && litB P g.b] := by
        rw [valsV_snoc hg, ← hP]
        unfold stepV
        rw [if_neg (by omega)]
      have hlv : ∀ l : Int, 0 ≤ l → l ≤ 1000000 → l / 2 < F + k → Calls Try.prog 101 #[.slice s7 (F + k) c7, .int .i64 l] wr fun e w' => e = .returned (.bool (litB P l)) ∧ wr = w' := fun l h0 h1 h2 => by
        have := l2Lit_any s7 P c7 l wr (own_sl ho) h0 h1 (by rw [lP]; omega)
        rw [lP] at this
        exact this
      have HQ := Lib.hid (And.intro hlv (And.intro hsn (And.intro ho (And.intro hbl hP))))
      clear hlv hsn ho hbl hP lP hg hfF a2 b2 hbw hbw2
      obtain ⟨va, hva⟩ : ∃ va, va = litB P g.a := ⟨_, rfl⟩
      obtain ⟨vb, hvb⟩ : ∃ vb, vb = litB P g.b := ⟨_, rfl⟩
      have HV := Lib.hid (And.intro hva hvb)
      clear hva hvb
      cases va
      · go_wp2_with (first
          | (go_at_call 101; ((with_reducible refine (HQ.out.1 _ a1 a4 a3).mono ?_); rintro e w3 ⟨rfl, rfl⟩; rw [← HV.out.1]))
          | (at_builtin; refine wpl_app rfl _ _ rfl elem_bool (own_below HQ.out.2.2.1 ((Below.refl _ _).alloc (Nat.le_refl _) _)) rfl rfl rfl (Sl.new _ _ _) (by simp [Value.oneCell']) (F + k + 1) rfl _ rfl (by unfold maxLen; omega) (by omega) (by simp; omega) ?_; intro s3 c3 w3 h3 hb3 _ _; have HA := Lib.hid (And.intro h3 hb3); clear h3 hb3))
        go_roundw
        case rel =>
          refine ⟨k + 1, s3, c3, by omega, by go_num, rfl, ?_, (HQ.out.2.2.2.1.alloc (by omega) _).trans HA.out.2⟩
          have e := HA.out.1
          rw [HQ.out.2.1, ← HV.out.1]
          unfold bools at *
          rw [List.map_append]
          exact e
        case measure => simp [intOf]; omega
      · go_wp2_with (first
          | (go_at_call 101; ((with_reducible refine (HQ.out.1 _ a1 a4 a3).mono ?_); rintro e w3 ⟨rfl, rfl⟩; rw [← HV.out.1]))
          | (go_at_call 101; ((with_reducible refine (HQ.out.1 _ b1 b4 b3).mono ?_); rintro e w3 ⟨rfl, rfl⟩; rw [← HV.out.2]))
          | (at_builtin; refine wpl_app rfl _ _ rfl elem_bool (own_below HQ.out.2.2.1 ((Below.refl _ _).alloc (Nat.le_refl _) _)) rfl rfl rfl (Sl.new _ _ _) (by simp [Value.oneCell']) (F + k + 1) rfl _ rfl (by unfold maxLen; omega) (by omega) (by simp; omega) ?_; intro s3 c3 w3 h3 hb3 _ _; have HA := Lib.hid (And.intro h3 hb3); clear h3 hb3))
        go_roundw
        case rel =>
          refine ⟨k + 1, s3, c3, by omega, by go_num, rfl, ?_, (HQ.out.2.2.2.1.alloc (by omega) _).trans HA.out.2⟩
          have e := HA.out.1
          rw [HQ.out.2.1, ← HV.out.1, ← HV.out.2]
          unfold bools at *
          rw [List.map_append]
          exact e
        case measure => simp [intOf]; omega
    · obtain rfl : k = c.gates.length := by omega
      rw [List.take_length, HX.out.2.2.1] at ho
      have HR := Lib.hid (And.intro ho hbw)
      clear ho hbl hbw
      go_wp2
      go_ret
      exact ⟨_, _, _, rfl, by rw [valsV_length, H.out.2.2.2.2.2.2.2.2], own_sl HR.out.1, HR.out.2⟩

/-! Functions of variables: equal, opposite. The reference's walks. -/

def colV (c : Cir) (p : Nat) (x : Nat) : Bool := (evalV c (x : Int) (-1) false).getD p false

def eqAll (f g : Nat → Bool) (N : Nat) : Bool := (List.range N).all fun x => f x == g x

def neAll (f g : Nat → Bool) (N : Nat) : Bool := (List.range N).all fun x => f x != g x

theorem eqAll_succ (f g : Nat → Bool) (N : Nat) : eqAll f g (N + 1) = (eqAll f g N && (f N == g N)) := by simp [eqAll, List.range_succ]

theorem neAll_succ (f g : Nat → Bool) (N : Nat) : neAll f g (N + 1) = (neAll f g N && (f N != g N)) := by simp [neAll, List.range_succ]

def sameV (c : Cir) (p q : Nat) : Int := if eqAll (colV c p) (colV c q) (asgN c) then 1 else if neAll (colV c p) (colV c q) (asgN c) then -1 else 0

theorem colV_get {c : Cir} {p x : Nat} {y : Bool} (h : (evalV c (x : Int) (-1) false)[p]? = some y) : colV c p x = y := by
  unfold colV; rw [List.getD_eq_getElem?_getD, h]; rfl

theorem Sl.bool2 {w wr : World} {s : Option Addr} {xs : List Bool} (h : Sl w s (bools xs)) (hbl : Below w.heap.size w wr) {j k : Nat} {x y : Bool} (hx : xs[j]? = some x) (hy : xs[k]? = some y) :
    ∃ b off, s = some ⟨b, off, none⟩ ∧ b < w.heap.size ∧ wr.cell? ⟨b, off + j, none⟩ = some (.bool x) ∧ wr.cell? ⟨b, off + k, none⟩ = some (.bool y) := by
  have hlt : j < xs.length := (List.getElem?_eq_some_iff.1 hx).1
  obtain ⟨b, off, rfl, hbw, hcs⟩ := h.at (k := j) (by simpa using hlt)
  exact ⟨b, off, rfl, hbw, by rw [hbl.cell (by exact hbw)]; exact hcs _ _ (bools_get hx), by rw [hbl.cell (by exact hbw)]; exact hcs _ _ (bools_get hy)⟩

theorem asgN_le {c : Cir} (h : c.valid) : 1 ≤ asgN c ∧ asgN c ≤ 128 := by
  obtain ⟨q1, q2, q3, q4, q5⟩ := h.lim
  unfold asgN
  exact ⟨Nat.pow_pos (by omega), Nat.le_trans (Nat.pow_le_pow_right (by omega) (show c.inp.toNat + c.next.length ≤ 7 by omega)) (by decide)⟩

theorem evalV_asg (c : Cir) (x : Int) (ni : Nat) (hi : c.inp = ni) : valsV (-1) false (false :: (bitsV x ni ++ bitsV (x / 2 ^ ni) c.next.length)) c.gates = evalV c x (-1) false := by
  rw [evalV_no]; unfold asgV; rw [hi]; simp

set_option maxRecDepth 100000 in
set_option maxHeartbeats 1600000 in
theorem l17Same_any (v : Value) (c : Cir) (p q : Nat) (w : World) (h : CirV w v c) (hv : c.valid) (hp : (p : Int) < c.vars) (hq : (q : Int) < c.vars) :
    Calls Try.prog 91 #[v, .int .i64 p, .int .i64 q] w fun e w' => e = .returned (.int .i64 (sameV c p q)) ∧ Below w.heap.size w w' := by
  have HC : Hid (∀ w', Below w.heap.size w w' → CirV w' v c) := fun w' hb => h.mono hb
  obtain ⟨sn, cn, sg, cg, so, co, rfl, h1, h2, h3, hl1, hl2, hl3⟩ := h
  obtain ⟨f1, f2, f3, f4⟩ := valid_first hv
  obtain ⟨q1, q2, q3, q4, q5⟩ := id hv.lim
  obtain ⟨n1, n2⟩ := asgN_le hv
  obtain ⟨ni, hni⟩ : ∃ ni : Nat, c.inp = ni := ⟨c.inp.toNat, by omega⟩
  obtain ⟨N, hN⟩ : ∃ N, N = asgN c := ⟨_, rfl⟩
  have eF : c.first = 1 + c.inp + c.next.length := rfl
  have n4 : ni ≤ 4 := by omega
  have p22 : p < 22 := by omega
  have q22 : q < 22 := by omega
  rw [← hN] at n1 n2
  have hsh : (2 : Int) ^ (ni + c.next.length) = (N : Int) := by rw [hN]; unfold asgN; rw [hni]; simp
  have hpV : p < (evalV c 0 (-1) false).length := by rw [evalV_length]; omega
  have hqV : q < (evalV c 0 (-1) false).length := by rw [evalV_length]; omega
  have hL : Below w.heap.size w (w.alloc (.cells #[.int .i64 c.inp, .slice sn c.next.length cn, .slice sg c.gates.length cg, .slice so c.outs.length co] 28)) := by go_grown
  have hNw := blk_new w (.cells #[.int .i64 c.inp, .slice sn c.next.length cn, .slice sg c.gates.length cg, .slice so c.outs.length co] 28)
  have HL := Lib.hid (And.intro hL hNw)
  have H := Lib.hid (And.intro hv (And.intro hni (And.intro hN (And.intro hpV (And.intro hqV hsh)))))
  have hwp : wrap64 (2 ^ (ni + c.next.length)) = (N : Int) := by rw [wrap_pow (by omega)]; exact hsh
  have hto : ((ni : Int) + (c.next.length : Int)).toNat = ni + c.next.length := by omega
  rw [hni] at HL HC ⊢
  clear h1 h2 h3 hv f1 f2 f3 f4 q1 q2 eF hN hp hq hni hpV hqV hL hNw hsh
  go_enter Try.func91, Try.ntmps91
  go_wp2_with fail
  revert HL
  generalize (w.alloc (.cells #[.int .i64 ni, .slice sn c.next.length cn, .slice sg c.gates.length cg, .slice so c.outs.length co] 28)) = W1
  intro HL
  go_loopw [7, 8, 9] (fun e o i wr => ∃ k : Nat, k ≤ N ∧ i = .int .i64 k ∧ e = .bool (eqAll (colV c p) (colV c q) k) ∧ o = .bool (neAll (colV c p) (colV c q) k) ∧ Below w.heap.size w wr ∧
      wr.heap[w.heap.size]? = some (.cells #[.int .i64 ni, .slice sn c.next.length cn, .slice sg c.gates.length cg, .slice so c.outs.length co] 28 (0, 0))) (fun _ _ i _ => N - (intOf i).toNat)
  case atStart => exact ⟨0, Nat.zero_le _, rfl, rfl, rfl, HL.out.1, HL.out.2⟩
  case round =>
    obtain ⟨k, hk, rfl, rfl, rfl, hbl, hblk⟩ := hrel
    have hcb := (blk_all hblk).1
    obtain ⟨E, hE⟩ : ∃ E, E = eqAll (colV c p) (colV c q) k := ⟨_, rfl⟩
    obtain ⟨O, hO⟩ : ∃ O, O = neAll (colV c p) (colV c q) k := ⟨_, rfl⟩
    rw [← hE, ← hO]
    have HR := Lib.hid (And.intro hbl (And.intro hblk (And.intro hE hO)))
    have hsl := blk_lt hblk
    clear hbl hblk hE hO
    by_cases hlt : k < N
    · have hkpw : (1 : Int) ≤ 2 ^ ni := by have : (0 : Int) < 2 ^ ni := Int.pow_pos (by decide); omega
      have d0 : 0 ≤ (k : Int) / 2 ^ ni := Int.ediv_nonneg (by omega) (by omega)
      have d1 : (k : Int) / 2 ^ ni ≤ 1000000 := Int.le_trans (Int.ediv_le_self _ (by omega)) (by omega)
      have hlen : (evalV c k (-1) false).length = (evalV c 0 (-1) false).length := by rw [evalV_length, evalV_length]
      obtain ⟨x, hx⟩ := get_of_lt (l := evalV c k (-1) false) (k := p) (by rw [hlen]; exact H.out.2.2.2.1)
      obtain ⟨y, hy⟩ := get_of_lt (l := evalV c k (-1) false) (k := q) (by rw [hlen]; exact H.out.2.2.2.2.1)
      have HX := Lib.hid (And.intro hx (And.intro hy hlen))
      clear hkpw hx hy hlen
      go_upto_region 6 with fail
      clear hwp hto
      go_cut [10] from 22 to 35 (fun v10 wx => ∃ s n cc, v10 = .slice s n cc ∧ n = (evalV c k (-1) false).length ∧ Sl wx s (bools (evalV c k (-1) false)) ∧ Below wr.heap.size wr wx)
      case first =>
        refine wp_region_T (fun w' => ∀ o, w'.cell? ⟨w.heap.size, o, none⟩ = #[Value.int .i64 ni, Value.slice sn c.next.length cn, Value.slice sg c.gates.length cg, Value.slice so c.outs.length co][o]?) (.q 0 (.q 1 (.q 2 (.q 3 (.q 4 (.q 5 (.q 6 (.q 7 (.q 9 (.q 10 (.q 11 (.e 8 (.e 12 (.e 13 (.q 14 .nil))))))))))))))) (by kernel_rfl) (by kernel_rfl) (by kernel_rfl) hcb ?_
        repeat (first | (refine ordt_s (o := ?_) ?_ ?_ ?_; rotate_left 1; (focus ((simp only [zD, zE, zF]) <;> rfl)); (focus rfl); simp only [Act.put, zA, zB, zC]) | (refine ordt_q (o := ?_) (v := ?_) ?_ ?_ ?_ ?_; rotate_left 2; (focus ((simp only [zD, zE, zF]) <;> rfl)); (focus rfl); (focus (intro w' hS; (try dsimp only at hS); go_split_ands; go_simp; (try (with_reducible rfl)))); simp only [Act.put, zA, zB, zC]))
        refine ordt_e ?_
        (refine op_e (o := ?_) ?_ ?_ (fun K hK => ?_); rotate_left 1; (focus ((simp only [zD, zE, zF]) <;> rfl)); (focus rfl); go_simp)
        refine (l4Bits_any _ _ _ d0 d1 (by omega)).mono ?_
        rintro e wa ⟨sa, ca, rfl, ha, hqa⟩
        have hba : Below wr.heap.size wr wa := (Below.refl _ _).drew.trans hqa
        refine hK.out _ _ (blk_all (blk_below hba hsl HR.out.2.1)).1 ?_
        clear hK K hqa
        have HA := Lib.hid (And.intro hba ha)
        have hsa := hba.size
        clear hba ha
        (try simp only [Act.put, zA, zB, zC])
        refine ordt_e ?_
        (refine op_e (o := ?_) ?_ ?_ (fun K hK => ?_); rotate_left 1; (focus ((simp only [zD, zE, zF]) <;> rfl)); (focus rfl); go_simp)
        refine (l4Bits_any _ _ _ (by omega) (by omega) (by omega)).mono ?_
        rintro e wb ⟨sb, cb, rfl, hb, hqb⟩
        have hbb : Below wr.heap.size wr wb := HA.out.1.trans (hqb.mono hsa)
        refine hK.out _ _ (blk_all (blk_below hbb hsl HR.out.2.1)).1 ?_
        clear hK K
        have HB := Lib.hid (And.intro hbb (And.intro hb (HA.out.2.mono hqb)))
        have hsb := hbb.size
        clear hbb hb hqb
        (try simp only [Act.put, zA, zB, zC])
        refine ordt_e ?_
        (refine op_e (o := ?_) ?_ ?_ (fun K hK => ?_); rotate_left 1; (focus ((simp only [zD, zE, zF]) <;> rfl)); (focus rfl); go_simp)
        refine (l2Values_any _ c sa sb ca cb (bitsV ((k : Int) / 2 ^ ni) c.next.length) (bitsV k ni) _ (HC.out _ (HR.out.1.trans (HB.out.1.mono HR.out.1.size))) H.out.1 HB.out.2.2 HB.out.2.1 (bitsV_length _ _) ni (bitsV_length _ _) H.out.2.1).mono ?_
        rintro e wd ⟨sd, nd, cd, rfl, hnd, hd, hqd⟩
        rw [evalV_asg c k ni H.out.2.1] at hnd hd
        have hbd : Below wr.heap.size wr wd := HB.out.1.trans (hqd.mono hsb)
        refine hK.out _ _ (blk_all (blk_below hbd hsl HR.out.2.1)).1 ?_
        clear hK K
        have HD := Lib.hid (And.intro hbd (And.intro hd hnd))
        clear hbd hd hqd hnd
        (try simp only [Act.put, zA, zB, zC])
        repeat (first | (refine ordt_s (o := ?_) ?_ ?_ ?_; rotate_left 1; (focus ((simp only [zD, zE, zF]) <;> rfl)); (focus rfl); simp only [Act.put, zA, zB, zC]) | (refine ordt_q (o := ?_) (v := ?_) ?_ ?_ ?_ ?_; rotate_left 2; (focus ((simp only [zD, zE, zF]) <;> rfl)); (focus rfl); (focus (intro w' hS; (try dsimp only at hS); go_split_ands; go_simp; (try (with_reducible rfl)))); simp only [Act.put, zA, zB, zC]))
        refine ordt_nil ?_
        go_wp2_with fail
        go_meet
        exact ⟨sd, nd, cd, rfl, HD.out.2.2, HD.out.2.1, HD.out.1⟩
      case rest =>
        obtain ⟨s10, n10, c10, rfl, hn10, hs10, hb10⟩ := hcut
        obtain ⟨vb, off, rfl, hvb, z1, z2⟩ := hs10.bool2 (Below.refl _ _) HX.out.1 HX.out.2.1
        have hpn : p < n10 := by rw [hn10, HX.out.2.2]; exact H.out.2.2.2.1
        have hqn : q < n10 := by rw [hn10, HX.out.2.2]; exact H.out.2.2.2.2.1
        have hn22 : n10 ≤ 22 := by
          have h1 := H.out.2.1; have h2 := H.out.1.lim; unfold Cir.limits at h2
          rw [hn10, evalV_length]; omega
        have e1 := eqAll_succ (colV c p) (colV c q) k
        have e2 := neAll_succ (colV c p) (colV c q) k
        rw [← HR.out.2.2.1, colV_get HX.out.1, colV_get HX.out.2.1] at e1
        rw [← HR.out.2.2.2, colV_get HX.out.1, colV_get HX.out.2.1] at e2
        have HE := Lib.hid (And.intro e1 (And.intro e2 hb10))
        clear e1 e2 hb10 hs10 hn10 hvb hcb
        have hbE := HR.out.1.trans (HE.out.2.2.mono HR.out.1.size)
        have hnE := blk_below HE.out.2.2 hsl HR.out.2.1
        have HW := Lib.hid (And.intro hbE hnE)
        clear hbE hnE
        cases E <;> cases O
        all_goals
          go_wp2_with fail
          go_quiet (fail)
          go_wp2_with fail
          go_quiet (fail)
          go_wp2_with fail
          go_roundw
          case rel =>
            refine ⟨k + 1, by omega, by go_num, ?_, ?_, below_n HW.out.1 _, HW.out.2⟩
            · rw [HE.out.1]; simp <;> (cases x <;> cases y <;> rfl)
            · rw [HE.out.2.1]; simp <;> (cases x <;> cases y <;> rfl)
          case measure => simp [intOf]; omega
    · obtain rfl : k = N := by omega
      have hE := HR.out.2.2.1
      have hO := HR.out.2.2.2
      rw [H.out.2.2.1] at hE hO
      have hs : sameV c p q = if E then 1 else if O then -1 else 0 := by unfold sameV; rw [← hE, ← hO]
      have HS := Lib.hid hs
      clear hE hO hs
      cases E
      · cases O
        · go_wp2
          go_ret
          exact ⟨ret_int (by rw [HS.out]; rfl), HR.out.1⟩
        · go_wp2
          go_ret
          exact ⟨ret_int (by rw [HS.out]; rfl), HR.out.1⟩
      · go_wp2
        go_ret
        exact ⟨ret_int (by rw [HS.out]; rfl), HR.out.1⟩

/-! Functions of variables as strings: the program's walks. -/

def bnum (f : Nat → Bool) (x : Nat) : Int := if f x then 49 else 48

def bnums (f : Nat → Bool) (N : Nat) : List Int := (List.range N).map (bnum f)

theorem bnums_length (f : Nat → Bool) (N : Nat) : (bnums f N).length = N := by simp [bnums]

theorem bnums_succ (f : Nat → Bool) (N : Nat) : bnums f (N + 1) = bnums f N ++ [bnum f N] := by simp [bnums, List.range_succ]

def bstr (f : Nat → Bool) (N : Nat) : ByteArray := strOfNums (bnums f N)

theorem bstr_size (f : Nat → Bool) (N : Nat) : (bstr f N).size = N := by unfold bstr; rw [strOfNums_size, bnums_length]

theorem bstr_get (f : Nat → Bool) (N i : Nat) (h : i < (bstr f N).size) : (bstr f N)[i].toNat = if f i then 49 else 48 := by
  have h2 : i < N := by rw [bstr_size] at h; exact h
  have e : (bstr f N)[i] = UInt8.ofNat (bnum f i).toNat := by
    simp [bstr, strOfNums, bnums, ByteArray.getElem_eq_getElem_data]
  rw [e]
  unfold bnum
  split <;> rfl

theorem bstr_beq (f g : Nat → Bool) (N k : Nat) (h1 : k < (bstr f N).size) (h2 : k < (bstr g N).size) : (((bstr f N)[k].toNat : Int) == ((bstr g N)[k].toNat : Int)) = (f k == g k) := by
  rw [bstr_get, bstr_get]
  cases f k <;> cases g k <;> rfl

def eqCnt (f g : Nat → Bool) (k : Nat) : Nat := ((List.range k).filter fun x => f x == g x).length

theorem eqCnt_succ (f g : Nat → Bool) (k : Nat) : eqCnt f g (k + 1) = eqCnt f g k + (if f k = g k then 1 else 0) := by
  unfold eqCnt
  rw [List.range_succ, List.filter_append, List.length_append]
  by_cases h : f k = g k <;> simp [h]

theorem eqCnt_le (f g : Nat → Bool) (k : Nat) : eqCnt f g k ≤ k := by
  have := List.length_filter_le (fun x => f x == g x) (List.range k); simpa [eqCnt] using this

theorem eqCnt_all (f g : Nat → Bool) (k : Nat) : eqCnt f g k = k ↔ eqAll f g k = true := by
  induction k with
  | zero => simp [eqCnt, eqAll]
  | succ k ih =>
    rw [eqCnt_succ, eqAll_succ, Bool.and_eq_true, ← ih]
    have := eqCnt_le f g k
    by_cases h : f k = g k
    · simp [h]
    · simp [h]; omega

theorem eqCnt_none (f g : Nat → Bool) (k : Nat) : eqCnt f g k = 0 ↔ neAll f g k = true := by
  induction k with
  | zero => simp [eqCnt, neAll]
  | succ k ih =>
    rw [eqCnt_succ, neAll_succ, Bool.and_eq_true, ← ih]
    by_cases h : f k = g k <;> simp [h]

set_option maxHeartbeats 800000 in
theorem compareColumns_any (f g : Nat → Bool) (N : Nat) (w : World) (hN : N ≤ 1000) :
    Calls Try.prog 66 #[.string (bstr f N), .string (bstr g N)] w fun e w' => e = .returned (.int .i64 (if eqAll f g N then 1 else if neAll f g N then -1 else 0)) ∧ Drew w w' := by
  have ha := bstr_size f N
  have hb := bstr_size g N
  obtain ⟨A, hA⟩ : ∃ A, A = bstr f N := ⟨_, rfl⟩
  obtain ⟨B, hB⟩ : ∃ B, B = bstr g N := ⟨_, rfl⟩
  rw [← hA] at ha ⊢
  rw [← hB] at hb ⊢
  obtain ⟨R, hR⟩ : ∃ R : Int, R = if eqAll f g N then 1 else if neAll f g N then -1 else 0 := ⟨_, rfl⟩
  rw [← hR]
  have H := Lib.hid (And.intro hA hB)
  have HR := Lib.hid hR
  clear hA hB hR
  go_enter Try.func66, Try.ntmps66
  go_wp2
  go_loopw [5, 9] (fun e i wr => ∃ k : Nat, k ≤ N ∧ i = .int .i64 k ∧ e = .int .i64 (eqCnt f g k) ∧ Drew w wr) (fun _ i _ => N - (intOf i).toNat)
  case atStart => exact ⟨0, Nat.zero_le _, rfl, rfl, Drew.refl _⟩
  case round =>
    obtain ⟨k, hk, rfl, rfl, hd⟩ := hrel
    have HD := Lib.hid hd
    have hc1 := eqCnt_le f g k
    clear hd
    by_cases hlt : k < N
    · go_wp2
      go_quiet (fail)
      go_wp2
      all_goals
        rename_i hh
        obtain ⟨rfl, rfl⟩ := H.out
        rw [bstr_beq] at hh
        have hs := eqCnt_succ f g k
        go_roundw
        case rel =>
          refine ⟨k + 1, by omega, by go_num, ?_, HD.out.n _⟩
          rw [hs]
          first
            | (rw [if_pos (by simpa using hh)]; go_num)
            | (rw [if_neg (by simpa using hh)]; go_num)
        case measure => simp [intOf]; omega
    · obtain rfl : k = N := by omega
      have h1 := eqCnt_all f g k
      have h2 := eqCnt_none f g k
      by_cases e1 : eqCnt f g k = k
      · have HE : Hid (R = 1) := by have := HR.out; rw [h1.1 e1] at this; exact this
        clear h1 h2
        go_wp2
        all_goals first
          | (exfalso; omega)
          | (go_ret; exact ⟨ret_int HE.out.symm, HD.out⟩)
      · have n1 : eqAll f g k = false := by
          cases hq : eqAll f g k
          · rfl
          · exact absurd (h1.2 hq) e1
        by_cases e2 : eqCnt f g k = 0
        · have HE : Hid (R = -1) := by have := HR.out; rw [n1, h2.1 e2] at this; exact this
          clear n1 h1 h2
          go_wp2
          all_goals first
            | (exfalso; omega)
            | (go_ret; exact ⟨ret_int HE.out.symm, HD.out⟩)
        · have n2 : neAll f g k = false := by
            cases hq : neAll f g k
            · rfl
            · exact absurd (h2.2 hq) e2
          have HE : Hid (R = 0) := by have := HR.out; rw [n1, n2] at this; exact this
          clear n1 n2 h1 h2
          go_wp2
          all_goals first
            | (exfalso; omega)
            | (go_ret; exact ⟨ret_int HE.out.symm, HD.out⟩)

end Go.Proofs.Ytdcjiclonjillaa
