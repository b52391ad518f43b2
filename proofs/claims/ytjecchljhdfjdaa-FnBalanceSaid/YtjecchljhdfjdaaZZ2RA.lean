import Derived.Test.YtjecchljhdfjdaaZZ2OA
import Derived.Test.YtjecchljhdfjdaaZZ2Q1
import Derived.Laws.OwnMore
import Derived.Laws.CopyOwn
namespace Go.Proofs.Ytjecchljhdfjdaa
set_option linter.unusedVariables false
set_option linter.unusedSimpArgs false
open Go.RowKit

/-! Part of the proof of one law. -/

def litB (vs : List Bool) (l : Int) : Bool := vs.getD (l / 2).toNat false != decide (l % 2 = 1)

def stepV (st : Int) (val : Bool) (vs : List Bool) (g : Gt) : List Bool := vs ++ [if (vs.length : Int) = st then val else litB vs g.a && litB vs g.b]

def valsV (st : Int) (val : Bool) (b0 : List Bool) (gs : List Gt) : List Bool := gs.foldl (stepV st val) b0

theorem valsV_length (st : Int) (val : Bool) (b0 : List Bool) (gs : List Gt) : (valsV st val b0 gs).length = b0.length + gs.length := by
  induction gs generalizing b0 with
  | nil => simp [valsV]
  | cons g gs ih =>
    show (valsV st val (stepV st val b0 g) gs).length = _
    rw [ih]; simp [stepV]; omega

theorem valsV_append (st : Int) (val : Bool) (b0 : List Bool) (gs hs : List Gt) : valsV st val b0 (gs ++ hs) = valsV st val (valsV st val b0 gs) hs := by
  simp [valsV, List.foldl_append]

theorem valsV_snoc {st : Int} {val : Bool} {b0 : List Bool} {gs : List Gt} {k : Nat} {g : Gt} (h : gs[k]? = some g) : valsV st val b0 (gs.take (k + 1)) = stepV st val (valsV st val b0 (gs.take k)) g := by
  rw [List.take_add_one, h]
  simp [valsV, List.foldl_append]

theorem valsV_pre (st : Int) (val : Bool) (b0 : List Bool) (gs : List Gt) : ∃ r, valsV st val b0 gs = b0 ++ r := by
  induction gs generalizing b0 with
  | nil => exact ⟨[], by simp [valsV]⟩
  | cons g gs ih =>
    obtain ⟨r, hr⟩ := ih (stepV st val b0 g)
    exact ⟨[if (b0.length : Int) = st then val else litB b0 g.a && litB b0 g.b] ++ r, by
      show valsV st val (stepV st val b0 g) gs = _
      rw [hr]; simp [stepV]⟩

theorem litB_pre {vs r : List Bool} {l : Int} (h : (l / 2).toNat < vs.length) : litB (vs ++ r) l = litB vs l := by
  unfold litB
  simp [List.getD, List.getElem?_append_left h]

def bitsV (x : Int) (n : Nat) : List Bool := (List.range n).map fun (i : Nat) => decide (x / 2 ^ i % 2 = 1)

theorem bitsV_length (x : Int) (n : Nat) : (bitsV x n).length = n := by simp [bitsV]

theorem bitsV_snoc (x : Int) (n : Nat) : bitsV x (n + 1) = bitsV x n ++ [decide (x / 2 ^ n % 2 = 1)] := by
  simp [bitsV, List.range_succ]

def bools (xs : List Bool) : List Value := xs.map Value.bool

@[simp] theorem bools_length (xs : List Bool) : (bools xs).length = xs.length := by simp [bools]

theorem bools_get {xs : List Bool} {k : Nat} {x : Bool} (h : xs[k]? = some x) : (bools xs)[k]? = some (.bool x) := by simp [bools, h]

theorem bools_one (xs : List Bool) : ∀ u ∈ bools xs, u.oneCell' = true := by
  intro u hu
  obtain ⟨x, _, rfl⟩ := List.mem_map.1 hu
  rfl

theorem Sl.bool {w wr : World} {s : Option Addr} {xs : List Bool} (h : Sl w s (bools xs)) (hbl : Below w.heap.size w wr) {k : Nat} {x : Bool} (hx : xs[k]? = some x) :
    ∃ b off, s = some ⟨b, off, none⟩ ∧ b < w.heap.size ∧ wr.cell? ⟨b, off + k, none⟩ = some (.bool x) := by
  have hlt : k < xs.length := (List.getElem?_eq_some_iff.1 hx).1
  obtain ⟨b, off, rfl, hbw, hcs⟩ := h.at (k := k) (by simpa using hlt)
  exact ⟨b, off, rfl, hbw, by rw [hbl.cell (by exact hbw)]; exact hcs _ _ (bools_get hx)⟩

/-! the values of a circuit for an assignment. -/
def asgV (c : Cir) (x : Int) : List Bool := false :: (bitsV x c.inp.toNat ++ bitsV (x / 2 ^ c.inp.toNat) c.next.length)

theorem asgV_length (c : Cir) (x : Int) : (asgV c x).length = 1 + c.inp.toNat + c.next.length := by simp [asgV, bitsV_length]; omega

def stuckB (st : Int) (val : Bool) (b : List Bool) : List Bool := if 0 ≤ st then b.set st.toNat val else b

theorem stuckB_length (st : Int) (val : Bool) (b : List Bool) : (stuckB st val b).length = b.length := by unfold stuckB; split <;> simp

def evalV (c : Cir) (x st : Int) (val : Bool) : List Bool := valsV st val (stuckB st val (asgV c x)) c.gates

theorem evalV_length (c : Cir) (x st : Int) (val : Bool) : (evalV c x st val).length = 1 + c.inp.toNat + c.next.length + c.gates.length := by
  unfold evalV; rw [valsV_length, stuckB_length, asgV_length]

theorem evalV_no (c : Cir) (x : Int) (val : Bool) : evalV c x (-1) val = valsV (-1) val (asgV c x) c.gates := by
  unfold evalV stuckB; rw [if_neg (by omega)]

def tailV (st : Int) (val : Bool) (m n : Nat) : List Bool := (List.range n).map fun (j : Nat) => decide (((m + j : Nat) : Int) = st) && val

theorem tailV_length (st : Int) (val : Bool) (m n : Nat) : (tailV st val m n).length = n := by simp [tailV]

theorem tailV_zero (st : Int) (val : Bool) (m : Nat) : tailV st val m 0 = [] := rfl

theorem tailV_cons (st : Int) (val : Bool) (m n : Nat) : tailV st val m (n + 1) = (decide ((m : Int) = st) && val) :: tailV st val (m + 1) n := by
  unfold tailV
  rw [List.range_succ_eq_map, List.map_cons, List.map_map]
  refine congr (congrArg _ (by simp)) ?_
  apply List.map_congr_left
  intro j _
  simp only [Function.comp]
  rw [show m + 1 + j = m + (j + 1) from by omega]

/-- The step of a round: the cell behind the known values is set, or is the stuck one's. -/
theorem tail_set {st : Int} {val : Bool} {vs : List Bool} {g : Gt} {n : Nat} (h : (vs.length : Int) ≠ st) : (vs ++ tailV st val vs.length (n + 1)).set vs.length (litB vs g.a && litB vs g.b) = stepV st val vs g ++ tailV st val (vs.length + 1) n := by
  rw [tailV_cons, List.set_append_right _ _ (Nat.le_refl _), Nat.sub_self, List.set_cons_zero]
  unfold stepV
  rw [if_neg h]; simp

theorem tail_keep {st : Int} {val : Bool} {vs : List Bool} {g : Gt} {n : Nat} (h : (vs.length : Int) = st) : vs ++ tailV st val vs.length (n + 1) = stepV st val vs g ++ tailV st val (vs.length + 1) n := by
  rw [tailV_cons]
  unfold stepV
  rw [if_pos h, decide_eq_true h]; simp

theorem tailV_none (val : Bool) (m n : Nat) : tailV (-1) val m n = List.replicate n false := by
  unfold tailV
  apply List.ext_getElem
  · simp
  · intro i h1 h2
    simp
    intro h; omega

theorem tail_stuck {st : Nat} {val : Bool} {b : List Bool} {n : Nat} (h : st < b.length + n) : (b ++ List.replicate n false).set st val = stuckB st val b ++ tailV st val b.length n := by
  unfold stuckB
  rw [if_pos (by omega)]
  apply List.ext_getElem
  · simp [tailV_length]
  · intro i h1 h2
    simp only [List.length_set, List.length_append, List.length_replicate] at h1
    rw [List.getElem_set]
    by_cases e : st = i
    · subst e
      rw [if_pos rfl]
      by_cases hb : st < b.length
      · rw [List.getElem_append_left (by simpa using hb)]; simp
      · rw [List.getElem_append_right (by simp; omega)]
        simp [tailV]
        intro h; omega
    · rw [if_neg e]
      by_cases hb : i < b.length
      · rw [List.getElem_append_left hb, List.getElem_append_left (by simpa using hb), List.getElem_set_ne (by simpa using e)]
      · rw [List.getElem_append_right (by omega), List.getElem_append_right (by simp; omega)]
        simp [tailV]
        intro h; omega

def resV (c : Cir) (x st : Int) (val : Bool) : List Bool := (c.next ++ c.outs).map (litB (evalV c x st val))

theorem resV_length (c : Cir) (x st : Int) (val : Bool) : (resV c x st val).length = c.next.length + c.outs.length := by simp [resV]

def asgN (c : Cir) : Nat := 2 ^ (c.inp.toNat + c.next.length)

/-! Values of a circuit's variables: the program's walks. -/

theorem elem_bool : ElemOf Try.prog 55 4 (.bool false) 1 1 :=
  ⟨by kernel_rfl, info_parts (by kernel_rfl), rfl, by omega⟩

theorem mkBools (w : World) (n : Nat) (h : n ≤ 1048576) : (Instr.makeSlice 55 (.int .i64 (n : Int)) (.int .i64 (n : Int))).run Try.prog w = .ok (.slice (some ⟨w.heap.size, 0, none⟩) n n) (w.alloc (.cells (bools (List.replicate n false)).toArray 4)) := by
  obtain ⟨i, hi, h1, h2, h3⟩ := info_parts (P := Try.prog) (e := 4) (z := .bool false) (size := 1) (bytes := 1) (by kernel_rfl)
  have := run_make (P := Try.prog) w 55 4 i (.bool false) (by kernel_rfl) hi h1 .i64 .i64 n n (by omega) (by omega) (by rw [h3]; omega) (by omega)
  rw [this, h2]
  have e : madeCells #[Value.bool false] n = (bools (List.replicate n false)).toArray := by
    apply Array.ext'
    rw [toList_madeCells_one]; simp [bools]
  simp [Value.cells, e]

theorem bools_set (xs : List Bool) (p : Nat) (v : Bool) : (bools xs).toArray.setIfInBounds p (.bool v) = (bools (xs.set p v)).toArray := by
  apply Array.ext'
  simp [bools, List.map_set]

theorem bools_cell {w : World} {g p : Nat} {xs : List Bool} {t : TypeId} {x : Bool} (h : w.heap[g]? = some (.cells (bools xs).toArray t (0, 0))) (hx : xs[p]? = some x) : w.cell? ⟨g, p, none⟩ = some (.bool x) := by
  rw [blk_cell h]; simpa using bools_get hx

theorem bools_blk_set {w : World} {g : Nat} {xs : List Bool} {t : TypeId} (h : w.heap[g]? = some (.cells (bools xs).toArray t (0, 0))) (p : Nat) (v : Bool) : (w.setCell ⟨g, p, none⟩ (.bool v)).heap[g]? = some (.cells (bools (xs.set p v)).toArray t (0, 0)) := by
  rw [← bools_set]; exact blk_set h

theorem Sl.toB {w : World} {g : Nat} {xs : List Bool} {t : TypeId} {fz : Nat × Nat} (h : w.heap[g]? = some (.cells (bools xs).toArray t fz)) : Sl w (some ⟨g, 0, none⟩) (bools xs) := by
  have := Sl.blk h; simpa using this

theorem litB_eq {vs : List Bool} {l : Int} {p : Nat} {x : Bool} (hp : l / 2 = (p : Int)) (hx : vs[p]? = some x) : litB vs l = (x != decide (l % 2 = 1)) := by
  unfold litB
  rw [hp, Int.toNat_natCast, List.getD_eq_getElem?_getD, hx]; rfl

theorem litValue_any (s : Option Addr) (vs : List Bool) (cap : Nat) (l : Int) (w : World) (h : Sl w s (bools vs)) (h0 : 0 ≤ l) (h1 : l ≤ 1000000) (h2 : l / 2 < vs.length) :
    Calls Try.prog 97 #[.slice s vs.length cap, .int .i64 l] w fun e w' => e = .returned (.bool (litB vs l)) ∧ w = w' := by
  obtain ⟨p, hp⟩ : ∃ p : Nat, l / 2 = p := ⟨(l / 2).toNat, by omega⟩
  have p2 : p < vs.length := by omega
  obtain ⟨x, hx⟩ := get_of_lt p2
  obtain ⟨b, off, rfl, hbw, hz⟩ := h.bool (Below.refl _ _) hx
  rw [litB_eq hp hx]
  have hand := i64_and1 l
  have H := Lib.hid (And.intro h hx)
  clear h hx h2
  go_enter Try.func97, Try.ntmps97
  go_wp2
  go_ret
  exact ⟨rfl, rfl⟩

set_option maxHeartbeats 400000 in
theorem bitsOf_any (x : Int) (n : Nat) (w : World) (h0 : 0 ≤ x) (h1 : x ≤ 1000000) (hn : n ≤ 20) :
    Calls Try.prog 96 #[.int .i64 x, .int .i64 n] w fun e w' => ∃ s, e = .returned (.slice s n n) ∧ Sl w' s (bools (bitsV x n)) ∧ Below w.heap.size w w' := by
  have hmk := fun w => mkBools w n (by omega)
  go_enter Try.func96, Try.ntmps96
  go_wp2
  go_loopw [11] (fun i wr => ∃ k : Nat, k ≤ n ∧ i = .int .i64 k ∧ wr.heap[w.heap.size]? = some (.cells (bools (bitsV x k ++ List.replicate (n - k) false)).toArray 4 (0, 0)) ∧ Below w.heap.size w wr) (fun i _ => n - (intOf i).toNat)
  case atStart => exact ⟨0, Nat.zero_le _, rfl, blk_new _ _, (Below.refl _ _).alloc (Nat.le_refl _) _⟩
  case round =>
    obtain ⟨k, hk, rfl, hb, hbl⟩ := hrel
    by_cases hlt : k < n
    · have hlen : (bitsV x k ++ List.replicate (n - k) false).length = n := by simp [bitsV_length]; omega
      obtain ⟨y, hy⟩ := get_of_lt (l := bitsV x k ++ List.replicate (n - k) false) (k := k) (by omega)
      have hc := bools_cell hb hy
      have hf : wr.frozen? ⟨w.heap.size, k, none⟩ = false := blk_free hb
      have hpw : (1 : Int) ≤ 2 ^ k := by have : (0 : Int) < 2 ^ k := Int.pow_pos (by decide); omega
      have q1 : 0 ≤ x / 2 ^ k := Int.ediv_nonneg h0 (by omega)
      have q2 : x / 2 ^ k ≤ 1000000 := Int.le_trans (Int.ediv_le_self _ h0) h1
      have hand := i64_and1 (x / 2 ^ k)
      have HR := Lib.hid (And.intro hb (And.intro hbl hpw))
      clear hb hbl hpw hy hlen
      go_wp2
      obtain ⟨hb, hbl, hpw⟩ := HR.out
      go_roundw
      case rel =>
        refine ⟨k + 1, by omega, by go_num, ?_, hbl.setCell (Nat.le_refl _) _⟩
        have := bools_blk_set hb k (decide (x / 2 ^ k % 2 = 1))
        rw [List.set_append_right _ _ (by rw [bitsV_length]; exact Nat.le_refl _), bitsV_length, Nat.sub_self, show n - k = n - (k + 1) + 1 from by omega, List.replicate_succ, List.set_cons_zero] at this
        rw [bitsV_snoc, List.append_assoc]
        exact this
      case measure => simp [intOf]; omega
    · obtain rfl : k = n := by omega
      rw [Nat.sub_self] at hb
      have HR := Lib.hid (And.intro hb hbl)
      clear hb hbl
      go_wp2
      go_ret
      exact ⟨_, rfl, by have := Sl.toB HR.out.1; simpa using this, HR.out.2⟩

theorem latchBits_any (b : Nat) (inp x : Int) (sn : Option Addr) (nn cn : Nat) (vg vo : Value) (w : World) (h : CirAt w b inp (.slice sn nn cn) vg vo) (hi : 0 ≤ inp ∧ inp ≤ 4) (hn : nn ≤ 3) (h0 : 0 ≤ x) (h1 : x ≤ 1000000) :
    Calls Try.prog 80 #[.pointer (some ⟨b, 0, none⟩), .int .i64 x] w fun e w' => ∃ s, e = .returned (.slice s nn nn) ∧ Sl w' s (bools (bitsV (x / 2 ^ inp.toNat) nn)) ∧ Below w.heap.size w w' := by
  have HB : Hid (b < w.heap.size) := World.block_lt_of_cell? w _ h.h0
  obtain ⟨c0, c1, c2, c3⟩ := h
  obtain ⟨hi, hi'⟩ := hi
  have hpw : (1 : Int) ≤ 2 ^ inp.toNat := by have : (0 : Int) < 2 ^ inp.toNat := Int.pow_pos (by decide); omega
  have q1 : 0 ≤ x / 2 ^ inp.toNat := Int.ediv_nonneg h0 (by omega)
  have q2 : x / 2 ^ inp.toNat ≤ 1000000 := Int.le_trans (Int.ediv_le_self _ h0) h1
  clear hpw
  go_enter Try.func80, Try.ntmps80
  go_wp2_with fail
  go_region_held3 (fun w' => w'.cell? ⟨b, 0, none⟩ = some (.int .i64 inp) ∧ w'.cell? ⟨b, 1, none⟩ = some (.slice sn nn cn))
    (first
      | go_keep
      | (go_split_ands; refine ⟨?_, ?_⟩ <;> (rw [HBL.out.cell HB.out]; assumption)))
    ((go_at_call 96; ((refine (bitsOf_any _ _ _ q1 q2 (by omega)).mono ?_); rintro e w1 ⟨s, rfl, hs, hb⟩; have HBL := Lib.hid hb; have HS := Lib.hid hs; clear hb hs)))
  go_wp2
  go_ret
  exact ⟨_, rfl, HS.out, (Below.refl _ _).drew.trans HBL.out⟩

theorem inputBits_any (b : Nat) (inp x : Int) (vn vg vo : Value) (w : World) (h : CirAt w b inp vn vg vo) (n : Nat) (hn : inp = n) (hn4 : n ≤ 4) (h0 : 0 ≤ x) (h1 : x ≤ 1000000) :
    Calls Try.prog 81 #[.pointer (some ⟨b, 0, none⟩), .int .i64 x] w fun e w' => ∃ s, e = .returned (.slice s n n) ∧ Sl w' s (bools (bitsV x n)) ∧ Below w.heap.size w w' := by
  subst hn
  obtain ⟨c0, c1, c2, c3⟩ := h
  go_enter Try.func81, Try.ntmps81
  go_wp2_with (go_at_call 96; ((refine (bitsOf_any _ _ _ h0 h1 (by omega)).mono ?_); rintro e w1 ⟨s, rfl, hs, hb⟩; have HBL := Lib.hid hb; have HS := Lib.hid hs; clear hb hs))
  go_ret
  exact ⟨_, rfl, HS.out, HBL.out⟩

theorem wrap_pow {m : Nat} (h : m ≤ 8) : wrap64 (2 ^ m) = 2 ^ m := by
  have : ∀ m : Fin 9, wrap64 (2 ^ m.val) = 2 ^ m.val := by decide +kernel
  exact this ⟨m, by omega⟩

theorem assignments_any (b : Nat) (inp : Int) (sn : Option Addr) (nn cn : Nat) (vg vo : Value) (w : World) (h : CirAt w b inp (.slice sn nn cn) vg vo) (hi : 0 ≤ inp ∧ inp ≤ 4) (hn : nn ≤ 3) :
    Calls Try.prog 77 #[.pointer (some ⟨b, 0, none⟩)] w fun e w' => e = .returned (.int .i64 ((2 ^ (inp.toNat + nn) : Nat) : Int)) ∧ Drew w w' := by
  obtain ⟨c0, c1, c2, c3⟩ := h
  obtain ⟨hi, hi'⟩ := hi
  go_enter Try.func77, Try.ntmps77
  go_wp2
  go_quiet (fail)
  go_wp2
  go_ret
  refine ⟨ret_int ?_, _, rfl⟩
  rw [show (inp + (nn : Int)).toNat = inp.toNat + nn from by omega, wrap_pow (by omega)]
  simp

theorem mkBools0 (w : World) (n : Nat) (h : n ≤ 1048576) : (Instr.makeSlice 55 (.int .i64 0) (.int .i64 (n : Int))).run Try.prog w = .ok (.slice (some ⟨w.heap.size, 0, none⟩) 0 n) (w.alloc (.cells (bools (List.replicate n false)).toArray 4)) := by
  obtain ⟨i, hi, h1, h2, h3⟩ := info_parts (P := Try.prog) (e := 4) (z := .bool false) (size := 1) (bytes := 1) (by kernel_rfl)
  have := run_make (P := Try.prog) w 55 4 i (.bool false) (by kernel_rfl) hi h1 .i64 .i64 0 n (by omega) (by omega) (by rw [h3]; omega) (by omega)
  rw [this, h2]
  have e : madeCells #[Value.bool false] n = (bools (List.replicate n false)).toArray := by
    apply Array.ext'
    rw [toList_madeCells_one]; simp [bools]
  simp [Value.cells, e]

set_option maxHeartbeats 400000 in
theorem litValues_any (s t : Option Addr) (vs : List Bool) (cap capl : Nat) (xs : List Int) (w : World) (h : Sl w s (bools vs)) (ht : Sl w t (ints xs)) (hx : ∀ x ∈ xs, 0 ≤ x ∧ x ≤ 1000000 ∧ x / 2 < vs.length) (hl : xs.length ≤ 1000) :
    Calls Try.prog 95 #[.slice s vs.length cap, .slice t xs.length capl] w fun e w' => ∃ s c, e = .returned (.slice s xs.length c) ∧ Sl w' s (bools (xs.map (litB vs))) ∧ Below w.heap.size w w' := by
  have H := Lib.hid (And.intro h (And.intro ht hx))
  clear h ht hx
  have hmk := fun w => mkBools0 w xs.length (by omega)
  have hA : Below w.heap.size w (w.alloc (.cells (bools (List.replicate xs.length false)).toArray 4)) := (Below.refl _ _).alloc (Nat.le_refl _) _
  have ho : (w.alloc (.cells (bools (List.replicate xs.length false)).toArray 4)).ownsRow w.heap.size 4 1 (.slice (some ⟨w.heap.size, 0, none⟩) 0 xs.length) 0 [] := by
    have := World.ownsRow_made (base := w.heap.size) (e := 4) (size := 1) w (bools (List.replicate xs.length false)).toArray xs.length (Nat.le_refl _) (by unfold maxLen; omega) (by simp)
    simpa using this
  have HO := Lib.hid (And.intro ho hA)
  clear ho hA
  go_enter Try.func95, Try.ntmps95
  go_wp2
  clear hmk
  revert HO
  generalize w.alloc (.cells (bools (List.replicate xs.length false)).toArray 4) = WA
  intro HO
  go_loopw [13, 5] (fun i v wr => ∃ (k : Nat) (s : Option Addr) (c : Nat), k ≤ xs.length ∧ i = .int .i64 k ∧ v = .slice s k c ∧ wr.ownsRow w.heap.size 4 1 v k (bools ((xs.take k).map (litB vs))) ∧ Below w.heap.size w wr) (fun i _ _ => xs.length - (intOf i).toNat)
  case atStart => exact ⟨0, _, _, Nat.zero_le _, rfl, rfl, by simpa [bools] using HO.out.1, HO.out.2⟩
  case round =>
    obtain ⟨k, so, c, hk, rfl, rfl, ho, hbl⟩ := hrel
    by_cases hlt : k < xs.length
    · obtain ⟨x, hx⟩ := get_of_lt hlt
      obtain ⟨b, off, rfl, hbw, hz⟩ := H.out.2.1.int hbl hx
      obtain ⟨x0, x1, x2⟩ := H.out.2.2 x (List.mem_of_getElem? hx)
      have hbs := hbl.size
      have HR := Lib.hid (And.intro ho (And.intro hbl hx))
      clear ho hbl hx
      go_wp2_with (first
        | (go_at_call 97; ((refine (litValue_any _ _ _ _ _ (H.out.1.mono HR.out.2.1) x0 x1 x2).mono ?_); rintro e w' ⟨rfl, rfl⟩))
        | (at_builtin; refine wpl_app rfl _ _ rfl elem_bool (own_below HR.out.1 ((Below.refl _ _).alloc (Nat.le_refl _) _)) rfl rfl rfl (Sl.new _ _ _) (by simp [Value.oneCell']) (k + 1) rfl _ rfl (by unfold maxLen; omega) (by omega) (by simp; omega) ?_; intro s3 c3 w3 h3 hb3 _ _; have HA := Lib.hid (And.intro h3 hb3); clear h3 hb3))
      obtain ⟨ho, hbl, hx⟩ := HR.out
      go_roundw
      case rel =>
        refine ⟨k + 1, s3, c3, by omega, by go_num, rfl, ?_, (hbl.alloc hbs _).trans HA.out.2⟩
        have := HA.out.1
        rw [List.take_add_one, hx]
        simpa [bools] using this
      case measure => simp [intOf]; omega
    · obtain rfl : k = xs.length := by omega
      rw [List.take_length] at ho
      have HR := Lib.hid (And.intro ho hbl)
      clear ho hbl
      go_wp2
      go_ret
      exact ⟨_, _, rfl, own_sl HR.out.1, HR.out.2⟩

/-- The values of all variables, none stuck. -/
def vN (b : List Bool) (gs : List Gt) : List Bool := valsV (-1) false b gs

theorem vN_length (b : List Bool) (gs : List Gt) : (vN b gs).length = b.length + gs.length := valsV_length _ _ _ _

theorem vN_snoc (b : List Bool) (gs : List Gt) (g : Gt) : vN b (gs ++ [g]) = vN b gs ++ [litB (vN b gs) g.a && litB (vN b gs) g.b] := by
  unfold vN
  rw [valsV_append]
  show stepV (-1) false (valsV (-1) false b gs) g = _
  unfold stepV
  rw [if_neg (by omega)]

theorem vN_pre (b : List Bool) (gs hs : List Gt) : ∃ r, vN b (gs ++ hs) = vN b gs ++ r := by
  unfold vN
  rw [valsV_append]
  exact valsV_pre _ _ _ _

theorem vN_base (b : List Bool) (gs : List Gt) : ∃ r, vN b gs = b ++ r := valsV_pre _ _ _ _

theorem litP_lt {l : Int} {F n : Nat} (h : litP l (F + n)) : (l / 2).toNat < F + n := by unfold litP at h; omega

theorem litB_app {b : List Bool} {gs hs : List Gt} {F : Nat} (hF : b.length = F) {l : Int} (h : litP l (F + gs.length)) : litB (vN b (gs ++ hs)) l = litB (vN b gs) l := by
  obtain ⟨r, hr⟩ := vN_pre b gs hs
  rw [hr]
  exact litB_pre (by rw [vN_length, hF]; exact litP_lt h)

theorem getD_app {b : List Bool} {gs hs : List Gt} {v : Nat} (h : v < b.length + gs.length) : (vN b (gs ++ hs)).getD v false = (vN b gs).getD v false := by
  obtain ⟨r, hr⟩ := vN_pre b gs hs
  rw [hr]
  simp only [List.getD_eq_getElem?_getD]
  rw [List.getElem?_append_left (by rw [vN_length]; exact h)]

theorem take_split {gs : List Gt} {k : Nat} {g : Gt} (h : gs[k]? = some g) : gs = gs.take k ++ ([g] ++ gs.drop (k + 1)) := by
  obtain ⟨hk, rfl⟩ := List.getElem?_eq_some_iff.1 h
  simp

/-- A gate's value is the conjunction of its operands' values. -/
theorem vN_gate {b : List Bool} {gs : List Gt} {F : Nat} (hF : b.length = F) (hg : gatesP F gs) {k : Nat} {g : Gt} (h : gs[k]? = some g) :
    (vN b gs).getD (F + k) false = (litB (vN b gs) g.a && litB (vN b gs) g.b) := by
  have hk := (List.getElem?_eq_some_iff.1 h).1
  have hp := gatesP_at hg h
  have hl : (gs.take k).length = k := by simp; omega
  have e : vN b gs = vN b (gs.take k ++ ([g] ++ gs.drop (k + 1))) := by rw [← take_split h]
  have ea : litB (vN b gs) g.a = litB (vN b (gs.take k)) g.a := by rw [e]; exact litB_app hF (by rw [hl]; exact hp.1)
  have eb : litB (vN b gs) g.b = litB (vN b (gs.take k)) g.b := by rw [e]; exact litB_app hF (by rw [hl]; exact hp.2)
  rw [ea, eb, e, ← List.append_assoc, getD_app (by simp; omega), vN_snoc, List.getD_eq_getElem?_getD, List.getElem?_append_right (by rw [vN_length, hl]; omega), vN_length, hl, hF, Nat.sub_self]
  rfl

theorem litB_nat (vs : List Bool) (v : Nat) : litB vs (2 * (v : Int)) = vs.getD v false := by
  unfold litB
  rw [show (2 * (v : Int) / 2).toNat = v by omega, show decide (2 * (v : Int) % 2 = 1) = false from decide_eq_false (by omega)]
  simp

theorem litB_xrb {vs : List Bool} {y b : Int} (hb : b = 0 ∨ b = 1) : litB vs (xrb y b) = (litB vs y != decide (b = 1)) := by
  unfold litB xrb
  rw [show (2 * (y / 2) + (y + b) % 2) / 2 = y / 2 by omega]
  rcases hb with rfl | rfl
  · by_cases h : y % 2 = 1
    · rw [decide_eq_true (show (2 * (y / 2) + (y + 0) % 2) % 2 = 1 by omega), decide_eq_true h]
      simp
    · rw [decide_eq_false (show ¬ ((2 * (y / 2) + (y + 0) % 2) % 2 = 1) by omega), decide_eq_false h]
      simp
  · by_cases h : y % 2 = 1
    · rw [decide_eq_false (show ¬ ((2 * (y / 2) + (y + 1) % 2) % 2 = 1) by omega), decide_eq_true h]
      simp
    · rw [decide_eq_true (show (2 * (y / 2) + (y + 1) % 2) % 2 = 1 by omega), decide_eq_false h]
      simp

theorem litB_mapB {vs us : List Bool} {m : List Int} {l : Int} (h : litB us (m.getD (l / 2).toNat 0) = vs.getD (l / 2).toNat false) : litB us (mapB m l) = litB vs l := by
  unfold mapB
  rw [litB_xrb (by omega), h]
  rfl

theorem litB_zero {vs : List Bool} (h : vs.getD 0 false = false) : litB vs 0 = false := by
  rw [show (0 : Int) = 2 * ((0 : Nat) : Int) from rfl, litB_nat, h]

theorem litB_one {vs : List Bool} (h : vs.getD 0 false = false) : litB vs 1 = true := by
  unfold litB
  rw [show ((1 : Int) / 2).toNat = 0 from rfl, h]; rfl

theorem litB_not {vs : List Bool} {a : Int} (h : a % 2 = 0) : litB vs (a + 1) = !litB vs a := by
  unfold litB
  rw [show (a + 1) / 2 = a / 2 by omega, decide_eq_true (show (a + 1) % 2 = 1 by omega), decide_eq_false (show ¬ a % 2 = 1 by omega)]
  simp

/-- What may stand ahead of the gates: as many values as variables, the first one false. -/
structure Bs (F : Nat) (b : List Bool) : Prop where
  len : b.length = F
  zero : b[0]? = some false

theorem Bs.z {F : Nat} {b : List Bool} (h : Bs F b) (gs : List Gt) : (vN b gs).getD 0 false = false := by
  obtain ⟨r, hr⟩ := vN_base b gs
  have hb := (List.getElem?_eq_some_iff.1 h.zero).1
  rw [hr, List.getD_eq_getElem?_getD, List.getElem?_append_left hb, h.zero]; rfl

theorem andK_val {F : Nat} {b : List Bool} (hb : Bs F b) {gs : List Gt} (hg : gatesP F gs) {x y : Int} (hx : litP x (F + gs.length)) (hy : litP y (F + gs.length)) :
    litB (vN b (andK F gs x y).1) (andK F gs x y).2 = (litB (vN b gs) x && litB (vN b gs) y) := by
  have hz := hb.z gs
  by_cases h0 : x = 0 ∨ (x = y - 1 ∧ x % 2 = 0)
  · rw [andK_zero h0]
    show litB (vN b gs) 0 = _
    rw [litB_zero hz]
    rcases h0 with rfl | ⟨h1, h2⟩
    · rw [litB_zero hz]; rfl
    · rw [show y = x + 1 by omega, litB_not h2]; cases litB (vN b gs) x <;> rfl
  · by_cases h1 : x = 1 ∨ x = y
    · rw [andK_same h0 h1]
      show litB (vN b gs) y = _
      rcases h1 with rfl | rfl
      · rw [litB_one hz]; rfl
      · cases litB (vN b gs) x <;> rfl
    · cases hf : fndG gs ⟨x, y⟩ 0 with
      | some i =>
        rw [andK_old h0 h1 hf]
        show litB (vN b gs) (2 * ((F : Int) + (i : Int))) = _
        rw [show (2 * ((F : Int) + (i : Int))) = 2 * ((F + i : Nat) : Int) by omega, litB_nat]
        exact vN_gate hb.len hg (fndG_at hf).2
      | none =>
        rw [andK_new h0 h1 hf]
        show litB (vN b (gs ++ [⟨x, y⟩])) (2 * ((F : Int) + (gs.length : Int))) = _
        rw [show (2 * ((F : Int) + (gs.length : Int))) = 2 * ((F + gs.length : Nat) : Int) by omega, litB_nat, vN_snoc, List.getD_eq_getElem?_getD, List.getElem?_append_right (by rw [vN_length, hb.len]; omega), vN_length, hb.len, Nat.sub_self]
        rfl

theorem andL_val {F : Nat} {b : List Bool} (hb : Bs F b) {gs : List Gt} (hg : gatesP F gs) {x y : Int} (hx : litP x (F + gs.length)) (hy : litP y (F + gs.length)) :
    litB (vN b (andL F gs x y).1) (andL F gs x y).2 = (litB (vN b gs) x && litB (vN b gs) y) := by
  unfold andL
  split
  · rw [andK_val hb hg hy hx, Bool.and_comm]
  · exact andK_val hb hg hx hy

/-- The gates after a conjunction: as before, or one more, whose literal is the result. -/
theorem andK_ext (F : Int) (gs : List Gt) (x y : Int) : (andK F gs x y).1 = gs ∨ ∃ g, (andK F gs x y).1 = gs ++ [g] ∧ (andK F gs x y).2 = 2 * (F + gs.length) := by
  by_cases h0 : x = 0 ∨ (x = y - 1 ∧ x % 2 = 0)
  · rw [andK_zero h0]; exact .inl rfl
  · by_cases h1 : x = 1 ∨ x = y
    · rw [andK_same h0 h1]; exact .inl rfl
    · cases hf : fndG gs ⟨x, y⟩ 0 with
      | some i => rw [andK_old h0 h1 hf]; exact .inl rfl
      | none => rw [andK_new h0 h1 hf]; exact .inr ⟨_, rfl, rfl⟩

theorem andL_ext (F : Int) (gs : List Gt) (x y : Int) : (andL F gs x y).1 = gs ∨ ∃ g, (andL F gs x y).1 = gs ++ [g] ∧ (andL F gs x y).2 = 2 * (F + gs.length) := by
  unfold andL
  split <;> exact andK_ext _ _ _ _

/-! What is used. -/
theorem getD_true {u : List Bool} {j : Nat} : u.getD j false = true ↔ u[j]? = some true := by
  rw [List.getD_eq_getElem?_getD]
  cases u[j]? with
  | none => simp
  | some x => simp

theorem markU_keep' {F : Int} {u : List Bool} {l : Int} {j : Nat} (h : u.getD j false = true) : (markU F u l).getD j false = true := getD_true.2 (markU_keep (getD_true.1 h))

theorem markU_hit {F : Int} {u : List Bool} {l : Int} (h : F ≤ l / 2) (hl : (l / 2 - F).toNat < u.length) : (markU F u l).getD (l / 2 - F).toNat false = true := by
  unfold markU
  rw [if_pos h]
  exact getD_true.2 (by simp [hl])

theorem markU_hi {F : Int} {u : List Bool} {l : Int} {j : Nat} (h : l / 2 < F + j) : (markU F u l).getD j false = u.getD j false := by
  unfold markU
  split
  · simp only [List.getD_eq_getElem?_getD]
    rw [List.getElem?_set_ne (by omega)]
  · rfl

theorem usedS_keep {F : Int} {gs : List Gt} {k : Nat} {u : List Bool} {j : Nat} (h : u.getD j false = true) : (usedS F gs k u).getD j false = true := by
  unfold usedS
  split
  · split
    · exact markU_keep' (markU_keep' h)
    · exact h
  · exact h

theorem usedK_keep {F : Int} {gs : List Gt} : ∀ (k : Nat) {u : List Bool} {j : Nat}, u.getD j false = true → (usedK F gs k u).getD j false = true
  | 0, _, _, h => h
  | k + 1, _, _, h => by unfold usedK; exact usedK_keep k (usedS_keep h)

theorem usedS_hi {F : Int} {gs : List Gt} (hg : gatesP F gs) {k j : Nat} (hj : k ≤ j) (u : List Bool) : (usedS F gs k u).getD j false = u.getD j false := by
  unfold usedS
  split
  · rename_i g h
    have hp := gatesP_at hg h
    unfold litP at hp
    split
    · rw [markU_hi (by omega), markU_hi (by omega)]
    · rfl
  · rfl

theorem usedK_hi {F : Int} {gs : List Gt} (hg : gatesP F gs) : ∀ (k : Nat) {j : Nat} (u : List Bool), k ≤ j → (usedK F gs k u).getD j false = u.getD j false
  | 0, _, _, _ => rfl
  | k + 1, j, u, h => by unfold usedK; rw [usedK_hi hg k _ (by omega), usedS_hi hg (by omega)]

/-- The operands of what is used are used. -/
theorem usedK_closed {F : Int} {gs : List Gt} (hg : gatesP F gs) : ∀ (k : Nat) {i : Nat} {g : Gt} {u : List Bool}, u.length = gs.length → i < k → gs[i]? = some g → (usedK F gs k u).getD i false = true →
    (F ≤ g.a / 2 → (usedK F gs k u).getD (g.a / 2 - F).toNat false = true) ∧ (F ≤ g.b / 2 → (usedK F gs k u).getD (g.b / 2 - F).toNat false = true)
  | 0, _, _, _, _, h, _, _ => by omega
  | k + 1, i, g, u, hl, hi, h, hu => by
    unfold usedK at hu ⊢
    by_cases e : i < k
    · exact usedK_closed hg k (by rw [usedS_length]; exact hl) e h hu
    · obtain rfl : i = k := by omega
      rw [usedK_hi hg _ _ (Nat.le_refl _), usedS_hi hg (Nat.le_refl _)] at hu
      have hp := gatesP_at hg h
      have hk := (List.getElem?_eq_some_iff.1 h).1
      unfold litP at hp
      have es : usedS F gs i u = markU F (markU F u g.a) g.b := by
        unfold usedS
        rw [h]
        simp only
        rw [if_pos hu]
      rw [es]
      exact ⟨fun ha => usedK_keep _ (markU_keep' (markU_hit ha (by omega))), fun hb => usedK_keep _ (markU_hit hb (by rw [markU_length]; omega))⟩

theorem foldl_keep {F : Int} {j : Nat} : ∀ (rs : List Int) {u : List Bool}, u.getD j false = true → (rs.foldl (markU F) u).getD j false = true
  | [], _, h => h
  | r :: rs, _, h => foldl_keep rs (markU_keep' h)

theorem foldl_hit {F : Int} : ∀ {rs : List Int} {l : Int} {u : List Bool}, l ∈ rs → F ≤ l / 2 → (l / 2 - F).toNat < u.length → (rs.foldl (markU F) u).getD (l / 2 - F).toNat false = true
  | [], _, _, h, _, _ => by simp at h
  | r :: rs, l, u, h, hF, hl => by
    rcases List.mem_cons.1 h with rfl | h
    · exact foldl_keep rs (markU_hit hF hl)
    · exact foldl_hit (rs := rs) h hF (by rw [markU_length]; exact hl)

/-- A variable that is no gate's, or a used gate's. -/
def okU (c : Cir) (v : Nat) : Prop := c.first ≤ v → (usedL c).getD (v - c.first.toNat) false = true

theorem okU_op {c : Cir} (hv : c.wide) {i : Nat} {g : Gt} (h : c.gates[i]? = some g) (hu : (usedL c).getD i false = true) : okU c (g.a / 2).toNat ∧ okU c (g.b / 2).toNat := by
  have hp := gatesP_at hv.gates h
  have hi := (List.getElem?_eq_some_iff.1 h).1
  have h0 := hv.lim.1
  have eF : c.first = 1 + c.inp + c.next.length := rfl
  have hc := usedK_closed hv.gates c.gates.length (u := used0 c.first c.gates.length (c.outs ++ c.next)) (used0_length _ _ _) hi h hu
  unfold litP at hp
  exact ⟨fun ha => by rw [show (g.a / 2).toNat - c.first.toNat = (g.a / 2 - c.first).toNat by omega]; exact hc.1 (by omega),
    fun hb => by rw [show (g.b / 2).toNat - c.first.toNat = (g.b / 2 - c.first).toNat by omega]; exact hc.2 (by omega)⟩

theorem okU_root {c : Cir} (hv : c.wide) {l : Int} (h : l ∈ c.outs ++ c.next) : okU c (l / 2).toNat := by
  have hl : litP l c.vars := by
    rcases List.mem_append.1 h with h | h
    · exact hv.outs l h
    · exact hv.next l h
  have h0 := hv.lim.1
  have eF : c.first = 1 + c.inp + c.next.length := rfl
  have eV : c.vars = c.first + c.gates.length := rfl
  unfold litP at hl
  intro ha
  rw [show (l / 2).toNat - c.first.toNat = (l / 2 - c.first).toNat by omega]
  exact usedK_keep _ (foldl_hit h (by omega) (by simp; omega))

/-! The rebuilt circuit's values. -/
theorem gatesP_nat {c : Cir} {F : Nat} (hF : c.first = F) (hv : c.wide) : gatesP F c.gates := by rw [← hF]; exact hv.gates

theorem evE_getD {k v : Nat} (h : v < k) : (evE k).getD v 0 = 2 * (v : Int) := by
  unfold evE
  rw [List.getD_eq_getElem?_getD, List.getElem?_map, List.getElem?_range h]; rfl

theorem getD_snoc_lt {α : Type} {l : List α} {x d : α} {v : Nat} (h : v < l.length) : (l ++ [x]).getD v d = l.getD v d := by
  simp only [List.getD_eq_getElem?_getD]; rw [List.getElem?_append_left h]

theorem getD_snoc_at {α : Type} {l : List α} {x d : α} {v : Nat} (h : v = l.length) : (l ++ [x]).getD v d = x := by
  subst h
  simp only [List.getD_eq_getElem?_getD]; rw [List.getElem?_append_right (Nat.le_refl _), Nat.sub_self]; rfl

def BldV (c : Cir) (F : Nat) (b : List Bool) (k : Nat) (st : List Gt × List Int) : Prop :=
  ∀ v, v < F + k → okU c v → litB (vN b st.1) (st.2.getD v 0) = (vN b c.gates).getD v false

theorem bStep_val {c : Cir} {F : Nat} (hF : c.first = F) (hv : c.wide) {b : List Bool} (hb : Bs F b) {k : Nat} {g : Gt} (h : c.gates[k]? = some g) {st : List Gt × List Int} (hok : BldOk c.first k st) (hbv : BldV c F b k st) (sh : Bool) :
    BldV c F b (k + 1) (bStep c.first sh (usedL c) st g k) := by
  have hF1 : 1 ≤ c.first := by have := hv.lim.1; unfold Cir.first; omega
  have hp := gatesP_at hv.gates h
  have hm := hok.mlen
  rw [hF] at hok hp hm hF1 ⊢
  have hml : st.2.length = F + k := by omega
  have hgl := hok.gates
  have ma : litP (mapB st.2 g.a) (F + st.1.length) := mapB_litP hok.lits hp.1.1 (by have := hp.1; unfold litP at this; omega)
  have mb : litP (mapB st.2 g.b) (F + st.1.length) := mapB_litP hok.lits hp.2.1 (by have := hp.2; unfold litP at this; omega)
  have hst : ∀ v, v < F + k → litP (st.2.getD v 0) (F + st.1.length) := fun v hv' => by
    obtain ⟨x, hx⟩ := get_of_lt (l := st.2) (k := v) (by omega)
    rw [List.getD_eq_getElem?_getD, hx]
    exact hok.lits x (List.mem_of_getElem? hx)
  unfold bStep
  by_cases hu : (usedL c).getD k false = true
  · rw [if_pos hu]
    obtain ⟨oa, ob⟩ := okU_op hv h hu
    have hva : litB (vN b st.1) (mapB st.2 g.a) = litB (vN b c.gates) g.a := litB_mapB (hbv _ (by have := hp.1; unfold litP at this; omega) oa)
    have hvb : litB (vN b st.1) (mapB st.2 g.b) = litB (vN b c.gates) g.b := litB_mapB (hbv _ (by have := hp.2; unfold litP at this; omega) ob)
    have hvk := vN_gate hb.len (gatesP_nat hF hv) h
    cases sh with
    | true =>
      rw [if_pos rfl]
      intro v hlt ho
      show litB (vN b (andL F st.1 (mapB st.2 g.a) (mapB st.2 g.b)).1) ((st.2 ++ [(andL F st.1 (mapB st.2 g.a) (mapB st.2 g.b)).2]).getD v 0) = _
      by_cases e : v < F + k
      · rw [getD_snoc_lt (by omega), ← hbv v e ho]
        rcases andL_ext F st.1 (mapB st.2 g.a) (mapB st.2 g.b) with h1 | ⟨x, h1, _⟩
        · rw [h1]
        · rw [h1]; exact litB_app hb.len (hst v e)
      · obtain rfl : v = F + k := by omega
        rw [getD_snoc_at (by omega), andL_val hb hgl ma mb, hva, hvb, hvk]
    | false =>
      rw [if_neg (by simp)]
      intro v hlt ho
      show litB (vN b (st.1 ++ [⟨mapB st.2 g.a, mapB st.2 g.b⟩])) ((st.2 ++ [2 * ((F : Int) + (st.1.length : Int))]).getD v 0) = _
      by_cases e : v < F + k
      · rw [getD_snoc_lt (by omega), ← hbv v e ho]
        exact litB_app hb.len (hst v e)
      · obtain rfl : v = F + k := by omega
        rw [getD_snoc_at (by omega), show (2 * ((F : Int) + (st.1.length : Int))) = 2 * ((F + st.1.length : Nat) : Int) by omega, litB_nat, vN_snoc, getD_snoc_at (by rw [vN_length, hb.len]), hva, hvb, hvk]
  · rw [if_neg hu]
    intro v hlt ho
    by_cases e : v < F + k
    · show litB (vN b st.1) ((st.2 ++ [0]).getD v 0) = _
      rw [getD_snoc_lt (by omega)]
      exact hbv v e ho
    · obtain rfl : v = F + k := by omega
      refine absurd (ho (by omega)) ?_
      rw [show F + k - c.first.toNat = k by omega]
      exact hu

theorem bldP_val {c : Cir} {F : Nat} (hF : c.first = F) (hv : c.wide) {b : List Bool} (hb : Bs F b) (sh : Bool) : ∀ k, k ≤ c.gates.length → BldV c F b k (bldP c sh k)
  | 0, _ => fun v hlt _ => by
    show litB (vN b []) ((evE c.first.toNat).getD v 0) = _
    rw [hF, Int.toNat_natCast, evE_getD (by omega), litB_nat]
    obtain ⟨r, hr⟩ := vN_base b c.gates
    rw [hr]
    show b.getD v false = _
    simp only [List.getD_eq_getElem?_getD]
    rw [List.getElem?_append_left (by have := hb.len; omega)]
  | k + 1, hk => by
    obtain ⟨g, hg⟩ := get_of_lt (l := c.gates) (k := k) (by omega)
    rw [bldP_succ hg]
    exact bStep_val hF hv hb hg (bldP_ok hv sh k (by omega)) (bldP_val hF hv hb sh k (by omega)) sh

/-- The roots keep their values. -/
theorem buildC_lit {c : Cir} {F : Nat} (hF : c.first = F) (hv : c.wide) {b : List Bool} (hb : Bs F b) (sh : Bool) {l : Int} (hl : l ∈ c.outs ++ c.next) :
    litB (vN b (buildC sh c).gates) (mapB (bldP c sh c.gates.length).2 l) = litB (vN b c.gates) l := by
  refine litB_mapB (bldP_val hF hv hb sh c.gates.length (Nat.le_refl _) _ ?_ (okU_root hv hl))
  have h1 : litP l c.vars := by
    rcases List.mem_append.1 hl with h | h
    · exact hv.outs l h
    · exact hv.next l h
  have eV : c.vars = c.first + c.gates.length := rfl
  unfold litP at h1
  omega

theorem asgV_Bs {c : Cir} (hv : c.wide) (x : Int) : Bs c.first.toNat (asgV c x) := by
  have h0 := hv.lim.1
  exact ⟨by rw [asgV_length]; unfold Cir.first; omega, rfl⟩

theorem evalV_vN (c : Cir) (x : Int) (val : Bool) : evalV c x (-1) val = vN (asgV c x) c.gates := by
  rw [evalV_no]
  unfold vN
  cases val
  · rfl
  · have : ∀ (gs : List Gt) (b : List Bool), valsV (-1) true b gs = valsV (-1) false b gs := fun gs => by
      induction gs with
      | nil => intro b; rfl
      | cons g gs ih =>
        intro b
        show valsV (-1) true (stepV (-1) true b g) gs = valsV (-1) false (stepV (-1) false b g) gs
        rw [ih]
        unfold stepV
        rw [if_neg (by omega), if_neg (by omega)]
    exact this _ _

theorem buildC_res {c : Cir} (hv : c.wide) (sh : Bool) (x : Int) : resV (buildC sh c) x (-1) false = resV c x (-1) false := by
  have h0 := hv.lim.1
  have hF : c.first = (c.first.toNat : Nat) := by unfold Cir.first; omega
  have hb := asgV_Bs hv x
  have ea : asgV (buildC sh c) x = asgV c x := by unfold asgV buildC; simp
  unfold resV
  rw [evalV_vN, evalV_vN, ea]
  show (c.next.map (mapB (bldP c sh c.gates.length).2) ++ c.outs.map (mapB (bldP c sh c.gates.length).2)).map _ = _
  rw [← List.map_append, List.map_map]
  apply List.map_congr_left
  intro l hl
  exact buildC_lit hF hv hb sh (by rcases List.mem_append.1 hl with h | h <;> simp [h])

theorem optC_res {c : Cir} (hv : c.wide) (x : Int) : resV (optC c) x (-1) false = resV c x (-1) false := by
  unfold optC
  rw [buildC_res (buildC_wide hv true), buildC_res hv]

end Go.Proofs.Ytjecchljhdfjdaa
