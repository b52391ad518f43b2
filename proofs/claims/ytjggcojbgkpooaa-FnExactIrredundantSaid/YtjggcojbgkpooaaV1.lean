import Derived.Test.YtjggcojbgkpooaaV0
import Derived.Test.YtjggcojbgkpooaaB1
import Derived.Laws.CopyOwn
namespace Go.Proofs.Ytjggcojbgkpooaa
set_option linter.unusedVariables false
set_option linter.unusedSimpArgs false
open Go.RowKit

/-! Values of a circuit's variables: the program's walks. -/

theorem elem_bool : ElemOf Try.prog 69 4 (.bool false) 1 1 :=
  ⟨by kernel_rfl, info_parts (by kernel_rfl), rfl, by omega⟩

theorem mkBools (w : World) (n : Nat) (h : n ≤ 1048576) : (Instr.makeSlice 69 (.int .i64 (n : Int)) (.int .i64 (n : Int))).run Try.prog w = .ok (.slice (some ⟨w.heap.size, 0, none⟩) n n) (w.alloc (.cells (bools (List.replicate n false)).toArray 4)) := by
  obtain ⟨i, hi, h1, h2, h3⟩ := info_parts (P := Try.prog) (e := 4) (z := .bool false) (size := 1) (bytes := 1) (by kernel_rfl)
  have := run_make (P := Try.prog) w 69 4 i (.bool false) (by kernel_rfl) hi h1 .i64 .i64 n n (by omega) (by omega) (by rw [h3]; omega) (by omega)
  rw [this, h2]
  have e : madeCells #[Value.bool false] n = (bools (List.replicate n false)).toArray := by
    apply Array.ext'
    rw [toList_madeCells_one]; simp [bools]
  simp [Value.cells, e]
theorem bools_set (xs : List Bool) (p : Nat) (v : Bool) : (bools xs).toArray.setIfInBounds p (.bool v) = (bools (xs.set p v)).toArray := by
  apply Array.ext'
  simp [bools, List.map_set]
theorem bools_cell {w : World} {g p : Nat} {xs : List Bool} {t : TypeId} {x : Bool} (h : w.heap[g]? = some (.cells (bools xs).toArray t (0, 0))) (hx : xs[p]? = some x) : w.cell? ⟨g, p, none⟩ = some (.bool x) := by
  rw [blk_cell h]; simpa using bools_get hx
theorem bools_blk_set {w : World} {g : Nat} {xs : List Bool} {t : TypeId} (h : w.heap[g]? = some (.cells (bools xs).toArray t (0, 0))) (p : Nat) (v : Bool) : (w.setCell ⟨g, p, none⟩ (.bool v)).heap[g]? = some (.cells (bools (xs.set p v)).toArray t (0, 0)) := by
  rw [← bools_set]; exact blk_set h
theorem Sl.toB {w : World} {g : Nat} {xs : List Bool} {t : TypeId} {fz : Nat × Nat} (h : w.heap[g]? = some (.cells (bools xs).toArray t fz)) : Sl w (some ⟨g, 0, none⟩) (bools xs) := by
  have := Sl.blk h; simpa using this

theorem litB_eq {vs : List Bool} {l : Int} {p : Nat} {x : Bool} (hp : l / 2 = (p : Int)) (hx : vs[p]? = some x) : litB vs l = (x != decide (l % 2 = 1)) := by
  unfold litB
  rw [hp, Int.toNat_natCast, List.getD_eq_getElem?_getD, hx]; rfl

theorem litValue_any (s : Option Addr) (vs : List Bool) (cap : Nat) (l : Int) (w : World) (h : Sl w s (bools vs)) (h0 : 0 ≤ l) (h1 : l ≤ 1000000) (h2 : l / 2 < vs.length) :
    Calls Try.prog 92 #[.slice s vs.length cap, .int .i64 l] w fun e w' => e = .returned (.bool (litB vs l)) ∧ w = w' := by
  obtain ⟨p, hp⟩ : ∃ p : Nat, l / 2 = p := ⟨(l / 2).toNat, by omega⟩
  have p2 : p < vs.length := by omega
  obtain ⟨x, hx⟩ := get_of_lt p2
  obtain ⟨b, off, rfl, hbw, hz⟩ := h.bool (Below.refl _ _) hx
  rw [litB_eq hp hx]
  have hand := i64_and1 l
  have H := Lib.hid (And.intro h hx)
  clear h hx h2
  go_enter Try.func92, Try.ntmps92
  go_wp2
  go_ret
  exact ⟨rfl, rfl⟩

set_option maxHeartbeats 400000 in
theorem bitsOf_any (x : Int) (n : Nat) (w : World) (h0 : 0 ≤ x) (h1 : x ≤ 1000000) (hn : n ≤ 20) :
    Calls Try.prog 113 #[.int .i64 x, .int .i64 n] w fun e w' => ∃ s, e = .returned (.slice s n n) ∧ Sl w' s (bools (bitsV x n)) ∧ Below w.heap.size w w' := by
  have hmk := fun w => mkBools w n (by omega)
  go_enter Try.func113, Try.ntmps113
  go_wp2
  go_loopw [11] (fun i wr => ∃ k : Nat, k ≤ n ∧ i = .int .i64 k ∧ wr.heap[w.heap.size]? = some (.cells (bools (bitsV x k ++ List.replicate (n - k) false)).toArray 4 (0, 0)) ∧ Below w.heap.size w wr) (fun i _ => n - (intOf i).toNat)
  case atStart => exact ⟨0, Nat.zero_le _, rfl, blk_new _ _, (Below.refl _ _).alloc (Nat.le_refl _) _⟩
  case round =>
    obtain ⟨k, hk, rfl, hb, hbl⟩ := hrel
    by_cases hlt : k < n
    · have hlen : (bitsV x k ++ List.replicate (n - k) false).length = n := by simp [bitsV_length]; omega
      obtain ⟨y, hy⟩ := get_of_lt (l := bitsV x k ++ List.replicate (n - k) false) (k := k) (by omega)
      have hc := bools_cell hb hy
      have hf : wr.frozen? ⟨w.heap.size, k, none⟩ = false := blk_free hb
      have hpw : (1 : Int) ≤ 2 ^ k := by have : (0 : Int) < 2 ^ k := Int.pow_pos (by decide); omega
      have q1 : 0 ≤ x / 2 ^ k := Int.ediv_nonneg h0 (by omega)
      have q2 : x / 2 ^ k ≤ 1000000 := Int.le_trans (Int.ediv_le_self _ h0) h1
      have hand := i64_and1 (x / 2 ^ k)
      have HR := Lib.hid (And.intro hb (And.intro hbl hpw))
      clear hb hbl hpw hy hlen
      go_wp2
      obtain ⟨hb, hbl, hpw⟩ := HR.out
      go_roundw
      case rel =>
        refine ⟨k + 1, by omega, by go_num, ?_, hbl.setCell (Nat.le_refl _) _⟩
        have := bools_blk_set hb k (decide (x / 2 ^ k % 2 = 1))
        rw [List.set_append_right _ _ (by rw [bitsV_length]; exact Nat.le_refl _), bitsV_length, Nat.sub_self, show n - k = n - (k + 1) + 1 from by omega, List.replicate_succ, List.set_cons_zero] at this
        rw [bitsV_snoc, List.append_assoc]
        exact this
      case measure => simp [intOf]; omega
    · obtain rfl : k = n := by omega
      rw [Nat.sub_self] at hb
      have HR := Lib.hid (And.intro hb hbl)
      clear hb hbl
      go_wp2
      go_ret
      exact ⟨_, rfl, by have := Sl.toB HR.out.1; simpa using this, HR.out.2⟩

end Go.Proofs.Ytjggcojbgkpooaa
