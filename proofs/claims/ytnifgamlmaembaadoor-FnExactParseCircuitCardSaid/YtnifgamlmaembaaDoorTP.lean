import Derived.Test.YtnifgamlmaembaaDoorC0
import Derived.Test.YtnifgamlmaembaaDoorTB
namespace Go.Proofs.YtnifgamlmaembaaDoor
set_option linter.unusedVariables false
set_option linter.unusedSimpArgs false
open Go.RowKit

/-! Rows of strings: sizes, copies. -/

theorem mkS3 (w : World) (n : Nat) (h : n ≤ 1048576) : (Instr.makeSlice 27 (.int .i64 (n : Int)) (.int .i64 (n : Int))).run Tryd.prog w = .ok (.slice (some ⟨w.heap.size, 0, none⟩) n n) (w.alloc (.cells (madeCells #[.string ⟨#[]⟩] n) 9)) := by
  obtain ⟨i, hi, h1, h2, h3⟩ := info_parts (P := Tryd.prog) (e := 9) (z := .string ⟨#[]⟩) (size := 1) (bytes := 16) (by kernel_rfl)
  have := run_make (P := Tryd.prog) w 27 9 i (.string ⟨#[]⟩) (by kernel_rfl) hi h1 .i64 .i64 n n (by omega) (by omega) (by rw [h3]; omega) (by omega)
  rw [this, h2]; simp [Value.cells]

set_option maxHeartbeats 400000 in
theorem toStringS_any (s : Option Addr) (cap : Nat) (xs : List Tx) (w : World) (hn : xs.length ≤ 1048576) (hs : Sl w s (strs xs)) :
    Calls Tryd.prog 17 #[.slice s xs.length cap] w fun e w' => e = .returned (.slice (some ⟨w.heap.size, 0, none⟩) xs.length xs.length) ∧
      w'.heap[w.heap.size]? = some (.cells (strs xs).toArray 9 (0, 0)) ∧ w'.heap.size = w.heap.size + 1 ∧ Below w.heap.size w w' := by
  have hmk := fun w => mkS3 w xs.length hn
  have hz : ∀ k, k < xs.length → ∃ x, xs[k]? = some x := fun k hk => ⟨xs[k], by simp [hk]⟩
  generalize hlen : xs.length = n at *
  go_enter Tryd.func17, Tryd.ntmps17
  go_wp2
  go_loopw [4] (fun i wr => ∃ k : Nat, ∃ arr : Array Value, k ≤ n ∧ i = .int .i64 k ∧ arr.size = n ∧ (∀ j, j < k → arr[j]? = (strs xs)[j]?) ∧ wr.heap[w.heap.size]? = some (.cells arr 9 (0, 0)) ∧ wr.heap.size = w.heap.size + 1 ∧ Below w.heap.size w wr) (fun i _ => n - (intOf i).toNat)
  case atStart => exact ⟨0, _, Nat.zero_le _, rfl, size_madeCells _ _, fun j h => by omega, blk_new _ _, by simp, (Below.refl _ _).alloc (Nat.le_refl _) _⟩
  case round =>
    obtain ⟨k, arr, hk, rfl, ha, hj, hb, hz2, hbl⟩ := hrel
    by_cases hlt : k < n
    · obtain ⟨x, hx⟩ := hz k hlt
      obtain ⟨b, off, rfl, hbw, hs⟩ := hs.at (k := k) (by simp [strs_len, hlen, hlt])
      have hc : wr.cell? ⟨b, off + k, none⟩ = some (sv x) := (hbl.cell (by exact hbw)).trans (hs k _ (strs_get hx))
      obtain ⟨y, hy⟩ : ∃ y, arr[k]? = some y := ⟨arr[k], by simp [ha, hlt]⟩
      have hc2 : wr.cell? ⟨w.heap.size, k, none⟩ = some y := (blk_cell hb).trans hy
      have hf2 : wr.frozen? ⟨w.heap.size, k, none⟩ = false := blk_free hb
      unfold sv at hc
      have HR : Hid (_ ∧ _ ∧ _ ∧ _ ∧ _ ∧ _ ∧ _ ∧ _ ∧ _ ∧ _) := Lib.hid ⟨ha, hj, hb, hz2, hbl, hx, hlen, hz, hs, hy⟩
      clear ha hj hb hz2 hbl hx hlen hz hs hy
      go_wp2
      go_outline
      obtain ⟨ha, hj, hb, hz2, hbl, hx, hlen, hz, hs, hy⟩ := HR.out
      go_roundw
      case rel =>
        refine ⟨k + 1, _, by omega, by go_num, ?_, ?_, blk_set hb, by simpa [World.setCell] using hz2, hbl.setCell (Nat.le_refl _) _⟩
        · simp [ha]
        · intro j hj'
          by_cases e : j = k
          · subst e; simp [ha, hlt, strs_get hx, sv]
          · rw [Array.getElem?_setIfInBounds_ne (by omega)]; exact hj j (by omega)
      case measure => simp [intOf]; omega
    · have hk' : k = n := by omega
      have : arr = (strs xs).toArray := by
        apply Array.ext_getElem?
        intro j
        by_cases h : j < k
        · rw [hj j h]; simp
        · rw [Array.getElem?_eq_none (by omega), Array.getElem?_eq_none (by simp [strs_len]; omega)]
      subst this
      have HR : Hid (_ ∧ _ ∧ _ ∧ _) := Lib.hid ⟨hb, hz2, hbl, hlen⟩
      clear hz2 hbl hlen hb ha hj hz
      go_wp2
      go_ret
      exact ⟨rfl, HR.out.1, HR.out.2.1, HR.out.2.2.1⟩

def lensS (ls : List Tx) : Int := (ls.map (fun r => (r.length : Int))).sum
theorem lensS_snoc {rows : List Tx} {k : Nat} {r : Tx} (h : rows[k]? = some r) : lensS (rows.take (k + 1)) = lensS (rows.take k) + r.length := by
  unfold lensS; rw [List.take_add_one, h]; simp
theorem lensS_nonneg (rows : List Tx) : 0 ≤ lensS rows := by
  induction rows with
  | nil => simp [lensS]
  | cons r rows ih => unfold lensS at *; simp; omega
theorem lensS_take_le (rows : List Tx) (k : Nat) : lensS (rows.take k) ≤ lensS rows := by
  have h := List.take_append_drop k rows
  have : lensS rows = lensS (rows.take k) + lensS (rows.drop k) := by
    conv => lhs; rw [← h]
    unfold lensS; rw [List.map_append, List.sum_append]
  have := lensS_nonneg (rows.drop k); omega
theorem lensS_mem {rows : List Tx} {x : Tx} (h : x ∈ rows) : (x.length : Int) ≤ lensS rows := by
  induction rows with
  | nil => cases h
  | cons r rows ih =>
    have h1 := lensS_nonneg rows
    rcases List.mem_cons.1 h with rfl | h
    · unfold lensS at *; simp; omega
    · have := ih h; unfold lensS at *; simp; omega

set_option maxHeartbeats 800000 in
theorem szStringS_any (s : Option Addr) (rows : List Tx) (cap : Nat) (left : Int) (w : World) (h0 : 0 ≤ left) (h1 : left ≤ 1048576) (hs : Sl w s (strs rows))
    (hl : rows.length ≤ 9223372036854775807) (hr : ∀ r ∈ rows, r.length ≤ 9223372036854775807) :
    Calls Tryd.prog 15 #[.slice s rows.length cap, .int .i64 left] w fun e w' => e = .returned (.int .i64 (leftOf left (rows.length + lensS rows))) ∧ Drew w w' := by
  have HS : Hid (Sl w s (strs rows) ∧ ∀ r ∈ rows, r.length ≤ 9223372036854775807) := ⟨hs, hr⟩
  clear hs hr
  by_cases hc : left - rows.length < 0
  · go_enter Tryd.func15, Tryd.ntmps15
    go_wp2
    go_ret
    have := lensS_nonneg rows
    exact ⟨ret_int (by unfold leftOf; split <;> omega), Drew.refl _⟩
  · go_enter Tryd.func15, Tryd.ntmps15
    go_wp2
    go_loopw [1, 5] (fun l i wr => ∃ k : Nat, ∃ m : Int, k ≤ rows.length ∧ i = .int .i64 k ∧ l = .int .i64 m ∧ 0 ≤ m ∧ m ≤ left ∧ m + lensS (rows.take k) = left - rows.length ∧ Drew w wr) (fun _ i _ => rows.length - (intOf i).toNat)
    case atStart => exact ⟨0, _, Nat.zero_le _, rfl, rfl, by omega, by omega, by simp [lensS], Drew.refl _⟩
    case round =>
      obtain ⟨k, m, hk, rfl, rfl, hm0, hm1, hm, hd⟩ := hrel
      have HD := Lib.hid hd
      clear hd
      by_cases hlt : k < rows.length
      · obtain ⟨r, hrk⟩ := get_of_lt hlt
        obtain ⟨b, off, rfl, hbw, hz⟩ := HS.out.1.str (HD.out.below _) hrk
        unfold sv at hz
        have hrl := HS.out.2 r (List.mem_of_getElem? hrk)
        have HR : Hid (_ ∧ _) := Lib.hid ⟨hm, hrk⟩
        clear hm hrk
        by_cases hneg : m - r.length < 0
        · go_wp2_with fail
          go_ret
          obtain ⟨hm, hrk⟩ := HR.out
          have e1 := lensS_snoc hrk
          have e2 := lensS_take_le rows (k + 1)
          exact ⟨ret_int (by unfold leftOf; split <;> omega), HD.out⟩
        · go_wp2_with fail
          go_roundw
          case rel =>
            obtain ⟨hm, hrk⟩ := HR.out
            have e1 := lensS_snoc hrk
            exact ⟨k + 1, _, by omega, by go_num, rfl, by omega, by omega, by omega, HD.out⟩
          case measure => simp [intOf]; omega
      · obtain rfl : k = rows.length := by omega
        rw [List.take_length] at hm
        have HR : Hid (_) := Lib.hid hm
        clear hm
        go_wp2
        go_ret
        exact ⟨ret_int (by have := HR.out; unfold leftOf; split <;> omega), HD.out⟩

end Go.Proofs.YtnifgamlmaembaaDoor
