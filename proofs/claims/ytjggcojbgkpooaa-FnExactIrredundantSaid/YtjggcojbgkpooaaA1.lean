import Derived.Test.YtjggcojbgkpooaaProg
import Derived.Test.YtjggcojbgkpooaaA0
namespace Go.Proofs.Ytjggcojbgkpooaa
set_option linter.unusedVariables false
set_option linter.unusedSimpArgs false
open Go.RowKit

theorem mk3 (w : World) (n : Nat) (h : n ≤ 1048576) : (Instr.makeSlice 23 (.int .i64 (n : Int)) (.int .i64 (n : Int))).run Try.prog w = .ok (.slice (some ⟨w.heap.size, 0, none⟩) n n) (w.alloc (.cells (madeCells #[.int .i64 0] n) 3)) := by
  obtain ⟨i, hi, h1, h2, h3⟩ := info_parts (P := Try.prog) (e := 3) (z := .int .i64 0) (size := 1) (bytes := 8) (by kernel_rfl)
  have := run_make (P := Try.prog) w 23 3 i (.int .i64 0) (by kernel_rfl) hi h1 .i64 .i64 n n (by omega) (by omega) (by rw [h3]; omega) (by omega)
  rw [this, h2]; simp [Value.cells]

set_option maxHeartbeats 400000 in
theorem toIntS_any (s : Option Addr) (cap : Nat) (xs : List Int) (w : World) (hn : xs.length ≤ 1048576) (hs : Sl w s (ints xs)) :
    Calls Try.prog 64 #[.slice s xs.length cap] w fun e w' => e = .returned (.slice (some ⟨w.heap.size, 0, none⟩) xs.length xs.length) ∧
      w'.heap[w.heap.size]? = some (.cells (ints xs).toArray 3 (0, 0)) ∧ w'.heap.size = w.heap.size + 1 ∧ Below w.heap.size w w' := by
  have hmk := fun w => mk3 w xs.length hn
  have hz : ∀ k, k < xs.length → ∃ x, xs[k]? = some x := fun k hk => ⟨xs[k], by simp [hk]⟩
  generalize hlen : xs.length = n at *
  go_enter Try.func64, Try.ntmps64
  go_wp2
  go_loopw [4] (fun i wr => ∃ k : Nat, ∃ arr : Array Value, k ≤ n ∧ i = .int .i64 k ∧ arr.size = n ∧ (∀ j, j < k → arr[j]? = (ints xs)[j]?) ∧ wr.heap[w.heap.size]? = some (.cells arr 3 (0, 0)) ∧ wr.heap.size = w.heap.size + 1 ∧ Below w.heap.size w wr) (fun i _ => n - (intOf i).toNat)
  case atStart => exact ⟨0, _, Nat.zero_le _, rfl, size_madeCells _ _, fun j h => by omega, blk_new _ _, by simp, (Below.refl _ _).alloc (Nat.le_refl _) _⟩
  case round =>
    obtain ⟨k, arr, hk, rfl, ha, hj, hb, hz2, hbl⟩ := hrel
    by_cases hlt : k < n
    · obtain ⟨x, hx⟩ := hz k hlt
      obtain ⟨b, off, rfl, hbw, hs⟩ := hs.at (k := k) (by simp [hlen, hlt])
      have hc : wr.cell? ⟨b, off + k, none⟩ = some (.int .i64 x) := (hbl.cell (by exact hbw)).trans (hs k _ (ints_get hx))
      obtain ⟨y, hy⟩ : ∃ y, arr[k]? = some y := ⟨arr[k], by simp [ha, hlt]⟩
      have hc2 : wr.cell? ⟨w.heap.size, k, none⟩ = some y := (blk_cell hb).trans hy
      have hf2 : wr.frozen? ⟨w.heap.size, k, none⟩ = false := blk_free hb
      have HR : Hid (_ ∧ _ ∧ _ ∧ _ ∧ _ ∧ _ ∧ _ ∧ _ ∧ _ ∧ _) := Lib.hid ⟨ha, hj, hb, hz2, hbl, hx, hlen, hz, hs, hy⟩
      clear ha hj hb hz2 hbl hx hlen hz hs hy
      go_wp2
      go_outline
      obtain ⟨ha, hj, hb, hz2, hbl, hx, hlen, hz, hs, hy⟩ := HR.out
      go_roundw
      case rel =>
        refine ⟨k + 1, _, by omega, by go_num, ?_, ?_, blk_set hb, by simpa [World.setCell] using hz2, hbl.setCell (Nat.le_refl _) _⟩
        · simp [ha]
        · intro j hj'
          by_cases e : j = k
          · subst e; simp [ha, hlt, ints_get hx]
          · rw [Array.getElem?_setIfInBounds_ne (by omega)]; exact hj j (by omega)
      case measure => simp [intOf]; omega
    · have hk' : k = n := by omega
      have : arr = (ints xs).toArray := by
        apply Array.ext_getElem?
        intro j
        by_cases h : j < k
        · rw [hj j h]; simp
        · rw [Array.getElem?_eq_none (by omega), Array.getElem?_eq_none (by simp; omega)]
      subst this
      have HR : Hid (_ ∧ _ ∧ _ ∧ _) := Lib.hid ⟨hb, hz2, hbl, hlen⟩
      clear hz2 hbl hlen hb ha hj hz
      go_wp2
      go_ret
      exact ⟨rfl, HR.out.1, HR.out.2.1, HR.out.2.2.1⟩

end Go.Proofs.Ytjggcojbgkpooaa
