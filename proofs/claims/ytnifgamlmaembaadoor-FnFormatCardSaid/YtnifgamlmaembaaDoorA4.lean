import Derived.Test.YtnifgamlmaembaaDoorProg
import Derived.Test.YtnifgamlmaembaaDoorM1
import Derived.Test.YtnifgamlmaembaaDoorOA
namespace Go.Proofs.YtnifgamlmaembaaDoor
set_option linter.unusedVariables false
set_option linter.unusedSimpArgs false
open Go.RowKit

theorem mk3 (w : World) (n : Nat) (h : n ≤ 1048576) : (Instr.makeSlice 22 (.int .i64 (n : Int)) (.int .i64 (n : Int))).run Tryd.prog w = .ok (.slice (some ⟨w.heap.size, 0, none⟩) n n) (w.alloc (.cells (madeCells #[.int .i64 0] n) 3)) := by
  obtain ⟨i, hi, h1, h2, h3⟩ := info_parts (P := Tryd.prog) (e := 3) (z := .int .i64 0) (size := 1) (bytes := 8) (by kernel_rfl)
  have := run_make (P := Tryd.prog) w 22 3 i (.int .i64 0) (by kernel_rfl) hi h1 .i64 .i64 n n (by omega) (by omega) (by rw [h3]; omega) (by omega)
  rw [this, h2]; simp [Value.cells]

set_option maxHeartbeats 400000 in
theorem toIntS_any (s : Option Addr) (cap : Nat) (xs : List Int) (w : World) (hn : xs.length ≤ 1048576) (hs : Sl w s (ints xs)) :
    Calls Tryd.prog 30 #[.slice s xs.length cap] w fun e w' => e = .returned (.slice (some ⟨w.heap.size, 0, none⟩) xs.length xs.length) ∧
      w'.heap[w.heap.size]? = some (.cells (ints xs).toArray 3 (0, 0)) ∧ w'.heap.size = w.heap.size + 1 ∧ Below w.heap.size w w' := by
  have hmk := fun w => mk3 w xs.length hn
  have hz : ∀ k, k < xs.length → ∃ x, xs[k]? = some x := fun k hk => ⟨xs[k], by simp [hk]⟩
  generalize hlen : xs.length = n at *
  go_enter Tryd.func30, Tryd.ntmps30
  go_wp2
  go_loopw [4] (fun i wr => ∃ k : Nat, ∃ arr : Array Value, k ≤ n ∧ i = .int .i64 k ∧ arr.size = n ∧ (∀ j, j < k → arr[j]? = (ints xs)[j]?) ∧ wr.heap[w.heap.size]? = some (.cells arr 3 (0, 0)) ∧ wr.heap.size = w.heap.size + 1 ∧ Below w.heap.size w wr) (fun i _ => n - (intOf i).toNat)
  case atStart => exact ⟨0, _, Nat.zero_le _, rfl, size_madeCells _ _, fun j h => by omega, blk_new _ _, by simp, (Below.refl _ _).alloc (Nat.le_refl _) _⟩
  case round =>
    obtain ⟨k, arr, hk, rfl, ha, hj, hb, hz2, hbl⟩ := hrel
    by_cases hlt : k < n
    · obtain ⟨x, hx⟩ := hz k hlt
      obtain ⟨b, off, rfl, hbw, hs⟩ := hs.at (k := k) (by simp [hlen, hlt])
      have hc : wr.cell? ⟨b, off + k, none⟩ = some (.int .i64 x) := (hbl.cell (by exact hbw)).trans (hs k _ (ints_get hx))
      obtain ⟨y, hy⟩ : ∃ y, arr[k]? = some y := ⟨arr[k], by simp [ha, hlt]⟩
      have hc2 : wr.cell? ⟨w.heap.size, k, none⟩ = some y := (blk_cell hb).trans hy
      have hf2 : wr.frozen? ⟨w.heap.size, k, none⟩ = false := blk_free hb
      have HR : Hid (_ ∧ _ ∧ _ ∧ _ ∧ _ ∧ _ ∧ _ ∧ _ ∧ _ ∧ _) := Lib.hid ⟨ha, hj, hb, hz2, hbl, hx, hlen, hz, hs, hy⟩
      clear ha hj hb hz2 hbl hx hlen hz hs hy
      go_wp2
      go_outline
      obtain ⟨ha, hj, hb, hz2, hbl, hx, hlen, hz, hs, hy⟩ := HR.out
      go_roundw
      case rel =>
        refine ⟨k + 1, _, by omega, by go_num, ?_, ?_, blk_set hb, by simpa [World.setCell] using hz2, hbl.setCell (Nat.le_refl _) _⟩
        · simp [ha]
        · intro j hj'
          by_cases e : j = k
          · subst e; simp [ha, hlt, ints_get hx]
          · rw [Array.getElem?_setIfInBounds_ne (by omega)]; exact hj j (by omega)
      case measure => simp [intOf]; omega
    · have hk' : k = n := by omega
      have : arr = (ints xs).toArray := by
        apply Array.ext_getElem?
        intro j
        by_cases h : j < k
        · rw [hj j h]; simp
        · rw [Array.getElem?_eq_none (by omega), Array.getElem?_eq_none (by simp; omega)]
      subst this
      have HR : Hid (_ ∧ _ ∧ _ ∧ _) := Lib.hid ⟨hb, hz2, hbl, hlen⟩
      clear hz2 hbl hlen hb ha hj hz
      go_wp2
      go_ret
      exact ⟨rfl, HR.out.1, HR.out.2.1, HR.out.2.2.1⟩

/-! sizes, copies and comparisons of []int, [][]int; ClausesValid. -/

theorem ret_int {k : IntKind} {a b : Int} (h : a = b) : Ending.returned (.int k a) = .returned (.int k b) := by rw [h]

theorem l1In_any (n lo hi : Int) (w : World) :
    Calls Tryd.prog 52 #[.int .i64 n, .int .i64 lo, .int .i64 hi] w fun e w' => e = .returned (.bool (decide (lo ≤ n ∧ n ≤ hi))) ∧ w = w' := by
  by_cases h : lo ≤ n
  all_goals
    go_enter Tryd.func52, Tryd.ntmps52
    go_wp2
    go_ret
    exact ⟨by simp [h] <;> omega, rfl⟩

/-- What is left of a budget. -/
def leftOf (left total : Int) : Int := if total ≤ left then left - total else -1
theorem leftOf_nonneg {l t : Int} (hl : 0 ≤ l) : 0 ≤ leftOf l t ↔ t ≤ l := by unfold leftOf; split <;> omega

theorem szIntS_any (s : Option Addr) (len cap : Nat) (left : Int) (w : World) (h0 : 0 ≤ left) (h1 : left ≤ 1048576) (hl : len ≤ 9223372036854775807) :
    Calls Tryd.prog 27 #[.slice s len cap, .int .i64 left] w fun e w' => e = .returned (.int .i64 (leftOf left len)) ∧ w = w' := by
  go_enter Tryd.func27, Tryd.ntmps27
  go_wp2
  all_goals
    go_ret
    exact ⟨ret_int (by unfold leftOf; split <;> omega), rfl⟩

/-- A slice of slices of numbers reads as these rows. -/
def SlS (w : World) (s : Option Addr) (rows : List (List Int)) : Prop :=
  ∃ vs : List Value, vs.length = rows.length ∧ Sl w s vs ∧ ∀ (i : Nat) (r : List Int), rows[i]? = some r → ∃ si ci, vs[i]? = some (Value.slice si r.length ci) ∧ Sl w si (ints r)

theorem SlS.row {w wr : World} {s : Option Addr} {rows : List (List Int)} (h : SlS w s rows) (hbl : Below w.heap.size w wr) {k : Nat} {r : List Int} (hr : rows[k]? = some r) :
    ∃ b off si ci, s = some ⟨b, off, none⟩ ∧ b < w.heap.size ∧ wr.cell? ⟨b, off + k, none⟩ = some (.slice si r.length ci) ∧ Sl w si (ints r) := by
  obtain ⟨vs, hv, hs, hrow⟩ := h
  obtain ⟨si, ci, hvk, hsi⟩ := hrow k r hr
  obtain ⟨b, off, rfl, hbw, hcs⟩ := hs.at (k := k) (List.getElem?_eq_some_iff.1 hvk).1
  exact ⟨b, off, si, ci, rfl, hbw, by rw [hbl.cell (by exact hbw)]; exact hcs _ _ hvk, hsi⟩
theorem SlS.mono {w w' : World} {s : Option Addr} {rows : List (List Int)} (h : SlS w s rows) (hb : Below w.heap.size w w') : SlS w' s rows := by
  obtain ⟨vs, hv, hs, hrow⟩ := h
  exact ⟨vs, hv, hs.mono hb, fun i r hr => let ⟨si, ci, h1, h2⟩ := hrow i r hr; ⟨si, ci, h1, h2.mono hb⟩⟩

def lens (rows : List (List Int)) : Int := (rows.map (fun r => (r.length : Int))).sum
theorem lens_nil : lens [] = 0 := rfl
theorem lens_snoc {rows : List (List Int)} {k : Nat} {r : List Int} (h : rows[k]? = some r) : lens (rows.take (k + 1)) = lens (rows.take k) + r.length := by
  unfold lens; rw [List.take_add_one, h]; simp
theorem lens_nonneg (rows : List (List Int)) : 0 ≤ lens rows := by
  induction rows with
  | nil => simp [lens]
  | cons r rows ih => unfold lens at *; simp; omega
theorem lens_take_le (rows : List (List Int)) (k : Nat) : lens (rows.take k) ≤ lens rows := by
  have h := List.take_append_drop k rows
  have : lens rows = lens (rows.take k) + lens (rows.drop k) := by
    conv => lhs; rw [← h]
    unfold lens; rw [List.map_append, List.sum_append]
  have := lens_nonneg (rows.drop k); omega

theorem eqIntS_any (s t : Option Addr) (xs ys : List Int) (cap cap2 : Nat) (w : World) (hs : Sl w s (ints xs)) (ht : Sl w t (ints ys)) (hl : xs.length ≤ 1048576) (hl2 : ys.length ≤ 1048576) :
    Calls Tryd.prog 33 #[.slice s xs.length cap, .slice t ys.length cap2] w fun e w' => e = .returned (.bool (decide (xs = ys))) ∧ Drew w w' := by
  have HS : Hid (Sl w s (ints xs) ∧ Sl w t (ints ys)) := ⟨hs, ht⟩
  clear hs ht
  by_cases hc : xs.length = ys.length
  · rw [← hc]
    generalize hn : xs.length = n at hc hl ⊢
    have HC : Hid (xs.length = n ∧ ys.length = n) := ⟨hn, hc.symm⟩
    clear hc hn hl2
    go_enter Tryd.func33, Tryd.ntmps33
    go_wp2
    go_loopw [5] (fun i wr => ∃ k : Nat, k ≤ n ∧ i = .int .i64 k ∧ xs.take k = ys.take k ∧ Drew w wr) (fun i _ => n - (intOf i).toNat)
    case atStart => exact ⟨0, Nat.zero_le _, rfl, rfl, Drew.refl _⟩
    case round =>
      obtain ⟨k, hk, rfl, htk, hd⟩ := hrel
      have HT : Hid (xs.take k = ys.take k) := htk
      have HD := Lib.hid hd
      clear htk hd
      by_cases hlt : k < n
      · obtain ⟨x, hx⟩ := get_of_lt (l := xs) (k := k) (by have := HC.out; omega)
        obtain ⟨y, hy⟩ := get_of_lt (l := ys) (k := k) (by have := HC.out; omega)
        obtain ⟨b, off, rfl, hbw, hz⟩ := HS.out.1.int (HD.out.below _) hx
        obtain ⟨b2, off2, rfl, hbw2, hz2⟩ := HS.out.2.int (HD.out.below _) hy
        have HR : Hid (_ ∧ _) := Lib.hid ⟨hx, hy⟩
        clear hx hy
        go_wp2
        go_quiet (fail)
        go_wp2
        all_goals obtain ⟨hx, hy⟩ := HR.out
        all_goals first
          | (go_roundw
             case rel => exact ⟨k + 1, by omega, by go_num, by rw [List.take_add_one, List.take_add_one, HT.out, hx, hy]; simp at *; assumption, HD.out.n _⟩
             case measure => simp [intOf]; omega)
          | (go_ret
             refine ⟨ret_bool ?_, HD.out.n _⟩
             symm; rw [decide_eq_false_iff_not]; intro e; subst e; rw [hx] at hy; simp at *; omega)
      · obtain rfl : k = n := by omega
        have he : decide (xs = ys) = true := by
          have h1 := HT.out
          rw [List.take_of_length_le (by have := HC.out; omega), List.take_of_length_le (by have := HC.out; omega)] at h1
          simpa using h1
        have HE := Lib.hid he
        clear he
        go_wp2
        go_ret
        exact ⟨ret_bool HE.out.symm, HD.out⟩
  · have hd : decide (xs = ys) = false := by simp; intro e; exact hc (by rw [e])
    rw [hd]
    clear hd
    go_enter Tryd.func33, Tryd.ntmps33
    go_wp2
    go_ret
    exact ⟨rfl, Drew.refl _⟩

/-! spec: CircuitValid. -/

theorem l1First_any (inp : Int) (sn : Option Addr) (nn cn : Nat) (vg vo : Value) (w : World) (hi : -1000000 ≤ inp ∧ inp ≤ 1000000) (hn : nn ≤ 1048576) :
    Calls Tryd.prog 53 #[.agg #[.int .i64 inp, .slice sn nn cn, vg, vo]] w fun e w' => e = .returned (.int .i64 (1 + inp + nn)) ∧ Below w.heap.size w w' := by
  obtain ⟨hi1, hi2⟩ := hi
  go_enter Tryd.func53, Tryd.ntmps53
  go_wp2
  go_ret
  exact ⟨ret_int (by omega), (Below.refl _ _).alloc (Nat.le_refl _) _⟩

theorem l1Lits_any (s : Option Addr) (cap : Nat) (xs : List Int) (v : Int) (w : World) (hs : Sl w s (ints xs)) (hl : xs.length ≤ 1048576) (hv : -2000000000 ≤ v ∧ v ≤ 2000000000) :
    Calls Tryd.prog 54 #[.slice s xs.length cap, .int .i64 v] w fun e w' => e = .returned (.bool (decide (litsP v xs))) ∧ w = w' := by
  obtain ⟨hv1, hv2⟩ := hv
  have HS := Lib.hid hs
  clear hs
  go_enter Tryd.func54, Tryd.ntmps54
  go_wp2
  go_loop [5] (fun i => ∃ k : Nat, k ≤ xs.length ∧ i = .int .i64 k ∧ litsP v (xs.take k)) (fun i => xs.length - (intOf i).toNat)
  case atStart => exact ⟨0, Nat.zero_le _, rfl, by intro x hx; simp at hx⟩
  case round =>
    obtain ⟨k, hk, rfl, hP⟩ := hrel
    have HP := Lib.hid hP
    clear hP
    by_cases hlt : k < xs.length
    · obtain ⟨x, hx⟩ := get_of_lt hlt
      obtain ⟨b, off, rfl, hbw, hz⟩ := HS.out.int (Below.refl _ _) hx
      have HX := Lib.hid hx
      clear hx
      go_wp2_with (go_at_call 52; refine (l1In_any _ _ _ _).mono ?_; rintro e w' ⟨rfl, rfl⟩)
      all_goals first
        | (go_round
           case rel => exact ⟨k + 1, by omega, by go_num, litsP_snoc HP.out HX.out (by unfold litP; simp at *; omega)⟩
           case measure => simp [intOf]; omega)
        | (go_ret
           exact ⟨ret_bool (decide_eq_false fun h => absurd (h x (List.mem_of_getElem? HX.out)) (by unfold litP; simp at *; omega)).symm, rfl⟩)
    · obtain rfl : k = xs.length := by omega
      have h1 := HP.out
      rw [List.take_length] at h1
      have HP2 := Lib.hid h1
      clear h1
      go_wp2
      go_ret
      exact ⟨ret_bool (decide_eq_true HP2.out).symm, rfl⟩

theorem l1Lits_two (b : Nat) (x y v : Int) (w : World) (h0 : Sl w (some ⟨b, 0, none⟩) (ints [x, y])) (hv : -2000000000 ≤ v ∧ v ≤ 2000000000) :
    Calls Tryd.prog 54 #[.slice (some ⟨b, 0, none⟩) 2 2, .int .i64 v] w fun e w' => e = .returned (.bool (decide (litP x v) && decide (litP y v))) ∧ w = w' := by
  refine (l1Lits_any _ 2 [x, y] v w h0 (by simp) hv).mono ?_
  rintro e w' ⟨rfl, rfl⟩
  exact ⟨ret_bool (by rw [← Bool.decide_and]; exact decide_eq_decide.2 (by unfold litsP; simp)), rfl⟩

set_option maxHeartbeats 400000 in
theorem CircuitValid_s (v : Value) (c : Cir) (w : World) (h : CirV w v c) :
    Calls Tryd.prog 25 #[v] w fun e w' => e = .returned (.bool c.validB) ∧ Below w.heap.size w w' := by
  obtain ⟨sn, cn, sg, cg, so, co, rfl, h1, h2, h3, hl1, hl2, hl3⟩ := h
  by_cases hlim : c.limits
  · obtain ⟨ha, hb, hc, hd, he⟩ := hlim
    have HP : Hid (Sl w sn (ints c.next) ∧ Sl w sg (gcells c.gates) ∧ Sl w so (ints c.outs) ∧ c.limits) := Lib.hid ⟨h1, h2, h3, ha, hb, hc, hd, he⟩
    clear h1 h2 h3 hl1 hl2 hl3
    have e1 : decide (0 ≤ c.inp ∧ c.inp ≤ 4) = true := decide_eq_true ⟨ha, hb⟩
    go_enter Tryd.func25, Tryd.ntmps25
    go_wp2_with (first
      | (go_at_call 52; refine (l1In_any _ _ _ _).mono ?_; rintro e w' ⟨rfl, rfl⟩; rw [e1])
      | (go_at_call 53; refine (l1First_any _ _ _ _ _ _ _ (by omega) (by omega)).mono ?_; rintro e w1 ⟨rfl, hb1⟩; have hB1 := Lib.hid hb1; clear hb1))
    obtain ⟨B0, hB0⟩ : ∃ B0, B0 = w.heap.size := ⟨_, rfl⟩
    have hbk := blk_below hB1.out (by simp) (blk_new w _)
    have hbel : Below w.heap.size w w1 := ((Below.refl _ _).alloc (Nat.le_refl _) _).trans (hB1.out.mono (by simp))
    rw [← hB0] at hbk
    have HB := Lib.hid (And.intro hB0 (And.intro hbk hbel))
    clear hbk hbel hB0
    go_loopw [4] (fun i wr => ∃ k : Nat, k ≤ c.gates.length ∧ i = .int .i64 k ∧ gatesP c.first (c.gates.take k) ∧ Below w1.heap.size w1 wr) (fun i _ => c.gates.length - (intOf i).toNat)
    case atStart => exact ⟨0, Nat.zero_le _, rfl, by intro i hi; simp at hi, Below.refl _ _⟩
    case round =>
      obtain ⟨k, hk, rfl, hg, hbl⟩ := hrel
      have hbk := blk_below hbl (blk_lt HB.out.2.1) HB.out.2.1
      have hbel := HB.out.2.2.trans (hbl.mono HB.out.2.2.size)
      have hC0 : wr.cell? ⟨w.heap.size, 0, none⟩ = some (.int .i64 c.inp) := by rw [← HB.out.1]; exact blk_cell hbk
      have hC1 : wr.cell? ⟨w.heap.size, 1, none⟩ = some (.slice sn c.next.length cn) := by rw [← HB.out.1]; exact blk_cell hbk
      have hC2 : wr.cell? ⟨w.heap.size, 2, none⟩ = some (.slice sg c.gates.length cg) := by rw [← HB.out.1]; exact blk_cell hbk
      have hC3 : wr.cell? ⟨w.heap.size, 3, none⟩ = some (.slice so c.outs.length co) := by rw [← HB.out.1]; exact blk_cell hbk
      by_cases hlt : k < c.gates.length
      · obtain ⟨g, hgk⟩ := get_of_lt hlt
        obtain ⟨b, off, rfl, hbw, hz1, hz2⟩ := HP.out.2.1.gate hbel hgk
        have HR : Hid (_ ∧ _ ∧ _ ∧ _ ∧ _) := Lib.hid ⟨hg, hbk, hbl, hgk, hbw⟩
        clear hg hbk hbl hgk hbw hbel
        have hSl : Hid (∀ W : World, Sl (W.alloc (.cells #[.int .i64 g.a, .int .i64 g.b] 3)).drew (some ⟨W.heap.size, 0, none⟩) (ints [g.a, g.b])) := fun W => (Sl.new W #[.int .i64 g.a, .int .i64 g.b] _).drew
        have hvb : Hid (-2000000000 ≤ 1 + c.inp + (c.next.length : Int) + (k : Int) ∧ 1 + c.inp + (c.next.length : Int) + (k : Int) ≤ 2000000000) := ⟨by omega, by omega⟩
        have hwr : IntKind.i64.wrap (1 + c.inp + (c.next.length : Int) + (k : Int)) = 1 + c.inp + c.next.length + k := IntWalk.i64_in _ ⟨by omega, by omega⟩
        go_wp2_with fail
        go_region_held3 (fun w' => w'.cell? ⟨w.heap.size, 2, none⟩ = some (.slice (some ⟨b, off, none⟩) c.gates.length cg) ∧ w'.cell? ⟨b, off + k * 2, none⟩ = some (.int .i64 g.a) ∧ w'.cell? ⟨b, off + k * 2 + 1, none⟩ = some (.int .i64 g.b))
          (first | go_keep)
          ((first | (go_at_call 54; ((with_reducible refine (l1Lits_two _ _ _ _ _ (hSl.out _) hvb.out).mono ?_); rintro e w' ⟨rfl, rfl⟩))))
        go_wp2
        all_goals obtain ⟨hg, hbk, hbl, hgk, hbw⟩ := HR.out
        all_goals first
          | (go_roundw
             case rel => exact ⟨k + 1, by omega, by go_num, gatesP_snoc hg hgk (by unfold Cir.first; simp at *; simp [*]) (by unfold Cir.first; simp at *; simp [*]), hbl.drew.alloc hbl.size _⟩
             case measure => simp [intOf]; omega)
          | (go_ret
             refine ⟨ret_bool (c.validB_false.2 fun h => ?_).symm, (HB.out.2.2.trans (hbl.mono HB.out.2.2.size)).drew.alloc (Nat.le_trans HB.out.2.2.size hbl.size) _⟩
             have hq := gatesP_at h.gates hgk
             unfold Cir.first at hq
             simp [hq.1, hq.2] at *)
      · obtain rfl : k = c.gates.length := by omega
        rw [List.take_length] at hg
        have hvb : Hid (-2000000000 ≤ 1 + c.inp + (c.next.length : Int) + (c.gates.length : Int) ∧ 1 + c.inp + (c.next.length : Int) + (c.gates.length : Int) ≤ 2000000000) := ⟨by omega, by omega⟩
        have HR : Hid (Sl wr sn (ints c.next) ∧ Sl wr so (ints c.outs) ∧ c.next.length ≤ 1048576 ∧ c.outs.length ≤ 1048576) := ⟨HP.out.1.mono hbel, HP.out.2.2.1.mono hbel, by omega, by have := HP.out.2.2.2.2.2.2.2; omega⟩
        have HE : Hid (gatesP c.first c.gates ∧ Below w.heap.size w wr) := ⟨hg, hbel⟩
        clear hg hbk hbl hbel
        go_wp2_with (first
          | (go_at_call 54; ((with_reducible refine (l1Lits_any _ _ _ _ _ HR.out.1 HR.out.2.2.1 hvb.out).mono ?_); rintro e w' ⟨rfl, rfl⟩))
          | (go_at_call 54; ((with_reducible refine (l1Lits_any _ _ _ _ _ HR.out.2.1 HR.out.2.2.2 hvb.out).mono ?_); rintro e w' ⟨rfl, rfl⟩)))
        all_goals go_ret
        all_goals refine ⟨ret_bool ?_, HE.out.2⟩
        all_goals unfold Cir.validB Cir.vars
        all_goals simp [HP.out.2.2.2, HE.out.1, *]
  · have hf : c.validB = false := c.validB_false.2 fun h => hlim h.1
    rw [hf]
    have H : Hid (¬ c.limits) := Lib.hid hlim
    clear hlim hf
    go_enter Tryd.func25, Tryd.ntmps25
    go_wp2_with (first
      | (go_at_call 52; refine (l1In_any _ _ _ _).mono ?_; rintro e w' ⟨rfl, rfl⟩)
      | (go_at_call 53; fail))
    all_goals first
      | (go_ret; exact ⟨rfl, (Below.refl _ _).alloc (Nat.le_refl _) _⟩)
      | (exfalso; apply H.out; refine ⟨?_, ?_, ?_, ?_, ?_⟩ <;> omega)

end Go.Proofs.YtnifgamlmaembaaDoor
