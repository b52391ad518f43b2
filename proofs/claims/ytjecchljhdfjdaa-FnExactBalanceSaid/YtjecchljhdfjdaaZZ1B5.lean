import Derived.Test.YtjecchljhdfjdaaZZ1OA
import Derived.Test.YtjecchljhdfjdaaProg
namespace Go.Proofs.Ytjecchljhdfjdaa
set_option linter.unusedVariables false
set_option linter.unusedSimpArgs false
open Go.RowKit

/-! Part of the proof of one law. -/

theorem mk3 (w : World) (n : Nat) (h : n ≤ 1048576) : (Instr.makeSlice 26 (.int .i64 (n : Int)) (.int .i64 (n : Int))).run Try.prog w = .ok (.slice (some ⟨w.heap.size, 0, none⟩) n n) (w.alloc (.cells (madeCells #[.int .i64 0] n) 3)) := by
  obtain ⟨i, hi, h1, h2, h3⟩ := info_parts (P := Try.prog) (e := 3) (z := .int .i64 0) (size := 1) (bytes := 8) (by kernel_rfl)
  have := run_make (P := Try.prog) w 26 3 i (.int .i64 0) (by kernel_rfl) hi h1 .i64 .i64 n n (by omega) (by omega) (by rw [h3]; omega) (by omega)
  rw [this, h2]; simp [Value.cells]

set_option maxHeartbeats 400000 in
theorem toIntS_any (s : Option Addr) (cap : Nat) (xs : List Int) (w : World) (hn : xs.length ≤ 1048576) (hs : Sl w s (ints xs)) :
    Calls Try.prog 50 #[.slice s xs.length cap] w fun e w' => e = .returned (.slice (some ⟨w.heap.size, 0, none⟩) xs.length xs.length) ∧
      w'.heap[w.heap.size]? = some (.cells (ints xs).toArray 3 (0, 0)) ∧ w'.heap.size = w.heap.size + 1 ∧ Below w.heap.size w w' := by
  have hmk := fun w => mk3 w xs.length hn
  have hz : ∀ k, k < xs.length → ∃ x, xs[k]? = some x := fun k hk => ⟨xs[k], by simp [hk]⟩
  generalize hlen : xs.length = n at *
  go_enter Try.func50, Try.ntmps50
  go_wp2
  go_loopw [4] (fun i wr => ∃ k : Nat, ∃ arr : Array Value, k ≤ n ∧ i = .int .i64 k ∧ arr.size = n ∧ (∀ j, j < k → arr[j]? = (ints xs)[j]?) ∧ wr.heap[w.heap.size]? = some (.cells arr 3 (0, 0)) ∧ wr.heap.size = w.heap.size + 1 ∧ Below w.heap.size w wr) (fun i _ => n - (intOf i).toNat)
  case atStart => exact ⟨0, _, Nat.zero_le _, rfl, size_madeCells _ _, fun j h => by omega, blk_new _ _, by simp, (Below.refl _ _).alloc (Nat.le_refl _) _⟩
  case round =>
    obtain ⟨k, arr, hk, rfl, ha, hj, hb, hz2, hbl⟩ := hrel
    by_cases hlt : k < n
    · obtain ⟨x, hx⟩ := hz k hlt
      obtain ⟨b, off, rfl, hbw, hs⟩ := hs.at (k := k) (by simp [hlen, hlt])
      have hc : wr.cell? ⟨b, off + k, none⟩ = some (.int .i64 x) := (hbl.cell (by exact hbw)).trans (hs k _ (ints_get hx))
      obtain ⟨y, hy⟩ : ∃ y, arr[k]? = some y := ⟨arr[k], by simp [ha, hlt]⟩
      have hc2 : wr.cell? ⟨w.heap.size, k, none⟩ = some y := (blk_cell hb).trans hy
      have hf2 : wr.frozen? ⟨w.heap.size, k, none⟩ = false := blk_free hb
      have HR : Hid (_ ∧ _ ∧ _ ∧ _ ∧ _ ∧ _ ∧ _ ∧ _ ∧ _ ∧ _) := Lib.hid ⟨ha, hj, hb, hz2, hbl, hx, hlen, hz, hs, hy⟩
      clear ha hj hb hz2 hbl hx hlen hz hs hy
      go_wp2
      go_outline
      obtain ⟨ha, hj, hb, hz2, hbl, hx, hlen, hz, hs, hy⟩ := HR.out
      go_roundw
      case rel =>
        refine ⟨k + 1, _, by omega, by go_num, ?_, ?_, blk_set hb, by simpa [World.setCell] using hz2, hbl.setCell (Nat.le_refl _) _⟩
        · simp [ha]
        · intro j hj'
          by_cases e : j = k
          · subst e; simp [ha, hlt, ints_get hx]
          · rw [Array.getElem?_setIfInBounds_ne (by omega)]; exact hj j (by omega)
      case measure => simp [intOf]; omega
    · have hk' : k = n := by omega
      have : arr = (ints xs).toArray := by
        apply Array.ext_getElem?
        intro j
        by_cases h : j < k
        · rw [hj j h]; simp
        · rw [Array.getElem?_eq_none (by omega), Array.getElem?_eq_none (by simp; omega)]
      subst this
      have HR : Hid (_ ∧ _ ∧ _ ∧ _) := Lib.hid ⟨hb, hz2, hbl, hlen⟩
      clear hz2 hbl hlen hb ha hj hz
      go_wp2
      go_ret
      exact ⟨rfl, HR.out.1, HR.out.2.1, HR.out.2.2.1⟩

/-! sizes, copies and comparisons of []int, [][]int; ClausesValid. -/

theorem ret_int {k : IntKind} {a b : Int} (h : a = b) : Ending.returned (.int k a) = .returned (.int k b) := by rw [h]

theorem l1In_any (n lo hi : Int) (w : World) :
    Calls Try.prog 61 #[.int .i64 n, .int .i64 lo, .int .i64 hi] w fun e w' => e = .returned (.bool (decide (lo ≤ n ∧ n ≤ hi))) ∧ w = w' := by
  by_cases h : lo ≤ n
  all_goals
    go_enter Try.func61, Try.ntmps61
    go_wp2
    go_ret
    exact ⟨by simp [h] <;> omega, rfl⟩

/-- What is left of a budget. -/
def leftOf (left total : Int) : Int := if total ≤ left then left - total else -1

theorem szIntS_any (s : Option Addr) (len cap : Nat) (left : Int) (w : World) (h0 : 0 ≤ left) (h1 : left ≤ 1048576) (hl : len ≤ 9223372036854775807) :
    Calls Try.prog 41 #[.slice s len cap, .int .i64 left] w fun e w' => e = .returned (.int .i64 (leftOf left len)) ∧ w = w' := by
  go_enter Try.func41, Try.ntmps41
  go_wp2
  all_goals
    go_ret
    exact ⟨ret_int (by unfold leftOf; split <;> omega), rfl⟩

/-- A slice of slices of numbers reads as these rows. -/
def SlS (w : World) (s : Option Addr) (rows : List (List Int)) : Prop :=
  ∃ vs : List Value, vs.length = rows.length ∧ Sl w s vs ∧ ∀ (i : Nat) (r : List Int), rows[i]? = some r → ∃ si ci, vs[i]? = some (Value.slice si r.length ci) ∧ Sl w si (ints r)

theorem SlS.mono {w w' : World} {s : Option Addr} {rows : List (List Int)} (h : SlS w s rows) (hb : Below w.heap.size w w') : SlS w' s rows := by
  obtain ⟨vs, hv, hs, hrow⟩ := h
  exact ⟨vs, hv, hs.mono hb, fun i r hr => let ⟨si, ci, h1, h2⟩ := hrow i r hr; ⟨si, ci, h1, h2.mono hb⟩⟩

theorem eqIntS_any (s t : Option Addr) (xs ys : List Int) (cap cap2 : Nat) (w : World) (hs : Sl w s (ints xs)) (ht : Sl w t (ints ys)) (hl : xs.length ≤ 1048576) (hl2 : ys.length ≤ 1048576) :
    Calls Try.prog 52 #[.slice s xs.length cap, .slice t ys.length cap2] w fun e w' => e = .returned (.bool (decide (xs = ys))) ∧ Drew w w' := by
  have HS : Hid (Sl w s (ints xs) ∧ Sl w t (ints ys)) := ⟨hs, ht⟩
  clear hs ht
  by_cases hc : xs.length = ys.length
  · rw [← hc]
    generalize hn : xs.length = n at hc hl ⊢
    have HC : Hid (xs.length = n ∧ ys.length = n) := ⟨hn, hc.symm⟩
    clear hc hn hl2
    go_enter Try.func52, Try.ntmps52
    go_wp2
    go_loopw [5] (fun i wr => ∃ k : Nat, k ≤ n ∧ i = .int .i64 k ∧ xs.take k = ys.take k ∧ Drew w wr) (fun i _ => n - (intOf i).toNat)
    case atStart => exact ⟨0, Nat.zero_le _, rfl, rfl, Drew.refl _⟩
    case round =>
      obtain ⟨k, hk, rfl, htk, hd⟩ := hrel
      have HT : Hid (xs.take k = ys.take k) := htk
      have HD := Lib.hid hd
      clear htk hd
      by_cases hlt : k < n
      · obtain ⟨x, hx⟩ := get_of_lt (l := xs) (k := k) (by have := HC.out; omega)
        obtain ⟨y, hy⟩ := get_of_lt (l := ys) (k := k) (by have := HC.out; omega)
        obtain ⟨b, off, rfl, hbw, hz⟩ := HS.out.1.int (HD.out.below _) hx
        obtain ⟨b2, off2, rfl, hbw2, hz2⟩ := HS.out.2.int (HD.out.below _) hy
        have HR : Hid (_ ∧ _) := Lib.hid ⟨hx, hy⟩
        clear hx hy
        go_wp2
        go_quiet (fail)
        go_wp2
        all_goals obtain ⟨hx, hy⟩ := HR.out
        all_goals first
          | (go_roundw
             case rel => exact ⟨k + 1, by omega, by go_num, by rw [List.take_add_one, List.take_add_one, HT.out, hx, hy]; simp at *; assumption, HD.out.n _⟩
             case measure => simp [intOf]; omega)
          | (go_ret
             refine ⟨ret_bool ?_, HD.out.n _⟩
             symm; rw [decide_eq_false_iff_not]; intro e; subst e; rw [hx] at hy; simp at *; omega)
      · obtain rfl : k = n := by omega
        have he : decide (xs = ys) = true := by
          have h1 := HT.out
          rw [List.take_of_length_le (by have := HC.out; omega), List.take_of_length_le (by have := HC.out; omega)] at h1
          simpa using h1
        have HE := Lib.hid he
        clear he
        go_wp2
        go_ret
        exact ⟨ret_bool HE.out.symm, HD.out⟩
  · have hd : decide (xs = ys) = false := by simp; intro e; exact hc (by rw [e])
    rw [hd]
    clear hd
    go_enter Try.func52, Try.ntmps52
    go_wp2
    go_ret
    exact ⟨rfl, Drew.refl _⟩

/-! spec: CircuitValid. -/

theorem l1First_any (inp : Int) (sn : Option Addr) (nn cn : Nat) (vg vo : Value) (w : World) (hi : -1000000 ≤ inp ∧ inp ≤ 1000000) (hn : nn ≤ 1048576) :
    Calls Try.prog 44 #[.agg #[.int .i64 inp, .slice sn nn cn, vg, vo]] w fun e w' => e = .returned (.int .i64 (1 + inp + nn)) ∧ Below w.heap.size w w' := by
  obtain ⟨hi1, hi2⟩ := hi
  go_enter Try.func44, Try.ntmps44
  go_wp2
  go_ret
  exact ⟨ret_int (by omega), (Below.refl _ _).alloc (Nat.le_refl _) _⟩

theorem l1Lits_any (s : Option Addr) (cap : Nat) (xs : List Int) (v : Int) (w : World) (hs : Sl w s (ints xs)) (hl : xs.length ≤ 1048576) (hv : -2000000000 ≤ v ∧ v ≤ 2000000000) :
    Calls Try.prog 62 #[.slice s xs.length cap, .int .i64 v] w fun e w' => e = .returned (.bool (decide (litsP v xs))) ∧ w = w' := by
  obtain ⟨hv1, hv2⟩ := hv
  have HS := Lib.hid hs
  clear hs
  go_enter Try.func62, Try.ntmps62
  go_wp2
  go_loop [5] (fun i => ∃ k : Nat, k ≤ xs.length ∧ i = .int .i64 k ∧ litsP v (xs.take k)) (fun i => xs.length - (intOf i).toNat)
  case atStart => exact ⟨0, Nat.zero_le _, rfl, by intro x hx; simp at hx⟩
  case round =>
    obtain ⟨k, hk, rfl, hP⟩ := hrel
    have HP := Lib.hid hP
    clear hP
    by_cases hlt : k < xs.length
    · obtain ⟨x, hx⟩ := get_of_lt hlt
      obtain ⟨b, off, rfl, hbw, hz⟩ := HS.out.int (Below.refl _ _) hx
      have HX := Lib.hid hx
      clear hx
      go_wp2_with (go_at_call 61; refine (l1In_any _ _ _ _).mono ?_; rintro e w' ⟨rfl, rfl⟩)
      all_goals first
        | (go_round
           case rel => exact ⟨k + 1, by omega, by go_num, litsP_snoc HP.out HX.out (by unfold litP; simp at *; omega)⟩
           case measure => simp [intOf]; omega)
        | (go_ret
           exact ⟨ret_bool (decide_eq_false fun h => absurd (h x (List.mem_of_getElem? HX.out)) (by unfold litP; simp at *; omega)).symm, rfl⟩)
    · obtain rfl : k = xs.length := by omega
      have h1 := HP.out
      rw [List.take_length] at h1
      have HP2 := Lib.hid h1
      clear h1
      go_wp2
      go_ret
      exact ⟨ret_bool (decide_eq_true HP2.out).symm, rfl⟩

theorem l1Lits_two (b : Nat) (x y v : Int) (w : World) (h0 : Sl w (some ⟨b, 0, none⟩) (ints [x, y])) (hv : -2000000000 ≤ v ∧ v ≤ 2000000000) :
    Calls Try.prog 62 #[.slice (some ⟨b, 0, none⟩) 2 2, .int .i64 v] w fun e w' => e = .returned (.bool (decide (litP x v) && decide (litP y v))) ∧ w = w' := by
  refine (l1Lits_any _ 2 [x, y] v w h0 (by simp) hv).mono ?_
  rintro e w' ⟨rfl, rfl⟩
  exact ⟨ret_bool (by rw [← Bool.decide_and]; exact decide_eq_decide.2 (by unfold litsP; simp)), rfl⟩

set_option maxHeartbeats 400000 in
theorem CircuitValid_s (v : Value) (c : Cir) (w : World) (h : CirV w v c) :
    Calls Try.prog 20 #[v] w fun e w' => e = .returned (.bool c.validB) ∧ Below w.heap.size w w' := by
  obtain ⟨sn, cn, sg, cg, so, co, rfl, h1, h2, h3, hl1, hl2, hl3⟩ := h
  by_cases hlim : c.limits
  · obtain ⟨ha, hb, hc, hd, he⟩ := hlim
    have HP : Hid (Sl w sn (ints c.next) ∧ Sl w sg (gcells c.gates) ∧ Sl w so (ints c.outs) ∧ c.limits) := Lib.hid ⟨h1, h2, h3, ha, hb, hc, hd, he⟩
    clear h1 h2 h3 hl1 hl2 hl3
    have e1 : decide (0 ≤ c.inp ∧ c.inp ≤ 4) = true := decide_eq_true ⟨ha, hb⟩
    go_enter Try.func20, Try.ntmps20
    go_wp2_with (first
      | (go_at_call 61; refine (l1In_any _ _ _ _).mono ?_; rintro e w' ⟨rfl, rfl⟩; rw [e1])
      | (go_at_call 44; refine (l1First_any _ _ _ _ _ _ _ (by omega) (by omega)).mono ?_; rintro e w1 ⟨rfl, hb1⟩; have hB1 := Lib.hid hb1; clear hb1))
    obtain ⟨B0, hB0⟩ : ∃ B0, B0 = w.heap.size := ⟨_, rfl⟩
    have hbk := blk_below hB1.out (by simp) (blk_new w _)
    have hbel : Below w.heap.size w w1 := ((Below.refl _ _).alloc (Nat.le_refl _) _).trans (hB1.out.mono (by simp))
    rw [← hB0] at hbk
    have HB := Lib.hid (And.intro hB0 (And.intro hbk hbel))
    clear hbk hbel hB0
    go_loopw [4] (fun i wr => ∃ k : Nat, k ≤ c.gates.length ∧ i = .int .i64 k ∧ gatesP c.first (c.gates.take k) ∧ Below w1.heap.size w1 wr) (fun i _ => c.gates.length - (intOf i).toNat)
    case atStart => exact ⟨0, Nat.zero_le _, rfl, by intro i hi; simp at hi, Below.refl _ _⟩
    case round =>
      obtain ⟨k, hk, rfl, hg, hbl⟩ := hrel
      have hbk := blk_below hbl (blk_lt HB.out.2.1) HB.out.2.1
      have hbel := HB.out.2.2.trans (hbl.mono HB.out.2.2.size)
      have hC0 : wr.cell? ⟨w.heap.size, 0, none⟩ = some (.int .i64 c.inp) := by rw [← HB.out.1]; exact blk_cell hbk
      have hC1 : wr.cell? ⟨w.heap.size, 1, none⟩ = some (.slice sn c.next.length cn) := by rw [← HB.out.1]; exact blk_cell hbk
      have hC2 : wr.cell? ⟨w.heap.size, 2, none⟩ = some (.slice sg c.gates.length cg) := by rw [← HB.out.1]; exact blk_cell hbk
      have hC3 : wr.cell? ⟨w.heap.size, 3, none⟩ = some (.slice so c.outs.length co) := by rw [← HB.out.1]; exact blk_cell hbk
      by_cases hlt : k < c.gates.length
      · obtain ⟨g, hgk⟩ := get_of_lt hlt
        obtain ⟨b, off, rfl, hbw, hz1, hz2⟩ := HP.out.2.1.gate hbel hgk
        have HR : Hid (_ ∧ _ ∧ _ ∧ _ ∧ _) := Lib.hid ⟨hg, hbk, hbl, hgk, hbw⟩
        clear hg hbk hbl hgk hbw hbel
        have hSl : Hid (∀ W : World, Sl (W.alloc (.cells #[.int .i64 g.a, .int .i64 g.b] 3)).drew (some ⟨W.heap.size, 0, none⟩) (ints [g.a, g.b])) := fun W => (Sl.new W #[.int .i64 g.a, .int .i64 g.b] _).drew
        have hvb : Hid (-2000000000 ≤ 1 + c.inp + (c.next.length : Int) + (k : Int) ∧ 1 + c.inp + (c.next.length : Int) + (k : Int) ≤ 2000000000) := ⟨by omega, by omega⟩
        have hwr : IntKind.i64.wrap (1 + c.inp + (c.next.length : Int) + (k : Int)) = 1 + c.inp + c.next.length + k := IntWalk.i64_in _ ⟨by omega, by omega⟩
        go_wp2_with fail
        go_region_held3 (fun w' => w'.cell? ⟨w.heap.size, 2, none⟩ = some (.slice (some ⟨b, off, none⟩) c.gates.length cg) ∧ w'.cell? ⟨b, off + k * 2, none⟩ = some (.int .i64 g.a) ∧ w'.cell? ⟨b, off + k * 2 + 1, none⟩ = some (.int .i64 g.b))
          (first | go_keep)
          ((first | (go_at_call 62; ((with_reducible refine (l1Lits_two _ _ _ _ _ (hSl.out _) hvb.out).mono ?_); rintro e w' ⟨rfl, rfl⟩))))
        go_wp2
        all_goals obtain ⟨hg, hbk, hbl, hgk, hbw⟩ := HR.out
        all_goals first
          | (go_roundw
             case rel => exact ⟨k + 1, by omega, by go_num, gatesP_snoc hg hgk (by unfold Cir.first; simp at *; simp [*]) (by unfold Cir.first; simp at *; simp [*]), hbl.drew.alloc hbl.size _⟩
             case measure => simp [intOf]; omega)
          | (go_ret
             refine ⟨ret_bool (c.validB_false.2 fun h => ?_).symm, (HB.out.2.2.trans (hbl.mono HB.out.2.2.size)).drew.alloc (Nat.le_trans HB.out.2.2.size hbl.size) _⟩
             have hq := gatesP_at h.gates hgk
             unfold Cir.first at hq
             simp [hq.1, hq.2] at *)
      · obtain rfl : k = c.gates.length := by omega
        rw [List.take_length] at hg
        have hvb : Hid (-2000000000 ≤ 1 + c.inp + (c.next.length : Int) + (c.gates.length : Int) ∧ 1 + c.inp + (c.next.length : Int) + (c.gates.length : Int) ≤ 2000000000) := ⟨by omega, by omega⟩
        have HR : Hid (Sl wr sn (ints c.next) ∧ Sl wr so (ints c.outs) ∧ c.next.length ≤ 1048576 ∧ c.outs.length ≤ 1048576) := ⟨HP.out.1.mono hbel, HP.out.2.2.1.mono hbel, by omega, by have := HP.out.2.2.2.2.2.2.2; omega⟩
        have HE : Hid (gatesP c.first c.gates ∧ Below w.heap.size w wr) := ⟨hg, hbel⟩
        clear hg hbk hbl hbel
        go_wp2_with (first
          | (go_at_call 62; ((with_reducible refine (l1Lits_any _ _ _ _ _ HR.out.1 HR.out.2.2.1 hvb.out).mono ?_); rintro e w' ⟨rfl, rfl⟩))
          | (go_at_call 62; ((with_reducible refine (l1Lits_any _ _ _ _ _ HR.out.2.1 HR.out.2.2.2 hvb.out).mono ?_); rintro e w' ⟨rfl, rfl⟩)))
        all_goals go_ret
        all_goals refine ⟨ret_bool ?_, HE.out.2⟩
        all_goals unfold Cir.validB Cir.vars
        all_goals simp [HP.out.2.2.2, HE.out.1, *]
  · have hf : c.validB = false := c.validB_false.2 fun h => hlim h.1
    rw [hf]
    have H : Hid (¬ c.limits) := Lib.hid hlim
    clear hlim hf
    go_enter Try.func20, Try.ntmps20
    go_wp2_with (first
      | (go_at_call 61; refine (l1In_any _ _ _ _).mono ?_; rintro e w' ⟨rfl, rfl⟩)
      | (go_at_call 44; fail))
    all_goals first
      | (go_ret; exact ⟨rfl, (Below.refl _ _).alloc (Nat.le_refl _) _⟩)
      | (exfalso; apply H.out; refine ⟨?_, ?_, ?_, ?_, ?_⟩ <;> omega)

theorem szGateS_any (s : Option Addr) (len cap : Nat) (left : Int) (w : World) (h0 : 0 ≤ left) (h1 : left ≤ 1048576) (hl : len ≤ 9223372036854775807) :
    Calls Try.prog 42 #[.slice s len cap, .int .i64 left] w fun e w' => e = .returned (.int .i64 (leftOf left len)) ∧ w = w' := by
  go_enter Try.func42, Try.ntmps42
  go_wp2
  all_goals
    go_ret
    exact ⟨ret_int (by unfold leftOf; split <;> omega), rfl⟩

def Cir.size (c : Cir) : Int := c.next.length + c.gates.length + c.outs.length

theorem szCircuit_any (inp : Int) (sn sg so : Option Addr) (nn cn ng cg no co : Nat) (left : Int) (w : World) (h0 : 0 ≤ left) (h1 : left ≤ 1048576) (hl1 : nn ≤ 9223372036854775807) (hl2 : ng ≤ 9223372036854775807) (hl3 : no ≤ 9223372036854775807) :
    Calls Try.prog 12 #[.agg #[.int .i64 inp, .slice sn nn cn, .slice sg ng cg, .slice so no co], .int .i64 left] w fun e w' => e = .returned (.int .i64 (leftOf left (nn + ng + no))) ∧ Below w.heap.size w w' := by
  by_cases c1 : (nn : Int) ≤ left
  · have e1 : leftOf left nn = left - nn := by unfold leftOf; rw [if_pos c1]
    by_cases c2 : (nn : Int) + ng ≤ left
    · have e2 : leftOf (left - nn) ng = left - nn - ng := by unfold leftOf; rw [if_pos (by omega)]
      by_cases c3 : (nn : Int) + ng + no ≤ left
      · have e3 : leftOf (left - nn - ng) no = left - nn - ng - no := by unfold leftOf; rw [if_pos (by omega)]
        have HE := Lib.hid (And.intro e1 (And.intro e2 e3))
        clear e1 e2 e3
        go_enter Try.func12, Try.ntmps12
        go_wp2_with (first
          | (go_at_call 41; ((with_reducible refine (szIntS_any sn _ _ _ _ (by omega) (by omega) hl1).mono ?_); rintro e w' ⟨rfl, rfl⟩; rw [HE.out.1]))
          | (go_at_call 42; ((with_reducible refine (szGateS_any _ _ _ _ _ (by omega) (by omega) hl2).mono ?_); rintro e w' ⟨rfl, rfl⟩; rw [HE.out.2.1]))
          | (go_at_call 41; ((with_reducible refine (szIntS_any so _ _ _ _ (by omega) (by omega) hl3).mono ?_); rintro e w' ⟨rfl, rfl⟩; rw [HE.out.2.2])))
        go_ret
        exact ⟨ret_int (by unfold leftOf; rw [if_pos c3]; omega), (Below.refl _ _).alloc (Nat.le_refl _) _⟩
      · have e3 : leftOf (left - nn - ng) no = -1 := by unfold leftOf; rw [if_neg (by omega)]
        have HE := Lib.hid (And.intro e1 (And.intro e2 e3))
        clear e1 e2 e3
        go_enter Try.func12, Try.ntmps12
        go_wp2_with (first
          | (go_at_call 41; ((with_reducible refine (szIntS_any sn _ _ _ _ (by omega) (by omega) hl1).mono ?_); rintro e w' ⟨rfl, rfl⟩; rw [HE.out.1]))
          | (go_at_call 42; ((with_reducible refine (szGateS_any _ _ _ _ _ (by omega) (by omega) hl2).mono ?_); rintro e w' ⟨rfl, rfl⟩; rw [HE.out.2.1]))
          | (go_at_call 41; ((with_reducible refine (szIntS_any so _ _ _ _ (by omega) (by omega) hl3).mono ?_); rintro e w' ⟨rfl, rfl⟩; rw [HE.out.2.2])))
        go_ret
        exact ⟨ret_int (by unfold leftOf; rw [if_neg (by omega)]), (Below.refl _ _).alloc (Nat.le_refl _) _⟩
    · have e2 : leftOf (left - nn) ng = -1 := by unfold leftOf; rw [if_neg (by omega)]
      have HE := Lib.hid (And.intro e1 e2)
      clear e1 e2
      go_enter Try.func12, Try.ntmps12
      go_wp2_with (first
        | (go_at_call 41; ((with_reducible refine (szIntS_any sn _ _ _ _ (by omega) (by omega) hl1).mono ?_); rintro e w' ⟨rfl, rfl⟩; rw [HE.out.1]))
        | (go_at_call 42; ((with_reducible refine (szGateS_any _ _ _ _ _ (by omega) (by omega) hl2).mono ?_); rintro e w' ⟨rfl, rfl⟩; rw [HE.out.2])))
      go_ret
      exact ⟨ret_int (by unfold leftOf; rw [if_neg (by omega)]), (Below.refl _ _).alloc (Nat.le_refl _) _⟩
  · have e1 : leftOf left nn = -1 := by unfold leftOf; rw [if_neg c1]
    have HE := Lib.hid e1
    clear e1
    go_enter Try.func12, Try.ntmps12
    go_wp2_with (first
      | (go_at_call 41; ((with_reducible refine (szIntS_any sn _ _ _ _ (by omega) (by omega) hl1).mono ?_); rintro e w' ⟨rfl, rfl⟩; rw [HE.out])))
    go_ret
    exact ⟨ret_int (by unfold leftOf; rw [if_neg (by omega)]), (Below.refl _ _).alloc (Nat.le_refl _) _⟩

theorem toGate_any (a b : Int) (w : World) :
    Calls Try.prog 87 #[.agg #[.int .i64 a, .int .i64 b]] w fun e w' => e = .returned (.agg #[.int .i64 a, .int .i64 b]) ∧ Below w.heap.size w w' := by
  go_enter Try.func87, Try.ntmps87
  go_wp2
  go_returns
  refine ⟨rfl, ?_⟩
  go_grown

theorem eqGate_any (a b x y : Int) (w : World) :
    Calls Try.prog 88 #[.agg #[.int .i64 a, .int .i64 b], .agg #[.int .i64 x, .int .i64 y]] w fun e w' => e = .returned (.bool (decide (a = x) && decide (b = y))) ∧ Below w.heap.size w w' := by
  go_enter Try.func88, Try.ntmps88
  go_wp2
  all_goals
    go_ret
    refine ⟨ret_bool (by simp at *; simp [*]), ?_⟩
    go_grown

theorem mk45 (w : World) (n : Nat) (h : n ≤ 1048576) : (Instr.makeSlice 25 (.int .i64 (n : Int)) (.int .i64 (n : Int))).run Try.prog w = .ok (.slice (some ⟨w.heap.size, 0, none⟩) n n) (w.alloc (.cells (madeCells #[.int .i64 0, .int .i64 0] (n * 2)) 24)) := by
  obtain ⟨i, hi, h1, h2, h3⟩ := info_parts (P := Try.prog) (e := 24) (z := .agg #[.int .i64 0, .int .i64 0]) (size := 2) (bytes := 16) (by kernel_rfl)
  have := run_make (P := Try.prog) w 25 24 i (.agg #[.int .i64 0, .int .i64 0]) (by kernel_rfl) hi h1 .i64 .i64 n n (by omega) (by omega) (by rw [h3]; omega) (by omega)
  rw [this, h2]; simp [Value.cells]

theorem Cir.size_eq (c : Cir) : c.size = c.next.length + c.gates.length + c.outs.length := rfl

set_option maxHeartbeats 400000 in
theorem toGateS_any (s : Option Addr) (cap : Nat) (gs : List Gt) (w : World) (hn : gs.length ≤ 1048576) (hs : Sl w s (gcells gs)) :
    Calls Try.prog 51 #[.slice s gs.length cap] w fun e w' => e = .returned (.slice (some ⟨w.heap.size, 0, none⟩) gs.length gs.length) ∧
      w'.heap[w.heap.size]? = some (.cells (gcells gs).toArray 24 (0, 0)) ∧ Below w.heap.size w w' := by
  have hmk := fun w => mk45 w gs.length hn
  have HS := Lib.hid hs
  clear hs
  generalize hlen : gs.length = n at hn hmk ⊢
  have HL := Lib.hid hlen
  clear hlen
  go_enter Try.func51, Try.ntmps51
  go_wp2
  go_loopw [4] (fun i wr => ∃ k : Nat, ∃ arr : Array Value, k ≤ n ∧ i = .int .i64 k ∧ arr.size = n * 2 ∧ (∀ j, j < k * 2 → arr[j]? = (gcells gs)[j]?) ∧ wr.heap[w.heap.size]? = some (.cells arr 24 (0, 0)) ∧ Below w.heap.size w wr) (fun i _ => n - (intOf i).toNat)
  case atStart => exact ⟨0, _, Nat.zero_le _, rfl, size_madeCells _ _, fun j h => by omega, blk_new _ _, (Below.refl _ _).alloc (Nat.le_refl _) _⟩
  case round =>
    obtain ⟨k, arr, hk, rfl, ha, hj, hb, hbl⟩ := hrel
    by_cases hlt : k < n
    · obtain ⟨g, hg⟩ := get_of_lt (l := gs) (k := k) (by have := HL.out; omega)
      obtain ⟨b, off, rfl, hbw, hz1, hz2⟩ := HS.out.gate hbl hg
      obtain ⟨y1, hy1⟩ : ∃ y, arr[k * 2]? = some y := ⟨arr[k * 2]'(by omega), by simp⟩
      obtain ⟨y2, hy2⟩ : ∃ y, arr[k * 2 + 1]? = some y := ⟨arr[k * 2 + 1]'(by omega), by simp⟩
      have HR : Hid (_ ∧ _ ∧ _ ∧ _ ∧ _ ∧ _ ∧ _) := Lib.hid ⟨ha, hj, hb, hbl, hg, hy1, hy2⟩
      clear ha hj hb hbl hg hy1 hy2
      go_wp2_with (go_at_call 87; ((with_reducible refine (toGate_any _ _ _).mono ?_); rintro e w1 ⟨rfl, hq⟩; have HQ := Lib.hid hq; clear hq; have hc1 : w1.cell? ⟨w.heap.size, k * 2, none⟩ = some y1 := (HQ.out.cell (blk_lt HR.out.2.2.1)).trans ((blk_cell HR.out.2.2.1).trans HR.out.2.2.2.2.2.1); have hc2 : w1.cell? ⟨w.heap.size, k * 2 + 1, none⟩ = some y2 := (HQ.out.cell (blk_lt HR.out.2.2.1)).trans ((blk_cell HR.out.2.2.1).trans HR.out.2.2.2.2.2.2); have hf1 : w1.frozen? ⟨w.heap.size, k * 2, none⟩ = false := blk_free (blk_below HQ.out (blk_lt HR.out.2.2.1) HR.out.2.2.1); have hf2 : w1.frozen? ⟨w.heap.size, k * 2 + 1, none⟩ = false := blk_free (blk_below HQ.out (blk_lt HR.out.2.2.1) HR.out.2.2.1)))
      obtain ⟨ha, hj, hb, hbl, hg, hy1, hy2⟩ := HR.out
      have hq := HQ.out
      have e := gcells_get hg
      go_roundw
      case rel =>
        refine ⟨k + 1, _, by omega, by go_num, ?_, ?_, blk_set (blk_set (blk_below hq (blk_lt hb) hb)), ((hbl.trans (hq.mono hbl.size)).setCell (Nat.le_refl _) _).setCell (Nat.le_refl _) _⟩
        · simpa using ha
        · intro j hj'
          by_cases e1 : j = k * 2 + 1
          · subst e1
            rw [Array.getElem?_setIfInBounds_self_of_lt (by simp; omega), ← Nat.mul_comm 2 k, e.2]
          · rw [Array.getElem?_setIfInBounds_ne (Ne.symm e1)]
            by_cases e2 : j = k * 2
            · subst e2
              rw [Array.getElem?_setIfInBounds_self_of_lt (by omega), ← Nat.mul_comm 2 k, e.1]
            · rw [Array.getElem?_setIfInBounds_ne (Ne.symm e2)]; exact hj j (by omega)
      case measure => simp [intOf]; omega
    · obtain rfl : k = n := by omega
      have : arr = (gcells gs).toArray := by
        have hl := HL.out
        have hgl := gcells_length gs
        apply Array.ext_getElem?
        intro j
        by_cases h : j < k * 2
        · rw [hj j h]; simp
        · rw [Array.getElem?_eq_none (by omega), Array.getElem?_eq_none (by simp; omega)]
      subst this
      have HR := Lib.hid (And.intro hb hbl)
      clear ha hj hb hbl
      go_wp2
      go_ret
      exact ⟨rfl, HR.out.1, HR.out.2⟩

theorem eqGateS_any (s t : Option Addr) (xs ys : List Gt) (cap cap2 : Nat) (w : World) (hs : Sl w s (gcells xs)) (ht : Sl w t (gcells ys)) (hl : xs.length ≤ 1048576) (hl2 : ys.length ≤ 1048576) :
    Calls Try.prog 53 #[.slice s xs.length cap, .slice t ys.length cap2] w fun e w' => e = .returned (.bool (decide (xs = ys))) ∧ Below w.heap.size w w' := by
  have HS : Hid (Sl w s (gcells xs) ∧ Sl w t (gcells ys)) := ⟨hs, ht⟩
  clear hs ht
  by_cases hc : xs.length = ys.length
  · rw [← hc]
    generalize hn : xs.length = n at hc hl ⊢
    have HC : Hid (xs.length = n ∧ ys.length = n) := ⟨hn, hc.symm⟩
    clear hc hn hl2
    go_enter Try.func53, Try.ntmps53
    go_wp2
    go_loopw [5] (fun i wr => ∃ k : Nat, k ≤ n ∧ i = .int .i64 k ∧ xs.take k = ys.take k ∧ Below w.heap.size w wr) (fun i _ => n - (intOf i).toNat)
    case atStart => exact ⟨0, Nat.zero_le _, rfl, rfl, Below.refl _ _⟩
    case round =>
      obtain ⟨k, hk, rfl, htk, hd⟩ := hrel
      have HT : Hid (xs.take k = ys.take k) := htk
      have HD := Lib.hid hd
      clear htk hd
      by_cases hlt : k < n
      · obtain ⟨x, hx⟩ := get_of_lt (l := xs) (k := k) (by have := HC.out; omega)
        obtain ⟨y, hy⟩ := get_of_lt (l := ys) (k := k) (by have := HC.out; omega)
        obtain ⟨b, off, rfl, hbw, hz1, hz2⟩ := HS.out.1.gate HD.out hx
        obtain ⟨b2, off2, rfl, hbw2, hz3, hz4⟩ := HS.out.2.gate HD.out hy
        have HR : Hid (_ ∧ _) := Lib.hid ⟨hx, hy⟩
        clear hx hy
        go_wp2_with fail
        go_region_held3 (fun w' => w'.cell? ⟨b, off + k * 2, none⟩ = some (.int .i64 x.a) ∧ w'.cell? ⟨b, off + k * 2 + 1, none⟩ = some (.int .i64 x.b) ∧ w'.cell? ⟨b2, off2 + k * 2, none⟩ = some (.int .i64 y.a) ∧ w'.cell? ⟨b2, off2 + k * 2 + 1, none⟩ = some (.int .i64 y.b))
          (first
            | go_keep
            | (go_split_ands
               refine ⟨?_, ?_, ?_, ?_⟩
               · rw [HQ.out.cell (by exact Nat.lt_of_lt_of_le hbw HD.out.size)]; assumption
               · rw [HQ.out.cell (by exact Nat.lt_of_lt_of_le hbw HD.out.size)]; assumption
               · rw [HQ.out.cell (by exact Nat.lt_of_lt_of_le hbw2 HD.out.size)]; assumption
               · rw [HQ.out.cell (by exact Nat.lt_of_lt_of_le hbw2 HD.out.size)]; assumption))
          ((first
            | (go_at_call 88; ((with_reducible refine (eqGate_any _ _ _ _ _).mono ?_); rintro e w1 ⟨rfl, hq⟩; have HQ := Lib.hid hq; clear hq))))
        go_wp2
        all_goals obtain ⟨hx, hy⟩ := HR.out
        all_goals first
          | (go_roundw
             case rel => exact ⟨k + 1, by omega, by go_num, by rw [List.take_add_one, List.take_add_one, HT.out, hx, hy]; simp at *; exact Gt.ext' (by simp [*]) (by simp [*]), HD.out.drew.trans (HQ.out.mono HD.out.size)⟩
             case measure => simp [intOf]; omega)
          | (go_ret
             refine ⟨ret_bool ?_, HD.out.drew.trans (HQ.out.mono HD.out.size)⟩
             symm; rw [decide_eq_false_iff_not]; intro e; subst e; rw [hx] at hy; cases hy; simp at *)
      · obtain rfl : k = n := by omega
        have he : decide (xs = ys) = true := by
          have h1 := HT.out
          rw [List.take_of_length_le (by have := HC.out; omega), List.take_of_length_le (by have := HC.out; omega)] at h1
          simpa using h1
        have HE := Lib.hid he
        clear he
        go_wp2
        go_ret
        exact ⟨ret_bool HE.out.symm, HD.out⟩
  · have hd : decide (xs = ys) = false := by simp; intro e; exact hc (by rw [e])
    rw [hd]
    clear hd
    go_enter Try.func53, Try.ntmps53
    go_wp2
    go_ret
    exact ⟨rfl, Below.refl _ _⟩

theorem Sl.toA {w : World} {b : Nat} {cs : List Value} {t : TypeId} {fz : Nat × Nat} (h : w.heap[b]? = some (.cells cs.toArray t fz)) : Sl w (some ⟨b, 0, none⟩) cs := by
  have := Sl.blk h; simpa using this

set_option maxHeartbeats 400000 in
theorem toCircuit_any (v : Value) (c : Cir) (w : World) (h : CirV w v c) :
    Calls Try.prog 14 #[v] w fun e w' => ∃ b1 b2 b3, e = .returned (.agg #[.int .i64 c.inp, .slice (some ⟨b1, 0, none⟩) c.next.length c.next.length, .slice (some ⟨b2, 0, none⟩) c.gates.length c.gates.length, .slice (some ⟨b3, 0, none⟩) c.outs.length c.outs.length]) ∧
      w.heap.size ≤ b1 ∧ b1 < b2 ∧ b2 < b3 ∧ w'.heap[b1]? = some (.cells (ints c.next).toArray 3 (0, 0)) ∧ w'.heap[b2]? = some (.cells (gcells c.gates).toArray 24 (0, 0)) ∧ w'.heap[b3]? = some (.cells (ints c.outs).toArray 3 (0, 0)) ∧ Below w.heap.size w w' := by
  obtain ⟨sn, cn, sg, cg, so, co, rfl, h1, h2, h3, hl1, hl2, hl3⟩ := h
  have HS := Lib.hid (And.intro h1 (And.intro h2 h3))
  clear h1 h2 h3
  go_enter Try.func14, Try.ntmps14
  go_wp2_with fail
  have hS := St.start w 37 28 #[.int .i64 c.inp, .slice sn c.next.length cn, .slice sg c.gates.length cg, .slice so c.outs.length co] #[.int .i64 0, .slice none 0 0, .slice none 0 0, .slice none 0 0] #[.int .i64 c.inp, .slice none 0 0, .slice none 0 0, .slice none 0 0]
  revert hS
  generalize (((w.alloc (.cells #[.int .i64 c.inp, .slice sn c.next.length cn, .slice sg c.gates.length cg, .slice so c.outs.length co] 37)).alloc (.cells #[.int .i64 0, .slice none 0 0, .slice none 0 0, .slice none 0 0] 28)).alloc (.cells #[.int .i64 c.inp, .slice none 0 0, .slice none 0 0, .slice none 0 0] 28)) = W0
  intro hS
  refine (toIntS_any _ _ _ _ hl1 (HS.out.1.mono hS.bel)).mono ?_
  rintro e W1 ⟨rfl, hq1, -, hq3⟩
  have hS1 := hS.call hq3
  obtain ⟨ca, cr, co1, fr, fo⟩ := hS1.cells
  have H1 := Lib.hid (And.intro hS1 (And.intro hq1 hS.sz))
  clear hS hS1 hq1 hq3
  go_wp2_with fail
  clear ca cr co1 fr fo
  have hS := H1.out.1.set 1 (.slice (some ⟨W0.heap.size, 0, none⟩) c.next.length c.next.length)
  have hq1 := H1.out.1.keep H1.out.2.2 H1.out.2.1 1 (.slice (some ⟨W0.heap.size, 0, none⟩) c.next.length c.next.length)
  revert hS hq1
  generalize W1.setCell ⟨w.heap.size + 1 + 1, 1, none⟩ (.slice (some ⟨W0.heap.size, 0, none⟩) c.next.length c.next.length) = X1
  intro hS hq1
  refine (toGateS_any _ _ _ _ hl2 (HS.out.2.1.mono hS.bel)).mono ?_
  rintro e W2 ⟨rfl, hr1, hr3⟩
  have hS2 := hS.call hr3
  obtain ⟨ca, cr, co1, fr, fo⟩ := hS2.cells
  have H2 := Lib.hid (And.intro hS2 (And.intro hr1 (And.intro hS.sz (And.intro (blk_below hr3 (blk_lt hq1) hq1) (blk_lt hq1)))))
  clear hS hS2 hr1 hr3 hq1
  go_wp2_with fail
  clear ca cr co1 fr fo
  have hS := H2.out.1.set 2 (.slice (some ⟨X1.heap.size, 0, none⟩) c.gates.length c.gates.length)
  have hr1 := H2.out.1.keep H2.out.2.2.1 H2.out.2.1 2 (.slice (some ⟨X1.heap.size, 0, none⟩) c.gates.length c.gates.length)
  have hq1 := H2.out.1.keep H1.out.2.2 H2.out.2.2.2.1 2 (.slice (some ⟨X1.heap.size, 0, none⟩) c.gates.length c.gates.length)
  revert hS hq1 hr1
  generalize W2.setCell ⟨w.heap.size + 1 + 1, 2, none⟩ (.slice (some ⟨X1.heap.size, 0, none⟩) c.gates.length c.gates.length) = X2
  intro hS hr1 hq1
  refine (toIntS_any _ _ _ _ hl3 (HS.out.2.2.mono hS.bel)).mono ?_
  rintro e W3 ⟨rfl, ht1, -, ht3⟩
  have hS3 := hS.call ht3
  obtain ⟨ca, cr, co1, fr, fo⟩ := hS3.cells
  have H3 := Lib.hid (And.intro hS3 (And.intro ht1 (And.intro hS.sz (And.intro (blk_below ht3 (blk_lt hq1) hq1) (And.intro (blk_below ht3 (blk_lt hr1) hr1) (blk_lt hr1))))))
  clear hS hS3 ht1 ht3 hr1 hq1
  go_wp2
  clear ca cr co1 fr fo
  have hF := ((((H3.out.1.set 3 (.slice (some ⟨X2.heap.size, 0, none⟩) c.outs.length c.outs.length)).setR 0 (.int .i64 c.inp)).setR 1 (.slice (some ⟨W0.heap.size, 0, none⟩) c.next.length c.next.length)).setR 2 (.slice (some ⟨X1.heap.size, 0, none⟩) c.gates.length c.gates.length)).setR 3 (.slice (some ⟨X2.heap.size, 0, none⟩) c.outs.length c.outs.length)
  have hk : ∀ (b : Nat) (x : Option Obj), w.heap.size + 3 ≤ b → W3.heap[b]? = x → (((((W3.setCell ⟨w.heap.size + 1 + 1, 3, none⟩ (.slice (some ⟨X2.heap.size, 0, none⟩) c.outs.length c.outs.length)).setCell ⟨w.heap.size + 1, 0, none⟩ (.int .i64 c.inp)).setCell ⟨w.heap.size + 1, 1, none⟩ (.slice (some ⟨W0.heap.size, 0, none⟩) c.next.length c.next.length)).setCell ⟨w.heap.size + 1, 2, none⟩ (.slice (some ⟨X1.heap.size, 0, none⟩) c.gates.length c.gates.length)).setCell ⟨w.heap.size + 1, 3, none⟩ (.slice (some ⟨X2.heap.size, 0, none⟩) c.outs.length c.outs.length)).heap[b]? = x := fun b x hb hx =>
    blk_set_ne (by omega) (blk_set_ne (by omega) (blk_set_ne (by omega) (blk_set_ne (by omega) (blk_set_ne (by omega) hx))))
  revert hF hk
  generalize (((((W3.setCell ⟨w.heap.size + 1 + 1, 3, none⟩ (.slice (some ⟨X2.heap.size, 0, none⟩) c.outs.length c.outs.length)).setCell ⟨w.heap.size + 1, 0, none⟩ (.int .i64 c.inp)).setCell ⟨w.heap.size + 1, 1, none⟩ (.slice (some ⟨W0.heap.size, 0, none⟩) c.next.length c.next.length)).setCell ⟨w.heap.size + 1, 2, none⟩ (.slice (some ⟨X1.heap.size, 0, none⟩) c.gates.length c.gates.length)).setCell ⟨w.heap.size + 1, 3, none⟩ (.slice (some ⟨X2.heap.size, 0, none⟩) c.outs.length c.outs.length)) = WE
  intro hF hk
  obtain ⟨-, cr, -, -, -⟩ := hF.cells
  refine bodyPost_ret (v := .agg #[.int .i64 c.inp, .slice (some ⟨W0.heap.size, 0, none⟩) c.next.length c.next.length, .slice (some ⟨X1.heap.size, 0, none⟩) c.gates.length c.gates.length, .slice (some ⟨X2.heap.size, 0, none⟩) c.outs.length c.outs.length]) (by simp [results, Try.results14, go_sem, cr]) rfl ⟨_, _, _, rfl, ?_⟩
  obtain ⟨hS3, ht1, hz3, hq1, hr1, hlr⟩ := H3.out
  obtain ⟨-, -, hz2, -, hlq⟩ := H2.out
  have hz1 := H1.out.2.2
  exact ⟨by omega, hlq, hlr, hk _ _ hz1 hq1, hk _ _ hz2 hr1, hk _ _ hz3 ht1, hF.bel⟩

theorem bcell {W w1 : World} (hb : Below W.heap.size W w1) : (∀ b o, b < W.heap.size → w1.cell? ⟨b, o, none⟩ = W.cell? ⟨b, o, none⟩) ∧ (∀ b o, b < W.heap.size → w1.frozen? ⟨b, o, none⟩ = W.frozen? ⟨b, o, none⟩) :=
  ⟨fun b o h => hb.cell (p := ⟨b, o, none⟩) h, fun b o h => hb.frozen (p := ⟨b, o, none⟩) h⟩

def cirB (x y : Cir) : Bool := decide (x.inp = y.inp) && (decide (x.next = y.next) && (decide (x.gates = y.gates) && decide (x.outs = y.outs)))

theorem cirB_self (x : Cir) : cirB x x = true := by simp [cirB]

set_option maxHeartbeats 400000 in
theorem eqCircuit_any (u v : Value) (x y : Cir) (w : World) (hx : CirV w u x) (hy : CirV w v y) :
    Calls Try.prog 15 #[u, v] w fun e w' => e = .returned (.bool (cirB x y)) ∧ Below w.heap.size w w' := by
  obtain ⟨sn, cn, sg, cg, so, co, rfl, h1, h2, h3, hl1, hl2, hl3⟩ := hx
  obtain ⟨sn', cn', sg', cg', so', co', rfl, k1, k2, k3, ml1, ml2, ml3⟩ := hy
  have HS := Lib.hid (And.intro (And.intro h1 (And.intro h2 h3)) (And.intro k1 (And.intro k2 k3)))
  clear h1 h2 h3 k1 k2 k3
  have hL : Below w.heap.size w ((w.alloc (.cells #[.int .i64 x.inp, .slice sn x.next.length cn, .slice sg x.gates.length cg, .slice so x.outs.length co] 28)).alloc (.cells #[.int .i64 y.inp, .slice sn' y.next.length cn', .slice sg' y.gates.length cg', .slice so' y.outs.length co'] 28)) := by go_grown
  have HL := Lib.hid hL
  clear hL
  go_enter Try.func15, Try.ntmps15
  go_wp2_with (first
    | (go_at_call 52; ((with_reducible refine (eqIntS_any sn sn' _ _ _ _ _ (HS.out.1.1.mono HL.out) (HS.out.2.1.mono HL.out) hl1 ml1).mono ?_); rintro e w' ⟨rfl, n1, rfl⟩))
    | (go_at_call 53; ((with_reducible refine (eqGateS_any sg sg' _ _ _ _ _ (HS.out.1.2.1.mono (below_n HL.out _)) (HS.out.2.2.1.mono (below_n HL.out _)) hl2 ml2).mono ?_); rintro e w1 ⟨rfl, hq⟩; have HQ := Lib.hid hq; obtain ⟨hc, hf⟩ := bcell hq; clear hq))
    | (go_at_call 52; ((with_reducible refine (eqIntS_any so so' _ _ _ _ _ (HS.out.1.2.2.mono ((below_n HL.out _).trans (HQ.out.mono (by simp; omega)))) (HS.out.2.2.2.mono ((below_n HL.out _).trans (HQ.out.mono (by simp; omega)))) hl3 ml3).mono ?_); rintro e w' ⟨rfl, n2, rfl⟩)))
  all_goals go_ret
  all_goals refine ⟨ret_bool (by unfold cirB; simp at *; simp [*]), ?_⟩
  all_goals first
    | exact HL.out
    | exact below_n HL.out _
    | exact (below_n HL.out _).trans (HQ.out.mono (by simp; omega))
    | exact below_n ((below_n HL.out _).trans (HQ.out.mono (by simp; omega))) _

theorem CirAt.drewN {w : World} {b : Nat} {inp : Int} {vn vg vo : Value} (h : CirAt w b inp vn vg vo) (n : Nat) : CirAt (w.drewN n) b inp vn vg vo := ⟨h.h0, h.h1, h.h2, h.h3⟩

end Go.Proofs.Ytjecchljhdfjdaa
