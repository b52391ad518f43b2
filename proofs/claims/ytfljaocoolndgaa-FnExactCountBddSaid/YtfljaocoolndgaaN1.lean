import Derived.Test.YtfljaocoolndgaaA3
import Derived.Test.YtfljaocoolndgaaA5
import Derived.Test.YtfljaocoolndgaaB1
namespace Go.Proofs.Ytfljaocoolndgaa
set_option linter.unusedVariables false
set_option linter.unusedSimpArgs false
open Go.RowKit

/-! Nodes of decision diagrams: sizes, copies, comparisons. -/

structure Nd where
  v : Int
  lo : Int
  hi : Int
theorem Nd.ext' {x y : Nd} (h1 : x.v = y.v) (h2 : x.lo = y.lo) (h3 : x.hi = y.hi) : x = y := by cases x; cases y; simp_all
instance : DecidableEq Nd := fun x y => decidable_of_iff (x.v = y.v ∧ x.lo = y.lo ∧ x.hi = y.hi) ⟨fun h => Nd.ext' h.1 h.2.1 h.2.2, fun h => by rw [h]; exact ⟨rfl, rfl, rfl⟩⟩
instance : Inhabited Nd := ⟨⟨0, 0, 0⟩⟩
structure Bd where
  nodes : List Nd
  root : Int

def Nd.cells (g : Nd) : List Value := [.int .i64 g.v, .int .i64 g.lo, .int .i64 g.hi]
def ncells (gs : List Nd) : List Value := gs.flatMap Nd.cells
theorem ncells_length (gs : List Nd) : (ncells gs).length = 3 * gs.length := by
  induction gs with
  | nil => rfl
  | cons g gs ih => simp [ncells, Nd.cells] at ih ⊢; omega
theorem ncells_get {gs : List Nd} {k : Nat} {g : Nd} (h : gs[k]? = some g) : (ncells gs)[3 * k]? = some (.int .i64 g.v) ∧ (ncells gs)[3 * k + 1]? = some (.int .i64 g.lo) ∧ (ncells gs)[3 * k + 2]? = some (.int .i64 g.hi) := by
  induction gs generalizing k with
  | nil => simp at h
  | cons x gs ih =>
    cases k with
    | zero => simp at h; subst h; exact ⟨rfl, rfl, rfl⟩
    | succ k =>
      have := ih (k := k) (by simpa using h)
      have e : ncells (x :: gs) = .int .i64 x.v :: .int .i64 x.lo :: .int .i64 x.hi :: ncells gs := rfl
      rw [e]
      refine ⟨?_, ?_, ?_⟩
      · rw [show 3 * (k + 1) = 3 * k + 1 + 1 + 1 from by omega]; simpa using this.1
      · rw [show 3 * (k + 1) + 1 = 3 * k + 1 + 1 + 1 + 1 from by omega]; simpa using this.2.1
      · rw [show 3 * (k + 1) + 2 = 3 * k + 2 + 1 + 1 + 1 from by omega]; simpa using this.2.2

theorem Sl.node {w wr : World} {s : Option Addr} {gs : List Nd} (h : Sl w s (ncells gs)) (hbl : Below w.heap.size w wr) {k : Nat} {g : Nd} (hg : gs[k]? = some g) :
    ∃ b off, s = some ⟨b, off, none⟩ ∧ b < w.heap.size ∧ wr.cell? ⟨b, off + k * 3, none⟩ = some (.int .i64 g.v) ∧ wr.cell? ⟨b, off + k * 3 + 1, none⟩ = some (.int .i64 g.lo) ∧ wr.cell? ⟨b, off + k * 3 + 2, none⟩ = some (.int .i64 g.hi) := by
  have hlt : k < gs.length := (List.getElem?_eq_some_iff.1 hg).1
  obtain ⟨b, off, rfl, hbw, hcs⟩ := h.at (k := 3 * k) (by rw [ncells_length]; omega)
  have e := ncells_get hg
  refine ⟨b, off, rfl, hbw, ?_, ?_, ?_⟩
  · rw [hbl.cell (by exact hbw), Nat.mul_comm]; exact hcs _ _ e.1
  · rw [hbl.cell (by exact hbw), Nat.mul_comm, Nat.add_assoc]; exact hcs _ _ e.2.1
  · rw [hbl.cell (by exact hbw), Nat.mul_comm, Nat.add_assoc]; exact hcs _ _ e.2.2

theorem szBddNodeS_any (s : Option Addr) (len cap : Nat) (left : Int) (w : World) (h0 : 0 ≤ left) (h1 : left ≤ 1048576) (hl : len ≤ 9223372036854775807) :
    Calls Try.prog 41 #[.slice s len cap, .int .i64 left] w fun e w' => e = .returned (.int .i64 (leftOf left len)) ∧ w = w' := by
  go_enter Try.func41, Try.ntmps41
  go_wp2
  all_goals
    go_ret
    exact ⟨ret_int (by unfold leftOf; split <;> omega), rfl⟩

theorem szBdd_any (sn : Option Addr) (nn cn : Nat) (root left : Int) (w : World) (h0 : 0 ≤ left) (h1 : left ≤ 1048576) (hl1 : nn ≤ 9223372036854775807) :
    Calls Try.prog 9 #[.agg #[.slice sn nn cn, .int .i64 root], .int .i64 left] w fun e w' => e = .returned (.int .i64 (leftOf left nn)) ∧ Below w.heap.size w w' := by
  by_cases c1 : (nn : Int) ≤ left
  · have e1 : leftOf left nn = left - nn := by unfold leftOf; rw [if_pos c1]
    rw [e1]
    have HE := Lib.hid e1
    clear e1
    go_enter Try.func9, Try.ntmps9
    go_wp2_with (go_at_call 41; ((with_reducible refine (szBddNodeS_any sn _ _ _ _ (by omega) (by omega) hl1).mono ?_); rintro e w' ⟨rfl, rfl⟩; rw [HE.out]))
    go_ret
    exact ⟨rfl, (Below.refl _ _).alloc (Nat.le_refl _) _⟩
  · have e1 : leftOf left nn = -1 := by unfold leftOf; rw [if_neg c1]
    rw [e1]
    have HE := Lib.hid e1
    clear e1
    go_enter Try.func9, Try.ntmps9
    go_wp2_with (go_at_call 41; ((with_reducible refine (szBddNodeS_any sn _ _ _ _ (by omega) (by omega) hl1).mono ?_); rintro e w' ⟨rfl, rfl⟩; rw [HE.out]))
    go_ret
    exact ⟨rfl, (Below.refl _ _).alloc (Nat.le_refl _) _⟩

theorem toBddNode_any (a b c : Int) (w : World) :
    Calls Try.prog 75 #[.agg #[.int .i64 a, .int .i64 b, .int .i64 c]] w fun e w' => e = .returned (.agg #[.int .i64 a, .int .i64 b, .int .i64 c]) ∧ Below w.heap.size w w' := by
  go_enter Try.func75, Try.ntmps75
  go_wp2
  go_returns
  refine ⟨rfl, ?_⟩
  go_grown

theorem eqBddNode_any (a b c x y z : Int) (w : World) :
    Calls Try.prog 76 #[.agg #[.int .i64 a, .int .i64 b, .int .i64 c], .agg #[.int .i64 x, .int .i64 y, .int .i64 z]] w fun e w' => e = .returned (.bool (decide (a = x) && (decide (b = y) && decide (c = z)))) ∧ Below w.heap.size w w' := by
  go_enter Try.func76, Try.ntmps76
  go_wp2
  all_goals
    go_ret
    refine ⟨ret_bool (by simp at *; simp [*]), ?_⟩
    go_grown

theorem mkNd (w : World) (n : Nat) (h : n ≤ 1048576) : (Instr.makeSlice 27 (.int .i64 (n : Int)) (.int .i64 (n : Int))).run Try.prog w = .ok (.slice (some ⟨w.heap.size, 0, none⟩) n n) (w.alloc (.cells (madeCells #[.int .i64 0, .int .i64 0, .int .i64 0] (n * 3)) 69)) := by
  obtain ⟨i, hi, h1, h2, h3⟩ := info_parts (P := Try.prog) (e := 69) (z := .agg #[.int .i64 0, .int .i64 0, .int .i64 0]) (size := 3) (bytes := 24) (by kernel_rfl)
  have := run_make (P := Try.prog) w 27 69 i (.agg #[.int .i64 0, .int .i64 0, .int .i64 0]) (by kernel_rfl) hi h1 .i64 .i64 n n (by omega) (by omega) (by rw [h3]; omega) (by omega)
  rw [this, h2]; simp [Value.cells]

set_option maxHeartbeats 800000 in
theorem toBddNodeS_any (s : Option Addr) (cap : Nat) (gs : List Nd) (w : World) (hn : gs.length ≤ 1048576) (hs : Sl w s (ncells gs)) :
    Calls Try.prog 45 #[.slice s gs.length cap] w fun e w' => e = .returned (.slice (some ⟨w.heap.size, 0, none⟩) gs.length gs.length) ∧
      w'.heap[w.heap.size]? = some (.cells (ncells gs).toArray 69 (0, 0)) ∧ Below w.heap.size w w' := by
  have hmk := fun w => mkNd w gs.length hn
  have HS := Lib.hid hs
  clear hs
  generalize hlen : gs.length = n at hn hmk ⊢
  have HL := Lib.hid hlen
  clear hlen
  go_enter Try.func45, Try.ntmps45
  go_wp2
  go_loopw [4] (fun i wr => ∃ k : Nat, ∃ arr : Array Value, k ≤ n ∧ i = .int .i64 k ∧ arr.size = n * 3 ∧ (∀ j, j < k * 3 → arr[j]? = (ncells gs)[j]?) ∧ wr.heap[w.heap.size]? = some (.cells arr 69 (0, 0)) ∧ Below w.heap.size w wr) (fun i _ => n - (intOf i).toNat)
  case atStart => exact ⟨0, _, Nat.zero_le _, rfl, size_madeCells _ _, fun j h => by omega, blk_new _ _, (Below.refl _ _).alloc (Nat.le_refl _) _⟩
  case round =>
    obtain ⟨k, arr, hk, rfl, ha, hj, hb, hbl⟩ := hrel
    by_cases hlt : k < n
    · obtain ⟨g, hg⟩ := get_of_lt (l := gs) (k := k) (by have := HL.out; omega)
      obtain ⟨b, off, rfl, hbw, hz1, hz2, hz3⟩ := HS.out.node hbl hg
      obtain ⟨y1, hy1⟩ : ∃ y, arr[k * 3]? = some y := ⟨arr[k * 3]'(by omega), by simp⟩
      obtain ⟨y2, hy2⟩ : ∃ y, arr[k * 3 + 1]? = some y := ⟨arr[k * 3 + 1]'(by omega), by simp⟩
      obtain ⟨y3, hy3⟩ : ∃ y, arr[k * 3 + 2]? = some y := ⟨arr[k * 3 + 2]'(by omega), by simp⟩
      have HR : Hid (_ ∧ _ ∧ _ ∧ _ ∧ _ ∧ _ ∧ _ ∧ _) := Lib.hid ⟨ha, hj, hb, hbl, hg, hy1, hy2, hy3⟩
      clear ha hj hb hbl hg hy1 hy2 hy3
      go_wp2_with (go_at_call 75; ((with_reducible refine (toBddNode_any _ _ _ _).mono ?_); rintro e w1 ⟨rfl, hq⟩; have HQ := Lib.hid hq; clear hq; have hc1 : w1.cell? ⟨w.heap.size, k * 3, none⟩ = some y1 := (HQ.out.cell (blk_lt HR.out.2.2.1)).trans ((blk_cell HR.out.2.2.1).trans HR.out.2.2.2.2.2.1); have hc2 : w1.cell? ⟨w.heap.size, k * 3 + 1, none⟩ = some y2 := (HQ.out.cell (blk_lt HR.out.2.2.1)).trans ((blk_cell HR.out.2.2.1).trans HR.out.2.2.2.2.2.2.1); have hc3 : w1.cell? ⟨w.heap.size, k * 3 + 2, none⟩ = some y3 := (HQ.out.cell (blk_lt HR.out.2.2.1)).trans ((blk_cell HR.out.2.2.1).trans HR.out.2.2.2.2.2.2.2); have hf1 : w1.frozen? ⟨w.heap.size, k * 3, none⟩ = false := blk_free (blk_below HQ.out (blk_lt HR.out.2.2.1) HR.out.2.2.1); have hf2 : w1.frozen? ⟨w.heap.size, k * 3 + 1, none⟩ = false := blk_free (blk_below HQ.out (blk_lt HR.out.2.2.1) HR.out.2.2.1); have hf3 : w1.frozen? ⟨w.heap.size, k * 3 + 2, none⟩ = false := blk_free (blk_below HQ.out (blk_lt HR.out.2.2.1) HR.out.2.2.1)))
      obtain ⟨ha, hj, hb, hbl, hg, hy1, hy2, hy3⟩ := HR.out
      have hq := HQ.out
      have e := ncells_get hg
      go_roundw
      case rel =>
        refine ⟨k + 1, _, by omega, by go_num, ?_, ?_, blk_set (blk_set (blk_set (blk_below hq (blk_lt hb) hb))), (((hbl.trans (hq.mono hbl.size)).setCell (Nat.le_refl _) _).setCell (Nat.le_refl _) _).setCell (Nat.le_refl _) _⟩
        · simpa using ha
        · intro j hj'
          by_cases e1 : j = k * 3 + 2
          · subst e1
            rw [Array.getElem?_setIfInBounds_self_of_lt (by simp; omega), ← Nat.mul_comm 3 k, e.2.2]
          · rw [Array.getElem?_setIfInBounds_ne (Ne.symm e1)]
            by_cases e2 : j = k * 3 + 1
            · subst e2
              rw [Array.getElem?_setIfInBounds_self_of_lt (by simp; omega), ← Nat.mul_comm 3 k, e.2.1]
            · rw [Array.getElem?_setIfInBounds_ne (Ne.symm e2)]
              by_cases e3 : j = k * 3
              · subst e3
                rw [Array.getElem?_setIfInBounds_self_of_lt (by omega), ← Nat.mul_comm 3 k, e.1]
              · rw [Array.getElem?_setIfInBounds_ne (Ne.symm e3)]; exact hj j (by omega)
      case measure => simp [intOf]; omega
    · obtain rfl : k = n := by omega
      have : arr = (ncells gs).toArray := by
        have hl := HL.out
        have hgl := ncells_length gs
        apply Array.ext_getElem?
        intro j
        by_cases h : j < k * 3
        · rw [hj j h]; simp
        · rw [Array.getElem?_eq_none (by omega), Array.getElem?_eq_none (by simp; omega)]
      subst this
      have HR := Lib.hid (And.intro hb hbl)
      clear ha hj hb hbl
      go_wp2
      go_ret
      exact ⟨rfl, HR.out.1, HR.out.2⟩

set_option maxHeartbeats 400000 in
theorem eqBddNodeS_any (s t : Option Addr) (xs ys : List Nd) (cap cap2 : Nat) (w : World) (hs : Sl w s (ncells xs)) (ht : Sl w t (ncells ys)) (hl : xs.length ≤ 1048576) (hl2 : ys.length ≤ 1048576) :
    Calls Try.prog 48 #[.slice s xs.length cap, .slice t ys.length cap2] w fun e w' => e = .returned (.bool (decide (xs = ys))) ∧ Below w.heap.size w w' := by
  have HS : Hid (Sl w s (ncells xs) ∧ Sl w t (ncells ys)) := ⟨hs, ht⟩
  clear hs ht
  by_cases hc : xs.length = ys.length
  · rw [← hc]
    generalize hn : xs.length = n at hc hl ⊢
    have HC : Hid (xs.length = n ∧ ys.length = n) := ⟨hn, hc.symm⟩
    clear hc hn hl2
    go_enter Try.func48, Try.ntmps48
    go_wp2
    go_loopw [5] (fun i wr => ∃ k : Nat, k ≤ n ∧ i = .int .i64 k ∧ xs.take k = ys.take k ∧ Below w.heap.size w wr) (fun i _ => n - (intOf i).toNat)
    case atStart => exact ⟨0, Nat.zero_le _, rfl, rfl, Below.refl _ _⟩
    case round =>
      obtain ⟨k, hk, rfl, htk, hd⟩ := hrel
      have HT : Hid (xs.take k = ys.take k) := htk
      have HD := Lib.hid hd
      clear htk hd
      by_cases hlt : k < n
      · obtain ⟨x, hx⟩ := get_of_lt (l := xs) (k := k) (by have := HC.out; omega)
        obtain ⟨y, hy⟩ := get_of_lt (l := ys) (k := k) (by have := HC.out; omega)
        obtain ⟨b, off, rfl, hbw, hz1, hz2, hz5⟩ := HS.out.1.node HD.out hx
        obtain ⟨b2, off2, rfl, hbw2, hz3, hz4, hz6⟩ := HS.out.2.node HD.out hy
        have HR : Hid (_ ∧ _) := Lib.hid ⟨hx, hy⟩
        clear hx hy
        go_wp2_with fail
        go_region_held3 (fun w' => w'.cell? ⟨b, off + k * 3, none⟩ = some (.int .i64 x.v) ∧ w'.cell? ⟨b, off + k * 3 + 1, none⟩ = some (.int .i64 x.lo) ∧ w'.cell? ⟨b, off + k * 3 + 2, none⟩ = some (.int .i64 x.hi) ∧ w'.cell? ⟨b2, off2 + k * 3, none⟩ = some (.int .i64 y.v) ∧ w'.cell? ⟨b2, off2 + k * 3 + 1, none⟩ = some (.int .i64 y.lo) ∧ w'.cell? ⟨b2, off2 + k * 3 + 2, none⟩ = some (.int .i64 y.hi))
          (first
            | go_keep
            | (go_split_ands
               refine ⟨?_, ?_, ?_, ?_, ?_, ?_⟩
               · rw [HQ.out.cell (by exact Nat.lt_of_lt_of_le hbw HD.out.size)]; assumption
               · rw [HQ.out.cell (by exact Nat.lt_of_lt_of_le hbw HD.out.size)]; assumption
               · rw [HQ.out.cell (by exact Nat.lt_of_lt_of_le hbw HD.out.size)]; assumption
               · rw [HQ.out.cell (by exact Nat.lt_of_lt_of_le hbw2 HD.out.size)]; assumption
               · rw [HQ.out.cell (by exact Nat.lt_of_lt_of_le hbw2 HD.out.size)]; assumption
               · rw [HQ.out.cell (by exact Nat.lt_of_lt_of_le hbw2 HD.out.size)]; assumption))
          ((first
            | (go_at_call 76; ((with_reducible refine (eqBddNode_any _ _ _ _ _ _ _).mono ?_); rintro e w1 ⟨rfl, hq⟩; have HQ := Lib.hid hq; clear hq))))
        go_wp2
        all_goals obtain ⟨hx, hy⟩ := HR.out
        all_goals first
          | (go_roundw
             case rel => exact ⟨k + 1, by omega, by go_num, by rw [List.take_add_one, List.take_add_one, HT.out, hx, hy]; simp at *; exact Nd.ext' (by simp [*]) (by simp [*]) (by simp [*]), HD.out.drew.trans (HQ.out.mono HD.out.size)⟩
             case measure => simp [intOf]; omega)
          | (go_ret
             refine ⟨ret_bool ?_, HD.out.drew.trans (HQ.out.mono HD.out.size)⟩
             symm; rw [decide_eq_false_iff_not]; intro e; subst e; rw [hx] at hy; cases hy; simp at *)
      · obtain rfl : k = n := by omega
        have he : decide (xs = ys) = true := by
          have h1 := HT.out
          rw [List.take_of_length_le (by have := HC.out; omega), List.take_of_length_le (by have := HC.out; omega)] at h1
          simpa using h1
        have HE := Lib.hid he
        clear he
        go_wp2
        go_ret
        exact ⟨ret_bool HE.out.symm, HD.out⟩
  · have hd : decide (xs = ys) = false := by simp; intro e; exact hc (by rw [e])
    rw [hd]
    clear hd
    go_enter Try.func48, Try.ntmps48
    go_wp2
    go_ret
    exact ⟨rfl, Below.refl _ _⟩

/-- A diagram as a value. -/
def BdV (w : World) (v : Value) (d : Bd) : Prop :=
  ∃ sn cn, v = .agg #[.slice sn d.nodes.length cn, .int .i64 d.root] ∧ Sl w sn (ncells d.nodes) ∧ d.nodes.length ≤ 1048576 ∧ d.nodes.length ≤ cn ∧ cn ≤ 9223372036854775807

theorem BdV.mono {w w' : World} {v : Value} {d : Bd} (h : BdV w v d) (hb : Below w.heap.size w w') : BdV w' v d := by
  obtain ⟨sn, cn, hv, h1, h2⟩ := h
  exact ⟨sn, cn, hv, h1.mono hb, h2⟩

theorem Sl.toA' {w : World} {b : Nat} {cs : List Value} {t : TypeId} {fz : Nat × Nat} (h : w.heap[b]? = some (.cells cs.toArray t fz)) : Sl w (some ⟨b, 0, none⟩) cs := by
  have := Sl.blk h; simpa using this

theorem toBdd_any (sn : Option Addr) (cn : Nat) (d : Bd) (w : World) (hs : Sl w sn (ncells d.nodes)) (hl : d.nodes.length ≤ 1048576) :
    Calls Try.prog 11 #[.agg #[.slice sn d.nodes.length cn, .int .i64 d.root]] w fun e w' => ∃ b1, e = .returned (.agg #[.slice (some ⟨b1, 0, none⟩) d.nodes.length d.nodes.length, .int .i64 d.root]) ∧
      BdV w' (.agg #[.slice (some ⟨b1, 0, none⟩) d.nodes.length d.nodes.length, .int .i64 d.root]) d ∧ Below w.heap.size w w' := by
  have HS := Lib.hid hs
  clear hs
  go_enter Try.func11, Try.ntmps11
  go_wp2_with fail
  have hS := St.start w 24 29 #[.slice sn d.nodes.length cn, .int .i64 d.root] #[.slice none 0 0, .int .i64 0] #[.slice none 0 0, .int .i64 0]
  revert hS
  generalize (((w.alloc (.cells #[.slice sn d.nodes.length cn, .int .i64 d.root] 24)).alloc (.cells #[.slice none 0 0, .int .i64 0] 29)).alloc (.cells #[.slice none 0 0, .int .i64 0] 29)) = W0
  intro hS
  refine (toBddNodeS_any _ _ _ _ hl (HS.out.mono hS.bel)).mono ?_
  rintro e W1 ⟨rfl, hq1, hq3⟩
  have hS1 := hS.call hq3
  obtain ⟨ca, cr, co1, fr, fo⟩ := hS1.cells
  have H1 := Lib.hid (And.intro hS1 (And.intro hq1 hS.sz))
  clear hS hS1 hq1 hq3
  go_wp2
  clear ca cr co1 fr fo
  have hF := (((H1.out.1.set 0 (.slice (some ⟨W0.heap.size, 0, none⟩) d.nodes.length d.nodes.length)).set 1 (.int .i64 d.root)).setR 0 (.slice (some ⟨W0.heap.size, 0, none⟩) d.nodes.length d.nodes.length)).setR 1 (.int .i64 d.root)
  have hk : ∀ (b : Nat) (x : Option Obj), w.heap.size + 3 ≤ b → W1.heap[b]? = x → ((((W1.setCell ⟨w.heap.size + 1 + 1, 0, none⟩ (.slice (some ⟨W0.heap.size, 0, none⟩) d.nodes.length d.nodes.length)).setCell ⟨w.heap.size + 1 + 1, 1, none⟩ (.int .i64 d.root)).setCell ⟨w.heap.size + 1, 0, none⟩ (.slice (some ⟨W0.heap.size, 0, none⟩) d.nodes.length d.nodes.length)).setCell ⟨w.heap.size + 1, 1, none⟩ (.int .i64 d.root)).heap[b]? = x := fun b x hb hx =>
    blk_set_ne (by omega) (blk_set_ne (by omega) (blk_set_ne (by omega) (blk_set_ne (by omega) hx)))
  revert hF hk
  generalize ((((W1.setCell ⟨w.heap.size + 1 + 1, 0, none⟩ (.slice (some ⟨W0.heap.size, 0, none⟩) d.nodes.length d.nodes.length)).setCell ⟨w.heap.size + 1 + 1, 1, none⟩ (.int .i64 d.root)).setCell ⟨w.heap.size + 1, 0, none⟩ (.slice (some ⟨W0.heap.size, 0, none⟩) d.nodes.length d.nodes.length)).setCell ⟨w.heap.size + 1, 1, none⟩ (.int .i64 d.root)) = WE
  intro hF hk
  obtain ⟨-, cr, -, -, -⟩ := hF.cells
  refine bodyPost_ret (v := .agg #[.slice (some ⟨W0.heap.size, 0, none⟩) d.nodes.length d.nodes.length, .int .i64 d.root]) (by simp [results, Try.results11, go_sem, cr]) rfl ⟨_, rfl, ?_⟩
  obtain ⟨hS3, hq1, hz1⟩ := H1.out
  exact ⟨⟨_, _, rfl, Sl.toA' (hk _ _ hz1 hq1), hl, Nat.le_refl _, by omega⟩, hF.bel⟩

def bdB (x y : Bd) : Bool := decide (x.nodes = y.nodes) && decide (x.root = y.root)
theorem bdB_self (x : Bd) : bdB x x = true := by simp [bdB]

theorem eqBdd_any (u v : Value) (x y : Bd) (w : World) (hx : BdV w u x) (hy : BdV w v y) :
    Calls Try.prog 13 #[u, v] w fun e w' => e = .returned (.bool (bdB x y)) ∧ Below w.heap.size w w' := by
  obtain ⟨sn, cn, rfl, h1, hl1, -⟩ := hx
  obtain ⟨sn', cn', rfl, k1, ml1, -⟩ := hy
  have HS := Lib.hid (And.intro h1 k1)
  clear h1 k1
  have hL : Below w.heap.size w ((w.alloc (.cells #[.slice sn x.nodes.length cn, .int .i64 x.root] 29)).alloc (.cells #[.slice sn' y.nodes.length cn', .int .i64 y.root] 29)) := by go_grown
  have HL := Lib.hid hL
  clear hL
  go_enter Try.func13, Try.ntmps13
  go_wp2_with (go_at_call 48; ((with_reducible refine (eqBddNodeS_any sn sn' _ _ _ _ _ (HS.out.1.mono HL.out) (HS.out.2.mono HL.out) hl1 ml1).mono ?_); rintro e w1 ⟨rfl, hq⟩; have HQ := Lib.hid hq; have hc : (∀ b o, b < w.heap.size + 1 + 1 → w1.cell? ⟨b, o, none⟩ = ((w.alloc (.cells #[.slice sn x.nodes.length cn, .int .i64 x.root] 29)).alloc (.cells #[.slice sn' y.nodes.length cn', .int .i64 y.root] 29)).cell? ⟨b, o, none⟩) := fun b o h => hq.cell (p := ⟨b, o, none⟩) (by simpa using h); clear hq))
  all_goals go_ret
  all_goals refine ⟨ret_bool (by unfold bdB; simp at *; simp [*]), ?_⟩
  all_goals exact HL.out.trans (HQ.out.mono (by simp; omega))

end Go.Proofs.Ytfljaocoolndgaa
