import Derived.Test.YtddmgphlhfilnaaA3
import Derived.Test.YtddmgphlhfilnaaA5
import Derived.Test.YtddmgphlhfilnaaB1
namespace Go.Proofs.Ytddmgphlhfilnaa
set_option linter.unusedVariables false
set_option linter.unusedSimpArgs false
open Go.RowKit

/-! Nodes of decision diagrams: sizes, copies, comparisons. -/

structure Nd where
  v : Int
  lo : Int
  hi : Int
theorem Nd.ext' {x y : Nd} (h1 : x.v = y.v) (h2 : x.lo = y.lo) (h3 : x.hi = y.hi) : x = y := by cases x; cases y; simp_all
instance : DecidableEq Nd := fun x y => decidable_of_iff (x.v = y.v ∧ x.lo = y.lo ∧ x.hi = y.hi) ⟨fun h => Nd.ext' h.1 h.2.1 h.2.2, fun h => by rw [h]; exact ⟨rfl, rfl, rfl⟩⟩
instance : Inhabited Nd := ⟨⟨0, 0, 0⟩⟩
structure Bd where
  nodes : List Nd
  root : Int

def Nd.cells (g : Nd) : List Value := [.int .i64 g.v, .int .i64 g.lo, .int .i64 g.hi]
def ncells (gs : List Nd) : List Value := gs.flatMap Nd.cells
theorem ncells_length (gs : List Nd) : (ncells gs).length = 3 * gs.length := by
  induction gs with
  | nil => rfl
  | cons g gs ih => simp [ncells, Nd.cells] at ih ⊢; omega
theorem ncells_get {gs : List Nd} {k : Nat} {g : Nd} (h : gs[k]? = some g) : (ncells gs)[3 * k]? = some (.int .i64 g.v) ∧ (ncells gs)[3 * k + 1]? = some (.int .i64 g.lo) ∧ (ncells gs)[3 * k + 2]? = some (.int .i64 g.hi) := by
  induction gs generalizing k with
  | nil => simp at h
  | cons x gs ih =>
    cases k with
    | zero => simp at h; subst h; exact ⟨rfl, rfl, rfl⟩
    | succ k =>
      have := ih (k := k) (by simpa using h)
      have e : ncells (x :: gs) = .int .i64 x.v :: .int .i64 x.lo :: .int .i64 x.hi :: ncells gs := rfl
      rw [e]
      refine ⟨?_, ?_, ?_⟩
      · rw [show 3 * (k + 1) = 3 * k + 1 + 1 + 1 from by omega]; simpa using this.1
      · rw [show 3 * (k + 1) + 1 = 3 * k + 1 + 1 + 1 + 1 from by omega]; simpa using this.2.1
      · rw [show 3 * (k + 1) + 2 = 3 * k + 2 + 1 + 1 + 1 from by omega]; simpa using this.2.2

theorem Sl.node {w wr : World} {s : Option Addr} {gs : List Nd} (h : Sl w s (ncells gs)) (hbl : Below w.heap.size w wr) {k : Nat} {g : Nd} (hg : gs[k]? = some g) :
    ∃ b off, s = some ⟨b, off, none⟩ ∧ b < w.heap.size ∧ wr.cell? ⟨b, off + k * 3, none⟩ = some (.int .i64 g.v) ∧ wr.cell? ⟨b, off + k * 3 + 1, none⟩ = some (.int .i64 g.lo) ∧ wr.cell? ⟨b, off + k * 3 + 2, none⟩ = some (.int .i64 g.hi) := by
  have hlt : k < gs.length := (List.getElem?_eq_some_iff.1 hg).1
  obtain ⟨b, off, rfl, hbw, hcs⟩ := h.at (k := 3 * k) (by rw [ncells_length]; omega)
  have e := ncells_get hg
  refine ⟨b, off, rfl, hbw, ?_, ?_, ?_⟩
  · rw [hbl.cell (by exact hbw), Nat.mul_comm]; exact hcs _ _ e.1
  · rw [hbl.cell (by exact hbw), Nat.mul_comm, Nat.add_assoc]; exact hcs _ _ e.2.1
  · rw [hbl.cell (by exact hbw), Nat.mul_comm, Nat.add_assoc]; exact hcs _ _ e.2.2

theorem eqBddNode_any (a b c x y z : Int) (w : World) :
    Calls Try.prog 100 #[.agg #[.int .i64 a, .int .i64 b, .int .i64 c], .agg #[.int .i64 x, .int .i64 y, .int .i64 z]] w fun e w' => e = .returned (.bool (decide (a = x) && (decide (b = y) && decide (c = z)))) ∧ Below w.heap.size w w' := by
  go_enter Try.func100, Try.ntmps100
  go_wp2
  all_goals
    go_ret
    refine ⟨ret_bool (by simp at *; simp [*]), ?_⟩
    go_grown

theorem mkNd (w : World) (n : Nat) (h : n ≤ 1048576) : (Instr.makeSlice 23 (.int .i64 (n : Int)) (.int .i64 (n : Int))).run Try.prog w = .ok (.slice (some ⟨w.heap.size, 0, none⟩) n n) (w.alloc (.cells (madeCells #[.int .i64 0, .int .i64 0, .int .i64 0] (n * 3)) 29)) := by
  obtain ⟨i, hi, h1, h2, h3⟩ := info_parts (P := Try.prog) (e := 29) (z := .agg #[.int .i64 0, .int .i64 0, .int .i64 0]) (size := 3) (bytes := 24) (by kernel_rfl)
  have := run_make (P := Try.prog) w 23 29 i (.agg #[.int .i64 0, .int .i64 0, .int .i64 0]) (by kernel_rfl) hi h1 .i64 .i64 n n (by omega) (by omega) (by rw [h3]; omega) (by omega)
  rw [this, h2]; simp [Value.cells]

set_option maxHeartbeats 400000 in
theorem eqBddNodeS_any (s t : Option Addr) (xs ys : List Nd) (cap cap2 : Nat) (w : World) (hs : Sl w s (ncells xs)) (ht : Sl w t (ncells ys)) (hl : xs.length ≤ 1048576) (hl2 : ys.length ≤ 1048576) :
    Calls Try.prog 71 #[.slice s xs.length cap, .slice t ys.length cap2] w fun e w' => e = .returned (.bool (decide (xs = ys))) ∧ Below w.heap.size w w' := by
  have HS : Hid (Sl w s (ncells xs) ∧ Sl w t (ncells ys)) := ⟨hs, ht⟩
  clear hs ht
  by_cases hc : xs.length = ys.length
  · rw [← hc]
    generalize hn : xs.length = n at hc hl ⊢
    have HC : Hid (xs.length = n ∧ ys.length = n) := ⟨hn, hc.symm⟩
    clear hc hn hl2
    go_enter Try.func71, Try.ntmps71
    go_wp2
    go_loopw [5] (fun i wr => ∃ k : Nat, k ≤ n ∧ i = .int .i64 k ∧ xs.take k = ys.take k ∧ Below w.heap.size w wr) (fun i _ => n - (intOf i).toNat)
    case atStart => exact ⟨0, Nat.zero_le _, rfl, rfl, Below.refl _ _⟩
    case round =>
      obtain ⟨k, hk, rfl, htk, hd⟩ := hrel
      have HT : Hid (xs.take k = ys.take k) := htk
      have HD := Lib.hid hd
      clear htk hd
      by_cases hlt : k < n
      · obtain ⟨x, hx⟩ := get_of_lt (l := xs) (k := k) (by have := HC.out; omega)
        obtain ⟨y, hy⟩ := get_of_lt (l := ys) (k := k) (by have := HC.out; omega)
        obtain ⟨b, off, rfl, hbw, hz1, hz2, hz5⟩ := HS.out.1.node HD.out hx
        obtain ⟨b2, off2, rfl, hbw2, hz3, hz4, hz6⟩ := HS.out.2.node HD.out hy
        have HR : Hid (_ ∧ _) := Lib.hid ⟨hx, hy⟩
        clear hx hy
        go_wp2_with fail
        go_region_held3 (fun w' => w'.cell? ⟨b, off + k * 3, none⟩ = some (.int .i64 x.v) ∧ w'.cell? ⟨b, off + k * 3 + 1, none⟩ = some (.int .i64 x.lo) ∧ w'.cell? ⟨b, off + k * 3 + 2, none⟩ = some (.int .i64 x.hi) ∧ w'.cell? ⟨b2, off2 + k * 3, none⟩ = some (.int .i64 y.v) ∧ w'.cell? ⟨b2, off2 + k * 3 + 1, none⟩ = some (.int .i64 y.lo) ∧ w'.cell? ⟨b2, off2 + k * 3 + 2, none⟩ = some (.int .i64 y.hi))
          (first
            | go_keep
            | (go_split_ands
               refine ⟨?_, ?_, ?_, ?_, ?_, ?_⟩
               · rw [HQ.out.cell (by exact Nat.lt_of_lt_of_le hbw HD.out.size)]; assumption
               · rw [HQ.out.cell (by exact Nat.lt_of_lt_of_le hbw HD.out.size)]; assumption
               · rw [HQ.out.cell (by exact Nat.lt_of_lt_of_le hbw HD.out.size)]; assumption
               · rw [HQ.out.cell (by exact Nat.lt_of_lt_of_le hbw2 HD.out.size)]; assumption
               · rw [HQ.out.cell (by exact Nat.lt_of_lt_of_le hbw2 HD.out.size)]; assumption
               · rw [HQ.out.cell (by exact Nat.lt_of_lt_of_le hbw2 HD.out.size)]; assumption))
          ((first
            | (go_at_call 100; ((with_reducible refine (eqBddNode_any _ _ _ _ _ _ _).mono ?_); rintro e w1 ⟨rfl, hq⟩; have HQ := Lib.hid hq; clear hq))))
        go_wp2
        all_goals obtain ⟨hx, hy⟩ := HR.out
        all_goals first
          | (go_roundw
             case rel => exact ⟨k + 1, by omega, by go_num, by rw [List.take_add_one, List.take_add_one, HT.out, hx, hy]; simp at *; exact Nd.ext' (by simp [*]) (by simp [*]) (by simp [*]), HD.out.drew.trans (HQ.out.mono HD.out.size)⟩
             case measure => simp [intOf]; omega)
          | (go_ret
             refine ⟨ret_bool ?_, HD.out.drew.trans (HQ.out.mono HD.out.size)⟩
             symm; rw [decide_eq_false_iff_not]; intro e; subst e; rw [hx] at hy; cases hy; simp at *)
      · obtain rfl : k = n := by omega
        have he : decide (xs = ys) = true := by
          have h1 := HT.out
          rw [List.take_of_length_le (by have := HC.out; omega), List.take_of_length_le (by have := HC.out; omega)] at h1
          simpa using h1
        have HE := Lib.hid he
        clear he
        go_wp2
        go_ret
        exact ⟨ret_bool HE.out.symm, HD.out⟩
  · have hd : decide (xs = ys) = false := by simp; intro e; exact hc (by rw [e])
    rw [hd]
    clear hd
    go_enter Try.func71, Try.ntmps71
    go_wp2
    go_ret
    exact ⟨rfl, Below.refl _ _⟩

/-- A diagram as a value. -/
def BdV (w : World) (v : Value) (d : Bd) : Prop :=
  ∃ sn cn, v = .agg #[.slice sn d.nodes.length cn, .int .i64 d.root] ∧ Sl w sn (ncells d.nodes) ∧ d.nodes.length ≤ 1048576 ∧ d.nodes.length ≤ cn ∧ cn ≤ 9223372036854775807

theorem BdV.mono {w w' : World} {v : Value} {d : Bd} (h : BdV w v d) (hb : Below w.heap.size w w') : BdV w' v d := by
  obtain ⟨sn, cn, hv, h1, h2⟩ := h
  exact ⟨sn, cn, hv, h1.mono hb, h2⟩

theorem Sl.toA' {w : World} {b : Nat} {cs : List Value} {t : TypeId} {fz : Nat × Nat} (h : w.heap[b]? = some (.cells cs.toArray t fz)) : Sl w (some ⟨b, 0, none⟩) cs := by
  have := Sl.blk h; simpa using this

def bdB (x y : Bd) : Bool := decide (x.nodes = y.nodes) && decide (x.root = y.root)
theorem bdB_self (x : Bd) : bdB x x = true := by simp [bdB]

theorem eqBdd_any (u v : Value) (x y : Bd) (w : World) (hx : BdV w u x) (hy : BdV w v y) :
    Calls Try.prog 29 #[u, v] w fun e w' => e = .returned (.bool (bdB x y)) ∧ Below w.heap.size w w' := by
  obtain ⟨sn, cn, rfl, h1, hl1, -⟩ := hx
  obtain ⟨sn', cn', rfl, k1, ml1, -⟩ := hy
  have HS := Lib.hid (And.intro h1 k1)
  clear h1 k1
  have hL : Below w.heap.size w ((w.alloc (.cells #[.slice sn x.nodes.length cn, .int .i64 x.root] 25)).alloc (.cells #[.slice sn' y.nodes.length cn', .int .i64 y.root] 25)) := by go_grown
  have HL := Lib.hid hL
  clear hL
  go_enter Try.func29, Try.ntmps29
  go_wp2_with (go_at_call 71; ((with_reducible refine (eqBddNodeS_any sn sn' _ _ _ _ _ (HS.out.1.mono HL.out) (HS.out.2.mono HL.out) hl1 ml1).mono ?_); rintro e w1 ⟨rfl, hq⟩; have HQ := Lib.hid hq; have hc : (∀ b o, b < w.heap.size + 1 + 1 → w1.cell? ⟨b, o, none⟩ = ((w.alloc (.cells #[.slice sn x.nodes.length cn, .int .i64 x.root] 25)).alloc (.cells #[.slice sn' y.nodes.length cn', .int .i64 y.root] 25)).cell? ⟨b, o, none⟩) := fun b o h => hq.cell (p := ⟨b, o, none⟩) (by simpa using h); clear hq))
  all_goals go_ret
  all_goals refine ⟨ret_bool (by unfold bdB; simp at *; simp [*]), ?_⟩
  all_goals exact HL.out.trans (HQ.out.mono (by simp; omega))

end Go.Proofs.Ytddmgphlhfilnaa
