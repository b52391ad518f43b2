import Derived.Test.YtaboipnigeaopaaZZ45OA
import Derived.Test.YtaboipnigeaopaaZZ45L4
import Derived.Test.YtaboipnigeaopaaProg
import Derived.Deep.DeepCutAuto
import Derived.Laws.StructEq
import Derived.Laws.OwnMore
import Derived.Laws.CopyOwn
namespace Go.Proofs.Ytaboipnigeaopaa
set_option linter.unusedVariables false
set_option linter.unusedSimpArgs false
open Go.RowKit

/-! Part of the proof of one law. -/

/-! sizes, copies and comparisons of []int, [][]int; ClausesValid. -/

theorem ret_int {k : IntKind} {a b : Int} (h : a = b) : Ending.returned (.int k a) = .returned (.int k b) := by rw [h]

theorem l1In_any (n lo hi : Int) (w : World) :
    Calls Try.prog 48 #[.int .i64 n, .int .i64 lo, .int .i64 hi] w fun e w' => e = .returned (.bool (decide (lo ≤ n ∧ n ≤ hi))) ∧ w = w' := by
  by_cases h : lo ≤ n
  all_goals
    go_enter Try.func48, Try.ntmps48
    go_wp2
    go_ret
    exact ⟨by simp [h] <;> omega, rfl⟩

/-- A slice of slices of numbers reads as these rows. -/
def SlS (w : World) (s : Option Addr) (rows : List (List Int)) : Prop :=
  ∃ vs : List Value, vs.length = rows.length ∧ Sl w s vs ∧ ∀ (i : Nat) (r : List Int), rows[i]? = some r → ∃ si ci, vs[i]? = some (Value.slice si r.length ci) ∧ Sl w si (ints r)

theorem SlS.mono {w w' : World} {s : Option Addr} {rows : List (List Int)} (h : SlS w s rows) (hb : Below w.heap.size w w') : SlS w' s rows := by
  obtain ⟨vs, hv, hs, hrow⟩ := h
  exact ⟨vs, hv, hs.mono hb, fun i r hr => let ⟨si, ci, h1, h2⟩ := hrow i r hr; ⟨si, ci, h1, h2.mono hb⟩⟩

/-! spec: CircuitValid. -/

theorem l1First_any (inp : Int) (sn : Option Addr) (nn cn : Nat) (vg vo : Value) (w : World) (hi : -1000000 ≤ inp ∧ inp ≤ 1000000) (hn : nn ≤ 1048576) :
    Calls Try.prog 49 #[.agg #[.int .i64 inp, .slice sn nn cn, vg, vo]] w fun e w' => e = .returned (.int .i64 (1 + inp + nn)) ∧ Below w.heap.size w w' := by
  obtain ⟨hi1, hi2⟩ := hi
  go_enter Try.func49, Try.ntmps49
  go_wp2
  go_ret
  exact ⟨ret_int (by omega), (Below.refl _ _).alloc (Nat.le_refl _) _⟩

theorem l1Lits_any (s : Option Addr) (cap : Nat) (xs : List Int) (v : Int) (w : World) (hs : Sl w s (ints xs)) (hl : xs.length ≤ 1048576) (hv : -2000000000 ≤ v ∧ v ≤ 2000000000) :
    Calls Try.prog 50 #[.slice s xs.length cap, .int .i64 v] w fun e w' => e = .returned (.bool (decide (litsP v xs))) ∧ w = w' := by
  obtain ⟨hv1, hv2⟩ := hv
  have HS := Lib.hid hs
  clear hs
  go_enter Try.func50, Try.ntmps50
  go_wp2
  go_loop [5] (fun i => ∃ k : Nat, k ≤ xs.length ∧ i = .int .i64 k ∧ litsP v (xs.take k)) (fun i => xs.length - (intOf i).toNat)
  case atStart => exact ⟨0, Nat.zero_le _, rfl, by intro x hx; simp at hx⟩
  case round =>
    obtain ⟨k, hk, rfl, hP⟩ := hrel
    have HP := Lib.hid hP
    clear hP
    by_cases hlt : k < xs.length
    · obtain ⟨x, hx⟩ := get_of_lt hlt
      obtain ⟨b, off, rfl, hbw, hz⟩ := HS.out.int (Below.refl _ _) hx
      have HX := Lib.hid hx
      clear hx
      go_wp2_with (go_at_call 48; refine (l1In_any _ _ _ _).mono ?_; rintro e w' ⟨rfl, rfl⟩)
      all_goals first
        | (go_round
           case rel => exact ⟨k + 1, by omega, by go_num, litsP_snoc HP.out HX.out (by unfold litP; simp at *; omega)⟩
           case measure => simp [intOf]; omega)
        | (go_ret
           exact ⟨ret_bool (decide_eq_false fun h => absurd (h x (List.mem_of_getElem? HX.out)) (by unfold litP; simp at *; omega)).symm, rfl⟩)
    · obtain rfl : k = xs.length := by omega
      have h1 := HP.out
      rw [List.take_length] at h1
      have HP2 := Lib.hid h1
      clear h1
      go_wp2
      go_ret
      exact ⟨ret_bool (decide_eq_true HP2.out).symm, rfl⟩

theorem l1Lits_two (b : Nat) (x y v : Int) (w : World) (h0 : Sl w (some ⟨b, 0, none⟩) (ints [x, y])) (hv : -2000000000 ≤ v ∧ v ≤ 2000000000) :
    Calls Try.prog 50 #[.slice (some ⟨b, 0, none⟩) 2 2, .int .i64 v] w fun e w' => e = .returned (.bool (decide (litP x v) && decide (litP y v))) ∧ w = w' := by
  refine (l1Lits_any _ 2 [x, y] v w h0 (by simp) hv).mono ?_
  rintro e w' ⟨rfl, rfl⟩
  exact ⟨ret_bool (by rw [← Bool.decide_and]; exact decide_eq_decide.2 (by unfold litsP; simp)), rfl⟩

set_option maxHeartbeats 400000 in
theorem CircuitValid_s (v : Value) (c : Cir) (w : World) (h : CirV w v c) :
    Calls Try.prog 17 #[v] w fun e w' => e = .returned (.bool c.validB) ∧ Below w.heap.size w w' := by
  obtain ⟨sn, cn, sg, cg, so, co, rfl, h1, h2, h3, hl1, hl2, hl3⟩ := h
  by_cases hlim : c.limits
  · obtain ⟨ha, hb, hc, hd, he⟩ := hlim
    have HP : Hid (Sl w sn (ints c.next) ∧ Sl w sg (gcells c.gates) ∧ Sl w so (ints c.outs) ∧ c.limits) := Lib.hid ⟨h1, h2, h3, ha, hb, hc, hd, he⟩
    clear h1 h2 h3 hl1 hl2 hl3
    have e1 : decide (0 ≤ c.inp ∧ c.inp ≤ 4) = true := decide_eq_true ⟨ha, hb⟩
    go_enter Try.func17, Try.ntmps17
    go_wp2_with (first
      | (go_at_call 48; refine (l1In_any _ _ _ _).mono ?_; rintro e w' ⟨rfl, rfl⟩; rw [e1])
      | (go_at_call 49; refine (l1First_any _ _ _ _ _ _ _ (by omega) (by omega)).mono ?_; rintro e w1 ⟨rfl, hb1⟩; have hB1 := Lib.hid hb1; clear hb1))
    obtain ⟨B0, hB0⟩ : ∃ B0, B0 = w.heap.size := ⟨_, rfl⟩
    have hbk := blk_below hB1.out (by simp) (blk_new w _)
    have hbel : Below w.heap.size w w1 := ((Below.refl _ _).alloc (Nat.le_refl _) _).trans (hB1.out.mono (by simp))
    rw [← hB0] at hbk
    have HB := Lib.hid (And.intro hB0 (And.intro hbk hbel))
    clear hbk hbel hB0
    go_loopw [4] (fun i wr => ∃ k : Nat, k ≤ c.gates.length ∧ i = .int .i64 k ∧ gatesP c.first (c.gates.take k) ∧ Below w1.heap.size w1 wr) (fun i _ => c.gates.length - (intOf i).toNat)
    case atStart => exact ⟨0, Nat.zero_le _, rfl, by intro i hi; simp at hi, Below.refl _ _⟩
    case round =>
      obtain ⟨k, hk, rfl, hg, hbl⟩ := hrel
      have hbk := blk_below hbl (blk_lt HB.out.2.1) HB.out.2.1
      have hbel := HB.out.2.2.trans (hbl.mono HB.out.2.2.size)
      have hC0 : wr.cell? ⟨w.heap.size, 0, none⟩ = some (.int .i64 c.inp) := by rw [← HB.out.1]; exact blk_cell hbk
      have hC1 : wr.cell? ⟨w.heap.size, 1, none⟩ = some (.slice sn c.next.length cn) := by rw [← HB.out.1]; exact blk_cell hbk
      have hC2 : wr.cell? ⟨w.heap.size, 2, none⟩ = some (.slice sg c.gates.length cg) := by rw [← HB.out.1]; exact blk_cell hbk
      have hC3 : wr.cell? ⟨w.heap.size, 3, none⟩ = some (.slice so c.outs.length co) := by rw [← HB.out.1]; exact blk_cell hbk
      by_cases hlt : k < c.gates.length
      · obtain ⟨g, hgk⟩ := get_of_lt hlt
        obtain ⟨b, off, rfl, hbw, hz1, hz2⟩ := HP.out.2.1.gate hbel hgk
        have HR : Hid (_ ∧ _ ∧ _ ∧ _ ∧ _) := Lib.hid ⟨hg, hbk, hbl, hgk, hbw⟩
        clear hg hbk hbl hgk hbw hbel
        have hSl : Hid (∀ W : World, Sl (W.alloc (.cells #[.int .i64 g.a, .int .i64 g.b] 3)).drew (some ⟨W.heap.size, 0, none⟩) (ints [g.a, g.b])) := fun W => (Sl.new W #[.int .i64 g.a, .int .i64 g.b] _).drew
        have hvb : Hid (-2000000000 ≤ 1 + c.inp + (c.next.length : Int) + (k : Int) ∧ 1 + c.inp + (c.next.length : Int) + (k : Int) ≤ 2000000000) := ⟨by omega, by omega⟩
        have hwr : IntKind.i64.wrap (1 + c.inp + (c.next.length : Int) + (k : Int)) = 1 + c.inp + c.next.length + k := IntWalk.i64_in _ ⟨by omega, by omega⟩
        go_wp2_with fail
        go_region_held3 (fun w' => w'.cell? ⟨w.heap.size, 2, none⟩ = some (.slice (some ⟨b, off, none⟩) c.gates.length cg) ∧ w'.cell? ⟨b, off + k * 2, none⟩ = some (.int .i64 g.a) ∧ w'.cell? ⟨b, off + k * 2 + 1, none⟩ = some (.int .i64 g.b))
          (first | go_keep)
          ((first | (go_at_call 50; ((with_reducible refine (l1Lits_two _ _ _ _ _ (hSl.out _) hvb.out).mono ?_); rintro e w' ⟨rfl, rfl⟩))))
        go_wp2
        all_goals obtain ⟨hg, hbk, hbl, hgk, hbw⟩ := HR.out
        all_goals first
          | (go_roundw
             case rel => exact ⟨k + 1, by omega, by go_num, gatesP_snoc hg hgk (by unfold Cir.first; simp at *; simp [*]) (by unfold Cir.first; simp at *; simp [*]), hbl.drew.alloc hbl.size _⟩
             case measure => simp [intOf]; omega)
          | (go_ret
             refine ⟨ret_bool (c.validB_false.2 fun h => ?_).symm, (HB.out.2.2.trans (hbl.mono HB.out.2.2.size)).drew.alloc (Nat.le_trans HB.out.2.2.size hbl.size) _⟩
             have hq := gatesP_at h.gates hgk
             unfold Cir.first at hq
             simp [hq.1, hq.2] at *)
      · obtain rfl : k = c.gates.length := by omega
        rw [List.take_length] at hg
        have hvb : Hid (-2000000000 ≤ 1 + c.inp + (c.next.length : Int) + (c.gates.length : Int) ∧ 1 + c.inp + (c.next.length : Int) + (c.gates.length : Int) ≤ 2000000000) := ⟨by omega, by omega⟩
        have HR : Hid (Sl wr sn (ints c.next) ∧ Sl wr so (ints c.outs) ∧ c.next.length ≤ 1048576 ∧ c.outs.length ≤ 1048576) := ⟨HP.out.1.mono hbel, HP.out.2.2.1.mono hbel, by omega, by have := HP.out.2.2.2.2.2.2.2; omega⟩
        have HE : Hid (gatesP c.first c.gates ∧ Below w.heap.size w wr) := ⟨hg, hbel⟩
        clear hg hbk hbl hbel
        go_wp2_with (first
          | (go_at_call 50; ((with_reducible refine (l1Lits_any _ _ _ _ _ HR.out.1 HR.out.2.2.1 hvb.out).mono ?_); rintro e w' ⟨rfl, rfl⟩))
          | (go_at_call 50; ((with_reducible refine (l1Lits_any _ _ _ _ _ HR.out.2.1 HR.out.2.2.2 hvb.out).mono ?_); rintro e w' ⟨rfl, rfl⟩)))
        all_goals go_ret
        all_goals refine ⟨ret_bool ?_, HE.out.2⟩
        all_goals unfold Cir.validB Cir.vars
        all_goals simp [HP.out.2.2.2, HE.out.1, *]
  · have hf : c.validB = false := c.validB_false.2 fun h => hlim h.1
    rw [hf]
    have H : Hid (¬ c.limits) := Lib.hid hlim
    clear hlim hf
    go_enter Try.func17, Try.ntmps17
    go_wp2_with (first
      | (go_at_call 48; refine (l1In_any _ _ _ _).mono ?_; rintro e w' ⟨rfl, rfl⟩)
      | (go_at_call 49; fail))
    all_goals first
      | (go_ret; exact ⟨rfl, (Below.refl _ _).alloc (Nat.le_refl _) _⟩)
      | (exfalso; apply H.out; refine ⟨?_, ?_, ?_, ?_, ?_⟩ <;> omega)

structure Nd where
  v : Int
  lo : Int
  hi : Int

theorem Nd.ext' {x y : Nd} (h1 : x.v = y.v) (h2 : x.lo = y.lo) (h3 : x.hi = y.hi) : x = y := by cases x; cases y; simp_all

instance : DecidableEq Nd := fun x y => decidable_of_iff (x.v = y.v ∧ x.lo = y.lo ∧ x.hi = y.hi) ⟨fun h => Nd.ext' h.1 h.2.1 h.2.2, fun h => by rw [h]; exact ⟨rfl, rfl, rfl⟩⟩

instance : Inhabited Nd := ⟨⟨0, 0, 0⟩⟩

structure Bd where
  nodes : List Nd
  root : Int

def Nd.cells (g : Nd) : List Value := [.int .i64 g.v, .int .i64 g.lo, .int .i64 g.hi]

def ncells (gs : List Nd) : List Value := gs.flatMap Nd.cells

theorem ncells_length (gs : List Nd) : (ncells gs).length = 3 * gs.length := by
  induction gs with
  | nil => rfl
  | cons g gs ih => simp [ncells, Nd.cells] at ih ⊢; omega

theorem ncells_get {gs : List Nd} {k : Nat} {g : Nd} (h : gs[k]? = some g) : (ncells gs)[3 * k]? = some (.int .i64 g.v) ∧ (ncells gs)[3 * k + 1]? = some (.int .i64 g.lo) ∧ (ncells gs)[3 * k + 2]? = some (.int .i64 g.hi) := by
  induction gs generalizing k with
  | nil => simp at h
  | cons x gs ih =>
    cases k with
    | zero => simp at h; subst h; exact ⟨rfl, rfl, rfl⟩
    | succ k =>
      have := ih (k := k) (by simpa using h)
      have e : ncells (x :: gs) = .int .i64 x.v :: .int .i64 x.lo :: .int .i64 x.hi :: ncells gs := rfl
      rw [e]
      refine ⟨?_, ?_, ?_⟩
      · rw [show 3 * (k + 1) = 3 * k + 1 + 1 + 1 from by omega]; simpa using this.1
      · rw [show 3 * (k + 1) + 1 = 3 * k + 1 + 1 + 1 + 1 from by omega]; simpa using this.2.1
      · rw [show 3 * (k + 1) + 2 = 3 * k + 2 + 1 + 1 + 1 from by omega]; simpa using this.2.2

theorem Sl.node {w wr : World} {s : Option Addr} {gs : List Nd} (h : Sl w s (ncells gs)) (hbl : Below w.heap.size w wr) {k : Nat} {g : Nd} (hg : gs[k]? = some g) :
    ∃ b off, s = some ⟨b, off, none⟩ ∧ b < w.heap.size ∧ wr.cell? ⟨b, off + k * 3, none⟩ = some (.int .i64 g.v) ∧ wr.cell? ⟨b, off + k * 3 + 1, none⟩ = some (.int .i64 g.lo) ∧ wr.cell? ⟨b, off + k * 3 + 2, none⟩ = some (.int .i64 g.hi) := by
  have hlt : k < gs.length := (List.getElem?_eq_some_iff.1 hg).1
  obtain ⟨b, off, rfl, hbw, hcs⟩ := h.at (k := 3 * k) (by rw [ncells_length]; omega)
  have e := ncells_get hg
  refine ⟨b, off, rfl, hbw, ?_, ?_, ?_⟩
  · rw [hbl.cell (by exact hbw), Nat.mul_comm]; exact hcs _ _ e.1
  · rw [hbl.cell (by exact hbw), Nat.mul_comm, Nat.add_assoc]; exact hcs _ _ e.2.1
  · rw [hbl.cell (by exact hbw), Nat.mul_comm, Nat.add_assoc]; exact hcs _ _ e.2.2

theorem mkNd (w : World) (n : Nat) (h : n ≤ 1048576) : (Instr.makeSlice 45 (.int .i64 (n : Int)) (.int .i64 (n : Int))).run Try.prog w = .ok (.slice (some ⟨w.heap.size, 0, none⟩) n n) (w.alloc (.cells (madeCells #[.int .i64 0, .int .i64 0, .int .i64 0] (n * 3)) 85)) := by
  obtain ⟨i, hi, h1, h2, h3⟩ := info_parts (P := Try.prog) (e := 85) (z := .agg #[.int .i64 0, .int .i64 0, .int .i64 0]) (size := 3) (bytes := 24) (by kernel_rfl)
  have := run_make (P := Try.prog) w 45 85 i (.agg #[.int .i64 0, .int .i64 0, .int .i64 0]) (by kernel_rfl) hi h1 .i64 .i64 n n (by omega) (by omega) (by rw [h3]; omega) (by omega)
  rw [this, h2]; simp [Value.cells]

def basicP (i : Nat) (x : Nd) : Prop := 0 ≤ x.v ∧ x.v ≤ 6 ∧ 0 ≤ x.lo ∧ x.lo < i ∧ 0 ≤ x.hi ∧ x.hi < i ∧ x.lo ≠ x.hi

instance (i : Nat) (x : Nd) : Decidable (basicP i x) := inferInstanceAs (Decidable (_ ∧ _))

def freshP (ns : List Nd) (i : Nat) (x : Nd) : Prop := ∀ k, k < i → 2 ≤ k → ns[k]? ≠ some x

instance (ns : List Nd) (i : Nat) (x : Nd) : Decidable (freshP ns i x) := inferInstanceAs (Decidable (∀ k, k < i → _))

structure okAt (ns : List Nd) (i : Nat) (x : Nd) : Prop where
  basic : basicP i x
  lo : 1 < x.lo → x.v < (ns.getD x.lo.toNat default).v
  hi : 1 < x.hi → x.v < (ns.getD x.hi.toNat default).v
  fresh : freshP ns i x

instance (ns : List Nd) (i : Nat) (x : Nd) : Decidable (okAt ns i x) :=
  decidable_of_iff (basicP i x ∧ (1 < x.lo → x.v < (ns.getD x.lo.toNat default).v) ∧ (1 < x.hi → x.v < (ns.getD x.hi.toNat default).v) ∧ freshP ns i x) ⟨fun h => ⟨h.1, h.2.1, h.2.2.1, h.2.2.2⟩, fun h => ⟨h.1, h.2, h.3, h.4⟩⟩

def okTo (ns : List Nd) (n : Nat) : Prop := ∀ i, i < n → 2 ≤ i → okAt ns i (ns.getD i default)

instance (ns : List Nd) (n : Nat) : Decidable (okTo ns n) := inferInstanceAs (Decidable (∀ i, i < n → _))

structure Bd.head (d : Bd) : Prop where
  l2 : 2 ≤ d.nodes.length
  l1000 : d.nodes.length ≤ 1000
  r0 : 0 ≤ d.root
  r1 : d.root < d.nodes.length
  n0 : d.nodes[0]? = some ⟨0, 0, 0⟩
  n1 : d.nodes[1]? = some ⟨0, 0, 0⟩

instance (d : Bd) : Decidable d.head :=
  decidable_of_iff (2 ≤ d.nodes.length ∧ d.nodes.length ≤ 1000 ∧ 0 ≤ d.root ∧ d.root < d.nodes.length ∧ d.nodes[0]? = some ⟨0, 0, 0⟩ ∧ d.nodes[1]? = some ⟨0, 0, 0⟩) ⟨fun ⟨a, b, c, d, e, f⟩ => ⟨a, b, c, d, e, f⟩, fun ⟨a, b, c, d, e, f⟩ => ⟨a, b, c, d, e, f⟩⟩

def Bd.valid (d : Bd) : Prop := d.head ∧ okTo d.nodes d.nodes.length

instance (d : Bd) : Decidable d.valid := inferInstanceAs (Decidable (_ ∧ _))

def Bd.validB (d : Bd) : Bool := decide d.valid

theorem Bd.validB_iff (d : Bd) : d.validB = true ↔ d.valid := by simp [Bd.validB]

theorem Bd.validB_true {d : Bd} (h : d.valid) : d.validB = true := by simpa [Bd.validB] using h

theorem Bd.validB_false {d : Bd} (h : ¬ d.valid) : d.validB = false := by simpa [Bd.validB] using h

theorem getD_of {ns : List Nd} {k : Nat} {x : Nd} (h : ns[k]? = some x) : ns.getD k default = x := by simp [List.getD, h]

def Nd.agg (x : Nd) : Value := .agg #[.int .i64 x.v, .int .i64 x.lo, .int .i64 x.hi]

theorem und_nd : ∃ fs, Try.prog.underlying 85 = some (.struct fs) ∧ ∀ (e : Bool) (x : Nd) (w : World), (Instr.checkKey e 10000 85 x.agg).run Try.prog w = .ok () w := by
  refine ⟨_, Try.underlying85, fun e x w => ?_⟩
  suffices h : ∀ n : Nat, (Instr.checkKey e (n + 1 + 1) 85 x.agg).run Try.prog w = .ok () w from h 9998
  intro n
  unfold Nd.agg
  simp [Instr.checkKey, run_underlying Try.underlying85, run_underlying Try.underlying3, part, isAgg, go_sem]

theorem equal_nd (x y : Nd) (w : World) : (Op.equal 85 x.agg y.agg).run Try.prog w = .ok (decide (x = y)) w := by
  have e : (decide (x = y)) = (decide (x.v = y.v) && (decide (x.lo = y.lo) && decide (x.hi = y.hi))) := by
    rw [Bool.eq_iff_iff]
    simp only [Bool.and_eq_true, decide_eq_true_eq]
    exact ⟨fun h => by rw [h]; exact ⟨rfl, rfl, rfl⟩, fun h => Nd.ext' h.1 h.2.1 h.2.2⟩
  rw [e]
  unfold Op.equal Op.maxDepth Nd.agg
  go_simp
  by_cases h1 : x.v = y.v <;> by_cases h2 : x.lo = y.lo <;> by_cases h3 : x.hi = y.hi <;> simp [h1, h2, h3]

def ndOf : Value → Nd
  | .agg cs => ⟨intOf (cs.getD 0 undef), intOf (cs.getD 1 undef), intOf (cs.getD 2 undef)⟩
  | _ => default

theorem ndOf_agg (x : Nd) : ndOf x.agg = x := rfl

def evalN (ns : List Nd) (x : Int) : Nat → Nat → Nat
  | 0, a => a
  | f + 1, a => if 1 < a then evalN ns x f (if x / 2 ^ ((ns.getD a default).v).toNat % 2 = 1 then (ns.getD a default).hi.toNat else (ns.getD a default).lo.toNat) else a

theorem evalN_end (ns : List Nd) (x : Int) (f a : Nat) (h : ¬ 1 < a) : evalN ns x f a = a := by
  cases f with
  | zero => rfl
  | succ f => unfold evalN; rw [if_neg h]

theorem evalN_hi {ns : List Nd} {x : Int} {f a : Nat} {g : Nd} (hg : ns[a]? = some g) (h : 1 < a) (hb : x / 2 ^ g.v.toNat % 2 = 1) : evalN ns x (f + 1) a = evalN ns x f g.hi.toNat := by
  show (if 1 < a then _ else _) = _
  rw [if_pos h, getD_of hg, if_pos hb]

theorem evalN_lo {ns : List Nd} {x : Int} {f a : Nat} {g : Nd} (hg : ns[a]? = some g) (h : 1 < a) (hb : ¬ x / 2 ^ g.v.toNat % 2 = 1) : evalN ns x (f + 1) a = evalN ns x f g.lo.toNat := by
  show (if 1 < a then _ else _) = _
  rw [if_pos h, getD_of hg, if_neg hb]

def Bd.evalB (d : Bd) (x : Int) : Bool := d.validB && (decide (0 ≤ x) && decide (evalN d.nodes x 1000 d.root.toNat = 1))

theorem evalB_eq {d : Bd} {x : Int} (h : d.validB = true) (hx : 0 ≤ x) : d.evalB x = decide (evalN d.nodes x 1000 d.root.toNat = 1) := by simp [Bd.evalB, h, hx]

/-! CountBdd, both. -/

def Bd.under (d : Bd) (n : Int) (m : Nat) : Prop := ∀ i, i < m → 2 ≤ i → (d.nodes.getD i default).v < n

instance (d : Bd) (n : Int) (m : Nat) : Decidable (d.under n m) := inferInstanceAs (Decidable (∀ i, i < m → _))

def Bd.fine (d : Bd) (n : Int) : Prop := d.validB = true ∧ 0 ≤ n ∧ n ≤ 7 ∧ d.under n d.nodes.length

instance (d : Bd) (n : Int) : Decidable (d.fine n) := inferInstanceAs (Decidable (_ ∧ _))

def litB (vs : List Bool) (l : Int) : Bool := vs.getD (l / 2).toNat false != decide (l % 2 = 1)

def stepV (st : Int) (val : Bool) (vs : List Bool) (g : Gt) : List Bool := vs ++ [if (vs.length : Int) = st then val else litB vs g.a && litB vs g.b]

def valsV (st : Int) (val : Bool) (b0 : List Bool) (gs : List Gt) : List Bool := gs.foldl (stepV st val) b0

theorem valsV_length (st : Int) (val : Bool) (b0 : List Bool) (gs : List Gt) : (valsV st val b0 gs).length = b0.length + gs.length := by
  induction gs generalizing b0 with
  | nil => simp [valsV]
  | cons g gs ih =>
    show (valsV st val (stepV st val b0 g) gs).length = _
    rw [ih]; simp [stepV]; omega

theorem valsV_snoc {st : Int} {val : Bool} {b0 : List Bool} {gs : List Gt} {k : Nat} {g : Gt} (h : gs[k]? = some g) : valsV st val b0 (gs.take (k + 1)) = stepV st val (valsV st val b0 (gs.take k)) g := by
  rw [List.take_add_one, h]
  simp [valsV, List.foldl_append]

theorem litB_pre {vs r : List Bool} {l : Int} (h : (l / 2).toNat < vs.length) : litB (vs ++ r) l = litB vs l := by
  unfold litB
  simp [List.getD, List.getElem?_append_left h]

def bitsV (x : Int) (n : Nat) : List Bool := (List.range n).map fun (i : Nat) => decide (x / 2 ^ i % 2 = 1)

theorem bitsV_length (x : Int) (n : Nat) : (bitsV x n).length = n := by simp [bitsV]

theorem bitsV_snoc (x : Int) (n : Nat) : bitsV x (n + 1) = bitsV x n ++ [decide (x / 2 ^ n % 2 = 1)] := by
  simp [bitsV, List.range_succ]

def bools (xs : List Bool) : List Value := xs.map Value.bool

@[simp] theorem bools_length (xs : List Bool) : (bools xs).length = xs.length := by simp [bools]

theorem bools_get {xs : List Bool} {k : Nat} {x : Bool} (h : xs[k]? = some x) : (bools xs)[k]? = some (.bool x) := by simp [bools, h]

theorem bools_append (xs ys : List Bool) : bools xs ++ bools ys = bools (xs ++ ys) := by simp [bools]

theorem bools_one (xs : List Bool) : ∀ u ∈ bools xs, u.oneCell' = true := by
  intro u hu
  obtain ⟨x, _, rfl⟩ := List.mem_map.1 hu
  rfl

theorem Sl.bool {w wr : World} {s : Option Addr} {xs : List Bool} (h : Sl w s (bools xs)) (hbl : Below w.heap.size w wr) {k : Nat} {x : Bool} (hx : xs[k]? = some x) :
    ∃ b off, s = some ⟨b, off, none⟩ ∧ b < w.heap.size ∧ wr.cell? ⟨b, off + k, none⟩ = some (.bool x) := by
  have hlt : k < xs.length := (List.getElem?_eq_some_iff.1 hx).1
  obtain ⟨b, off, rfl, hbw, hcs⟩ := h.at (k := k) (by simpa using hlt)
  exact ⟨b, off, rfl, hbw, by rw [hbl.cell (by exact hbw)]; exact hcs _ _ (bools_get hx)⟩

/-! the values of a circuit for an assignment. -/
def asgV (c : Cir) (x : Int) : List Bool := false :: (bitsV x c.inp.toNat ++ bitsV (x / 2 ^ c.inp.toNat) c.next.length)

theorem asgV_length (c : Cir) (x : Int) : (asgV c x).length = 1 + c.inp.toNat + c.next.length := by simp [asgV, bitsV_length]; omega

def stuckB (st : Int) (val : Bool) (b : List Bool) : List Bool := if 0 ≤ st then b.set st.toNat val else b

theorem stuckB_length (st : Int) (val : Bool) (b : List Bool) : (stuckB st val b).length = b.length := by unfold stuckB; split <;> simp

def evalV (c : Cir) (x st : Int) (val : Bool) : List Bool := valsV st val (stuckB st val (asgV c x)) c.gates

theorem evalV_length (c : Cir) (x st : Int) (val : Bool) : (evalV c x st val).length = 1 + c.inp.toNat + c.next.length + c.gates.length := by
  unfold evalV; rw [valsV_length, stuckB_length, asgV_length]

theorem evalV_no (c : Cir) (x : Int) (val : Bool) : evalV c x (-1) val = valsV (-1) val (asgV c x) c.gates := by
  unfold evalV stuckB; rw [if_neg (by omega)]

def tailV (st : Int) (val : Bool) (m n : Nat) : List Bool := (List.range n).map fun (j : Nat) => decide (((m + j : Nat) : Int) = st) && val

theorem tailV_length (st : Int) (val : Bool) (m n : Nat) : (tailV st val m n).length = n := by simp [tailV]

theorem tailV_zero (st : Int) (val : Bool) (m : Nat) : tailV st val m 0 = [] := rfl

theorem tailV_cons (st : Int) (val : Bool) (m n : Nat) : tailV st val m (n + 1) = (decide ((m : Int) = st) && val) :: tailV st val (m + 1) n := by
  unfold tailV
  rw [List.range_succ_eq_map, List.map_cons, List.map_map]
  refine congr (congrArg _ (by simp)) ?_
  apply List.map_congr_left
  intro j _
  simp only [Function.comp]
  rw [show m + 1 + j = m + (j + 1) from by omega]

/-- The step of a round: the cell behind the known values is set, or is the stuck one's. -/
theorem tail_set {st : Int} {val : Bool} {vs : List Bool} {g : Gt} {n : Nat} (h : (vs.length : Int) ≠ st) : (vs ++ tailV st val vs.length (n + 1)).set vs.length (litB vs g.a && litB vs g.b) = stepV st val vs g ++ tailV st val (vs.length + 1) n := by
  rw [tailV_cons, List.set_append_right _ _ (Nat.le_refl _), Nat.sub_self, List.set_cons_zero]
  unfold stepV
  rw [if_neg h]; simp

theorem tail_keep {st : Int} {val : Bool} {vs : List Bool} {g : Gt} {n : Nat} (h : (vs.length : Int) = st) : vs ++ tailV st val vs.length (n + 1) = stepV st val vs g ++ tailV st val (vs.length + 1) n := by
  rw [tailV_cons]
  unfold stepV
  rw [if_pos h, decide_eq_true h]; simp

theorem tailV_none (val : Bool) (m n : Nat) : tailV (-1) val m n = List.replicate n false := by
  unfold tailV
  apply List.ext_getElem
  · simp
  · intro i h1 h2
    simp
    intro h; omega

theorem tail_stuck {st : Nat} {val : Bool} {b : List Bool} {n : Nat} (h : st < b.length + n) : (b ++ List.replicate n false).set st val = stuckB st val b ++ tailV st val b.length n := by
  unfold stuckB
  rw [if_pos (by omega)]
  apply List.ext_getElem
  · simp [tailV_length]
  · intro i h1 h2
    simp only [List.length_set, List.length_append, List.length_replicate] at h1
    rw [List.getElem_set]
    by_cases e : st = i
    · subst e
      rw [if_pos rfl]
      by_cases hb : st < b.length
      · rw [List.getElem_append_left (by simpa using hb)]; simp
      · rw [List.getElem_append_right (by simp; omega)]
        simp [tailV]
        intro h; omega
    · rw [if_neg e]
      by_cases hb : i < b.length
      · rw [List.getElem_append_left hb, List.getElem_append_left (by simpa using hb), List.getElem_set_ne (by simpa using e)]
      · rw [List.getElem_append_right (by omega), List.getElem_append_right (by simp; omega)]
        simp [tailV]
        intro h; omega

def resV (c : Cir) (x st : Int) (val : Bool) : List Bool := (c.next ++ c.outs).map (litB (evalV c x st val))

theorem resV_length (c : Cir) (x st : Int) (val : Bool) : (resV c x st val).length = c.next.length + c.outs.length := by simp [resV]

def asgN (c : Cir) : Nat := 2 ^ (c.inp.toNat + c.next.length)

/-! Values of a circuit's variables: the program's walks. -/

theorem elem_bool : ElemOf Try.prog 34 4 (.bool false) 1 1 :=
  ⟨by kernel_rfl, info_parts (by kernel_rfl), rfl, by omega⟩

theorem mkBools (w : World) (n : Nat) (h : n ≤ 1048576) : (Instr.makeSlice 34 (.int .i64 (n : Int)) (.int .i64 (n : Int))).run Try.prog w = .ok (.slice (some ⟨w.heap.size, 0, none⟩) n n) (w.alloc (.cells (bools (List.replicate n false)).toArray 4)) := by
  obtain ⟨i, hi, h1, h2, h3⟩ := info_parts (P := Try.prog) (e := 4) (z := .bool false) (size := 1) (bytes := 1) (by kernel_rfl)
  have := run_make (P := Try.prog) w 34 4 i (.bool false) (by kernel_rfl) hi h1 .i64 .i64 n n (by omega) (by omega) (by rw [h3]; omega) (by omega)
  rw [this, h2]
  have e : madeCells #[Value.bool false] n = (bools (List.replicate n false)).toArray := by
    apply Array.ext'
    rw [toList_madeCells_one]; simp [bools]
  simp [Value.cells, e]

theorem bools_set (xs : List Bool) (p : Nat) (v : Bool) : (bools xs).toArray.setIfInBounds p (.bool v) = (bools (xs.set p v)).toArray := by
  apply Array.ext'
  simp [bools, List.map_set]

theorem bools_cell {w : World} {g p : Nat} {xs : List Bool} {t : TypeId} {x : Bool} (h : w.heap[g]? = some (.cells (bools xs).toArray t (0, 0))) (hx : xs[p]? = some x) : w.cell? ⟨g, p, none⟩ = some (.bool x) := by
  rw [blk_cell h]; simpa using bools_get hx

theorem bools_blk_set {w : World} {g : Nat} {xs : List Bool} {t : TypeId} (h : w.heap[g]? = some (.cells (bools xs).toArray t (0, 0))) (p : Nat) (v : Bool) : (w.setCell ⟨g, p, none⟩ (.bool v)).heap[g]? = some (.cells (bools (xs.set p v)).toArray t (0, 0)) := by
  rw [← bools_set]; exact blk_set h

theorem Sl.toB {w : World} {g : Nat} {xs : List Bool} {t : TypeId} {fz : Nat × Nat} (h : w.heap[g]? = some (.cells (bools xs).toArray t fz)) : Sl w (some ⟨g, 0, none⟩) (bools xs) := by
  have := Sl.blk h; simpa using this

theorem litB_eq {vs : List Bool} {l : Int} {p : Nat} {x : Bool} (hp : l / 2 = (p : Int)) (hx : vs[p]? = some x) : litB vs l = (x != decide (l % 2 = 1)) := by
  unfold litB
  rw [hp, Int.toNat_natCast, List.getD_eq_getElem?_getD, hx]; rfl

theorem litValue_any (s : Option Addr) (vs : List Bool) (cap : Nat) (l : Int) (w : World) (h : Sl w s (bools vs)) (h0 : 0 ≤ l) (h1 : l ≤ 1000000) (h2 : l / 2 < vs.length) :
    Calls Try.prog 77 #[.slice s vs.length cap, .int .i64 l] w fun e w' => e = .returned (.bool (litB vs l)) ∧ w = w' := by
  obtain ⟨p, hp⟩ : ∃ p : Nat, l / 2 = p := ⟨(l / 2).toNat, by omega⟩
  have p2 : p < vs.length := by omega
  obtain ⟨x, hx⟩ := get_of_lt p2
  obtain ⟨b, off, rfl, hbw, hz⟩ := h.bool (Below.refl _ _) hx
  rw [litB_eq hp hx]
  have hand := i64_and1 l
  have H := Lib.hid (And.intro h hx)
  clear h hx h2
  go_enter Try.func77, Try.ntmps77
  go_wp2
  go_ret
  exact ⟨rfl, rfl⟩

set_option maxHeartbeats 400000 in
theorem bitsOf_any (x : Int) (n : Nat) (w : World) (h0 : 0 ≤ x) (h1 : x ≤ 1000000) (hn : n ≤ 20) :
    Calls Try.prog 86 #[.int .i64 x, .int .i64 n] w fun e w' => ∃ s, e = .returned (.slice s n n) ∧ Sl w' s (bools (bitsV x n)) ∧ Below w.heap.size w w' := by
  have hmk := fun w => mkBools w n (by omega)
  go_enter Try.func86, Try.ntmps86
  go_wp2
  go_loopw [11] (fun i wr => ∃ k : Nat, k ≤ n ∧ i = .int .i64 k ∧ wr.heap[w.heap.size]? = some (.cells (bools (bitsV x k ++ List.replicate (n - k) false)).toArray 4 (0, 0)) ∧ Below w.heap.size w wr) (fun i _ => n - (intOf i).toNat)
  case atStart => exact ⟨0, Nat.zero_le _, rfl, blk_new _ _, (Below.refl _ _).alloc (Nat.le_refl _) _⟩
  case round =>
    obtain ⟨k, hk, rfl, hb, hbl⟩ := hrel
    by_cases hlt : k < n
    · have hlen : (bitsV x k ++ List.replicate (n - k) false).length = n := by simp [bitsV_length]; omega
      obtain ⟨y, hy⟩ := get_of_lt (l := bitsV x k ++ List.replicate (n - k) false) (k := k) (by omega)
      have hc := bools_cell hb hy
      have hf : wr.frozen? ⟨w.heap.size, k, none⟩ = false := blk_free hb
      have hpw : (1 : Int) ≤ 2 ^ k := by have : (0 : Int) < 2 ^ k := Int.pow_pos (by decide); omega
      have q1 : 0 ≤ x / 2 ^ k := Int.ediv_nonneg h0 (by omega)
      have q2 : x / 2 ^ k ≤ 1000000 := Int.le_trans (Int.ediv_le_self _ h0) h1
      have hand := i64_and1 (x / 2 ^ k)
      have HR := Lib.hid (And.intro hb (And.intro hbl hpw))
      clear hb hbl hpw hy hlen
      go_wp2
      obtain ⟨hb, hbl, hpw⟩ := HR.out
      go_roundw
      case rel =>
        refine ⟨k + 1, by omega, by go_num, ?_, hbl.setCell (Nat.le_refl _) _⟩
        have := bools_blk_set hb k (decide (x / 2 ^ k % 2 = 1))
        rw [List.set_append_right _ _ (by rw [bitsV_length]; exact Nat.le_refl _), bitsV_length, Nat.sub_self, show n - k = n - (k + 1) + 1 from by omega, List.replicate_succ, List.set_cons_zero] at this
        rw [bitsV_snoc, List.append_assoc]
        exact this
      case measure => simp [intOf]; omega
    · obtain rfl : k = n := by omega
      rw [Nat.sub_self] at hb
      have HR := Lib.hid (And.intro hb hbl)
      clear hb hbl
      go_wp2
      go_ret
      exact ⟨_, rfl, by have := Sl.toB HR.out.1; simpa using this, HR.out.2⟩

theorem latchBits_any (b : Nat) (inp x : Int) (sn : Option Addr) (nn cn : Nat) (vg vo : Value) (w : World) (h : CirAt w b inp (.slice sn nn cn) vg vo) (hi : 0 ≤ inp ∧ inp ≤ 4) (hn : nn ≤ 3) (h0 : 0 ≤ x) (h1 : x ≤ 1000000) :
    Calls Try.prog 82 #[.pointer (some ⟨b, 0, none⟩), .int .i64 x] w fun e w' => ∃ s, e = .returned (.slice s nn nn) ∧ Sl w' s (bools (bitsV (x / 2 ^ inp.toNat) nn)) ∧ Below w.heap.size w w' := by
  have HB : Hid (b < w.heap.size) := World.block_lt_of_cell? w _ h.h0
  obtain ⟨c0, c1, c2, c3⟩ := h
  obtain ⟨hi, hi'⟩ := hi
  have hpw : (1 : Int) ≤ 2 ^ inp.toNat := by have : (0 : Int) < 2 ^ inp.toNat := Int.pow_pos (by decide); omega
  have q1 : 0 ≤ x / 2 ^ inp.toNat := Int.ediv_nonneg h0 (by omega)
  have q2 : x / 2 ^ inp.toNat ≤ 1000000 := Int.le_trans (Int.ediv_le_self _ h0) h1
  clear hpw
  go_enter Try.func82, Try.ntmps82
  go_wp2_with fail
  go_region_held3 (fun w' => w'.cell? ⟨b, 0, none⟩ = some (.int .i64 inp) ∧ w'.cell? ⟨b, 1, none⟩ = some (.slice sn nn cn))
    (first
      | go_keep
      | (go_split_ands; refine ⟨?_, ?_⟩ <;> (rw [HBL.out.cell HB.out]; assumption)))
    ((go_at_call 86; ((refine (bitsOf_any _ _ _ q1 q2 (by omega)).mono ?_); rintro e w1 ⟨s, rfl, hs, hb⟩; have HBL := Lib.hid hb; have HS := Lib.hid hs; clear hb hs)))
  go_wp2
  go_ret
  exact ⟨_, rfl, HS.out, (Below.refl _ _).drew.trans HBL.out⟩

theorem inputBits_any (b : Nat) (inp x : Int) (vn vg vo : Value) (w : World) (h : CirAt w b inp vn vg vo) (n : Nat) (hn : inp = n) (hn4 : n ≤ 4) (h0 : 0 ≤ x) (h1 : x ≤ 1000000) :
    Calls Try.prog 83 #[.pointer (some ⟨b, 0, none⟩), .int .i64 x] w fun e w' => ∃ s, e = .returned (.slice s n n) ∧ Sl w' s (bools (bitsV x n)) ∧ Below w.heap.size w w' := by
  subst hn
  obtain ⟨c0, c1, c2, c3⟩ := h
  go_enter Try.func83, Try.ntmps83
  go_wp2_with (go_at_call 86; ((refine (bitsOf_any _ _ _ h0 h1 (by omega)).mono ?_); rintro e w1 ⟨s, rfl, hs, hb⟩; have HBL := Lib.hid hb; have HS := Lib.hid hs; clear hb hs))
  go_ret
  exact ⟨_, rfl, HS.out, HBL.out⟩

theorem wrap_pow {m : Nat} (h : m ≤ 8) : wrap64 (2 ^ m) = 2 ^ m := by
  have : ∀ m : Fin 9, wrap64 (2 ^ m.val) = 2 ^ m.val := by decide +kernel
  exact this ⟨m, by omega⟩

theorem assignments_any (b : Nat) (inp : Int) (sn : Option Addr) (nn cn : Nat) (vg vo : Value) (w : World) (h : CirAt w b inp (.slice sn nn cn) vg vo) (hi : 0 ≤ inp ∧ inp ≤ 4) (hn : nn ≤ 3) :
    Calls Try.prog 79 #[.pointer (some ⟨b, 0, none⟩)] w fun e w' => e = .returned (.int .i64 ((2 ^ (inp.toNat + nn) : Nat) : Int)) ∧ Drew w w' := by
  obtain ⟨c0, c1, c2, c3⟩ := h
  obtain ⟨hi, hi'⟩ := hi
  go_enter Try.func79, Try.ntmps79
  go_wp2
  go_quiet (fail)
  go_wp2
  go_ret
  refine ⟨ret_int ?_, _, rfl⟩
  rw [show (inp + (nn : Int)).toNat = inp.toNat + nn from by omega, wrap_pow (by omega)]
  simp

theorem mkBools0 (w : World) (n : Nat) (h : n ≤ 1048576) : (Instr.makeSlice 34 (.int .i64 0) (.int .i64 (n : Int))).run Try.prog w = .ok (.slice (some ⟨w.heap.size, 0, none⟩) 0 n) (w.alloc (.cells (bools (List.replicate n false)).toArray 4)) := by
  obtain ⟨i, hi, h1, h2, h3⟩ := info_parts (P := Try.prog) (e := 4) (z := .bool false) (size := 1) (bytes := 1) (by kernel_rfl)
  have := run_make (P := Try.prog) w 34 4 i (.bool false) (by kernel_rfl) hi h1 .i64 .i64 0 n (by omega) (by omega) (by rw [h3]; omega) (by omega)
  rw [this, h2]
  have e : madeCells #[Value.bool false] n = (bools (List.replicate n false)).toArray := by
    apply Array.ext'
    rw [toList_madeCells_one]; simp [bools]
  simp [Value.cells, e]

set_option maxHeartbeats 400000 in
theorem litValues_any (s t : Option Addr) (vs : List Bool) (cap capl : Nat) (xs : List Int) (w : World) (h : Sl w s (bools vs)) (ht : Sl w t (ints xs)) (hx : ∀ x ∈ xs, 0 ≤ x ∧ x ≤ 1000000 ∧ x / 2 < vs.length) (hl : xs.length ≤ 1000) :
    Calls Try.prog 52 #[.slice s vs.length cap, .slice t xs.length capl] w fun e w' => ∃ s c, e = .returned (.slice s xs.length c) ∧ Sl w' s (bools (xs.map (litB vs))) ∧ Below w.heap.size w w' := by
  have H := Lib.hid (And.intro h (And.intro ht hx))
  clear h ht hx
  have hmk := fun w => mkBools0 w xs.length (by omega)
  have hA : Below w.heap.size w (w.alloc (.cells (bools (List.replicate xs.length false)).toArray 4)) := (Below.refl _ _).alloc (Nat.le_refl _) _
  have ho : (w.alloc (.cells (bools (List.replicate xs.length false)).toArray 4)).ownsRow w.heap.size 4 1 (.slice (some ⟨w.heap.size, 0, none⟩) 0 xs.length) 0 [] := by
    have := World.ownsRow_made (base := w.heap.size) (e := 4) (size := 1) w (bools (List.replicate xs.length false)).toArray xs.length (Nat.le_refl _) (by unfold maxLen; omega) (by simp)
    simpa using this
  have HO := Lib.hid (And.intro ho hA)
  clear ho hA
  go_enter Try.func52, Try.ntmps52
  go_wp2
  clear hmk
  revert HO
  generalize w.alloc (.cells (bools (List.replicate xs.length false)).toArray 4) = WA
  intro HO
  go_loopw [13, 5] (fun i v wr => ∃ (k : Nat) (s : Option Addr) (c : Nat), k ≤ xs.length ∧ i = .int .i64 k ∧ v = .slice s k c ∧ wr.ownsRow w.heap.size 4 1 v k (bools ((xs.take k).map (litB vs))) ∧ Below w.heap.size w wr) (fun i _ _ => xs.length - (intOf i).toNat)
  case atStart => exact ⟨0, _, _, Nat.zero_le _, rfl, rfl, by simpa [bools] using HO.out.1, HO.out.2⟩
  case round =>
    obtain ⟨k, so, c, hk, rfl, rfl, ho, hbl⟩ := hrel
    by_cases hlt : k < xs.length
    · obtain ⟨x, hx⟩ := get_of_lt hlt
      obtain ⟨b, off, rfl, hbw, hz⟩ := H.out.2.1.int hbl hx
      obtain ⟨x0, x1, x2⟩ := H.out.2.2 x (List.mem_of_getElem? hx)
      have hbs := hbl.size
      have HR := Lib.hid (And.intro ho (And.intro hbl hx))
      clear ho hbl hx
      go_wp2_with (first
        | (go_at_call 77; ((refine (litValue_any _ _ _ _ _ (H.out.1.mono HR.out.2.1) x0 x1 x2).mono ?_); rintro e w' ⟨rfl, rfl⟩))
        | (at_builtin; refine wpl_app rfl _ _ rfl elem_bool (own_below HR.out.1 ((Below.refl _ _).alloc (Nat.le_refl _) _)) rfl rfl rfl (Sl.new _ _ _) (by simp [Value.oneCell']) (k + 1) rfl _ rfl (by unfold maxLen; omega) (by omega) (by simp; omega) ?_; intro s3 c3 w3 h3 hb3 _ _; have HA := Lib.hid (And.intro h3 hb3); clear h3 hb3))
      obtain ⟨ho, hbl, hx⟩ := HR.out
      go_roundw
      case rel =>
        refine ⟨k + 1, s3, c3, by omega, by go_num, rfl, ?_, (hbl.alloc hbs _).trans HA.out.2⟩
        have := HA.out.1
        rw [List.take_add_one, hx]
        simpa [bools] using this
      case measure => simp [intOf]; omega
    · obtain rfl : k = xs.length := by omega
      rw [List.take_length] at ho
      have HR := Lib.hid (And.intro ho hbl)
      clear ho hbl
      go_wp2
      go_ret
      exact ⟨_, _, rfl, own_sl HR.out.1, HR.out.2⟩

end Go.Proofs.Ytaboipnigeaopaa
