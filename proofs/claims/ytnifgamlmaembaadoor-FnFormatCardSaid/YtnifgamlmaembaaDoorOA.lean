import Derived.Test.YtnifgamlmaembaaDoorProg
import Derived.Test.YtnifgamlmaembaaDoorM1
import Derived.Deep.QuietTactic
import Derived.BigQuiet
import Derived.Deep.RegionHeld3
import Derived.Deep.AppendLies
namespace Go.Proofs.YtnifgamlmaembaaDoor
set_option linter.unusedVariables false
set_option linter.unusedSimpArgs false
open Go.RowKit

structure Gt where
  a : Int
  b : Int
theorem Gt.ext' {x y : Gt} (h1 : x.a = y.a) (h2 : x.b = y.b) : x = y := by cases x; cases y; simp_all
instance : DecidableEq Gt := fun x y => decidable_of_iff (x.a = y.a ∧ x.b = y.b) ⟨fun h => Gt.ext' h.1 h.2, fun h => by rw [h]; exact ⟨rfl, rfl⟩⟩
structure Cir where
  inp : Int
  next : List Int
  gates : List Gt
  outs : List Int
theorem Cir.ext' {x y : Cir} (h1 : x.inp = y.inp) (h2 : x.next = y.next) (h3 : x.gates = y.gates) (h4 : x.outs = y.outs) : x = y := by cases x; cases y; simp_all
instance : DecidableEq Cir := fun x y => decidable_of_iff (x.inp = y.inp ∧ x.next = y.next ∧ x.gates = y.gates ∧ x.outs = y.outs) ⟨fun h => Cir.ext' h.1 h.2.1 h.2.2.1 h.2.2.2, fun h => by rw [h]; exact ⟨rfl, rfl, rfl, rfl⟩⟩

def Gt.cells (g : Gt) : List Value := [.int .i64 g.a, .int .i64 g.b]
def gcells (gs : List Gt) : List Value := gs.flatMap Gt.cells
theorem gcells_length (gs : List Gt) : (gcells gs).length = 2 * gs.length := by
  induction gs with
  | nil => rfl
  | cons g gs ih => simp [gcells, Gt.cells] at ih ⊢; omega
theorem gcells_get {gs : List Gt} {k : Nat} {g : Gt} (h : gs[k]? = some g) : (gcells gs)[2 * k]? = some (.int .i64 g.a) ∧ (gcells gs)[2 * k + 1]? = some (.int .i64 g.b) := by
  induction gs generalizing k with
  | nil => simp at h
  | cons x gs ih =>
    cases k with
    | zero => simp at h; subst h; exact ⟨rfl, rfl⟩
    | succ k =>
      have := ih (k := k) (by simpa using h)
      have e : gcells (x :: gs) = .int .i64 x.a :: .int .i64 x.b :: gcells gs := rfl
      rw [e]
      constructor
      · rw [show 2 * (k + 1) = 2 * k + 1 + 1 from by omega]; simpa using this.1
      · rw [show 2 * (k + 1) + 1 = 2 * k + 1 + 1 + 1 from by omega]; simpa using this.2

theorem Sl.gate {w wr : World} {s : Option Addr} {gs : List Gt} (h : Sl w s (gcells gs)) (hbl : Below w.heap.size w wr) {k : Nat} {g : Gt} (hg : gs[k]? = some g) :
    ∃ b off, s = some ⟨b, off, none⟩ ∧ b < w.heap.size ∧ wr.cell? ⟨b, off + k * 2, none⟩ = some (.int .i64 g.a) ∧ wr.cell? ⟨b, off + k * 2 + 1, none⟩ = some (.int .i64 g.b) := by
  have hlt : k < gs.length := (List.getElem?_eq_some_iff.1 hg).1
  obtain ⟨b, off, rfl, hbw, hcs⟩ := h.at (k := 2 * k) (by rw [gcells_length]; omega)
  have e := gcells_get hg
  refine ⟨b, off, rfl, hbw, ?_, ?_⟩
  · rw [hbl.cell (by exact hbw), Nat.mul_comm]; exact hcs _ _ e.1
  · rw [hbl.cell (by exact hbw), Nat.mul_comm, Nat.add_assoc]; exact hcs _ _ e.2
theorem Sl.int {w wr : World} {s : Option Addr} {xs : List Int} (h : Sl w s (ints xs)) (hbl : Below w.heap.size w wr) {k : Nat} {x : Int} (hx : xs[k]? = some x) :
    ∃ b off, s = some ⟨b, off, none⟩ ∧ b < w.heap.size ∧ wr.cell? ⟨b, off + k, none⟩ = some (.int .i64 x) := by
  have hlt : k < xs.length := (List.getElem?_eq_some_iff.1 hx).1
  obtain ⟨b, off, rfl, hbw, hcs⟩ := h.at (k := k) (by simpa using hlt)
  exact ⟨b, off, rfl, hbw, by rw [hbl.cell (by exact hbw)]; exact hcs _ _ (ints_get hx)⟩
theorem get_of_lt {α : Type} {l : List α} {k : Nat} (h : k < l.length) : ∃ x, l[k]? = some x := ⟨l[k], by simp [h]⟩

/-- A circuit behind a pointer. -/
structure CirAt (w : World) (b : Nat) (inp : Int) (vn vg vo : Value) : Prop where
  h0 : w.cell? ⟨b, 0, none⟩ = some (.int .i64 inp)
  h1 : w.cell? ⟨b, 1, none⟩ = some vn
  h2 : w.cell? ⟨b, 2, none⟩ = some vg
  h3 : w.cell? ⟨b, 3, none⟩ = some vo

theorem firstGate_any (b : Nat) (inp : Int) (sn : Option Addr) (nn cn : Nat) (vg vo : Value) (w : World) (h : CirAt w b inp (.slice sn nn cn) vg vo) (hi : -1000000 ≤ inp ∧ inp ≤ 1000000) (hn : nn ≤ 1048576) :
    Calls Tryd.prog 65 #[.pointer (some ⟨b, 0, none⟩)] w fun e w' => e = .returned (.int .i64 (1 + inp + nn)) ∧ Drew w w' := by
  obtain ⟨h0, h1, h2, h3⟩ := h
  obtain ⟨hi, hi'⟩ := hi
  go_enter Tryd.func65, Tryd.ntmps65
  go_wp2
  go_quiet (fail)
  go_wp2
  go_ret
  exact ⟨rfl, _, rfl⟩

theorem vars_any (b : Nat) (inp : Int) (sn sg : Option Addr) (nn cn ng cg : Nat) (vo : Value) (w : World) (h : CirAt w b inp (.slice sn nn cn) (.slice sg ng cg) vo) (hi : -1000000 ≤ inp ∧ inp ≤ 1000000) (hn : nn ≤ 1048576) (hg : ng ≤ 1048576) :
    Calls Tryd.prog 51 #[.pointer (some ⟨b, 0, none⟩)] w fun e w' => e = .returned (.int .i64 (1 + inp + nn + ng)) ∧ Drew w w' := by
  have C : ∀ n, CirAt (w.drewN n) b inp (.slice sn nn cn) (.slice sg ng cg) vo := fun n => ⟨h.h0, h.h1, h.h2, h.h3⟩
  have hi2 := hi
  obtain ⟨h0, h1, h2, h3⟩ := h
  obtain ⟨hi, hi'⟩ := hi
  go_enter Tryd.func51, Tryd.ntmps51
  go_wp2_with fail
  go_quiet ((go_at_call 65; exact Calls.quiet_of (firstGate_any _ _ _ _ _ _ _ _ (C _) hi2 hn)))
  go_wp2
  go_ret
  exact ⟨rfl, _, rfl⟩

theorem isLit_any (l v : Int) (w : World) (hv : -2000000000 ≤ v ∧ v ≤ 2000000000) :
    Calls Tryd.prog 49 #[.int .i64 l, .int .i64 v] w fun e w' => e = .returned (.bool (decide (0 ≤ l ∧ l < 2 * v))) ∧ w = w' := by
  obtain ⟨hv1, hv2⟩ := hv
  by_cases h : 0 ≤ l
  all_goals
    go_enter Tryd.func49, Tryd.ntmps49
    go_wp2
    go_ret
    exact ⟨by simp [h] <;> omega, rfl⟩

theorem elem_int : ElemOf Tryd.prog 22 3 (.int .i64 0) 1 8 :=
  ⟨by kernel_rfl, info_parts (by kernel_rfl), rfl, by omega⟩

set_option maxHeartbeats 400000 in
theorem roots_any (b : Nat) (inp : Int) (sn so : Option Addr) (cn co : Nat) (next outs : List Int) (vg : Value) (w : World) (h : CirAt w b inp (.slice sn next.length cn) vg (.slice so outs.length co))
    (hn : Sl w sn (ints next)) (ho : Sl w so (ints outs)) (hl1 : next.length ≤ 1048576) (hl2 : outs.length ≤ 1048576) :
    Calls Tryd.prog 50 #[.pointer (some ⟨b, 0, none⟩)] w fun e w' => ∃ s c, e = .returned (.slice s (next.length + outs.length) c) ∧
      w'.ownsRow w.heap.size 3 1 (.slice s (next.length + outs.length) c) (next.length + outs.length) (ints next ++ ints outs) ∧ Below w.heap.size w w' := by
  obtain ⟨h0, h1, h2, h3⟩ := h
  have HB : Hid (b < w.heap.size) := World.block_lt_of_cell? w _ h0
  have H : Hid (_ ∧ _ ∧ _ ∧ _) := Lib.hid ⟨hn, ho, hl1, hl2⟩
  clear hn ho hl1 hl2
  go_enter Tryd.func50, Tryd.ntmps50
  go_wp2_with fail
  go_region_held3 (fun w' => w'.cell? ⟨b, 1, none⟩ = some (.slice sn next.length cn) ∧ w'.cell? ⟨b, 3, none⟩ = some (.slice so outs.length co))
    (first
      | go_keep
      | (go_split_ands; refine ⟨?_, ?_⟩ <;> (rw [hb2.cell HB.out]; assumption))
      | (go_split_ands; refine ⟨?_, ?_⟩ <;> (rw [hb1.cell HB.out]; assumption)))
    ((first
      | (refine step_app rfl (.const (.slice none 0 0)) _ rfl elem_int (World.ownsRow_nil _ w.heap.size _ _) rfl rfl (by simp) H.out.1 (ints_one _) next.length (by simp) (ints next) (by simp) (by unfold maxLen; have := H.out.2.2.1; omega) (by have := H.out.2.2.1; omega) (Nat.le_refl _) ?_; intro s1 c1 w1 ho1 hb1 _ _)
      | (refine step_app rfl (.tmp 7) (.tmp 11) rfl elem_int ho1 rfl rfl (by simp) (H.out.2.1.mono ((Below.refl _ _).drew.trans hb1)) (ints_one _) (next.length + outs.length) rfl _ rfl (by unfold maxLen; have := H.out.2.2; omega) (by have := H.out.2.2; omega) (by have := hb1.size; simpa using this) ?_; intro s2 c2 w2 ho2 hb2 _ _)))
  go_wp2
  go_ret
  exact ⟨_, _, rfl, ho2, ((Below.refl _ _).drew.trans hb1).trans hb2⟩

def litP (l v : Int) : Prop := 0 ≤ l ∧ l < 2 * v
instance (l v : Int) : Decidable (litP l v) := inferInstanceAs (Decidable (0 ≤ l ∧ l < 2 * v))
def Cir.first (c : Cir) : Int := 1 + c.inp + c.next.length
def Cir.vars (c : Cir) : Int := 1 + c.inp + c.next.length + c.gates.length
def Cir.limits (c : Cir) : Prop := 0 ≤ c.inp ∧ c.inp ≤ 4 ∧ c.next.length ≤ 3 ∧ c.gates.length ≤ 14 ∧ c.outs.length ≤ 3
instance (c : Cir) : Decidable c.limits := inferInstanceAs (Decidable (_ ∧ _))
def gatesP (first : Int) (gs : List Gt) : Prop := ∀ i (h : i < gs.length), litP (gs[i]).a (first + i) ∧ litP (gs[i]).b (first + i)
instance (first : Int) (gs : List Gt) : Decidable (gatesP first gs) := inferInstanceAs (Decidable (∀ i (h : i < gs.length), _))
def litsP (v : Int) (xs : List Int) : Prop := ∀ x ∈ xs, litP x v
instance (v : Int) (xs : List Int) : Decidable (litsP v xs) := inferInstanceAs (Decidable (∀ x ∈ xs, _))
structure Cir.valid (c : Cir) : Prop where
  lim : c.limits
  gates : gatesP c.first c.gates
  next : litsP c.vars c.next
  outs : litsP c.vars c.outs
/-- As valid, with more gates. -/
def Cir.wlim (c : Cir) : Prop := 0 ≤ c.inp ∧ c.inp ≤ 4 ∧ c.next.length ≤ 3 ∧ c.gates.length ≤ 120 ∧ c.outs.length ≤ 3
structure Cir.wide (c : Cir) : Prop where
  lim : c.wlim
  gates : gatesP c.first c.gates
  next : litsP c.vars c.next
  outs : litsP c.vars c.outs
theorem Cir.valid.wide {c : Cir} (h : c.valid) : c.wide :=
  ⟨⟨h.lim.1, h.lim.2.1, h.lim.2.2.1, Nat.le_trans h.lim.2.2.2.1 (by decide), h.lim.2.2.2.2⟩, h.gates, h.next, h.outs⟩
instance {c : Cir} : CoeOut c.valid c.wide := ⟨Cir.valid.wide⟩
def Cir.validB (c : Cir) : Bool := decide c.limits && (decide (gatesP c.first c.gates) && (decide (litsP c.vars c.next) && decide (litsP c.vars c.outs)))
theorem Cir.validB_iff (c : Cir) : c.validB = true ↔ c.valid := by
  unfold Cir.validB
  simp only [Bool.and_eq_true, decide_eq_true_eq]
  exact ⟨fun ⟨a, b, c, d⟩ => ⟨a, b, c, d⟩, fun ⟨a, b, c, d⟩ => ⟨a, b, c, d⟩⟩
theorem Cir.validB_false (c : Cir) : c.validB = false ↔ ¬ c.valid := by rw [← c.validB_iff]; simp

/-- A circuit as a value. -/
def CirV (w : World) (v : Value) (c : Cir) : Prop :=
  ∃ sn cn sg cg so co, v = .agg #[.int .i64 c.inp, .slice sn c.next.length cn, .slice sg c.gates.length cg, .slice so c.outs.length co] ∧
    Sl w sn (ints c.next) ∧ Sl w sg (gcells c.gates) ∧ Sl w so (ints c.outs) ∧ c.next.length ≤ 1048576 ∧ c.gates.length ≤ 1048576 ∧ c.outs.length ≤ 1048576

theorem CirV.mono {w w' : World} {v : Value} {c : Cir} (h : CirV w v c) (hb : Below w.heap.size w w') : CirV w' v c := by
  obtain ⟨sn, cn, sg, cg, so, co, hv, h1, h2, h3, h4⟩ := h
  exact ⟨sn, cn, sg, cg, so, co, hv, h1.mono hb, h2.mono hb, h3.mono hb, h4⟩

/-- The block that holds a circuit. -/
theorem CirAt.of_blk {w : World} {b : Nat} {inp : Int} {vn vg vo : Value} {t : TypeId} {fz : Nat × Nat} (h : w.heap[b]? = some (.cells #[.int .i64 inp, vn, vg, vo] t fz)) : CirAt w b inp vn vg vo :=
  ⟨blk_cell h, blk_cell h, blk_cell h, blk_cell h⟩

theorem ret_bool {a b : Bool} (h : a = b) : Ending.returned (.bool a) = .returned (.bool b) := by rw [h]
theorem gatesP_snoc {f : Int} {gs : List Gt} {k : Nat} {g : Gt} (h : gatesP f (gs.take k)) (hg : gs[k]? = some g) (h1 : litP g.a (f + k)) (h2 : litP g.b (f + k)) : gatesP f (gs.take (k + 1)) := by
  intro i hi
  have hlt : k < gs.length := (List.getElem?_eq_some_iff.1 hg).1
  obtain rfl : gs[k] = g := (List.getElem?_eq_some_iff.1 hg).2
  by_cases e : i = k
  · subst e; simpa using ⟨h1, h2⟩
  · have := h i (by simp at hi ⊢; omega)
    simpa using this
theorem gatesP_at {f : Int} {gs : List Gt} {k : Nat} {g : Gt} (h : gatesP f gs) (hg : gs[k]? = some g) : litP g.a (f + k) ∧ litP g.b (f + k) := by
  obtain ⟨hlt, rfl⟩ := List.getElem?_eq_some_iff.1 hg
  exact h k hlt

theorem ints_append (xs ys : List Int) : ints xs ++ ints ys = ints (xs ++ ys) := by simp [ints]
theorem litsP_snoc {v : Int} {xs : List Int} {k : Nat} {x : Int} (h : litsP v (xs.take k)) (hx : xs[k]? = some x) (h1 : litP x v) : litsP v (xs.take (k + 1)) := by
  rw [List.take_add_one, hx]
  intro y hy
  rcases List.mem_append.1 hy with hy | hy
  · exact h y hy
  · simp at hy; subst hy; exact h1

theorem CircuitValid_i (v : Value) (c : Cir) (w : World) (h : CirV w v c) :
    Calls Tryd.prog 24 #[v] w fun e w' => e = .returned (.bool c.validB) ∧ Below w.heap.size w w' := by
  obtain ⟨sn, cn, sg, cg, so, co, rfl, h1, h2, h3, hl1, hl2, hl3⟩ := h
  by_cases hlim : c.limits
  · obtain ⟨ha, hb, hc, hd, he⟩ := hlim
    go_enter Tryd.func24, Tryd.ntmps24
    go_wp2
    have HP : Hid (_ ∧ _ ∧ _ ∧ _ ∧ _ ∧ _) := Lib.hid ⟨h1, h2, h3, hc, hd, he⟩
    clear h1 h2 h3 hl1 hl2 hl3 he
    go_loopw [44] (fun i wr => ∃ k : Nat, k ≤ c.gates.length ∧ i = .int .i64 k ∧ gatesP c.first (c.gates.take k) ∧ wr.heap[w.heap.size]? = some (.cells #[.int .i64 c.inp, .slice sn c.next.length cn, .slice sg c.gates.length cg, .slice so c.outs.length co] 31 (0, 0)) ∧ Below w.heap.size w wr) (fun i _ => c.gates.length - (intOf i).toNat)
    case atStart => exact ⟨0, Nat.zero_le _, rfl, by intro i hi; simp at hi, blk_new _ _, (Below.refl _ _).alloc (Nat.le_refl _) _⟩
    case round =>
      obtain ⟨k, hk, rfl, hg, hbk, hbl⟩ := hrel
      by_cases hlt : k < c.gates.length
      · obtain ⟨g, hgk⟩ := get_of_lt hlt
        obtain ⟨b, off, rfl, hbw, hz1, hz2⟩ := HP.out.2.1.gate hbl hgk
        have HR : Hid (_ ∧ _ ∧ _ ∧ _ ∧ _) := Lib.hid ⟨hg, hbk, hbl, hgk, hbw⟩
        clear hg hbk hbl hgk hbw
        go_wp2_with (go_at_call 49; refine (isLit_any _ _ _ (by omega)).mono ?_; rintro e w' ⟨rfl, rfl⟩)
        all_goals obtain ⟨hg, hbk, hbl, hgk, hbw⟩ := HR.out
        all_goals first
          | (go_roundw
             case rel => exact ⟨k + 1, by omega, by go_num, gatesP_snoc hg hgk (by unfold litP Cir.first; simp at *; omega) (by unfold litP Cir.first; simp at *; omega), blk_old hbk, hbl.alloc hbl.size _⟩
             case measure => simp [intOf]; omega)
          | (go_ret
             refine ⟨ret_bool (c.validB_false.2 fun h => ?_).symm, hbl.alloc hbl.size _⟩
             have := gatesP_at h.gates hgk
             unfold litP Cir.first at this
             simp at *; omega)
      · obtain rfl : k = c.gates.length := by omega
        have hC := CirAt.of_blk hbk
        have hBs := blk_lt hbk
        have HR : Hid (_ ∧ _ ∧ _) := Lib.hid ⟨hg, hbk, hbl⟩
        clear hg hbk hbl
        go_wp2_with (go_at_call 50; refine (roots_any _ _ _ _ _ _ _ _ _ _ hC (HP.out.1.mono HR.out.2.2) (HP.out.2.2.1.mono HR.out.2.2) (by omega) (by have := HP.out.2.2.2.2.2; omega)).mono ?_; rintro e w1 ⟨s, cc, rfl, ho1, hb1⟩)
        rw [ints_append] at ho1
        have hs1 := own_sl ho1
        have hbk1 := blk_below hb1 hBs HR.out.2.1
        have HS : Hid (_ ∧ _ ∧ _ ∧ _) := Lib.hid ⟨hs1, hbk1, hb1, ho1⟩
        clear hs1 hbk1 hb1 ho1 hC hBs
        go_loopw [68] (fun i wr => ∃ k : Nat, k ≤ c.next.length + c.outs.length ∧ i = .int .i64 k ∧ litsP c.vars ((c.next ++ c.outs).take k) ∧ Below w1.heap.size w1 wr) (fun i _ => c.next.length + c.outs.length - (intOf i).toNat)
        case atStart => exact ⟨0, Nat.zero_le _, rfl, by intro i hi; simp at hi, Below.refl _ _⟩
        case round =>
          obtain ⟨k, hk, rfl, hg, hbl⟩ := hrel
          have he := HP.out.2.2.2.2.2
          have hC := CirAt.of_blk (blk_below hbl (blk_lt HS.out.2.1) HS.out.2.1)
          by_cases hlt : k < c.next.length + c.outs.length
          · obtain ⟨x, hx⟩ := get_of_lt (l := c.next ++ c.outs) (k := k) (by simp; omega)
            obtain ⟨b, off, rfl, hbw, hz1⟩ := HS.out.1.int hbl hx
            have HR2 : Hid (_ ∧ _ ∧ _) := Lib.hid ⟨hg, hbl, hx⟩
            clear hg hbl hx
            go_wp2_with (first
              | (go_at_call 51; refine (vars_any _ _ _ _ _ _ _ _ _ _ hC (by omega) (by omega) (by omega)).mono ?_; rintro e w' ⟨rfl, n, rfl⟩)
              | (go_at_call 49; refine (isLit_any _ _ _ (by omega)).mono ?_; rintro e w' ⟨rfl, rfl⟩))
            all_goals obtain ⟨hg, hbl, hx⟩ := HR2.out
            all_goals first
              | (go_roundw
                 case rel => exact ⟨k + 1, by omega, by go_num, litsP_snoc hg hx (by unfold litP Cir.vars; simp at *; omega), below_n hbl _⟩
                 case measure => simp [intOf]; omega)
              | (go_ret
                 refine ⟨ret_bool (c.validB_false.2 fun h => ?_).symm, (HR.out.2.2.trans (HS.out.2.2.1.mono HR.out.2.2.size)).trans (below_n (hbl.mono (by have := HS.out.2.2.1.size; have := HR.out.2.2.size; omega)) _)⟩
                 have := (List.mem_append.1 (List.mem_of_getElem? hx)).elim (h.next x) (h.outs x)
                 unfold litP Cir.vars at this
                 simp at *; omega)
          · obtain rfl : k = c.next.length + c.outs.length := by omega
            rw [List.take_of_length_le (by simp)] at hg
            have hv : c.validB = true := c.validB_iff.2 ⟨⟨ha, hb, hc, hd, he⟩, by simpa using HR.out.1, fun x hx => hg x (by simp [hx]), fun x hx => hg x (by simp [hx])⟩
            have HR2 : Hid (_ ∧ _) := Lib.hid ⟨hbl, hv⟩
            clear hbl hg hv
            go_wp2
            go_ret
            exact ⟨ret_bool HR2.out.2.symm, (HR.out.2.2.trans (HS.out.2.2.1.mono HR.out.2.2.size)).trans (HR2.out.1.mono (by have := HS.out.2.2.1.size; have := HR.out.2.2.size; omega))⟩
  · have hf : c.validB = false := c.validB_false.2 fun h => hlim h.1
    rw [hf]
    have H : Hid (¬ c.limits) := Lib.hid hlim
    clear hlim hf
    go_enter Tryd.func24, Tryd.ntmps24
    go_wp2
    all_goals first
      | (go_ret; exact ⟨rfl, (Below.refl _ _).alloc (Nat.le_refl _) _⟩)
      | (exfalso; refine H.out ⟨?_, ?_, ?_, ?_, ?_⟩ <;> omega)

/-! The optimized circuit: what the reference builds. -/

def xrb (y b : Int) : Int := 2 * (y / 2) + (y + b) % 2
theorem bits_xrb (y : Int) (b : Int) (h0 : 0 ≤ y) (h1 : y ≤ 300) (hb : b = 0 ∨ b = 1) : bits .xor .i64 y b = xrb y b := by
  have e0 : ∀ q : Fin 301, bits .xor .i64 ((q.val : Nat) : Int) 0 = 2 * (((q.val : Nat) : Int) / 2) + (((q.val : Nat) : Int) + 0) % 2 := by decide +kernel
  have e1 : ∀ q : Fin 301, bits .xor .i64 ((q.val : Nat) : Int) 1 = 2 * (((q.val : Nat) : Int) / 2) + (((q.val : Nat) : Int) + 1) % 2 := by decide +kernel
  obtain ⟨q, rfl⟩ : ∃ q : Nat, y = q := ⟨y.toNat, by omega⟩
  rcases hb with rfl | rfl
  · exact e0 ⟨q, by omega⟩
  · exact e1 ⟨q, by omega⟩
theorem xrb_litP {y b v : Int} (h : litP y v) (hb : b = 0 ∨ b = 1) : litP (xrb y b) v := by
  unfold litP xrb at *; omega

/-- A literal under a map of the variables. -/
def mapB (m : List Int) (l : Int) : Int := xrb (m.getD (l / 2).toNat 0) (l % 2)
theorem mapB_eq {m : List Int} {l x : Int} {p : Nat} (hp : l / 2 = (p : Int)) (hx : m[p]? = some x) : mapB m l = xrb x (l % 2) := by
  unfold mapB; rw [hp, Int.toNat_natCast, List.getD_eq_getElem?_getD, hx]; rfl
theorem mapB_litP {m : List Int} {l v : Int} (hm : ∀ x ∈ m, litP x v) (h0 : 0 ≤ l) (h1 : l / 2 < m.length) : litP (mapB m l) v := by
  obtain ⟨p, hp⟩ : ∃ p : Nat, l / 2 = p := ⟨(l / 2).toNat, by omega⟩
  obtain ⟨x, hx⟩ := get_of_lt (l := m) (k := p) (by omega)
  rw [mapB_eq hp hx]
  exact xrb_litP (hm x (List.mem_of_getElem? hx)) (by omega)

/-- Where a gate stands. -/
def fndG : List Gt → Gt → Nat → Option Nat
  | [], _, _ => none
  | x :: xs, g, k => if x = g then some k else fndG xs g (k + 1)
theorem fndG_some {g : Gt} : ∀ {gs : List Gt} {k i : Nat}, gs[i]? = some g → (∀ j, j < i → gs[j]? ≠ some g) → fndG gs g k = some (k + i)
  | [], _, _, h, _ => by simp at h
  | x :: xs, k, 0, h, _ => by simp at h; subst h; simp [fndG]
  | x :: xs, k, i + 1, h, hn => by
    have h0 := hn 0 (by omega)
    simp at h0
    rw [fndG, if_neg h0, fndG_some (k := k + 1) (i := i) (by simpa using h) (fun j hj => by have := hn (j + 1) (by omega); simpa using this)]
    congr 1; omega
theorem fndG_none {g : Gt} : ∀ {gs : List Gt} {k : Nat}, (∀ j, j < gs.length → gs[j]? ≠ some g) → fndG gs g k = none
  | [], _, _ => rfl
  | x :: xs, k, hn => by
    have h0 := hn 0 (by simp)
    simp at h0
    rw [fndG, if_neg h0, fndG_none (k := k + 1) (fun j hj => by have := hn (j + 1) (by simp; omega); simpa using this)]
theorem fndG_at {g : Gt} : ∀ {gs : List Gt} {k i : Nat}, fndG gs g k = some i → k ≤ i ∧ gs[i - k]? = some g
  | [], _, _, h => by simp [fndG] at h
  | x :: xs, k, i, h => by
    unfold fndG at h
    by_cases e : x = g
    · rw [if_pos e] at h; cases h; simp [e]
    · rw [if_neg e] at h
      obtain ⟨h1, h2⟩ := fndG_at h
      refine ⟨by omega, ?_⟩
      rw [show i - k = (i - (k + 1)) + 1 by omega]
      simpa using h2

/-- The conjunction of two literals over gates, the smaller first. -/
def andK (F : Int) (gs : List Gt) (a b : Int) : List Gt × Int :=
  if a = 0 ∨ (a = b - 1 ∧ a % 2 = 0) then (gs, 0) else if a = 1 ∨ a = b then (gs, b) else
  match fndG gs ⟨a, b⟩ 0 with
  | some i => (gs, 2 * (F + i))
  | none => (gs ++ [⟨a, b⟩], 2 * (F + gs.length))
def andL (F : Int) (gs : List Gt) (a b : Int) : List Gt × Int := if b < a then andK F gs b a else andK F gs a b
theorem andK_zero {F : Int} {gs : List Gt} {a b : Int} (h : a = 0 ∨ (a = b - 1 ∧ a % 2 = 0)) : andK F gs a b = (gs, 0) := by unfold andK; rw [if_pos h]
theorem andK_same {F : Int} {gs : List Gt} {a b : Int} (h0 : ¬ (a = 0 ∨ (a = b - 1 ∧ a % 2 = 0))) (h : a = 1 ∨ a = b) : andK F gs a b = (gs, b) := by unfold andK; rw [if_neg h0, if_pos h]
theorem andK_old {F : Int} {gs : List Gt} {a b : Int} {i : Nat} (h0 : ¬ (a = 0 ∨ (a = b - 1 ∧ a % 2 = 0))) (h : ¬ (a = 1 ∨ a = b)) (hi : fndG gs ⟨a, b⟩ 0 = some i) : andK F gs a b = (gs, 2 * (F + i)) := by
  unfold andK; rw [if_neg h0, if_neg h, hi]
theorem andK_new {F : Int} {gs : List Gt} {a b : Int} (h0 : ¬ (a = 0 ∨ (a = b - 1 ∧ a % 2 = 0))) (h : ¬ (a = 1 ∨ a = b)) (hi : fndG gs ⟨a, b⟩ 0 = none) : andK F gs a b = (gs ++ [⟨a, b⟩], 2 * (F + gs.length)) := by
  unfold andK; rw [if_neg h0, if_neg h, hi]
/-- What the conjunction leaves: gates in order, a literal of theirs. -/
structure AndOk (F : Int) (gs : List Gt) (r : List Gt × Int) : Prop where
  gates : gatesP F r.1
  lit : litP r.2 (F + r.1.length)
  len : gs.length ≤ r.1.length ∧ r.1.length ≤ gs.length + 1
theorem gatesP_app {F : Int} {gs : List Gt} {g : Gt} (h : gatesP F gs) (h1 : litP g.a (F + gs.length)) (h2 : litP g.b (F + gs.length)) : gatesP F (gs ++ [g]) := by
  intro i hi
  by_cases e : i < gs.length
  · rw [List.getElem_append_left e]; exact h i e
  · simp at hi
    obtain rfl : i = gs.length := by omega
    simpa using ⟨h1, h2⟩
theorem andK_ok {F : Int} {gs : List Gt} {a b : Int} (hF : 1 ≤ F) (hg : gatesP F gs) (ha : litP a (F + gs.length)) (hb : litP b (F + gs.length)) : AndOk F gs (andK F gs a b) := by
  by_cases h0 : a = 0 ∨ (a = b - 1 ∧ a % 2 = 0)
  · rw [andK_zero h0]; exact ⟨hg, ⟨by simp, by show (0 : Int) < _; omega⟩, by simp, by simp⟩
  · by_cases h1 : a = 1 ∨ a = b
    · rw [andK_same h0 h1]; exact ⟨hg, hb, by simp, by simp⟩
    · cases hf : fndG gs ⟨a, b⟩ 0 with
      | some i =>
        rw [andK_old h0 h1 hf]
        have := (List.getElem?_eq_some_iff.1 (fndG_at hf).2).1
        exact ⟨hg, ⟨by show (0 : Int) ≤ 2 * (F + i); omega, by show 2 * (F + (i : Int)) < 2 * (F + gs.length); omega⟩, by simp, by simp⟩
      | none =>
        rw [andK_new h0 h1 hf]
        refine ⟨gatesP_app hg ha hb, ⟨by show (0 : Int) ≤ 2 * (F + gs.length); omega, ?_⟩, by simp, by simp⟩
        show 2 * (F + (gs.length : Int)) < 2 * (F + ((gs ++ [(⟨a, b⟩ : Gt)]).length : Int))
        simp; omega
theorem andL_ok {F : Int} {gs : List Gt} {a b : Int} (hF : 1 ≤ F) (hg : gatesP F gs) (ha : litP a (F + gs.length)) (hb : litP b (F + gs.length)) : AndOk F gs (andL F gs a b) := by
  unfold andL
  split
  · exact andK_ok hF hg hb ha
  · exact andK_ok hF hg ha hb

/-- The gates that something depends on. -/
def markU (F : Int) (u : List Bool) (l : Int) : List Bool := if F ≤ l / 2 then u.set (l / 2 - F).toNat true else u
theorem markU_length (F : Int) (u : List Bool) (l : Int) : (markU F u l).length = u.length := by unfold markU; split <;> simp
theorem markU_keep {F : Int} {u : List Bool} {l : Int} {k : Nat} (h : u[k]? = some true) : (markU F u l)[k]? = some true := by
  unfold markU
  split
  · have hl := (List.getElem?_eq_some_iff.1 h).1
    by_cases e : (l / 2 - F).toNat = k
    · subst e; simp [hl]
    · rw [List.getElem?_set_ne e]; exact h
  · exact h
def used0 (F : Int) (n : Nat) (roots : List Int) : List Bool := roots.foldl (markU F) (List.replicate n false)
theorem used0_length (F : Int) (n : Nat) (roots : List Int) : (used0 F n roots).length = n := by
  have : ∀ (u : List Bool), (roots.foldl (markU F) u).length = u.length := by
    induction roots with
    | nil => intro u; rfl
    | cons r rs ih => intro u; simp only [List.foldl_cons]; rw [ih, markU_length]
  unfold used0; rw [this]; simp
theorem used0_snoc {F : Int} {n : Nat} {roots : List Int} {k : Nat} {l : Int} (h : roots[k]? = some l) : used0 F n (roots.take (k + 1)) = markU F (used0 F n (roots.take k)) l := by
  unfold used0; rw [List.take_add_one, h]; simp
def usedS (F : Int) (gs : List Gt) (k : Nat) (u : List Bool) : List Bool :=
  match gs[k]? with
  | some g => if u.getD k false then markU F (markU F u g.a) g.b else u
  | none => u
theorem usedS_length (F : Int) (gs : List Gt) (k : Nat) (u : List Bool) : (usedS F gs k u).length = u.length := by
  unfold usedS
  split
  · split
    · rw [markU_length, markU_length]
    · rfl
  · rfl
/-- From gate k - 1 down. -/
def usedK (F : Int) (gs : List Gt) : Nat → List Bool → List Bool
  | 0, u => u
  | k + 1, u => usedK F gs k (usedS F gs k u)
theorem usedK_length (F : Int) (gs : List Gt) : ∀ (k : Nat) (u : List Bool), (usedK F gs k u).length = u.length
  | 0, _ => rfl
  | k + 1, u => by unfold usedK; rw [usedK_length F gs k, usedS_length]
def usedL (c : Cir) : List Bool := usedK c.first c.gates c.gates.length (used0 c.first c.gates.length (c.outs ++ c.next))
theorem usedL_length (c : Cir) : (usedL c).length = c.gates.length := by unfold usedL; rw [usedK_length, used0_length]

/-- A circuit rebuilt gate by gate. -/
def evE (k : Nat) : List Int := (List.range k).map fun (i : Nat) => 2 * (i : Int)
theorem evE_length (k : Nat) : (evE k).length = k := by simp [evE]
theorem evE_succ (k : Nat) : evE (k + 1) = evE k ++ [2 * (k : Int)] := by simp [evE, List.range_succ]
def bStep (F : Int) (sh : Bool) (u : List Bool) (st : List Gt × List Int) (g : Gt) (i : Nat) : List Gt × List Int :=
  if u.getD i false then
    if sh then ((andL F st.1 (mapB st.2 g.a) (mapB st.2 g.b)).1, st.2 ++ [(andL F st.1 (mapB st.2 g.a) (mapB st.2 g.b)).2])
    else (st.1 ++ [⟨mapB st.2 g.a, mapB st.2 g.b⟩], st.2 ++ [2 * (F + st.1.length)])
  else (st.1, st.2 ++ [0])
def bldP (c : Cir) (sh : Bool) : Nat → List Gt × List Int
  | 0 => ([], evE c.first.toNat)
  | k + 1 => match c.gates[k]? with
    | some g => bStep c.first sh (usedL c) (bldP c sh k) g k
    | none => bldP c sh k
theorem bldP_succ {c : Cir} {sh : Bool} {k : Nat} {g : Gt} (h : c.gates[k]? = some g) : bldP c sh (k + 1) = bStep c.first sh (usedL c) (bldP c sh k) g k := by
  show (match c.gates[k]? with | some g => _ | none => _) = _
  rw [h]
def buildC (sh : Bool) (c : Cir) : Cir := ⟨c.inp, c.next.map (mapB (bldP c sh c.gates.length).2), (bldP c sh c.gates.length).1, c.outs.map (mapB (bldP c sh c.gates.length).2)⟩
def optC (c : Cir) : Cir := buildC false (buildC true c)
def optR (c : Cir) : Cir := if c.validB then optC c else ⟨0, [], [], []⟩
theorem optR_no {c : Cir} (h : c.validB = false) : optR c = ⟨0, [], [], []⟩ := by unfold optR; rw [h]; rfl
theorem optR_yes {c : Cir} (h : c.validB = true) : optR c = optC c := by unfold optR; rw [h]; rfl

/-- What stands after k gates. -/
structure BldOk (F : Int) (k : Nat) (st : List Gt × List Int) : Prop where
  gates : gatesP F st.1
  glen : st.1.length ≤ k
  mlen : (st.2.length : Int) = F + k
  lits : ∀ x ∈ st.2, litP x (F + st.1.length)
theorem BldOk.step {F : Int} {k : Nat} {st : List Gt × List Int} {g : Gt} (h : BldOk F k st) (hF : 1 ≤ F) (ha : litP g.a (F + k)) (hb : litP g.b (F + k)) (sh : Bool) (u : List Bool) : BldOk F (k + 1) (bStep F sh u st g k) := by
  have ma : litP (mapB st.2 g.a) (F + st.1.length) := mapB_litP h.lits ha.1 (by have := h.mlen; unfold litP at ha; omega)
  have mb : litP (mapB st.2 g.b) (F + st.1.length) := mapB_litP h.lits hb.1 (by have := h.mlen; unfold litP at hb; omega)
  have hm := h.mlen
  have hl := h.glen
  unfold bStep
  by_cases hu : u.getD k false = true
  · rw [if_pos hu]
    cases sh with
    | true =>
      rw [if_pos rfl]
      have ho := andL_ok hF h.gates ma mb
      refine ⟨ho.gates, by have := ho.len.2; show (andL _ _ _ _).1.length ≤ _; omega, by simp; omega, fun x hx => ?_⟩
      rcases List.mem_append.1 hx with hx | hx
      · have := h.lits x hx
        have h3 := ho.len.1
        exact ⟨this.1, by have := this.2; show x < 2 * (F + ((andL F st.1 (mapB st.2 g.a) (mapB st.2 g.b)).1.length : Int)); omega⟩
      · simp at hx; subst hx; exact ho.lit
    | false =>
      rw [if_neg (by simp)]
      refine ⟨gatesP_app h.gates ma mb, by simp; omega, by simp; omega, fun x hx => ?_⟩
      rcases List.mem_append.1 hx with hx | hx
      · have := h.lits x hx
        exact ⟨this.1, by have := this.2; simp; omega⟩
      · simp at hx; subst hx; exact ⟨by omega, by simp; omega⟩
  · rw [if_neg hu]
    refine ⟨h.gates, by show st.1.length ≤ k + 1; omega, by simp; omega, fun x hx => ?_⟩
    rcases List.mem_append.1 hx with hx | hx
    · exact h.lits x hx
    · simp at hx; subst hx; exact ⟨by omega, by show (0 : Int) < 2 * (F + st.1.length); omega⟩
theorem bldP_ok {c : Cir} (hv : c.wide) (sh : Bool) : ∀ k, k ≤ c.gates.length → BldOk c.first k (bldP c sh k)
  | 0, _ => by
    have := hv.lim.1
    have eF : c.first = 1 + c.inp + c.next.length := rfl
    refine ⟨fun i hi => by simp [bldP] at hi, by simp [bldP], by show ((evE c.first.toNat).length : Int) = _; rw [evE_length]; omega, fun x hx => ?_⟩
    obtain ⟨i, hi, rfl⟩ := List.mem_map.1 (show x ∈ (List.range c.first.toNat).map fun (i : Nat) => 2 * (i : Int) from hx)
    simp at hi
    exact ⟨by omega, by simp [bldP]; omega⟩
  | k + 1, hk => by
    obtain ⟨g, hg⟩ := get_of_lt (l := c.gates) (k := k) (by omega)
    have hp := gatesP_at hv.gates hg
    have := hv.lim.1
    have eF : c.first = 1 + c.inp + c.next.length := rfl
    rw [bldP_succ hg]
    exact (bldP_ok hv sh k (by omega)).step (by omega) hp.1 hp.2 sh _
theorem buildC_wide {c : Cir} (hv : c.wide) (sh : Bool) : (buildC sh c).wide := by
  have ho := bldP_ok hv sh c.gates.length (Nat.le_refl _)
  obtain ⟨q1, q2, q3, q4, q5⟩ := id hv.lim
  have eF : (buildC sh c).first = c.first := by unfold Cir.first buildC; simp
  have eF0 : c.first = 1 + c.inp + c.next.length := rfl
  have eV : (buildC sh c).vars = c.first + ((bldP c sh c.gates.length).1.length : Int) := by unfold Cir.vars Cir.first buildC; simp
  have eV0 : c.vars = c.first + c.gates.length := rfl
  have hm : ∀ l, litP l c.vars → litP (mapB (bldP c sh c.gates.length).2 l) (buildC sh c).vars := fun l hl => by
    rw [eV]
    exact mapB_litP ho.lits hl.1 (by have := ho.mlen; unfold litP at hl; omega)
  refine ⟨⟨q1, q2, by simpa [buildC] using q3, by have := ho.glen; show (bldP c sh c.gates.length).1.length ≤ 120; omega, by simpa [buildC] using q5⟩, by rw [eF]; exact ho.gates, fun x hx => ?_, fun x hx => ?_⟩
  · obtain ⟨l, hl, rfl⟩ := List.mem_map.1 (show x ∈ c.next.map (mapB (bldP c sh c.gates.length).2) from hx)
    exact hm l (hv.next l hl)
  · obtain ⟨l, hl, rfl⟩ := List.mem_map.1 (show x ∈ c.outs.map (mapB (bldP c sh c.gates.length).2) from hx)
    exact hm l (hv.outs l hl)
theorem buildC_valid {c : Cir} (hv : c.valid) (sh : Bool) : (buildC sh c).valid := by
  have ho := bldP_ok hv.wide sh c.gates.length (Nat.le_refl _)
  obtain ⟨q1, q2, q3, q4, q5⟩ := id hv.lim
  have eF : (buildC sh c).first = c.first := by unfold Cir.first buildC; simp
  have eF0 : c.first = 1 + c.inp + c.next.length := rfl
  have eV : (buildC sh c).vars = c.first + ((bldP c sh c.gates.length).1.length : Int) := by unfold Cir.vars Cir.first buildC; simp
  have eV0 : c.vars = c.first + c.gates.length := rfl
  have hm : ∀ l, litP l c.vars → litP (mapB (bldP c sh c.gates.length).2 l) (buildC sh c).vars := fun l hl => by
    rw [eV]
    exact mapB_litP ho.lits hl.1 (by have := ho.mlen; unfold litP at hl; omega)
  refine ⟨⟨q1, q2, by simpa [buildC] using q3, by have := ho.glen; show (bldP c sh c.gates.length).1.length ≤ 14; omega, by simpa [buildC] using q5⟩, by rw [eF]; exact ho.gates, fun x hx => ?_, fun x hx => ?_⟩
  · obtain ⟨l, hl, rfl⟩ := List.mem_map.1 (show x ∈ c.next.map (mapB (bldP c sh c.gates.length).2) from hx)
    exact hm l (hv.next l hl)
  · obtain ⟨l, hl, rfl⟩ := List.mem_map.1 (show x ∈ c.outs.map (mapB (bldP c sh c.gates.length).2) from hx)
    exact hm l (hv.outs l hl)
theorem optC_wide {c : Cir} (hv : c.wide) : (optC c).wide := buildC_wide (buildC_wide hv true) false
theorem optC_valid {c : Cir} (hv : c.valid) : (optC c).valid := buildC_valid (buildC_valid hv true) false
theorem optR_len (c : Cir) : (optR c).next.length ≤ 3 ∧ (optR c).gates.length ≤ 14 ∧ (optR c).outs.length ≤ 3 ∧ 0 ≤ (optR c).inp ∧ (optR c).inp ≤ 4 := by
  cases hv : c.validB
  · rw [optR_no hv]; simp
  · rw [optR_yes hv]
    obtain ⟨q1, q2, q3, q4, q5⟩ := (optC_valid (c.validB_iff.1 hv)).lim
    exact ⟨q3, q4, q5, q1, q2⟩

end Go.Proofs.YtnifgamlmaembaaDoor
