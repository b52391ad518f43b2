import Derived.Test.YtindndcdpnpcmaaProg
import Derived.Test.YtindndcdpnpcmaaA0
import Derived.Deep.QuietTactic
import Derived.BigQuiet
import Derived.Deep.RegionHeld3
import Derived.Deep.AppendLies
namespace Go.Proofs.Ytindndcdpnpcmaa
set_option linter.unusedVariables false
set_option linter.unusedSimpArgs false
open Go.RowKit

structure Gt where
  a : Int
  b : Int
theorem Gt.ext' {x y : Gt} (h1 : x.a = y.a) (h2 : x.b = y.b) : x = y := by cases x; cases y; simp_all
instance : DecidableEq Gt := fun x y => decidable_of_iff (x.a = y.a ∧ x.b = y.b) ⟨fun h => Gt.ext' h.1 h.2, fun h => by rw [h]; exact ⟨rfl, rfl⟩⟩
structure Cir where
  inp : Int
  next : List Int
  gates : List Gt
  outs : List Int
theorem Cir.ext' {x y : Cir} (h1 : x.inp = y.inp) (h2 : x.next = y.next) (h3 : x.gates = y.gates) (h4 : x.outs = y.outs) : x = y := by cases x; cases y; simp_all
instance : DecidableEq Cir := fun x y => decidable_of_iff (x.inp = y.inp ∧ x.next = y.next ∧ x.gates = y.gates ∧ x.outs = y.outs) ⟨fun h => Cir.ext' h.1 h.2.1 h.2.2.1 h.2.2.2, fun h => by rw [h]; exact ⟨rfl, rfl, rfl, rfl⟩⟩

def Gt.cells (g : Gt) : List Value := [.int .i64 g.a, .int .i64 g.b]
def gcells (gs : List Gt) : List Value := gs.flatMap Gt.cells
theorem gcells_length (gs : List Gt) : (gcells gs).length = 2 * gs.length := by
  induction gs with
  | nil => rfl
  | cons g gs ih => simp [gcells, Gt.cells] at ih ⊢; omega
theorem gcells_get {gs : List Gt} {k : Nat} {g : Gt} (h : gs[k]? = some g) : (gcells gs)[2 * k]? = some (.int .i64 g.a) ∧ (gcells gs)[2 * k + 1]? = some (.int .i64 g.b) := by
  induction gs generalizing k with
  | nil => simp at h
  | cons x gs ih =>
    cases k with
    | zero => simp at h; subst h; exact ⟨rfl, rfl⟩
    | succ k =>
      have := ih (k := k) (by simpa using h)
      have e : gcells (x :: gs) = .int .i64 x.a :: .int .i64 x.b :: gcells gs := rfl
      rw [e]
      constructor
      · rw [show 2 * (k + 1) = 2 * k + 1 + 1 from by omega]; simpa using this.1
      · rw [show 2 * (k + 1) + 1 = 2 * k + 1 + 1 + 1 from by omega]; simpa using this.2

theorem Sl.gate {w wr : World} {s : Option Addr} {gs : List Gt} (h : Sl w s (gcells gs)) (hbl : Below w.heap.size w wr) {k : Nat} {g : Gt} (hg : gs[k]? = some g) :
    ∃ b off, s = some ⟨b, off, none⟩ ∧ b < w.heap.size ∧ wr.cell? ⟨b, off + k * 2, none⟩ = some (.int .i64 g.a) ∧ wr.cell? ⟨b, off + k * 2 + 1, none⟩ = some (.int .i64 g.b) := by
  have hlt : k < gs.length := (List.getElem?_eq_some_iff.1 hg).1
  obtain ⟨b, off, rfl, hbw, hcs⟩ := h.at (k := 2 * k) (by rw [gcells_length]; omega)
  have e := gcells_get hg
  refine ⟨b, off, rfl, hbw, ?_, ?_⟩
  · rw [hbl.cell (by exact hbw), Nat.mul_comm]; exact hcs _ _ e.1
  · rw [hbl.cell (by exact hbw), Nat.mul_comm, Nat.add_assoc]; exact hcs _ _ e.2
theorem Sl.int {w wr : World} {s : Option Addr} {xs : List Int} (h : Sl w s (ints xs)) (hbl : Below w.heap.size w wr) {k : Nat} {x : Int} (hx : xs[k]? = some x) :
    ∃ b off, s = some ⟨b, off, none⟩ ∧ b < w.heap.size ∧ wr.cell? ⟨b, off + k, none⟩ = some (.int .i64 x) := by
  have hlt : k < xs.length := (List.getElem?_eq_some_iff.1 hx).1
  obtain ⟨b, off, rfl, hbw, hcs⟩ := h.at (k := k) (by simpa using hlt)
  exact ⟨b, off, rfl, hbw, by rw [hbl.cell (by exact hbw)]; exact hcs _ _ (ints_get hx)⟩
theorem get_of_lt {α : Type} {l : List α} {k : Nat} (h : k < l.length) : ∃ x, l[k]? = some x := ⟨l[k], by simp [h]⟩

/-- A circuit behind a pointer. -/
structure CirAt (w : World) (b : Nat) (inp : Int) (vn vg vo : Value) : Prop where
  h0 : w.cell? ⟨b, 0, none⟩ = some (.int .i64 inp)
  h1 : w.cell? ⟨b, 1, none⟩ = some vn
  h2 : w.cell? ⟨b, 2, none⟩ = some vg
  h3 : w.cell? ⟨b, 3, none⟩ = some vo

theorem firstGate_any (b : Nat) (inp : Int) (sn : Option Addr) (nn cn : Nat) (vg vo : Value) (w : World) (h : CirAt w b inp (.slice sn nn cn) vg vo) (hi : -1000000 ≤ inp ∧ inp ≤ 1000000) (hn : nn ≤ 1048576) :
    Calls Try.prog 100 #[.pointer (some ⟨b, 0, none⟩)] w fun e w' => e = .returned (.int .i64 (1 + inp + nn)) ∧ Drew w w' := by
  obtain ⟨h0, h1, h2, h3⟩ := h
  obtain ⟨hi, hi'⟩ := hi
  go_enter Try.func100, Try.ntmps100
  go_wp2
  go_quiet (fail)
  go_wp2
  go_ret
  exact ⟨rfl, _, rfl⟩

theorem vars_any (b : Nat) (inp : Int) (sn sg : Option Addr) (nn cn ng cg : Nat) (vo : Value) (w : World) (h : CirAt w b inp (.slice sn nn cn) (.slice sg ng cg) vo) (hi : -1000000 ≤ inp ∧ inp ≤ 1000000) (hn : nn ≤ 1048576) (hg : ng ≤ 1048576) :
    Calls Try.prog 78 #[.pointer (some ⟨b, 0, none⟩)] w fun e w' => e = .returned (.int .i64 (1 + inp + nn + ng)) ∧ Drew w w' := by
  have C : ∀ n, CirAt (w.drewN n) b inp (.slice sn nn cn) (.slice sg ng cg) vo := fun n => ⟨h.h0, h.h1, h.h2, h.h3⟩
  have hi2 := hi
  obtain ⟨h0, h1, h2, h3⟩ := h
  obtain ⟨hi, hi'⟩ := hi
  go_enter Try.func78, Try.ntmps78
  go_wp2_with fail
  go_quiet ((go_at_call 100; exact Calls.quiet_of (firstGate_any _ _ _ _ _ _ _ _ (C _) hi2 hn)))
  go_wp2
  go_ret
  exact ⟨rfl, _, rfl⟩

theorem isLit_any (l v : Int) (w : World) (hv : -2000000000 ≤ v ∧ v ≤ 2000000000) :
    Calls Try.prog 82 #[.int .i64 l, .int .i64 v] w fun e w' => e = .returned (.bool (decide (0 ≤ l ∧ l < 2 * v))) ∧ w = w' := by
  obtain ⟨hv1, hv2⟩ := hv
  by_cases h : 0 ≤ l
  all_goals
    go_enter Try.func82, Try.ntmps82
    go_wp2
    go_ret
    exact ⟨by simp [h] <;> omega, rfl⟩

theorem elem_int : ElemOf Try.prog 22 3 (.int .i64 0) 1 8 :=
  ⟨by kernel_rfl, info_parts (by kernel_rfl), rfl, by omega⟩

set_option maxHeartbeats 400000 in
theorem roots_any (b : Nat) (inp : Int) (sn so : Option Addr) (cn co : Nat) (next outs : List Int) (vg : Value) (w : World) (h : CirAt w b inp (.slice sn next.length cn) vg (.slice so outs.length co))
    (hn : Sl w sn (ints next)) (ho : Sl w so (ints outs)) (hl1 : next.length ≤ 1048576) (hl2 : outs.length ≤ 1048576) :
    Calls Try.prog 107 #[.pointer (some ⟨b, 0, none⟩)] w fun e w' => ∃ s c, e = .returned (.slice s (next.length + outs.length) c) ∧
      w'.ownsRow w.heap.size 3 1 (.slice s (next.length + outs.length) c) (next.length + outs.length) (ints next ++ ints outs) ∧ Below w.heap.size w w' := by
  obtain ⟨h0, h1, h2, h3⟩ := h
  have HB : Hid (b < w.heap.size) := World.block_lt_of_cell? w _ h0
  have H : Hid (_ ∧ _ ∧ _ ∧ _) := Lib.hid ⟨hn, ho, hl1, hl2⟩
  clear hn ho hl1 hl2
  go_enter Try.func107, Try.ntmps107
  go_wp2_with fail
  go_region_held3 (fun w' => w'.cell? ⟨b, 1, none⟩ = some (.slice sn next.length cn) ∧ w'.cell? ⟨b, 3, none⟩ = some (.slice so outs.length co))
    (first
      | go_keep
      | (go_split_ands; refine ⟨?_, ?_⟩ <;> (rw [hb2.cell HB.out]; assumption))
      | (go_split_ands; refine ⟨?_, ?_⟩ <;> (rw [hb1.cell HB.out]; assumption)))
    ((first
      | (refine step_app rfl (.const (.slice none 0 0)) _ rfl elem_int (World.ownsRow_nil _ w.heap.size _ _) rfl rfl (by simp) H.out.1 (ints_one _) next.length (by simp) (ints next) (by simp) (by unfold maxLen; have := H.out.2.2.1; omega) (by have := H.out.2.2.1; omega) (Nat.le_refl _) ?_; intro s1 c1 w1 ho1 hb1 _ _)
      | (refine step_app rfl (.tmp 7) (.tmp 11) rfl elem_int ho1 rfl rfl (by simp) (H.out.2.1.mono ((Below.refl _ _).drew.trans hb1)) (ints_one _) (next.length + outs.length) rfl _ rfl (by unfold maxLen; have := H.out.2.2; omega) (by have := H.out.2.2; omega) (by have := hb1.size; simpa using this) ?_; intro s2 c2 w2 ho2 hb2 _ _)))
  go_wp2
  go_ret
  exact ⟨_, _, rfl, ho2, ((Below.refl _ _).drew.trans hb1).trans hb2⟩

def litP (l v : Int) : Prop := 0 ≤ l ∧ l < 2 * v
instance (l v : Int) : Decidable (litP l v) := inferInstanceAs (Decidable (0 ≤ l ∧ l < 2 * v))
def Cir.first (c : Cir) : Int := 1 + c.inp + c.next.length
def Cir.vars (c : Cir) : Int := 1 + c.inp + c.next.length + c.gates.length
def Cir.limits (c : Cir) : Prop := 0 ≤ c.inp ∧ c.inp ≤ 4 ∧ c.next.length ≤ 3 ∧ c.gates.length ≤ 14 ∧ c.outs.length ≤ 3
instance (c : Cir) : Decidable c.limits := inferInstanceAs (Decidable (_ ∧ _))
def gatesP (first : Int) (gs : List Gt) : Prop := ∀ i (h : i < gs.length), litP (gs[i]).a (first + i) ∧ litP (gs[i]).b (first + i)
instance (first : Int) (gs : List Gt) : Decidable (gatesP first gs) := inferInstanceAs (Decidable (∀ i (h : i < gs.length), _))
def litsP (v : Int) (xs : List Int) : Prop := ∀ x ∈ xs, litP x v
instance (v : Int) (xs : List Int) : Decidable (litsP v xs) := inferInstanceAs (Decidable (∀ x ∈ xs, _))
structure Cir.valid (c : Cir) : Prop where
  lim : c.limits
  gates : gatesP c.first c.gates
  next : litsP c.vars c.next
  outs : litsP c.vars c.outs
def Cir.validB (c : Cir) : Bool := decide c.limits && (decide (gatesP c.first c.gates) && (decide (litsP c.vars c.next) && decide (litsP c.vars c.outs)))
theorem Cir.validB_iff (c : Cir) : c.validB = true ↔ c.valid := by
  unfold Cir.validB
  simp only [Bool.and_eq_true, decide_eq_true_eq]
  exact ⟨fun ⟨a, b, c, d⟩ => ⟨a, b, c, d⟩, fun ⟨a, b, c, d⟩ => ⟨a, b, c, d⟩⟩
theorem Cir.validB_false (c : Cir) : c.validB = false ↔ ¬ c.valid := by rw [← c.validB_iff]; simp

/-- A circuit as a value. -/
def CirV (w : World) (v : Value) (c : Cir) : Prop :=
  ∃ sn cn sg cg so co, v = .agg #[.int .i64 c.inp, .slice sn c.next.length cn, .slice sg c.gates.length cg, .slice so c.outs.length co] ∧
    Sl w sn (ints c.next) ∧ Sl w sg (gcells c.gates) ∧ Sl w so (ints c.outs) ∧ c.next.length ≤ 1048576 ∧ c.gates.length ≤ 1048576 ∧ c.outs.length ≤ 1048576

theorem CirV.mono {w w' : World} {v : Value} {c : Cir} (h : CirV w v c) (hb : Below w.heap.size w w') : CirV w' v c := by
  obtain ⟨sn, cn, sg, cg, so, co, hv, h1, h2, h3, h4⟩ := h
  exact ⟨sn, cn, sg, cg, so, co, hv, h1.mono hb, h2.mono hb, h3.mono hb, h4⟩

/-- The block that holds a circuit. -/
theorem CirAt.of_blk {w : World} {b : Nat} {inp : Int} {vn vg vo : Value} {t : TypeId} {fz : Nat × Nat} (h : w.heap[b]? = some (.cells #[.int .i64 inp, vn, vg, vo] t fz)) : CirAt w b inp vn vg vo :=
  ⟨blk_cell h, blk_cell h, blk_cell h, blk_cell h⟩

theorem ret_bool {a b : Bool} (h : a = b) : Ending.returned (.bool a) = .returned (.bool b) := by rw [h]
theorem gatesP_snoc {f : Int} {gs : List Gt} {k : Nat} {g : Gt} (h : gatesP f (gs.take k)) (hg : gs[k]? = some g) (h1 : litP g.a (f + k)) (h2 : litP g.b (f + k)) : gatesP f (gs.take (k + 1)) := by
  intro i hi
  have hlt : k < gs.length := (List.getElem?_eq_some_iff.1 hg).1
  obtain rfl : gs[k] = g := (List.getElem?_eq_some_iff.1 hg).2
  by_cases e : i = k
  · subst e; simpa using ⟨h1, h2⟩
  · have := h i (by simp at hi ⊢; omega)
    simpa using this
theorem gatesP_at {f : Int} {gs : List Gt} {k : Nat} {g : Gt} (h : gatesP f gs) (hg : gs[k]? = some g) : litP g.a (f + k) ∧ litP g.b (f + k) := by
  obtain ⟨hlt, rfl⟩ := List.getElem?_eq_some_iff.1 hg
  exact h k hlt

theorem ints_append (xs ys : List Int) : ints xs ++ ints ys = ints (xs ++ ys) := by simp [ints]
theorem litsP_snoc {v : Int} {xs : List Int} {k : Nat} {x : Int} (h : litsP v (xs.take k)) (hx : xs[k]? = some x) (h1 : litP x v) : litsP v (xs.take (k + 1)) := by
  rw [List.take_add_one, hx]
  intro y hy
  rcases List.mem_append.1 hy with hy | hy
  · exact h y hy
  · simp at hy; subst hy; exact h1

theorem CircuitValid_i (v : Value) (c : Cir) (w : World) (h : CirV w v c) :
    Calls Try.prog 56 #[v] w fun e w' => e = .returned (.bool c.validB) ∧ Below w.heap.size w w' := by
  obtain ⟨sn, cn, sg, cg, so, co, rfl, h1, h2, h3, hl1, hl2, hl3⟩ := h
  by_cases hlim : c.limits
  · obtain ⟨ha, hb, hc, hd, he⟩ := hlim
    go_enter Try.func56, Try.ntmps56
    go_wp2
    have HP : Hid (_ ∧ _ ∧ _ ∧ _ ∧ _ ∧ _) := Lib.hid ⟨h1, h2, h3, hc, hd, he⟩
    clear h1 h2 h3 hl1 hl2 hl3 he
    go_loopw [44] (fun i wr => ∃ k : Nat, k ≤ c.gates.length ∧ i = .int .i64 k ∧ gatesP c.first (c.gates.take k) ∧ wr.heap[w.heap.size]? = some (.cells #[.int .i64 c.inp, .slice sn c.next.length cn, .slice sg c.gates.length cg, .slice so c.outs.length co] 29 (0, 0)) ∧ Below w.heap.size w wr) (fun i _ => c.gates.length - (intOf i).toNat)
    case atStart => exact ⟨0, Nat.zero_le _, rfl, by intro i hi; simp at hi, blk_new _ _, (Below.refl _ _).alloc (Nat.le_refl _) _⟩
    case round =>
      obtain ⟨k, hk, rfl, hg, hbk, hbl⟩ := hrel
      by_cases hlt : k < c.gates.length
      · obtain ⟨g, hgk⟩ := get_of_lt hlt
        obtain ⟨b, off, rfl, hbw, hz1, hz2⟩ := HP.out.2.1.gate hbl hgk
        have HR : Hid (_ ∧ _ ∧ _ ∧ _ ∧ _) := Lib.hid ⟨hg, hbk, hbl, hgk, hbw⟩
        clear hg hbk hbl hgk hbw
        go_wp2_with (go_at_call 82; refine (isLit_any _ _ _ (by omega)).mono ?_; rintro e w' ⟨rfl, rfl⟩)
        all_goals obtain ⟨hg, hbk, hbl, hgk, hbw⟩ := HR.out
        all_goals first
          | (go_roundw
             case rel => exact ⟨k + 1, by omega, by go_num, gatesP_snoc hg hgk (by unfold litP Cir.first; simp at *; omega) (by unfold litP Cir.first; simp at *; omega), blk_old hbk, hbl.alloc hbl.size _⟩
             case measure => simp [intOf]; omega)
          | (go_ret
             refine ⟨ret_bool (c.validB_false.2 fun h => ?_).symm, hbl.alloc hbl.size _⟩
             have := gatesP_at h.gates hgk
             unfold litP Cir.first at this
             simp at *; omega)
      · obtain rfl : k = c.gates.length := by omega
        have hC := CirAt.of_blk hbk
        have hBs := blk_lt hbk
        have HR : Hid (_ ∧ _ ∧ _) := Lib.hid ⟨hg, hbk, hbl⟩
        clear hg hbk hbl
        go_wp2_with (go_at_call 107; refine (roots_any _ _ _ _ _ _ _ _ _ _ hC (HP.out.1.mono HR.out.2.2) (HP.out.2.2.1.mono HR.out.2.2) (by omega) (by have := HP.out.2.2.2.2.2; omega)).mono ?_; rintro e w1 ⟨s, cc, rfl, ho1, hb1⟩)
        rw [ints_append] at ho1
        have hs1 := own_sl ho1
        have hbk1 := blk_below hb1 hBs HR.out.2.1
        have HS : Hid (_ ∧ _ ∧ _ ∧ _) := Lib.hid ⟨hs1, hbk1, hb1, ho1⟩
        clear hs1 hbk1 hb1 ho1 hC hBs
        go_loopw [68] (fun i wr => ∃ k : Nat, k ≤ c.next.length + c.outs.length ∧ i = .int .i64 k ∧ litsP c.vars ((c.next ++ c.outs).take k) ∧ Below w1.heap.size w1 wr) (fun i _ => c.next.length + c.outs.length - (intOf i).toNat)
        case atStart => exact ⟨0, Nat.zero_le _, rfl, by intro i hi; simp at hi, Below.refl _ _⟩
        case round =>
          obtain ⟨k, hk, rfl, hg, hbl⟩ := hrel
          have he := HP.out.2.2.2.2.2
          have hC := CirAt.of_blk (blk_below hbl (blk_lt HS.out.2.1) HS.out.2.1)
          by_cases hlt : k < c.next.length + c.outs.length
          · obtain ⟨x, hx⟩ := get_of_lt (l := c.next ++ c.outs) (k := k) (by simp; omega)
            obtain ⟨b, off, rfl, hbw, hz1⟩ := HS.out.1.int hbl hx
            have HR2 : Hid (_ ∧ _ ∧ _) := Lib.hid ⟨hg, hbl, hx⟩
            clear hg hbl hx
            go_wp2_with (first
              | (go_at_call 78; refine (vars_any _ _ _ _ _ _ _ _ _ _ hC (by omega) (by omega) (by omega)).mono ?_; rintro e w' ⟨rfl, n, rfl⟩)
              | (go_at_call 82; refine (isLit_any _ _ _ (by omega)).mono ?_; rintro e w' ⟨rfl, rfl⟩))
            all_goals obtain ⟨hg, hbl, hx⟩ := HR2.out
            all_goals first
              | (go_roundw
                 case rel => exact ⟨k + 1, by omega, by go_num, litsP_snoc hg hx (by unfold litP Cir.vars; simp at *; omega), below_n hbl _⟩
                 case measure => simp [intOf]; omega)
              | (go_ret
                 refine ⟨ret_bool (c.validB_false.2 fun h => ?_).symm, (HR.out.2.2.trans (HS.out.2.2.1.mono HR.out.2.2.size)).trans (below_n (hbl.mono (by have := HS.out.2.2.1.size; have := HR.out.2.2.size; omega)) _)⟩
                 have := (List.mem_append.1 (List.mem_of_getElem? hx)).elim (h.next x) (h.outs x)
                 unfold litP Cir.vars at this
                 simp at *; omega)
          · obtain rfl : k = c.next.length + c.outs.length := by omega
            rw [List.take_of_length_le (by simp)] at hg
            have hv : c.validB = true := c.validB_iff.2 ⟨⟨ha, hb, hc, hd, he⟩, by simpa using HR.out.1, fun x hx => hg x (by simp [hx]), fun x hx => hg x (by simp [hx])⟩
            have HR2 : Hid (_ ∧ _) := Lib.hid ⟨hbl, hv⟩
            clear hbl hg hv
            go_wp2
            go_ret
            exact ⟨ret_bool HR2.out.2.symm, (HR.out.2.2.trans (HS.out.2.2.1.mono HR.out.2.2.size)).trans (HR2.out.1.mono (by have := HS.out.2.2.1.size; have := HR.out.2.2.size; omega))⟩
  · have hf : c.validB = false := c.validB_false.2 fun h => hlim h.1
    rw [hf]
    have H : Hid (¬ c.limits) := Lib.hid hlim
    clear hlim hf
    go_enter Try.func56, Try.ntmps56
    go_wp2
    all_goals first
      | (go_ret; exact ⟨rfl, (Below.refl _ _).alloc (Nat.le_refl _) _⟩)
      | (exfalso; refine H.out ⟨?_, ?_, ?_, ?_, ?_⟩ <;> omega)

end Go.Proofs.Ytindndcdpnpcmaa
