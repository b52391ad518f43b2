import Derived.Test.YtjggcojbgkpooaaProg
import Derived.Test.YtjggcojbgkpooaaA0
import Derived.Deep.QuietTactic
import Derived.BigQuiet
import Derived.Deep.RegionHeld3
import Derived.Deep.AppendLies
namespace Go.Proofs.Ytjggcojbgkpooaa
set_option linter.unusedVariables false
set_option linter.unusedSimpArgs false
open Go.RowKit

structure Gt where
  a : Int
  b : Int
theorem Gt.ext' {x y : Gt} (h1 : x.a = y.a) (h2 : x.b = y.b) : x = y := by cases x; cases y; simp_all
instance : DecidableEq Gt := fun x y => decidable_of_iff (x.a = y.a ∧ x.b = y.b) ⟨fun h => Gt.ext' h.1 h.2, fun h => by rw [h]; exact ⟨rfl, rfl⟩⟩
structure Cir where
  inp : Int
  next : List Int
  gates : List Gt
  outs : List Int
theorem Cir.ext' {x y : Cir} (h1 : x.inp = y.inp) (h2 : x.next = y.next) (h3 : x.gates = y.gates) (h4 : x.outs = y.outs) : x = y := by cases x; cases y; simp_all
instance : DecidableEq Cir := fun x y => decidable_of_iff (x.inp = y.inp ∧ x.next = y.next ∧ x.gates = y.gates ∧ x.outs = y.outs) ⟨fun h => Cir.ext' h.1 h.2.1 h.2.2.1 h.2.2.2, fun h => by rw [h]; exact ⟨rfl, rfl, rfl, rfl⟩⟩

def Gt.cells (g : Gt) : List Value := [.int .i64 g.a, .int .i64 g.b]
def gcells (gs : List Gt) : List Value := gs.flatMap Gt.cells
theorem gcells_length (gs : List Gt) : (gcells gs).length = 2 * gs.length := by
  induction gs with
  | nil => rfl
  | cons g gs ih => simp [gcells, Gt.cells] at ih ⊢; omega
theorem gcells_get {gs : List Gt} {k : Nat} {g : Gt} (h : gs[k]? = some g) : (gcells gs)[2 * k]? = some (.int .i64 g.a) ∧ (gcells gs)[2 * k + 1]? = some (.int .i64 g.b) := by
  induction gs generalizing k with
  | nil => simp at h
  | cons x gs ih =>
    cases k with
    | zero => simp at h; subst h; exact ⟨rfl, rfl⟩
    | succ k =>
      have := ih (k := k) (by simpa using h)
      have e : gcells (x :: gs) = .int .i64 x.a :: .int .i64 x.b :: gcells gs := rfl
      rw [e]
      constructor
      · rw [show 2 * (k + 1) = 2 * k + 1 + 1 from by omega]; simpa using this.1
      · rw [show 2 * (k + 1) + 1 = 2 * k + 1 + 1 + 1 from by omega]; simpa using this.2

theorem Sl.gate {w wr : World} {s : Option Addr} {gs : List Gt} (h : Sl w s (gcells gs)) (hbl : Below w.heap.size w wr) {k : Nat} {g : Gt} (hg : gs[k]? = some g) :
    ∃ b off, s = some ⟨b, off, none⟩ ∧ b < w.heap.size ∧ wr.cell? ⟨b, off + k * 2, none⟩ = some (.int .i64 g.a) ∧ wr.cell? ⟨b, off + k * 2 + 1, none⟩ = some (.int .i64 g.b) := by
  have hlt : k < gs.length := (List.getElem?_eq_some_iff.1 hg).1
  obtain ⟨b, off, rfl, hbw, hcs⟩ := h.at (k := 2 * k) (by rw [gcells_length]; omega)
  have e := gcells_get hg
  refine ⟨b, off, rfl, hbw, ?_, ?_⟩
  · rw [hbl.cell (by exact hbw), Nat.mul_comm]; exact hcs _ _ e.1
  · rw [hbl.cell (by exact hbw), Nat.mul_comm, Nat.add_assoc]; exact hcs _ _ e.2
theorem Sl.int {w wr : World} {s : Option Addr} {xs : List Int} (h : Sl w s (ints xs)) (hbl : Below w.heap.size w wr) {k : Nat} {x : Int} (hx : xs[k]? = some x) :
    ∃ b off, s = some ⟨b, off, none⟩ ∧ b < w.heap.size ∧ wr.cell? ⟨b, off + k, none⟩ = some (.int .i64 x) := by
  have hlt : k < xs.length := (List.getElem?_eq_some_iff.1 hx).1
  obtain ⟨b, off, rfl, hbw, hcs⟩ := h.at (k := k) (by simpa using hlt)
  exact ⟨b, off, rfl, hbw, by rw [hbl.cell (by exact hbw)]; exact hcs _ _ (ints_get hx)⟩
theorem get_of_lt {α : Type} {l : List α} {k : Nat} (h : k < l.length) : ∃ x, l[k]? = some x := ⟨l[k], by simp [h]⟩

/-- A circuit behind a pointer. -/
structure CirAt (w : World) (b : Nat) (inp : Int) (vn vg vo : Value) : Prop where
  h0 : w.cell? ⟨b, 0, none⟩ = some (.int .i64 inp)
  h1 : w.cell? ⟨b, 1, none⟩ = some vn
  h2 : w.cell? ⟨b, 2, none⟩ = some vg
  h3 : w.cell? ⟨b, 3, none⟩ = some vo

theorem firstGate_any (b : Nat) (inp : Int) (sn : Option Addr) (nn cn : Nat) (vg vo : Value) (w : World) (h : CirAt w b inp (.slice sn nn cn) vg vo) (hi : -1000000 ≤ inp ∧ inp ≤ 1000000) (hn : nn ≤ 1048576) :
    Calls Try.prog 85 #[.pointer (some ⟨b, 0, none⟩)] w fun e w' => e = .returned (.int .i64 (1 + inp + nn)) ∧ Drew w w' := by
  obtain ⟨h0, h1, h2, h3⟩ := h
  obtain ⟨hi, hi'⟩ := hi
  go_enter Try.func85, Try.ntmps85
  go_wp2
  go_quiet (fail)
  go_wp2
  go_ret
  exact ⟨rfl, _, rfl⟩

theorem vars_any (b : Nat) (inp : Int) (sn sg : Option Addr) (nn cn ng cg : Nat) (vo : Value) (w : World) (h : CirAt w b inp (.slice sn nn cn) (.slice sg ng cg) vo) (hi : -1000000 ≤ inp ∧ inp ≤ 1000000) (hn : nn ≤ 1048576) (hg : ng ≤ 1048576) :
    Calls Try.prog 48 #[.pointer (some ⟨b, 0, none⟩)] w fun e w' => e = .returned (.int .i64 (1 + inp + nn + ng)) ∧ Drew w w' := by
  have C : ∀ n, CirAt (w.drewN n) b inp (.slice sn nn cn) (.slice sg ng cg) vo := fun n => ⟨h.h0, h.h1, h.h2, h.h3⟩
  have hi2 := hi
  obtain ⟨h0, h1, h2, h3⟩ := h
  obtain ⟨hi, hi'⟩ := hi
  go_enter Try.func48, Try.ntmps48
  go_wp2_with fail
  go_quiet ((go_at_call 85; exact Calls.quiet_of (firstGate_any _ _ _ _ _ _ _ _ (C _) hi2 hn)))
  go_wp2
  go_ret
  exact ⟨rfl, _, rfl⟩

theorem isLit_any (l v : Int) (w : World) (hv : -2000000000 ≤ v ∧ v ≤ 2000000000) :
    Calls Try.prog 54 #[.int .i64 l, .int .i64 v] w fun e w' => e = .returned (.bool (decide (0 ≤ l ∧ l < 2 * v))) ∧ w = w' := by
  obtain ⟨hv1, hv2⟩ := hv
  by_cases h : 0 ≤ l
  all_goals
    go_enter Try.func54, Try.ntmps54
    go_wp2
    go_ret
    exact ⟨by simp [h] <;> omega, rfl⟩

theorem elem_int : ElemOf Try.prog 23 3 (.int .i64 0) 1 8 :=
  ⟨by kernel_rfl, info_parts (by kernel_rfl), rfl, by omega⟩

set_option maxHeartbeats 400000 in
theorem roots_any (b : Nat) (inp : Int) (sn so : Option Addr) (cn co : Nat) (next outs : List Int) (vg : Value) (w : World) (h : CirAt w b inp (.slice sn next.length cn) vg (.slice so outs.length co))
    (hn : Sl w sn (ints next)) (ho : Sl w so (ints outs)) (hl1 : next.length ≤ 1048576) (hl2 : outs.length ≤ 1048576) :
    Calls Try.prog 84 #[.pointer (some ⟨b, 0, none⟩)] w fun e w' => ∃ s c, e = .returned (.slice s (next.length + outs.length) c) ∧
      w'.ownsRow w.heap.size 3 1 (.slice s (next.length + outs.length) c) (next.length + outs.length) (ints next ++ ints outs) ∧ Below w.heap.size w w' := by
  obtain ⟨h0, h1, h2, h3⟩ := h
  have HB : Hid (b < w.heap.size) := World.block_lt_of_cell? w _ h0
  have H : Hid (_ ∧ _ ∧ _ ∧ _) := Lib.hid ⟨hn, ho, hl1, hl2⟩
  clear hn ho hl1 hl2
  go_enter Try.func84, Try.ntmps84
  go_wp2_with fail
  go_region_held3 (fun w' => w'.cell? ⟨b, 1, none⟩ = some (.slice sn next.length cn) ∧ w'.cell? ⟨b, 3, none⟩ = some (.slice so outs.length co))
    (first
      | go_keep
      | (go_split_ands; refine ⟨?_, ?_⟩ <;> (rw [hb2.cell HB.out]; assumption))
      | (go_split_ands; refine ⟨?_, ?_⟩ <;> (rw [hb1.cell HB.out]; assumption)))
    ((first
      | (refine step_app rfl (.const (.slice none 0 0)) _ rfl elem_int (World.ownsRow_nil _ w.heap.size _ _) rfl rfl (by simp) H.out.1 (ints_one _) next.length (by simp) (ints next) (by simp) (by unfold maxLen; have := H.out.2.2.1; omega) (by have := H.out.2.2.1; omega) (Nat.le_refl _) ?_; intro s1 c1 w1 ho1 hb1 _ _)
      | (refine step_app rfl (.tmp 7) (.tmp 11) rfl elem_int ho1 rfl rfl (by simp) (H.out.2.1.mono ((Below.refl _ _).drew.trans hb1)) (ints_one _) (next.length + outs.length) rfl _ rfl (by unfold maxLen; have := H.out.2.2; omega) (by have := H.out.2.2; omega) (by have := hb1.size; simpa using this) ?_; intro s2 c2 w2 ho2 hb2 _ _)))
  go_wp2
  go_ret
  exact ⟨_, _, rfl, ho2, ((Below.refl _ _).drew.trans hb1).trans hb2⟩

end Go.Proofs.Ytjggcojbgkpooaa
