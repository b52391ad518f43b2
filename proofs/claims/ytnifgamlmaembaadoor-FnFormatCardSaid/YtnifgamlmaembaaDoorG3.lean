import Derived.Test.YtnifgamlmaembaaDoorG1
namespace Go.Proofs.YtnifgamlmaembaaDoor
set_option linter.unusedVariables false
set_option linter.unusedSimpArgs false
open Go.RowKit

/-! force and ForceGate of the program. -/

theorem own_sets4' {w : World} {base base' r : Nat} {e : TypeId} {size : Nat} {v : Value} {n : Nat} {xs : List Value} (h : w.ownsRow base' e size v n xs) (hr : r < base') (hb : base ≤ base') {a b c d : Value} : ((((w.setCell ⟨r, 0, none⟩ a).setCell ⟨r, 1, none⟩ b).setCell ⟨r, 2, none⟩ c).setCell ⟨r, 3, none⟩ d).ownsRow base e size v n xs :=
  have hne : v.ownBlock ≠ some r := fun he => by have := (own_blk h he).1; omega
  own_set_ne (own_set_ne (own_set_ne (own_set_ne (own_base h hb) hne _) hne _) hne _) hne _
theorem CirOwn.sets4 {w : World} {base base' r : Nat} {c : Cir} {vn vg vo : Value} (h : CirOwn w base' c vn vg vo) (hr : r < base') (hb : base ≤ base') {a b' c' d : Value} : CirOwn ((((w.setCell ⟨r, 0, none⟩ a).setCell ⟨r, 1, none⟩ b').setCell ⟨r, 2, none⟩ c').setCell ⟨r, 3, none⟩ d) base c vn vg vo :=
  ⟨own_sets4' h.n hr hb, own_sets4' h.g hr hb, own_sets4' h.o hr hb, h.ne, h.l1, h.l2, h.l3⟩

theorem own_cv {w : World} {base : Nat} {r : Cir} {vn vg vo : Value} (h : CirOwn w base r vn vg vo) : CirV w (.agg #[.int .i64 r.inp, vn, vg, vo]) r := by
  obtain ⟨sn, cn, rfl⟩ := own_shape h.n
  obtain ⟨sg, cg, rfl⟩ := own_shape h.g
  obtain ⟨so, co, rfl⟩ := own_shape h.o
  exact ⟨_, _, _, _, _, _, rfl, own_sl h.n, own_sl h.g, own_sl h.o, h.l1, h.l2, h.l3⟩
theorem own_cbelow {w w' : World} {base : Nat} {r : Cir} {vn vg vo : Value} (h : CirOwn w base r vn vg vo) (hb : Below w.heap.size w w') : CirOwn w' base r vn vg vo :=
  ⟨own_below h.n hb, own_below h.g hb, own_below h.o hb, h.ne, h.l1, h.l2, h.l3⟩
theorem zeroV (w : World) : CirV w (.agg #[.int .i64 0, .slice none 0 0, .slice none 0 0, .slice none 0 0]) ⟨0, [], [], []⟩ :=
  ⟨none, 0, none, 0, none, 0, rfl, .inl rfl, .inl rfl, .inl rfl, by simp, by simp, by simp⟩
theorem below_al (w : World) (o : Obj) : Below w.heap.size w (w.alloc o) := (Below.refl _ _).alloc (Nat.le_refl _) _

end Go.Proofs.YtnifgamlmaembaaDoor
