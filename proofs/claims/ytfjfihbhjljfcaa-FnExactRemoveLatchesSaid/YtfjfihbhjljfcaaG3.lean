import Derived.Test.YtfjfihbhjljfcaaG1
namespace Go.Proofs.Ytfjfihbhjljfcaa
set_option linter.unusedVariables false
set_option linter.unusedSimpArgs false
open Go.RowKit

/-! force and ForceGate of the program. -/

theorem own_sets4' {w : World} {base base' r : Nat} {e : TypeId} {size : Nat} {v : Value} {n : Nat} {xs : List Value} (h : w.ownsRow base' e size v n xs) (hr : r < base') (hb : base ≤ base') {a b c d : Value} : ((((w.setCell ⟨r, 0, none⟩ a).setCell ⟨r, 1, none⟩ b).setCell ⟨r, 2, none⟩ c).setCell ⟨r, 3, none⟩ d).ownsRow base e size v n xs :=
  have hne : v.ownBlock ≠ some r := fun he => by have := (own_blk h he).1; omega
  own_set_ne (own_set_ne (own_set_ne (own_set_ne (own_base h hb) hne _) hne _) hne _) hne _
theorem CirOwn.sets4 {w : World} {base base' r : Nat} {c : Cir} {vn vg vo : Value} (h : CirOwn w base' c vn vg vo) (hr : r < base') (hb : base ≤ base') {a b' c' d : Value} : CirOwn ((((w.setCell ⟨r, 0, none⟩ a).setCell ⟨r, 1, none⟩ b').setCell ⟨r, 2, none⟩ c').setCell ⟨r, 3, none⟩ d) base c vn vg vo :=
  ⟨own_sets4' h.n hr hb, own_sets4' h.g hr hb, own_sets4' h.o hr hb, h.ne, h.l1, h.l2, h.l3⟩

end Go.Proofs.Ytfjfihbhjljfcaa
