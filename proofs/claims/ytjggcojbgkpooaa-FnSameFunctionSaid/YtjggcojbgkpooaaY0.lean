import Derived.Test.YtjggcojbgkpooaaD4
import Derived.Test.YtjggcojbgkpooaaG1
namespace Go.Proofs.Ytjggcojbgkpooaa
set_option linter.unusedVariables false
set_option linter.unusedSimpArgs false
open Go.RowKit

/-! A circuit that is being drawn: the reader behind block R, the circuit in block B. -/

structure KT (R : Nat) (s : Option Addr) (c : Nat) (xs : List Int) (w0 : World) (B : Nat) (inp : Int) (xn : List Int) (xg : List Gt) (xo : List Int) (vn vg vo : Value) (p : Nat) (w : World) : Prop where
  out : OutC w w0.heap.size B inp xn xg xo vn vg vo
  rd : Rd w R s c xs p
  kp : Kp R w0.heap.size w0 w
  hR : R < w0.heap.size
  hB : w0.heap.size ≤ B

theorem KT.upd {R : Nat} {s : Option Addr} {c : Nat} {xs : List Int} {w0 : World} {B : Nat} {inp : Int} {xn : List Int} {xg : List Gt} {xo : List Int} {vn vg vo : Value} {p p2 : Nat} {w1 w2 : World} (h : KT R s c xs w0 B inp xn xg xo vn vg vo p w1) (hr : Rd w2 R s c xs p2) (hu : Upd R w1 w2) : KT R s c xs w0 B inp xn xg xo vn vg vo p2 w2 := by
  have h1 := h.hR; have h2 := h.hB; have h3 := blk_lt h.out.blk
  have k : Kp R w1.heap.size w1 w2 := Kp.of_upd hu (Nat.le_refl _)
  refine ⟨⟨by rw [hu.block B h3 (by simp; omega)]; exact h.out.blk, own_kp h.out.n h1 (fun k e => (own_blk h.out.n e).2) k, own_kp h.out.g h1 (fun k e => (own_blk h.out.g e).2) k, own_kp h.out.o h1 (fun k e => (own_blk h.out.o e).2) k, h.out.ne⟩, hr, h.kp.trans (k.mono (by omega)), h1, h2⟩

theorem KT.below {R : Nat} {s : Option Addr} {c : Nat} {xs : List Int} {w0 : World} {B : Nat} {inp : Int} {xn : List Int} {xg : List Gt} {xo : List Int} {vn vg vo : Value} {p : Nat} {w1 w2 : World} (h : KT R s c xs w0 B inp xn xg xo vn vg vo p w1) (hb : Below w1.heap.size w1 w2) : KT R s c xs w0 B inp xn xg xo vn vg vo p w2 :=
  h.upd (h.rd.mono hb) (Upd.of_below hb)

theorem KT.alloc {R : Nat} {s : Option Addr} {c : Nat} {xs : List Int} {w0 : World} {B : Nat} {inp : Int} {xn : List Int} {xg : List Gt} {xo : List Int} {vn vg vo : Value} {p : Nat} {w1 : World} (h : KT R s c xs w0 B inp xn xg xo vn vg vo p w1) (o : Obj) : KT R s c xs w0 B inp xn xg xo vn vg vo p (w1.alloc o) :=
  h.below ((Below.refl _ _).alloc (Nat.le_refl _) _)

theorem KT.drew {R : Nat} {s : Option Addr} {c : Nat} {xs : List Int} {w0 : World} {B : Nat} {inp : Int} {xn : List Int} {xg : List Gt} {xo : List Int} {vn vg vo : Value} {p : Nat} {w1 : World} (h : KT R s c xs w0 B inp xn xg xo vn vg vo p w1) : KT R s c xs w0 B inp xn xg xo vn vg vo p w1.drew :=
  h.below (Below.refl _ _).drew

theorem KT.cells {R : Nat} {s : Option Addr} {c : Nat} {xs : List Int} {w0 : World} {B : Nat} {inp : Int} {xn : List Int} {xg : List Gt} {xo : List Int} {vn vg vo : Value} {p : Nat} {w1 : World} (h : KT R s c xs w0 B inp xn xg xo vn vg vo p w1) : (∀ o, w1.cell? ⟨B, o, none⟩ = #[Value.int .i64 inp, vn, vg, vo][o]?) ∧ ∀ o, w1.frozen? ⟨B, o, none⟩ = false := blk_all h.out.blk

theorem KT.kpG {R : Nat} {s : Option Addr} {c : Nat} {xs : List Int} {w0 : World} {B : Nat} {inp : Int} {xn : List Int} {xg : List Gt} {xo : List Int} {vn vg vo : Value} {p : Nat} {w1 w2 : World} (h : KT R s c xs w0 B inp xn xg xo vn vg vo p w1) (hb : Below w0.heap.size w1 w2) : Rd w2 R s c xs p ∧ Kp R w0.heap.size w0 w2 :=
  ⟨h.rd.grown hb h.hR, h.kp.trans (Kp.of_below hb)⟩

theorem KT.sz {R : Nat} {s : Option Addr} {c : Nat} {xs : List Int} {w0 : World} {B : Nat} {inp : Int} {xn : List Int} {xg : List Gt} {xo : List Int} {vn vg vo : Value} {p : Nat} {w1 : World} (h : KT R s c xs w0 B inp xn xg xo vn vg vo p w1) : w0.heap.size ≤ w1.heap.size := h.kp.size

theorem KT.pushN {R : Nat} {s : Option Addr} {c : Nat} {xs : List Int} {w0 : World} {B : Nat} {inp : Int} {xn xn' : List Int} {xg : List Gt} {xo : List Int} {vn vn' vg vo : Value} {p : Nat} {w1 w2 : World} (h : KT R s c xs w0 B inp xn xg xo vn vg vo p w1)
    (hg : w1.grownBy w2 vn.ownBlock) (ho : w2.ownsRow w0.heap.size 3 1 vn' xn'.length (ints xn')) (hb : vn'.ownBlock = vn.ownBlock ∨ vn'.ownBlock = some w1.heap.size) : w2.heap[B]? = some (.cells #[.int .i64 inp, vn, vg, vo] 26 (0, 0)) ∧ KT R s c xs w0 B inp xn' xg xo vn' vg vo p (w2.setCell ⟨B, 1, none⟩ vn') := by
  obtain ⟨a, b⟩ := h.out.pushN hg ho hb
  have hb2 : Below w0.heap.size w1 w2 := (Below.refl _ _).grown hg h.sz (fun q e => (own_blk h.out.n e).1)
  obtain ⟨r, k⟩ := h.kpG (hb2.setCell (p := ⟨B, 1, none⟩) h.hB vn')
  exact ⟨a, b, r, k, h.hR, h.hB⟩
theorem KT.pushG {R : Nat} {s : Option Addr} {c : Nat} {xs : List Int} {w0 : World} {B : Nat} {inp : Int} {xn : List Int} {xg xg' : List Gt} {xo : List Int} {vn vg vg' vo : Value} {p : Nat} {w1 w2 : World} (h : KT R s c xs w0 B inp xn xg xo vn vg vo p w1)
    (hg : w1.grownBy w2 vg.ownBlock) (ho : w2.ownsRow w0.heap.size 56 2 vg' xg'.length (gcells xg')) : w2.heap[B]? = some (.cells #[.int .i64 inp, vn, vg, vo] 26 (0, 0)) ∧ KT R s c xs w0 B inp xn xg' xo vn vg' vo p (w2.setCell ⟨B, 2, none⟩ vg') := by
  obtain ⟨a, b⟩ := h.out.pushG hg ho
  have hb2 : Below w0.heap.size w1 w2 := (Below.refl _ _).grown hg h.sz (fun q e => (own_blk h.out.g e).1)
  obtain ⟨r, k⟩ := h.kpG (hb2.setCell (p := ⟨B, 2, none⟩) h.hB vg')
  exact ⟨a, b, r, k, h.hR, h.hB⟩
theorem KT.pushO {R : Nat} {s : Option Addr} {c : Nat} {xs : List Int} {w0 : World} {B : Nat} {inp : Int} {xn : List Int} {xg : List Gt} {xo xo' : List Int} {vn vg vo vo' : Value} {p : Nat} {w1 w2 : World} (h : KT R s c xs w0 B inp xn xg xo vn vg vo p w1)
    (hg : w1.grownBy w2 vo.ownBlock) (ho : w2.ownsRow w0.heap.size 3 1 vo' xo'.length (ints xo')) (hb : vo'.ownBlock = vo.ownBlock ∨ vo'.ownBlock = some w1.heap.size) : w2.heap[B]? = some (.cells #[.int .i64 inp, vn, vg, vo] 26 (0, 0)) ∧ KT R s c xs w0 B inp xn xg xo' vn vg vo' p (w2.setCell ⟨B, 3, none⟩ vo') := by
  obtain ⟨a, b⟩ := h.out.pushO hg ho hb
  have hb2 : Below w0.heap.size w1 w2 := (Below.refl _ _).grown hg h.sz (fun q e => (own_blk h.out.o e).1)
  obtain ⟨r, k⟩ := h.kpG (hb2.setCell (p := ⟨B, 3, none⟩) h.hB vo')
  exact ⟨a, b, r, k, h.hR, h.hB⟩
theorem KT.setInp {R : Nat} {s : Option Addr} {c : Nat} {xs : List Int} {w0 : World} {B : Nat} {inp : Int} {xn : List Int} {xg : List Gt} {xo : List Int} {vn vg vo : Value} {p : Nat} {w1 : World} (h : KT R s c xs w0 B inp xn xg xo vn vg vo p w1) (y : Int) : KT R s c xs w0 B y xn xg xo vn vg vo p (w1.setCell ⟨B, 0, none⟩ (.int .i64 y)) := by
  obtain ⟨r, k⟩ := h.kpG (((Below.refl _ w1).mono h.sz).setCell (p := ⟨B, 0, none⟩) h.hB (.int .i64 y))
  exact ⟨⟨by simpa using blk_set (o := 0) (v := .int .i64 y) h.out.blk, own_set_ne h.out.n (own_tyb h.out.n h.out.blk (by decide)) _, own_set_ne h.out.g (own_tyb h.out.g h.out.blk (by decide)) _, own_set_ne h.out.o (own_tyb h.out.o h.out.blk (by decide)) _, h.out.ne⟩, r, k, h.hR, h.hB⟩

def PkK (R : Nat) (s : Option Addr) (c : Nat) (xs : List Int) (w0 : World) (B : Nat) (inp : Int) (xn : List Int) (xg : List Gt) (xo : List Int) (vn vg vo : Value) (p : Nat) (n : Int) (w1 : World) (e : Ending) (w' : World) : Prop :=
  ∃ k : Nat, e = .returned (.int .i64 k) ∧ Picked n k ∧ KT R s c xs w0 B inp xn xg xo vn vg vo (p + 1) w' ∧ Upd R w1 w' ∧ w'.heap.size = w1.heap.size
theorem pick_kt (R : Nat) (s : Option Addr) (c : Nat) (xs : List Int) (w0 : World) (B : Nat) (inp : Int) (xn : List Int) (xg : List Gt) (xo : List Int) (vn vg vo : Value) (p : Nat) (n : Int) (w1 : World) (h : KT R s c xs w0 B inp xn xg xo vn vg vo p w1) (hp : p ≤ 1000000000) (hn : n ≤ 1000000) :
    Calls Try.prog 45 #[.pointer (some ⟨R, 0, none⟩), .int .i64 n] w1 (PkK R s c xs w0 B inp xn xg xo vn vg vo p n w1) :=
  (pick_any _ _ _ _ _ _ _ h.rd (by omega) (by omega)).mono fun _ _ ⟨k, h1, h2, h3, h4, h5⟩ => by
    obtain ⟨m, rfl⟩ : ∃ m : Nat, k = m := ⟨k.toNat, by have := h2.1; omega⟩
    exact ⟨m, h1, h2, h.upd h3 h4, h4, h5⟩
theorem odd_kt (R : Nat) (s : Option Addr) (c : Nat) (xs : List Int) (w0 : World) (B : Nat) (inp : Int) (xn : List Int) (xg : List Gt) (xo : List Int) (vn vg vo : Value) (p : Nat) (n : Int) (w1 : World) (h : KT R s c xs w0 B inp xn xg xo vn vg vo p w1) (hp : p ≤ 1000000000) (hn0 : -1000 ≤ n) (hn : n ≤ 1000000000) :
    Calls Try.prog 83 #[.pointer (some ⟨R, 0, none⟩), .int .i64 n] w1 fun e w' => ∃ (k : Bool) (p' : Nat), e = .returned (.bool k) ∧ p' ≤ p + 1 ∧ KT R s c xs w0 B inp xn xg xo vn vg vo p' w' :=
  (odd_any _ _ _ _ _ _ _ h.rd (by omega) hn0 hn).mono fun _ _ ⟨k, p', h1, h2, h3, h4, _⟩ => ⟨k, p', h1, h2, h.upd h3 h4⟩

end Go.Proofs.Ytjggcojbgkpooaa
