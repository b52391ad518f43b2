import Derived.Test.YtaboipnigeaopaaY1
import Derived.Test.YtaboipnigeaopaaA4
import Derived.Test.YtaboipnigeaopaaL4
import Derived.Laws.OwnMore
namespace Go.Proofs.Ytaboipnigeaopaa
set_option linter.unusedVariables false
set_option linter.unusedSimpArgs false
open Go.RowKit

/-! A circuit and the number of a gate are drawn. -/

theorem gcells_set (xg : List Gt) (k : Nat) (a b : Int) (h : k < xg.length) : ((gcells xg).set (k * 2) (.int .i64 a)).set (k * 2 + 1) (.int .i64 b) = gcells (xg.set k ⟨a, b⟩) := by
  induction xg generalizing k with
  | nil => cases h
  | cons g gs ih =>
    cases k with
    | zero => rfl
    | succ k =>
      have e := ih k (by simpa using h)
      have e1 : (k + 1) * 2 = k * 2 + 2 := by omega
      have e2 : gcells (g :: gs) = .int .i64 g.a :: .int .i64 g.b :: gcells gs := rfl
      rw [e1, e2, show k * 2 + 2 + 1 = (k * 2 + 1) + 2 by omega]
      simp only [List.set_cons_succ]
      rw [e]
      rfl

theorem below_alloc (w : World) (o : Obj) : Below w.heap.size w (w.alloc o) := (Below.refl _ _).alloc (Nat.le_refl _) _

theorem KT.cirV {R : Nat} {s : Option Addr} {c : Nat} {xs : List Int} {w0 : World} {B : Nat} {C : Cir} {sn sg so : Option Addr} {cn cg co : Nat} {p : Nat} {w1 : World} (h : KT R s c xs w0 B C.inp C.next C.gates C.outs (.slice sn C.next.length cn) (.slice sg C.gates.length cg) (.slice so C.outs.length co) p w1)
    (hl : C.next.length ≤ 8 := by omega) (hl2 : C.gates.length ≤ 40 := by omega) (hl3 : C.outs.length ≤ 16 := by omega) : CirV w1 (.agg #[.int .i64 C.inp, .slice sn C.next.length cn, .slice sg C.gates.length cg, .slice so C.outs.length co]) C :=
  ⟨_, _, _, _, _, _, rfl, own_sl h.out.n, own_sl h.out.g, own_sl h.out.o, by omega, by omega, by omega⟩

theorem KT.setG {R : Nat} {s : Option Addr} {c : Nat} {xs : List Int} {w0 : World} {B : Nat} {inp : Int} {xn : List Int} {xg : List Gt} {xo : List Int} {vn vg vo : Value} {p : Nat} {w1 : World} (h : KT R s c xs w0 B inp xn xg xo vn vg vo p w1) {G cg k : Nat} (e : vg = .slice (some ⟨G, 0, none⟩) xg.length cg) (hk : k < xg.length) (a b : Int) :
    KT R s c xs w0 B inp xn (xg.set k ⟨a, b⟩) xo vn vg vo p ((w1.setCell ⟨G, k * 2, none⟩ (.int .i64 a)).setCell ⟨G, k * 2 + 1, none⟩ (.int .i64 b)) := by
  have hg0 := h.out.g
  rw [e] at hg0
  obtain ⟨h1, g1⟩ := hg0.stored (k * 2) (.int .i64 a)
  obtain ⟨h2, g2⟩ := h1.stored (k * 2 + 1) (.int .i64 b)
  have hg := g1.trans g2
  rw [gcells_set xg k a b hk] at h2
  have ho : ((w1.setCell ⟨G, k * 2, none⟩ (.int .i64 a)).setCell ⟨G, k * 2 + 1, none⟩ (.int .i64 b)).ownsRow w0.heap.size 61 2 vg (xg.set k ⟨a, b⟩).length (gcells (xg.set k ⟨a, b⟩)) := by
    rw [List.length_set, e]; exact h2
  have hgo : vg.ownBlock = some G := by rw [e]; rfl
  rw [← hgo] at hg
  have hc := Chg.of_grown hg
  have hb2 : Below w0.heap.size w1 _ := (Below.refl _ _).grown hg h.sz (fun q e => (own_blk h.out.g e).1)
  obtain ⟨r, k'⟩ := h.kpG hb2
  exact ⟨⟨by rw [hg.block B (blk_lt h.out.blk) (fun e => own_tyb h.out.g h.out.blk (by decide) e.symm)]; exact h.out.blk, hc.own h.out.n (fun k hk hs => own_ty h.out.n h.out.g (by decide) hk hs), ho, hc.own h.out.o (fun k hk hs => own_ty h.out.o h.out.g (by decide) hk hs), h.out.ne⟩, r, k', h.hR, h.hB⟩

/-- What l20Ring leaves. -/
def RgPost (R : Nat) (s : Option Addr) (c : Nat) (xs : List Int) (p : Nat) (w : World) (e : Ending) (w' : World) : Prop :=
  ∃ (C : Cir) (i : Int) (vn vg vo : Value) (p' : Nat), e = .returned (.tuple #[.agg #[.int .i64 C.inp, vn, vg, vo], .int .i64 i]) ∧ CirOwn w' w.heap.size C vn vg vo ∧ (-10 ≤ C.inp ∧ C.inp ≤ 10 ∧ C.next.length ≤ 8 ∧ C.gates.length ≤ 40 ∧ C.outs.length ≤ 16) ∧ (-1 ≤ i ∧ i ≤ 100) ∧ Rd w' R s c xs p' ∧ p' ≤ p + 1010 ∧ Kp R w.heap.size w w'
