import Derived.Test.YtnifgamlmaembaaDoorD3
import Derived.Test.YtnifgamlmaembaaDoorL4
import Derived.Deep.RegionHeld3
import Derived.Test.YtnifgamlmaembaaDoorG1
namespace Go.Proofs.YtnifgamlmaembaaDoor
set_option linter.unusedVariables false
set_option linter.unusedSimpArgs false
open Go.RowKit

/-- While a formula is drawn: its rows, the clause that is being drawn, the reader. -/
structure CT (B : Nat) (s : Option Addr) (c : Nat) (xs : List Int) (w : World) (b : Nat) (v : Value) (rows : List (List Int)) (u : Value) (r : List Int) (p : Nat) (w' : World) : Prop where
  out : OwnB w' w.heap.size b v rows
  cl : w'.ownsRow b 3 1 u r.length (ints r)
  rd : Rd w' B s c xs p
  kp : Kp B w.heap.size w w'
  hb : w.heap.size ≤ b
  hb2 : b ≤ w'.heap.size
  hB : B < w.heap.size

theorem CT.upd {B : Nat} {s : Option Addr} {c : Nat} {xs : List Int} {w : World} {b : Nat} {v : Value} {rows : List (List Int)} {u : Value} {r : List Int} {p p2 : Nat} {w1 w2 : World} (h : CT B s c xs w b v rows u r p w1)
    (hr : Rd w2 B s c xs p2) (hu : Upd B w1 w2) : CT B s c xs w b v rows u r p2 w2 := by
  have hs := hu.size
  have h1 := h.hb; have h2 := h.hb2; have h3 := h.hB
  have k : Kp B w1.heap.size w1 w2 := Kp.of_upd hu (Nat.le_refl _)
  exact ⟨h.out.kp h.hB h2 k, own_kp h.cl (by omega) (fun k e => (own_blk h.cl e).2) k, hr, h.kp.trans (k.mono (by omega)), h1, by omega, h3⟩
theorem CT.alloc {B : Nat} {s : Option Addr} {c : Nat} {xs : List Int} {w : World} {b : Nat} {v : Value} {rows : List (List Int)} {u : Value} {r : List Int} {p : Nat} {w1 : World} (h : CT B s c xs w b v rows u r p w1) (o : Obj) : CT B s c xs w b v rows u r p (w1.alloc o) :=
  h.upd (h.rd.mono ((Below.refl _ _).alloc (Nat.le_refl _) _)) (Upd.of_below ((Below.refl _ _).alloc (Nat.le_refl _) _))
theorem CT.n {B : Nat} {s : Option Addr} {c : Nat} {xs : List Int} {w : World} {b : Nat} {v : Value} {rows : List (List Int)} {u : Value} {r : List Int} {p : Nat} {w1 : World} (h : CT B s c xs w b v rows u r p w1) (n : Nat) : CT B s c xs w b v rows u r p (w1.drewN n) :=
  h.upd (h.rd.mono (below_n (Below.refl _ _) n)) (Upd.of_below (below_n (Below.refl _ _) n))
/-- The clause is done with. -/
theorem CT.up {B : Nat} {s : Option Addr} {c : Nat} {xs : List Int} {w : World} {b : Nat} {v : Value} {rows : List (List Int)} {u : Value} {r : List Int} {p : Nat} {w1 : World} (h : CT B s c xs w b v rows u r p w1) : CT B s c xs w w1.heap.size v rows (.slice none 0 0) [] p w1 :=
  ⟨h.out.up h.hb2, World.ownsRow_nil _ _ _ _, h.rd, h.kp, Nat.le_trans h.hb h.hb2, Nat.le_refl _, h.hB⟩
/-- A new clause. -/
theorem CT.open {B : Nat} {s : Option Addr} {c : Nat} {xs : List Int} {w : World} {b : Nat} {v : Value} {rows : List (List Int)} {u : Value} {r : List Int} {p : Nat} {w1 : World} (h : CT B s c xs w b v rows u r p w1) (rs : List Int) (hl : rs.length ≤ maxLen) (o : Obj) (ho : o = .cells (ints rs).toArray 3) :
    CT B s c xs w w1.heap.size v rows (.slice (some ⟨w1.heap.size, 0, none⟩) rs.length rs.length) rs p (w1.alloc o) := by
  subst ho
  have k := h.alloc (.cells (ints rs).toArray 3)
  have h4 := own_of_blk (n := rs.length) (base := w1.heap.size) (size := 1) (blk_new w1 (.cells (ints rs).toArray 3)) (Nat.le_refl _) (by simp) hl
  exact ⟨k.out.up h.hb2, by simpa using h4, k.rd, k.kp, Nat.le_trans h.hb h.hb2, by simp, h.hB⟩

/-- An append of an int to the clause that is being drawn. -/
theorem CT.pushInt {B : Nat} {s : Option Addr} {c : Nat} {xs : List Int} {w : World} {b : Nat} {v : Value} {rows : List (List Int)} {u : Value} {r : List Int} {p : Nat} {w1 w2 : World} (h : CT B s c xs w b v rows u r p w1) (o : Obj) {s' : Option Addr} {c' : Nat} {x : Int}
    (hn : w2.ownsRow b 3 1 (.slice s' (r.length + 1) c') (r.length + 1) (ints r ++ [.int .i64 x])) (hg : (w1.alloc o).grownBy w2 u.ownBlock) : ∃ r' : List Int, r'.length = r.length + 1 ∧ CT B s c xs w b v rows (.slice s' r'.length c') r' p w2 := by
  have k := h.alloc o
  have h1 := h.hb; have h2 := h.hb2; have h3 := h.hB
  have hb : Below b (w1.alloc o) w2 := (Below.refl _ _).grown hg k.hb2 (fun q e => (own_blk h.cl e).1)
  have hs := hb.size
  refine ⟨r ++ [x], by simp, k.out.kp h.hB (Nat.le_refl _) (Kp.of_below hb), ?_, k.rd.grown hb (by omega), k.kp.trans ((Kp.of_below hb).mono h1), h1, by have := k.hb2; omega, h3⟩
  have e : ints (r ++ [x]) = ints r ++ [.int .i64 x] := by simp [ints]
  rw [e]; simpa using hn
/-- The clause becomes a row. -/
theorem CT.pushRow {B : Nat} {s : Option Addr} {c : Nat} {xs : List Int} {w : World} {b : Nat} {v : Value} {rows : List (List Int)} {u : Value} {r : List Int} {p : Nat} {w1 w2 : World} (h : CT B s c xs w b v rows u r p w1) (o : Obj) {vs : List Value} {s' : Option Addr} {c' : Nat}
    (hv : w1.ownsRow w.heap.size 22 1 v rows.length vs) (hn : w2.ownsRow w.heap.size 22 1 (.slice s' (rows.length + 1) c') (rows.length + 1) (vs ++ [u])) (hg : (w1.alloc o).grownBy w2 v.ownBlock) :
    ∃ rows' : List (List Int), rows'.length = rows.length + 1 ∧ (∀ q ∈ rows', q ∈ rows ∨ q = r) ∧ CT B s c xs w w2.heap.size (.slice s' rows'.length c') rows' (.slice none 0 0) [] p w2 := by
  have k := h.alloc o
  have h1 := h.hb; have h2 := h.hb2; have h3 := h.hB
  have hb : Below w.heap.size (w1.alloc o) w2 := (Below.refl _ _).grown hg (by have := k.hb2; omega) (fun q e => (own_blk hv e).1)
  have hs := hb.size
  have h5 := h.out.push h.cl h1 hv hn hg (fun q e => (own_blk hn e).2)
  have e : (rows ++ [r]).length = rows.length + 1 := by simp
  refine ⟨rows ++ [r], e, fun q hq => by simpa using hq, ?_⟩
  rw [e]
  exact ⟨h5, World.ownsRow_nil _ _ _ _, k.rd.grown hb (by omega), k.kp.trans (Kp.of_below hb), by have := k.hb2; omega, Nat.le_refl _, h3⟩
theorem CT.row {B : Nat} {s : Option Addr} {c : Nat} {xs : List Int} {w : World} {b : Nat} {v : Value} {rows : List (List Int)} {u : Value} {r : List Int} {p : Nat} {w1 : World} (h : CT B s c xs w b v rows u r p w1) : ∃ vs, w1.ownsRow w.heap.size 22 1 v rows.length vs := by
  obtain ⟨vs, h1, _⟩ := h.out
  exact ⟨vs, h1⟩

theorem Sl.new1 (w : World) (o : Obj) (cs : Array Value) (t : TypeId) : Sl ((w.alloc o).alloc (.cells cs t)) (some ⟨w.heap.size + 1, 0, none⟩) cs.toList := by
  have h := Sl.new (w.alloc o) cs t
  rwa [World.size_alloc] at h

def lenV : Value → Nat
  | .slice _ n _ => n
  | _ => 0

def PkPost (B : Nat) (s : Option Addr) (c : Nat) (xs : List Int) (w : World) (b : Nat) (v : Value) (rows : List (List Int)) (u : Value) (r : List Int) (p : Nat) (n : Int) (w1 : World) (e : Ending) (w' : World) : Prop :=
  ∃ k : Nat, e = .returned (.int .i64 (k : Int)) ∧ Picked n k ∧ k ≤ 1000000 ∧ CT B s c xs w b v rows u r (p + 1) w' ∧ Upd B w1 w'
theorem pick_ct (B : Nat) (s : Option Addr) (c : Nat) (xs : List Int) (w : World) (b : Nat) (v : Value) (rows : List (List Int)) (u : Value) (r : List Int) (p : Nat) (n : Int) (w1 : World) (h : CT B s c xs w b v rows u r p w1) (hp : p ≤ 1000000000) (hn : n ≤ 1000000) :
    Calls Tryd.prog 47 #[.pointer (some ⟨B, 0, none⟩), .int .i64 n] w1 (PkPost B s c xs w b v rows u r p n w1) :=
  (pick_any _ _ _ _ _ _ _ h.rd (by omega) (by omega)).mono fun _ _ ⟨k, h1, h2, h3, h4, h5⟩ => by
    obtain ⟨m, rfl⟩ : ∃ m : Nat, k = m := ⟨k.toNat, by have := h2.1; omega⟩
    exact ⟨m, h1, h2, by have := h2.2; omega, h.upd h3 h4, h4⟩

def OdPost (B : Nat) (s : Option Addr) (c : Nat) (xs : List Int) (w : World) (b : Nat) (v : Value) (rows : List (List Int)) (u : Value) (r : List Int) (p : Nat) (e : Ending) (w' : World) : Prop :=
  ∃ (k : Bool) (p' : Nat), e = .returned (.bool k) ∧ p' ≤ p + 1 ∧ CT B s c xs w b v rows u r p' w'
theorem odd_ct (B : Nat) (s : Option Addr) (c : Nat) (xs : List Int) (w : World) (b : Nat) (v : Value) (rows : List (List Int)) (u : Value) (r : List Int) (p : Nat) (n : Int) (w1 : World) (h : CT B s c xs w b v rows u r p w1) (hp : p ≤ 1000000000) (hn0 : -1000 ≤ n) (hn : n ≤ 1000000000) :
    Calls Tryd.prog 64 #[.pointer (some ⟨B, 0, none⟩), .int .i64 n] w1 (OdPost B s c xs w b v rows u r p) :=
  (odd_any _ _ _ _ _ _ _ h.rd (by omega) hn0 hn).mono fun _ _ ⟨k, p', h1, h2, h3, h4, _⟩ => ⟨k, p', h1, h2, h.upd h3 h4⟩

/-- What l20Clauses leaves. -/
def ClPost (B : Nat) (s : Option Addr) (c : Nat) (xs : List Int) (w : World) (e : Ending) (w' : World) : Prop :=
  ∃ (s' : Option Addr) (c' : Nat) (rows : List (List Int)) (p' : Nat), e = .returned (.slice s' rows.length c') ∧ OwnB w' w.heap.size w'.heap.size (.slice s' rows.length c') rows ∧ rows.length ≤ 81 ∧ (∀ r ∈ rows, r.length ≤ 4) ∧
    Rd w' B s c xs p' ∧ p' ≤ 1000000000 ∧ Kp B w.heap.size w w'

theorem CT.post {B : Nat} {s : Option Addr} {c : Nat} {xs : List Int} {w : World} {b : Nat} {s' : Option Addr} {c' : Nat} {rows : List (List Int)} {u : Value} {r : List Int} {p : Nat} {w1 : World} (h : CT B s c xs w b (.slice s' rows.length c') rows u r p w1) (h1 : rows.length ≤ 81) (h2 : ∀ q ∈ rows, q.length ≤ 4) (hp : p ≤ 1000000000) :
    ClPost B s c xs w (.returned (.slice s' rows.length c')) w1 := ⟨s', c', rows, p, rfl, h.out.up h.hb2, h1, h2, h.rd, hp, h.kp⟩

/-! A circuit that is being drawn: the reader behind block R, the circuit in block B. -/

structure KT (R : Nat) (s : Option Addr) (c : Nat) (xs : List Int) (w0 : World) (B : Nat) (inp : Int) (xn : List Int) (xg : List Gt) (xo : List Int) (vn vg vo : Value) (p : Nat) (w : World) : Prop where
  out : OutC w w0.heap.size B inp xn xg xo vn vg vo
  rd : Rd w R s c xs p
  kp : Kp R w0.heap.size w0 w
  hR : R < w0.heap.size
  hB : w0.heap.size ≤ B

theorem KT.upd {R : Nat} {s : Option Addr} {c : Nat} {xs : List Int} {w0 : World} {B : Nat} {inp : Int} {xn : List Int} {xg : List Gt} {xo : List Int} {vn vg vo : Value} {p p2 : Nat} {w1 w2 : World} (h : KT R s c xs w0 B inp xn xg xo vn vg vo p w1) (hr : Rd w2 R s c xs p2) (hu : Upd R w1 w2) : KT R s c xs w0 B inp xn xg xo vn vg vo p2 w2 := by
  have h1 := h.hR; have h2 := h.hB; have h3 := blk_lt h.out.blk
  have k : Kp R w1.heap.size w1 w2 := Kp.of_upd hu (Nat.le_refl _)
  refine ⟨⟨by rw [hu.block B h3 (by simp; omega)]; exact h.out.blk, own_kp h.out.n h1 (fun k e => (own_blk h.out.n e).2) k, own_kp h.out.g h1 (fun k e => (own_blk h.out.g e).2) k, own_kp h.out.o h1 (fun k e => (own_blk h.out.o e).2) k, h.out.ne⟩, hr, h.kp.trans (k.mono (by omega)), h1, h2⟩

theorem KT.below {R : Nat} {s : Option Addr} {c : Nat} {xs : List Int} {w0 : World} {B : Nat} {inp : Int} {xn : List Int} {xg : List Gt} {xo : List Int} {vn vg vo : Value} {p : Nat} {w1 w2 : World} (h : KT R s c xs w0 B inp xn xg xo vn vg vo p w1) (hb : Below w1.heap.size w1 w2) : KT R s c xs w0 B inp xn xg xo vn vg vo p w2 :=
  h.upd (h.rd.mono hb) (Upd.of_below hb)

theorem KT.alloc {R : Nat} {s : Option Addr} {c : Nat} {xs : List Int} {w0 : World} {B : Nat} {inp : Int} {xn : List Int} {xg : List Gt} {xo : List Int} {vn vg vo : Value} {p : Nat} {w1 : World} (h : KT R s c xs w0 B inp xn xg xo vn vg vo p w1) (o : Obj) : KT R s c xs w0 B inp xn xg xo vn vg vo p (w1.alloc o) :=
  h.below ((Below.refl _ _).alloc (Nat.le_refl _) _)

theorem KT.drew {R : Nat} {s : Option Addr} {c : Nat} {xs : List Int} {w0 : World} {B : Nat} {inp : Int} {xn : List Int} {xg : List Gt} {xo : List Int} {vn vg vo : Value} {p : Nat} {w1 : World} (h : KT R s c xs w0 B inp xn xg xo vn vg vo p w1) : KT R s c xs w0 B inp xn xg xo vn vg vo p w1.drew :=
  h.below (Below.refl _ _).drew

theorem KT.cells {R : Nat} {s : Option Addr} {c : Nat} {xs : List Int} {w0 : World} {B : Nat} {inp : Int} {xn : List Int} {xg : List Gt} {xo : List Int} {vn vg vo : Value} {p : Nat} {w1 : World} (h : KT R s c xs w0 B inp xn xg xo vn vg vo p w1) : (∀ o, w1.cell? ⟨B, o, none⟩ = #[Value.int .i64 inp, vn, vg, vo][o]?) ∧ ∀ o, w1.frozen? ⟨B, o, none⟩ = false := blk_all h.out.blk

theorem KT.kpG {R : Nat} {s : Option Addr} {c : Nat} {xs : List Int} {w0 : World} {B : Nat} {inp : Int} {xn : List Int} {xg : List Gt} {xo : List Int} {vn vg vo : Value} {p : Nat} {w1 w2 : World} (h : KT R s c xs w0 B inp xn xg xo vn vg vo p w1) (hb : Below w0.heap.size w1 w2) : Rd w2 R s c xs p ∧ Kp R w0.heap.size w0 w2 :=
  ⟨h.rd.grown hb h.hR, h.kp.trans (Kp.of_below hb)⟩

theorem KT.sz {R : Nat} {s : Option Addr} {c : Nat} {xs : List Int} {w0 : World} {B : Nat} {inp : Int} {xn : List Int} {xg : List Gt} {xo : List Int} {vn vg vo : Value} {p : Nat} {w1 : World} (h : KT R s c xs w0 B inp xn xg xo vn vg vo p w1) : w0.heap.size ≤ w1.heap.size := h.kp.size

theorem KT.pushN {R : Nat} {s : Option Addr} {c : Nat} {xs : List Int} {w0 : World} {B : Nat} {inp : Int} {xn xn' : List Int} {xg : List Gt} {xo : List Int} {vn vn' vg vo : Value} {p : Nat} {w1 w2 : World} (h : KT R s c xs w0 B inp xn xg xo vn vg vo p w1)
    (hg : w1.grownBy w2 vn.ownBlock) (ho : w2.ownsRow w0.heap.size 3 1 vn' xn'.length (ints xn')) (hb : vn'.ownBlock = vn.ownBlock ∨ vn'.ownBlock = some w1.heap.size) : w2.heap[B]? = some (.cells #[.int .i64 inp, vn, vg, vo] 31 (0, 0)) ∧ KT R s c xs w0 B inp xn' xg xo vn' vg vo p (w2.setCell ⟨B, 1, none⟩ vn') := by
  obtain ⟨a, b⟩ := h.out.pushN hg ho hb
  have hb2 : Below w0.heap.size w1 w2 := (Below.refl _ _).grown hg h.sz (fun q e => (own_blk h.out.n e).1)
  obtain ⟨r, k⟩ := h.kpG (hb2.setCell (p := ⟨B, 1, none⟩) h.hB vn')
  exact ⟨a, b, r, k, h.hR, h.hB⟩
theorem KT.pushG {R : Nat} {s : Option Addr} {c : Nat} {xs : List Int} {w0 : World} {B : Nat} {inp : Int} {xn : List Int} {xg xg' : List Gt} {xo : List Int} {vn vg vg' vo : Value} {p : Nat} {w1 w2 : World} (h : KT R s c xs w0 B inp xn xg xo vn vg vo p w1)
    (hg : w1.grownBy w2 vg.ownBlock) (ho : w2.ownsRow w0.heap.size 52 2 vg' xg'.length (gcells xg')) : w2.heap[B]? = some (.cells #[.int .i64 inp, vn, vg, vo] 31 (0, 0)) ∧ KT R s c xs w0 B inp xn xg' xo vn vg' vo p (w2.setCell ⟨B, 2, none⟩ vg') := by
  obtain ⟨a, b⟩ := h.out.pushG hg ho
  have hb2 : Below w0.heap.size w1 w2 := (Below.refl _ _).grown hg h.sz (fun q e => (own_blk h.out.g e).1)
  obtain ⟨r, k⟩ := h.kpG (hb2.setCell (p := ⟨B, 2, none⟩) h.hB vg')
  exact ⟨a, b, r, k, h.hR, h.hB⟩
theorem KT.pushO {R : Nat} {s : Option Addr} {c : Nat} {xs : List Int} {w0 : World} {B : Nat} {inp : Int} {xn : List Int} {xg : List Gt} {xo xo' : List Int} {vn vg vo vo' : Value} {p : Nat} {w1 w2 : World} (h : KT R s c xs w0 B inp xn xg xo vn vg vo p w1)
    (hg : w1.grownBy w2 vo.ownBlock) (ho : w2.ownsRow w0.heap.size 3 1 vo' xo'.length (ints xo')) (hb : vo'.ownBlock = vo.ownBlock ∨ vo'.ownBlock = some w1.heap.size) : w2.heap[B]? = some (.cells #[.int .i64 inp, vn, vg, vo] 31 (0, 0)) ∧ KT R s c xs w0 B inp xn xg xo' vn vg vo' p (w2.setCell ⟨B, 3, none⟩ vo') := by
  obtain ⟨a, b⟩ := h.out.pushO hg ho hb
  have hb2 : Below w0.heap.size w1 w2 := (Below.refl _ _).grown hg h.sz (fun q e => (own_blk h.out.o e).1)
  obtain ⟨r, k⟩ := h.kpG (hb2.setCell (p := ⟨B, 3, none⟩) h.hB vo')
  exact ⟨a, b, r, k, h.hR, h.hB⟩
theorem KT.setInp {R : Nat} {s : Option Addr} {c : Nat} {xs : List Int} {w0 : World} {B : Nat} {inp : Int} {xn : List Int} {xg : List Gt} {xo : List Int} {vn vg vo : Value} {p : Nat} {w1 : World} (h : KT R s c xs w0 B inp xn xg xo vn vg vo p w1) (y : Int) : KT R s c xs w0 B y xn xg xo vn vg vo p (w1.setCell ⟨B, 0, none⟩ (.int .i64 y)) := by
  obtain ⟨r, k⟩ := h.kpG (((Below.refl _ w1).mono h.sz).setCell (p := ⟨B, 0, none⟩) h.hB (.int .i64 y))
  exact ⟨⟨by simpa using blk_set (o := 0) (v := .int .i64 y) h.out.blk, own_set_ne h.out.n (own_tyb h.out.n h.out.blk (by decide)) _, own_set_ne h.out.g (own_tyb h.out.g h.out.blk (by decide)) _, own_set_ne h.out.o (own_tyb h.out.o h.out.blk (by decide)) _, h.out.ne⟩, r, k, h.hR, h.hB⟩

def PkK (R : Nat) (s : Option Addr) (c : Nat) (xs : List Int) (w0 : World) (B : Nat) (inp : Int) (xn : List Int) (xg : List Gt) (xo : List Int) (vn vg vo : Value) (p : Nat) (n : Int) (w1 : World) (e : Ending) (w' : World) : Prop :=
  ∃ k : Nat, e = .returned (.int .i64 k) ∧ Picked n k ∧ KT R s c xs w0 B inp xn xg xo vn vg vo (p + 1) w' ∧ Upd R w1 w' ∧ w'.heap.size = w1.heap.size
theorem pick_kt (R : Nat) (s : Option Addr) (c : Nat) (xs : List Int) (w0 : World) (B : Nat) (inp : Int) (xn : List Int) (xg : List Gt) (xo : List Int) (vn vg vo : Value) (p : Nat) (n : Int) (w1 : World) (h : KT R s c xs w0 B inp xn xg xo vn vg vo p w1) (hp : p ≤ 1000000000) (hn : n ≤ 1000000) :
    Calls Tryd.prog 47 #[.pointer (some ⟨R, 0, none⟩), .int .i64 n] w1 (PkK R s c xs w0 B inp xn xg xo vn vg vo p n w1) :=
  (pick_any _ _ _ _ _ _ _ h.rd (by omega) (by omega)).mono fun _ _ ⟨k, h1, h2, h3, h4, h5⟩ => by
    obtain ⟨m, rfl⟩ : ∃ m : Nat, k = m := ⟨k.toNat, by have := h2.1; omega⟩
    exact ⟨m, h1, h2, h.upd h3 h4, h4, h5⟩
theorem odd_kt (R : Nat) (s : Option Addr) (c : Nat) (xs : List Int) (w0 : World) (B : Nat) (inp : Int) (xn : List Int) (xg : List Gt) (xo : List Int) (vn vg vo : Value) (p : Nat) (n : Int) (w1 : World) (h : KT R s c xs w0 B inp xn xg xo vn vg vo p w1) (hp : p ≤ 1000000000) (hn0 : -1000 ≤ n) (hn : n ≤ 1000000000) :
    Calls Tryd.prog 64 #[.pointer (some ⟨R, 0, none⟩), .int .i64 n] w1 fun e w' => ∃ (k : Bool) (p' : Nat), e = .returned (.bool k) ∧ p' ≤ p + 1 ∧ KT R s c xs w0 B inp xn xg xo vn vg vo p' w' :=
  (odd_any _ _ _ _ _ _ _ h.rd (by omega) hn0 hn).mono fun _ _ ⟨k, p', h1, h2, h3, h4, _⟩ => ⟨k, p', h1, h2, h.upd h3 h4⟩

end Go.Proofs.YtnifgamlmaembaaDoor
