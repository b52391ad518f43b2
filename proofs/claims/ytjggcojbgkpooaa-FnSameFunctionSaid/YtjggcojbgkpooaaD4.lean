import Derived.Test.YtjggcojbgkpooaaD3
import Derived.Test.YtjggcojbgkpooaaL1
import Derived.Deep.RegionHeld3
namespace Go.Proofs.Ytjggcojbgkpooaa
set_option linter.unusedVariables false
set_option linter.unusedSimpArgs false
open Go.RowKit

theorem elem_ints : ElemOf Try.prog 94 23 (.slice none 0 0) 1 24 :=
  ⟨by kernel_rfl, info_parts (by kernel_rfl), rfl, by omega⟩

/-- While a formula is drawn: its rows, the clause that is being drawn, the reader. -/
structure CT (B : Nat) (s : Option Addr) (c : Nat) (xs : List Int) (w : World) (b : Nat) (v : Value) (rows : List (List Int)) (u : Value) (r : List Int) (p : Nat) (w' : World) : Prop where
  out : OwnB w' w.heap.size b v rows
  cl : w'.ownsRow b 3 1 u r.length (ints r)
  rd : Rd w' B s c xs p
  kp : Kp B w.heap.size w w'
  hb : w.heap.size ≤ b
  hb2 : b ≤ w'.heap.size
  hB : B < w.heap.size

theorem CT.upd {B : Nat} {s : Option Addr} {c : Nat} {xs : List Int} {w : World} {b : Nat} {v : Value} {rows : List (List Int)} {u : Value} {r : List Int} {p p2 : Nat} {w1 w2 : World} (h : CT B s c xs w b v rows u r p w1)
    (hr : Rd w2 B s c xs p2) (hu : Upd B w1 w2) : CT B s c xs w b v rows u r p2 w2 := by
  have hs := hu.size
  have h1 := h.hb; have h2 := h.hb2; have h3 := h.hB
  have k : Kp B w1.heap.size w1 w2 := Kp.of_upd hu (Nat.le_refl _)
  exact ⟨h.out.kp h.hB h2 k, own_kp h.cl (by omega) (fun k e => (own_blk h.cl e).2) k, hr, h.kp.trans (k.mono (by omega)), h1, by omega, h3⟩
theorem CT.alloc {B : Nat} {s : Option Addr} {c : Nat} {xs : List Int} {w : World} {b : Nat} {v : Value} {rows : List (List Int)} {u : Value} {r : List Int} {p : Nat} {w1 : World} (h : CT B s c xs w b v rows u r p w1) (o : Obj) : CT B s c xs w b v rows u r p (w1.alloc o) :=
  h.upd (h.rd.mono ((Below.refl _ _).alloc (Nat.le_refl _) _)) (Upd.of_below ((Below.refl _ _).alloc (Nat.le_refl _) _))
theorem CT.n {B : Nat} {s : Option Addr} {c : Nat} {xs : List Int} {w : World} {b : Nat} {v : Value} {rows : List (List Int)} {u : Value} {r : List Int} {p : Nat} {w1 : World} (h : CT B s c xs w b v rows u r p w1) (n : Nat) : CT B s c xs w b v rows u r p (w1.drewN n) :=
  h.upd (h.rd.mono (below_n (Below.refl _ _) n)) (Upd.of_below (below_n (Below.refl _ _) n))
/-- The clause is done with. -/
theorem CT.up {B : Nat} {s : Option Addr} {c : Nat} {xs : List Int} {w : World} {b : Nat} {v : Value} {rows : List (List Int)} {u : Value} {r : List Int} {p : Nat} {w1 : World} (h : CT B s c xs w b v rows u r p w1) : CT B s c xs w w1.heap.size v rows (.slice none 0 0) [] p w1 :=
  ⟨h.out.up h.hb2, World.ownsRow_nil _ _ _ _, h.rd, h.kp, Nat.le_trans h.hb h.hb2, Nat.le_refl _, h.hB⟩
/-- A new clause. -/
theorem CT.open {B : Nat} {s : Option Addr} {c : Nat} {xs : List Int} {w : World} {b : Nat} {v : Value} {rows : List (List Int)} {u : Value} {r : List Int} {p : Nat} {w1 : World} (h : CT B s c xs w b v rows u r p w1) (rs : List Int) (hl : rs.length ≤ maxLen) (o : Obj) (ho : o = .cells (ints rs).toArray 3) :
    CT B s c xs w w1.heap.size v rows (.slice (some ⟨w1.heap.size, 0, none⟩) rs.length rs.length) rs p (w1.alloc o) := by
  subst ho
  have k := h.alloc (.cells (ints rs).toArray 3)
  have h4 := own_of_blk (n := rs.length) (base := w1.heap.size) (size := 1) (blk_new w1 (.cells (ints rs).toArray 3)) (Nat.le_refl _) (by simp) hl
  exact ⟨k.out.up h.hb2, by simpa using h4, k.rd, k.kp, Nat.le_trans h.hb h.hb2, by simp, h.hB⟩

/-- An append of an int to the clause that is being drawn. -/
theorem CT.pushInt {B : Nat} {s : Option Addr} {c : Nat} {xs : List Int} {w : World} {b : Nat} {v : Value} {rows : List (List Int)} {u : Value} {r : List Int} {p : Nat} {w1 w2 : World} (h : CT B s c xs w b v rows u r p w1) (o : Obj) {s' : Option Addr} {c' : Nat} {x : Int}
    (hn : w2.ownsRow b 3 1 (.slice s' (r.length + 1) c') (r.length + 1) (ints r ++ [.int .i64 x])) (hg : (w1.alloc o).grownBy w2 u.ownBlock) : ∃ r' : List Int, r'.length = r.length + 1 ∧ CT B s c xs w b v rows (.slice s' r'.length c') r' p w2 := by
  have k := h.alloc o
  have h1 := h.hb; have h2 := h.hb2; have h3 := h.hB
  have hb : Below b (w1.alloc o) w2 := (Below.refl _ _).grown hg k.hb2 (fun q e => (own_blk h.cl e).1)
  have hs := hb.size
  refine ⟨r ++ [x], by simp, k.out.kp h.hB (Nat.le_refl _) (Kp.of_below hb), ?_, k.rd.grown hb (by omega), k.kp.trans ((Kp.of_below hb).mono h1), h1, by have := k.hb2; omega, h3⟩
  have e : ints (r ++ [x]) = ints r ++ [.int .i64 x] := by simp [ints]
  rw [e]; simpa using hn
/-- The clause becomes a row. -/
theorem CT.pushRow {B : Nat} {s : Option Addr} {c : Nat} {xs : List Int} {w : World} {b : Nat} {v : Value} {rows : List (List Int)} {u : Value} {r : List Int} {p : Nat} {w1 w2 : World} (h : CT B s c xs w b v rows u r p w1) (o : Obj) {vs : List Value} {s' : Option Addr} {c' : Nat}
    (hv : w1.ownsRow w.heap.size 23 1 v rows.length vs) (hn : w2.ownsRow w.heap.size 23 1 (.slice s' (rows.length + 1) c') (rows.length + 1) (vs ++ [u])) (hg : (w1.alloc o).grownBy w2 v.ownBlock) :
    ∃ rows' : List (List Int), rows'.length = rows.length + 1 ∧ (∀ q ∈ rows', q ∈ rows ∨ q = r) ∧ CT B s c xs w w2.heap.size (.slice s' rows'.length c') rows' (.slice none 0 0) [] p w2 := by
  have k := h.alloc o
  have h1 := h.hb; have h2 := h.hb2; have h3 := h.hB
  have hb : Below w.heap.size (w1.alloc o) w2 := (Below.refl _ _).grown hg (by have := k.hb2; omega) (fun q e => (own_blk hv e).1)
  have hs := hb.size
  have h5 := h.out.push h.cl h1 hv hn hg (fun q e => (own_blk hn e).2)
  have e : (rows ++ [r]).length = rows.length + 1 := by simp
  refine ⟨rows ++ [r], e, fun q hq => by simpa using hq, ?_⟩
  rw [e]
  exact ⟨h5, World.ownsRow_nil _ _ _ _, k.rd.grown hb (by omega), k.kp.trans (Kp.of_below hb), by have := k.hb2; omega, Nat.le_refl _, h3⟩
theorem CT.row {B : Nat} {s : Option Addr} {c : Nat} {xs : List Int} {w : World} {b : Nat} {v : Value} {rows : List (List Int)} {u : Value} {r : List Int} {p : Nat} {w1 : World} (h : CT B s c xs w b v rows u r p w1) : ∃ vs, w1.ownsRow w.heap.size 23 1 v rows.length vs := by
  obtain ⟨vs, h1, _⟩ := h.out
  exact ⟨vs, h1⟩

theorem Sl.new1 (w : World) (o : Obj) (cs : Array Value) (t : TypeId) : Sl ((w.alloc o).alloc (.cells cs t)) (some ⟨w.heap.size + 1, 0, none⟩) cs.toList := by
  have h := Sl.new (w.alloc o) cs t
  rwa [World.size_alloc] at h

def lenV : Value → Nat
  | .slice _ n _ => n
  | _ => 0

def PkPost (B : Nat) (s : Option Addr) (c : Nat) (xs : List Int) (w : World) (b : Nat) (v : Value) (rows : List (List Int)) (u : Value) (r : List Int) (p : Nat) (n : Int) (w1 : World) (e : Ending) (w' : World) : Prop :=
  ∃ k : Nat, e = .returned (.int .i64 (k : Int)) ∧ Picked n k ∧ k ≤ 1000000 ∧ CT B s c xs w b v rows u r (p + 1) w' ∧ Upd B w1 w'
theorem pick_ct (B : Nat) (s : Option Addr) (c : Nat) (xs : List Int) (w : World) (b : Nat) (v : Value) (rows : List (List Int)) (u : Value) (r : List Int) (p : Nat) (n : Int) (w1 : World) (h : CT B s c xs w b v rows u r p w1) (hp : p ≤ 1000000000) (hn : n ≤ 1000000) :
    Calls Try.prog 45 #[.pointer (some ⟨B, 0, none⟩), .int .i64 n] w1 (PkPost B s c xs w b v rows u r p n w1) :=
  (pick_any _ _ _ _ _ _ _ h.rd (by omega) (by omega)).mono fun _ _ ⟨k, h1, h2, h3, h4, h5⟩ => by
    obtain ⟨m, rfl⟩ : ∃ m : Nat, k = m := ⟨k.toNat, by have := h2.1; omega⟩
    exact ⟨m, h1, h2, by have := h2.2; omega, h.upd h3 h4, h4⟩

def OdPost (B : Nat) (s : Option Addr) (c : Nat) (xs : List Int) (w : World) (b : Nat) (v : Value) (rows : List (List Int)) (u : Value) (r : List Int) (p : Nat) (e : Ending) (w' : World) : Prop :=
  ∃ (k : Bool) (p' : Nat), e = .returned (.bool k) ∧ p' ≤ p + 1 ∧ CT B s c xs w b v rows u r p' w'
theorem odd_ct (B : Nat) (s : Option Addr) (c : Nat) (xs : List Int) (w : World) (b : Nat) (v : Value) (rows : List (List Int)) (u : Value) (r : List Int) (p : Nat) (n : Int) (w1 : World) (h : CT B s c xs w b v rows u r p w1) (hp : p ≤ 1000000000) (hn0 : -1000 ≤ n) (hn : n ≤ 1000000000) :
    Calls Try.prog 83 #[.pointer (some ⟨B, 0, none⟩), .int .i64 n] w1 (OdPost B s c xs w b v rows u r p) :=
  (odd_any _ _ _ _ _ _ _ h.rd (by omega) hn0 hn).mono fun _ _ ⟨k, p', h1, h2, h3, h4, _⟩ => ⟨k, p', h1, h2, h.upd h3 h4⟩

/-- What l20Clauses leaves. -/
def ClPost (B : Nat) (s : Option Addr) (c : Nat) (xs : List Int) (w : World) (e : Ending) (w' : World) : Prop :=
  ∃ (s' : Option Addr) (c' : Nat) (rows : List (List Int)) (p' : Nat), e = .returned (.slice s' rows.length c') ∧ OwnB w' w.heap.size w'.heap.size (.slice s' rows.length c') rows ∧ rows.length ≤ 81 ∧ (∀ r ∈ rows, r.length ≤ 4) ∧
    Rd w' B s c xs p' ∧ p' ≤ 1000000000 ∧ Kp B w.heap.size w w'

theorem CT.post {B : Nat} {s : Option Addr} {c : Nat} {xs : List Int} {w : World} {b : Nat} {s' : Option Addr} {c' : Nat} {rows : List (List Int)} {u : Value} {r : List Int} {p : Nat} {w1 : World} (h : CT B s c xs w b (.slice s' rows.length c') rows u r p w1) (h1 : rows.length ≤ 81) (h2 : ∀ q ∈ rows, q.length ≤ 4) (hp : p ≤ 1000000000) :
    ClPost B s c xs w (.returned (.slice s' rows.length c')) w1 := ⟨s', c', rows, p, rfl, h.out.up h.hb2, h1, h2, h.rd, hp, h.kp⟩

end Go.Proofs.Ytjggcojbgkpooaa
