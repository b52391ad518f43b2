import Derived.Test.YtfedipoffakegaaA2
import Derived.Deep.QuietTactic
import Derived.BigQuiet
namespace Go.Proofs.Ytfedipoffakegaa
set_option linter.unusedVariables false
set_option linter.unusedSimpArgs false
open Go.RowKit

/-! The reader of a code. -/

def u8s (xs : List Int) : List Value := xs.map (Value.int .u8)
@[simp] theorem u8s_length (xs : List Int) : (u8s xs).length = xs.length := by simp [u8s]

/-- Only block B may have been written. -/
def Upd (B : Nat) (w w' : World) : Prop := w.grownBy w' (some B)

theorem Upd.refl (B : Nat) (w : World) : Upd B w w := World.grownBy.refl w _
theorem Upd.trans {B : Nat} {a b c : World} (h : Upd B a b) (k : Upd B b c) : Upd B a c := World.grownBy.trans h k
theorem Upd.set (B o : Nat) (w : World) (v : Value) : Upd B w (w.setCell ⟨B, o, none⟩ v) :=
  ⟨rfl, rfl, rfl, by rw [size_set]; exact Nat.le_refl _, fun k _ hne => Below.heap_setCell _ _ _ _ (by intro e; apply hne; simp [e])⟩
theorem Upd.n {B : Nat} {w w' : World} (h : Upd B w w') (n : Nat) : Upd B w (w'.drewN n) := ⟨h.os, h.tape, h.output, h.size, h.block⟩
theorem Upd.below {B : Nat} {w w' : World} (h : Upd B w w') {b : Nat} (hB : b ≤ B) (hs : b ≤ w.heap.size) : Below b w w' :=
  ⟨h.os, h.tape, h.output, h.size, fun k hk => h.block k (by omega) (by simp; omega)⟩
theorem Upd.of_below {B : Nat} {w w' : World} (h : Below w.heap.size w w') : Upd B w w' := ⟨h.os, h.tape, h.output, h.size, fun k hk _ => h.block k hk⟩

theorem Sl.u8 {w wr : World} {s : Option Addr} {xs : List Int} {B : Nat} (h : Sl w s (u8s xs)) (hB : ∀ a, s = some a → xs ≠ [] → a.block < B) (hbl : Below B w wr) {k : Nat} {x : Int} (hx : xs[k]? = some x) :
    ∃ b off, s = some ⟨b, off, none⟩ ∧ wr.cell? ⟨b, off + k, none⟩ = some (.int .u8 x) := by
  have hlt : k < xs.length := (List.getElem?_eq_some_iff.1 hx).1
  obtain ⟨b, off, rfl, hbw, hcs⟩ := h.at (k := k) (by simpa using hlt)
  have := hB _ rfl (by intro e; subst e; simp at hlt)
  exact ⟨b, off, rfl, by rw [hbl.cell (by exact this)]; exact hcs _ _ (by simp [u8s, hx])⟩

/-- A number that was picked out of n. -/
def Picked (n k : Int) : Prop := 0 ≤ k ∧ (k < n ∨ k = 0)

theorem xor_i64 (a b : Nat) (ha : a < 9223372036854775808) (hb : b < 9223372036854775808) : bits .xor .i64 (a : Int) (b : Int) = ((a ^^^ b : Nat) : Int) := by
  have hx : a ^^^ b < 2 ^ 63 := Nat.xor_lt_two_pow (by omega) (by omega)
  have h1 : (BitVec.ofInt 64 (a : Int)).toNat = a := by
    rw [BitVec.ofInt_natCast, BitVec.toNat_ofNat]; exact Nat.mod_eq_of_lt (by omega)
  have h2 : (BitVec.ofInt 64 (b : Int)).toNat = b := by
    rw [BitVec.ofInt_natCast, BitVec.toNat_ofNat]; exact Nat.mod_eq_of_lt (by omega)
  show IntKind.i64.wrap ((BitVec.ofInt 64 (a : Int) ^^^ BitVec.ofInt 64 (b : Int)).toNat : Int) = _
  rw [BitVec.toNat_xor, h1, h2, IntKind.wrap_i64]
  omega

theorem xor_nonneg {a b : Int} (ha : 0 ≤ a) (ha2 : a < 9223372036854775808) (hb : 0 ≤ b) (hb2 : b < 9223372036854775808) : 0 ≤ bits .xor .i64 a b := by
  obtain ⟨x, rfl⟩ : ∃ x : Nat, a = x := ⟨a.toNat, by omega⟩
  obtain ⟨y, rfl⟩ : ∃ y : Nat, b = y := ⟨b.toNat, by omega⟩
  rw [xor_i64 x y (by omega) (by omega)]
  omega

/-- What the mixture ends in. -/
theorem pick_mix (x y p L q n : Int) (hx : 0 ≤ x ∧ x ≤ 255) (hy : 0 ≤ y ∧ y ≤ 255) (hp : 0 ≤ p ∧ p ≤ 1000000000000) (hq : p / L = q) (hq2 : 0 ≤ q ∧ q ≤ p) (hn : 1 ≤ n) :
    Picked n ((bits .xor .i64 (wrap64 (x * 131 + y * 1117 + p * 29 + wrap64 (wrap64 (p / L) * 53))) (wrap64 ((wrap64 (x * 131 + y * 1117 + p * 29 + wrap64 (wrap64 (p / L) * 53))).tdiv 64))).tmod n) := by
  rw [hq]
  have e1 : wrap64 q = q := IntWalk.wrap64_in q ⟨by omega, by omega⟩
  rw [e1]
  have e2 : wrap64 (q * 53) = q * 53 := IntWalk.wrap64_in _ ⟨by omega, by omega⟩
  rw [e2]
  have e3 : wrap64 (x * 131 + y * 1117 + p * 29 + q * 53) = x * 131 + y * 1117 + p * 29 + q * 53 := IntWalk.wrap64_in _ ⟨by omega, by omega⟩
  rw [e3]
  generalize hz : x * 131 + y * 1117 + p * 29 + q * 53 = z
  have h0 : 0 ≤ z := by omega
  have h1 : z ≤ 1000000000000000 := by omega
  have e4 : z.tdiv 64 = z / 64 := Int.tdiv_eq_ediv_of_nonneg h0
  rw [e4]
  have e5 : wrap64 (z / 64) = z / 64 := IntWalk.wrap64_in _ ⟨by omega, by omega⟩
  rw [e5]
  have hb := xor_nonneg (a := z) (b := z / 64) h0 (by omega) (by omega) (by omega)
  generalize bits .xor .i64 z (z / 64) = t at hb
  exact ⟨Int.tmod_nonneg _ hb, .inl (Int.tmod_lt_of_pos _ (by omega))⟩

end Go.Proofs.Ytfedipoffakegaa
