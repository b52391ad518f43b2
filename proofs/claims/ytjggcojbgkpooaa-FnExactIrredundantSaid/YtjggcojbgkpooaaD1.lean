import Derived.Test.YtjggcojbgkpooaaA2
import Derived.Deep.QuietTactic
import Derived.BigQuiet
namespace Go.Proofs.Ytjggcojbgkpooaa
set_option linter.unusedVariables false
set_option linter.unusedSimpArgs false
open Go.RowKit

/-! The reader of a code. -/

def u8s (xs : List Int) : List Value := xs.map (Value.int .u8)
@[simp] theorem u8s_length (xs : List Int) : (u8s xs).length = xs.length := by simp [u8s]

/-- The reader behind block B: its bytes and its position. -/
structure Rd (w : World) (B : Nat) (s : Option Addr) (c : Nat) (xs : List Int) (p : Nat) : Prop where
  blk : w.heap[B]? = some (.cells #[.slice s xs.length c, .int .i64 (p : Int)] 102 (0, 0))
  bytes : Sl w s (u8s xs)
  range : ∀ x ∈ xs, 0 ≤ x ∧ x ≤ 255
  len : xs.length ≤ 2000
  apart : ∀ a, s = some a → xs ≠ [] → a.block < B

/-- Only block B may have been written. -/
def Upd (B : Nat) (w w' : World) : Prop := w.grownBy w' (some B)

theorem Upd.refl (B : Nat) (w : World) : Upd B w w := World.grownBy.refl w _
theorem Upd.trans {B : Nat} {a b c : World} (h : Upd B a b) (k : Upd B b c) : Upd B a c := World.grownBy.trans h k
theorem Upd.set (B o : Nat) (w : World) (v : Value) : Upd B w (w.setCell ⟨B, o, none⟩ v) :=
  ⟨rfl, rfl, rfl, by rw [size_set]; exact Nat.le_refl _, fun k _ hne => Below.heap_setCell _ _ _ _ (by intro e; apply hne; simp [e])⟩
theorem Upd.n {B : Nat} {w w' : World} (h : Upd B w w') (n : Nat) : Upd B w (w'.drewN n) := ⟨h.os, h.tape, h.output, h.size, h.block⟩
theorem Upd.below {B : Nat} {w w' : World} (h : Upd B w w') {b : Nat} (hB : b ≤ B) (hs : b ≤ w.heap.size) : Below b w w' :=
  ⟨h.os, h.tape, h.output, h.size, fun k hk => h.block k (by omega) (by simp; omega)⟩
theorem Upd.of_below {B : Nat} {w w' : World} (h : Below w.heap.size w w') : Upd B w w' := ⟨h.os, h.tape, h.output, h.size, fun k hk _ => h.block k hk⟩

theorem Rd.setp {w : World} {B : Nat} {s : Option Addr} {c : Nat} {xs : List Int} {p q : Nat} (h : Rd w B s c xs p) : Rd (w.setCell ⟨B, 1, none⟩ (.int .i64 (q : Int))) B s c xs q := by
  refine ⟨by simpa using blk_set (o := 1) (v := .int .i64 (q : Int)) h.blk, ?_, h.range, h.len, h.apart⟩
  refine h.bytes.mono' (B := B) (fun a ha hne => h.apart a ha (by intro e; subst e; simp [u8s] at hne)) ?_
  exact (Below.refl B w).setCell (p := ⟨B, 1, none⟩) (Nat.le_refl _) _

theorem Sl.u8 {w wr : World} {s : Option Addr} {xs : List Int} {B : Nat} (h : Sl w s (u8s xs)) (hB : ∀ a, s = some a → xs ≠ [] → a.block < B) (hbl : Below B w wr) {k : Nat} {x : Int} (hx : xs[k]? = some x) :
    ∃ b off, s = some ⟨b, off, none⟩ ∧ wr.cell? ⟨b, off + k, none⟩ = some (.int .u8 x) := by
  have hlt : k < xs.length := (List.getElem?_eq_some_iff.1 hx).1
  obtain ⟨b, off, rfl, hbw, hcs⟩ := h.at (k := k) (by simpa using hlt)
  have := hB _ rfl (by intro e; subst e; simp at hlt)
  exact ⟨b, off, rfl, by rw [hbl.cell (by exact this)]; exact hcs _ _ (by simp [u8s, hx])⟩

/-- A number that was picked out of n. -/
def Picked (n k : Int) : Prop := 0 ≤ k ∧ (k < n ∨ k = 0)

theorem xor_i64 (a b : Nat) (ha : a < 9223372036854775808) (hb : b < 9223372036854775808) : bits .xor .i64 (a : Int) (b : Int) = ((a ^^^ b : Nat) : Int) := by
  have hx : a ^^^ b < 2 ^ 63 := Nat.xor_lt_two_pow (by omega) (by omega)
  have h1 : (BitVec.ofInt 64 (a : Int)).toNat = a := by
    rw [BitVec.ofInt_natCast, BitVec.toNat_ofNat]; exact Nat.mod_eq_of_lt (by omega)
  have h2 : (BitVec.ofInt 64 (b : Int)).toNat = b := by
    rw [BitVec.ofInt_natCast, BitVec.toNat_ofNat]; exact Nat.mod_eq_of_lt (by omega)
  show IntKind.i64.wrap ((BitVec.ofInt 64 (a : Int) ^^^ BitVec.ofInt 64 (b : Int)).toNat : Int) = _
  rw [BitVec.toNat_xor, h1, h2, IntKind.wrap_i64]
  omega

theorem xor_nonneg {a b : Int} (ha : 0 ≤ a) (ha2 : a < 9223372036854775808) (hb : 0 ≤ b) (hb2 : b < 9223372036854775808) : 0 ≤ bits .xor .i64 a b := by
  obtain ⟨x, rfl⟩ : ∃ x : Nat, a = x := ⟨a.toNat, by omega⟩
  obtain ⟨y, rfl⟩ : ∃ y : Nat, b = y := ⟨b.toNat, by omega⟩
  rw [xor_i64 x y (by omega) (by omega)]
  omega

/-- What the mixture ends in. -/
theorem pick_mix (x y p L q n : Int) (hx : 0 ≤ x ∧ x ≤ 255) (hy : 0 ≤ y ∧ y ≤ 255) (hp : 0 ≤ p ∧ p ≤ 1000000000000) (hq : p / L = q) (hq2 : 0 ≤ q ∧ q ≤ p) (hn : 1 ≤ n) :
    Picked n ((bits .xor .i64 (wrap64 (x * 131 + y * 1117 + p * 29 + wrap64 (wrap64 (p / L) * 53))) (wrap64 ((wrap64 (x * 131 + y * 1117 + p * 29 + wrap64 (wrap64 (p / L) * 53))).tdiv 64))).tmod n) := by
  rw [hq]
  have e1 : wrap64 q = q := IntWalk.wrap64_in q ⟨by omega, by omega⟩
  rw [e1]
  have e2 : wrap64 (q * 53) = q * 53 := IntWalk.wrap64_in _ ⟨by omega, by omega⟩
  rw [e2]
  have e3 : wrap64 (x * 131 + y * 1117 + p * 29 + q * 53) = x * 131 + y * 1117 + p * 29 + q * 53 := IntWalk.wrap64_in _ ⟨by omega, by omega⟩
  rw [e3]
  generalize hz : x * 131 + y * 1117 + p * 29 + q * 53 = z
  have h0 : 0 ≤ z := by omega
  have h1 : z ≤ 1000000000000000 := by omega
  have e4 : z.tdiv 64 = z / 64 := Int.tdiv_eq_ediv_of_nonneg h0
  rw [e4]
  have e5 : wrap64 (z / 64) = z / 64 := IntWalk.wrap64_in _ ⟨by omega, by omega⟩
  rw [e5]
  have hb := xor_nonneg (a := z) (b := z / 64) h0 (by omega) (by omega) (by omega)
  generalize bits .xor .i64 z (z / 64) = t at hb
  exact ⟨Int.tmod_nonneg _ hb, .inl (Int.tmod_lt_of_pos _ (by omega))⟩

set_option maxRecDepth 100000 in
set_option maxHeartbeats 800000 in
theorem pick_any (B : Nat) (s : Option Addr) (c : Nat) (xs : List Int) (p : Nat) (n : Int) (w : World) (h : Rd w B s c xs p) (hp : p ≤ 1000000000000) (hn : n ≤ 1000000000) :
    Calls Try.prog 45 #[.pointer (some ⟨B, 0, none⟩), .int .i64 n] w fun e w' => ∃ k : Int, e = .returned (.int .i64 k) ∧ Picked n k ∧ Rd w' B s c xs (p + 1) ∧ Upd B w w' ∧ w'.heap.size = w.heap.size := by
  have HR := Lib.hid h
  have hc0 : w.cell? ⟨B, 0, none⟩ = some (.slice s xs.length c) := blk_cell h.blk
  have hc1 : w.cell? ⟨B, 1, none⟩ = some (.int .i64 (p : Int)) := blk_cell h.blk
  have hf : w.frozen? ⟨B, 1, none⟩ = false := blk_free h.blk
  have hl : xs.length ≤ 2000 := h.len
  have HS : Hid (Rd (w.setCell ⟨B, 1, none⟩ (.int .i64 ((p : Int) + 1))) B s c xs (p + 1)) := by
    have h2 := h.setp (q := p + 1)
    have e : ((p + 1 : Nat) : Int) = (p : Int) + 1 := by omega
    rw [e] at h2
    exact h2
  clear h
  by_cases h1 : n < 1
  · go_enter Try.func45, Try.ntmps45
    go_wp2
    go_ret
    exact ⟨0, rfl, ⟨by omega, .inr rfl⟩, HS.out, Upd.set _ _ _ _, size_set _ _ _⟩
  · by_cases h0 : xs.length = 0
    · obtain rfl : xs = [] := List.eq_nil_of_length_eq_zero h0
      simp only [List.length_nil] at hc0
      clear h0 hl
      go_enter Try.func45, Try.ntmps45
      go_wp2
      go_ret
      exact ⟨0, rfl, ⟨by omega, .inr rfl⟩, HS.out, Upd.set _ _ _ _, size_set _ _ _⟩
    · have hb0 : ((xs.length : Int) == 0) = false := beq_eq_false_iff_ne.2 (by omega)
      have hbel : Hid (Below B w (w.setCell ⟨B, 1, none⟩ (.int .i64 ((p : Int) + 1)))) := (Below.refl B w).setCell (p := ⟨B, 1, none⟩) (Nat.le_refl _) _
      by_cases hk : p < xs.length
      · obtain ⟨x, hx⟩ := get_of_lt (l := xs) (k := p) hk
        have hxr := HR.out.range x (List.mem_of_getElem? hx)
        obtain ⟨b, off, rfl, hz⟩ := HR.out.bytes.u8 HR.out.apart hbel.out hx
        clear hx h0
        go_enter Try.func45, Try.ntmps45
        go_wp2
        go_ret
        refine ⟨_, rfl, ⟨?_, .inl ?_⟩, HS.out, Upd.set _ _ _ _, size_set _ _ _⟩
        · first | exact Int.emod_nonneg _ (by omega) | exact Int.tmod_nonneg _ (by omega)
        · first | exact Int.emod_lt_of_pos _ (by omega) | exact Int.tmod_lt_of_pos _ (by omega)
      · obtain ⟨m1, hm1e⟩ : ∃ m, m = p % xs.length := ⟨_, rfl⟩
        obtain ⟨m2, hm2e⟩ : ∃ m, m = (p * 7 + 3) % xs.length := ⟨_, rfl⟩
        obtain ⟨q, hqe⟩ : ∃ m, m = p / xs.length := ⟨_, rfl⟩
        have hm1 : m1 < xs.length := by rw [hm1e]; exact Nat.mod_lt _ (by omega)
        have hm2 : m2 < xs.length := by rw [hm2e]; exact Nat.mod_lt _ (by omega)
        have hqp : q ≤ p := by rw [hqe]; exact Nat.div_le_self _ _
        obtain ⟨x, hx⟩ := get_of_lt (l := xs) hm1
        obtain ⟨y, hy⟩ := get_of_lt (l := xs) hm2
        have hxr := HR.out.range x (List.mem_of_getElem? hx)
        have hyr := HR.out.range y (List.mem_of_getElem? hy)
        obtain ⟨b, off, rfl, hz⟩ := HR.out.bytes.u8 HR.out.apart hbel.out hx
        obtain ⟨b', off', hbb, hz2⟩ := HR.out.bytes.u8 HR.out.apart hbel.out hy
        simp only [Option.some.injEq, Addr.mk.injEq, and_true] at hbb
        obtain ⟨rfl, rfl⟩ := hbb
        clear hx hy
        generalize xs.length = L at hc0 hl h0 hb0 hk hm1 hm2 hz hz2 hm1e hm2e hqe
        have hL1 : (1 : Int) ≤ (L : Int) := by omega
        have hLk : (L : Int) ≤ (p : Int) := by omega
        have hL0 : L ≠ 0 := h0
        have hx1 := hxr.1
        have hx2 := hxr.2
        have hy1 := hyr.1
        have hy2 := hyr.2
        have e1' : (p : Int).tmod (L : Int) = (m1 : Int) := by
          rw [Int.tmod_eq_emod_of_nonneg (by omega), ← Int.natCast_emod, ← hm1e]
        have e4' : ((p : Int) * 7 + 3).tmod (L : Int) = (m2 : Int) := by
          rw [Int.tmod_eq_emod_of_nonneg (by omega), show (p : Int) * 7 + 3 = ((p * 7 + 3 : Nat) : Int) from by omega, ← Int.natCast_emod, ← hm2e]
        have e2 : IntKind.i64.wrap ((p : Int) * 7) = (p : Int) * 7 := IntWalk.i64_in _ ⟨by omega, by omega⟩
        have e3 : IntKind.i64.wrap ((p : Int) * 7 + 3) = (p : Int) * 7 + 3 := IntWalk.i64_in _ ⟨by omega, by omega⟩
        have e5 : IntKind.i64.wrap (x * 131) = x * 131 := IntWalk.i64_in _ ⟨by omega, by omega⟩
        have e6 : IntKind.i64.wrap (y * 1117) = y * 1117 := IntWalk.i64_in _ ⟨by omega, by omega⟩
        have e7 : IntKind.i64.wrap (x * 131 + y * 1117) = x * 131 + y * 1117 := IntWalk.i64_in _ ⟨by omega, by omega⟩
        have e8 : IntKind.i64.wrap ((p : Int) * 29) = (p : Int) * 29 := IntWalk.i64_in _ ⟨by omega, by omega⟩
        have e9 : IntKind.i64.wrap (x * 131 + y * 1117 + (p : Int) * 29) = x * 131 + y * 1117 + (p : Int) * 29 := IntWalk.i64_in _ ⟨by omega, by omega⟩
        have i1 : (m1 : Int) < (L : Int) := by omega
        have i2 : (m2 : Int) < (L : Int) := by omega
        have hqi : (p : Int) / (L : Int) = (q : Int) := by rw [hqe, Int.natCast_ediv]
        have HQ := Lib.hid hqi
        clear hm1e hm2e hqe hqi
        clear h0 hk
        go_enter Try.func45, Try.ntmps45
        go_wp2
        go_quiet (fail)
        go_wp2
        go_ret
        refine ⟨_, rfl, pick_mix _ _ _ _ _ _ ⟨hx1, hx2⟩ ⟨hy1, hy2⟩ ⟨by omega, by omega⟩ HQ.out ⟨by omega, by omega⟩ (by omega), ?_, ?_, ?_⟩
        · exact ⟨HS.out.blk, HS.out.bytes, HS.out.range, HS.out.len, HS.out.apart⟩
        · exact (Upd.set _ _ _ _).n _
        · exact size_set _ _ _

end Go.Proofs.Ytjggcojbgkpooaa
