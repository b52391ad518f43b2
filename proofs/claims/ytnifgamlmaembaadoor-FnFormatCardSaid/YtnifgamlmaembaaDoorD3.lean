import Derived.Test.YtnifgamlmaembaaDoorOA
import Derived.Deep.QuietTactic
import Derived.BigQuiet
import Derived.Test.YtnifgamlmaembaaDoorP2
namespace Go.Proofs.YtnifgamlmaembaaDoor
set_option linter.unusedVariables false
set_option linter.unusedSimpArgs false
open Go.RowKit

/-! The reader of a code. -/

def u8s (xs : List Int) : List Value := xs.map (Value.int .u8)
@[simp] theorem u8s_length (xs : List Int) : (u8s xs).length = xs.length := by simp [u8s]

/-- The reader behind block B: its bytes and its position. -/
structure Rd (w : World) (B : Nat) (s : Option Addr) (c : Nat) (xs : List Int) (p : Nat) : Prop where
  blk : w.heap[B]? = some (.cells #[.slice s xs.length c, .int .i64 (p : Int)] 93 (0, 0))
  bytes : Sl w s (u8s xs)
  range : ∀ x ∈ xs, 0 ≤ x ∧ x ≤ 255
  len : xs.length ≤ 2000
  apart : ∀ a, s = some a → xs ≠ [] → a.block < B

/-- Only block B may have been written. -/
def Upd (B : Nat) (w w' : World) : Prop := w.grownBy w' (some B)

theorem Upd.refl (B : Nat) (w : World) : Upd B w w := World.grownBy.refl w _
theorem Upd.trans {B : Nat} {a b c : World} (h : Upd B a b) (k : Upd B b c) : Upd B a c := World.grownBy.trans h k
theorem Upd.set (B o : Nat) (w : World) (v : Value) : Upd B w (w.setCell ⟨B, o, none⟩ v) :=
  ⟨rfl, rfl, rfl, by rw [size_set]; exact Nat.le_refl _, fun k _ hne => Below.heap_setCell _ _ _ _ (by intro e; apply hne; simp [e])⟩
theorem Upd.n {B : Nat} {w w' : World} (h : Upd B w w') (n : Nat) : Upd B w (w'.drewN n) := ⟨h.os, h.tape, h.output, h.size, h.block⟩
theorem Upd.below {B : Nat} {w w' : World} (h : Upd B w w') {b : Nat} (hB : b ≤ B) (hs : b ≤ w.heap.size) : Below b w w' :=
  ⟨h.os, h.tape, h.output, h.size, fun k hk => h.block k (by omega) (by simp; omega)⟩
theorem Upd.of_below {B : Nat} {w w' : World} (h : Below w.heap.size w w') : Upd B w w' := ⟨h.os, h.tape, h.output, h.size, fun k hk _ => h.block k hk⟩

theorem Rd.setp {w : World} {B : Nat} {s : Option Addr} {c : Nat} {xs : List Int} {p q : Nat} (h : Rd w B s c xs p) : Rd (w.setCell ⟨B, 1, none⟩ (.int .i64 (q : Int))) B s c xs q := by
  refine ⟨by simpa using blk_set (o := 1) (v := .int .i64 (q : Int)) h.blk, ?_, h.range, h.len, h.apart⟩
  refine h.bytes.mono' (B := B) (fun a ha hne => h.apart a ha (by intro e; subst e; simp [u8s] at hne)) ?_
  exact (Below.refl B w).setCell (p := ⟨B, 1, none⟩) (Nat.le_refl _) _

theorem Sl.u8 {w wr : World} {s : Option Addr} {xs : List Int} {B : Nat} (h : Sl w s (u8s xs)) (hB : ∀ a, s = some a → xs ≠ [] → a.block < B) (hbl : Below B w wr) {k : Nat} {x : Int} (hx : xs[k]? = some x) :
    ∃ b off, s = some ⟨b, off, none⟩ ∧ wr.cell? ⟨b, off + k, none⟩ = some (.int .u8 x) := by
  have hlt : k < xs.length := (List.getElem?_eq_some_iff.1 hx).1
  obtain ⟨b, off, rfl, hbw, hcs⟩ := h.at (k := k) (by simpa using hlt)
  have := hB _ rfl (by intro e; subst e; simp at hlt)
  exact ⟨b, off, rfl, by rw [hbl.cell (by exact this)]; exact hcs _ _ (by simp [u8s, hx])⟩

/-- A number that was picked out of n. -/
def Picked (n k : Int) : Prop := 0 ≤ k ∧ (k < n ∨ k = 0)

theorem xor_i64 (a b : Nat) (ha : a < 9223372036854775808) (hb : b < 9223372036854775808) : bits .xor .i64 (a : Int) (b : Int) = ((a ^^^ b : Nat) : Int) := by
  have hx : a ^^^ b < 2 ^ 63 := Nat.xor_lt_two_pow (by omega) (by omega)
  have h1 : (BitVec.ofInt 64 (a : Int)).toNat = a := by
    rw [BitVec.ofInt_natCast, BitVec.toNat_ofNat]; exact Nat.mod_eq_of_lt (by omega)
  have h2 : (BitVec.ofInt 64 (b : Int)).toNat = b := by
    rw [BitVec.ofInt_natCast, BitVec.toNat_ofNat]; exact Nat.mod_eq_of_lt (by omega)
  show IntKind.i64.wrap ((BitVec.ofInt 64 (a : Int) ^^^ BitVec.ofInt 64 (b : Int)).toNat : Int) = _
  rw [BitVec.toNat_xor, h1, h2, IntKind.wrap_i64]
  omega

theorem xor_nonneg {a b : Int} (ha : 0 ≤ a) (ha2 : a < 9223372036854775808) (hb : 0 ≤ b) (hb2 : b < 9223372036854775808) : 0 ≤ bits .xor .i64 a b := by
  obtain ⟨x, rfl⟩ : ∃ x : Nat, a = x := ⟨a.toNat, by omega⟩
  obtain ⟨y, rfl⟩ : ∃ y : Nat, b = y := ⟨b.toNat, by omega⟩
  rw [xor_i64 x y (by omega) (by omega)]
  omega

/-- What the mixture ends in. -/
theorem pick_mix (x y p L q n : Int) (hx : 0 ≤ x ∧ x ≤ 255) (hy : 0 ≤ y ∧ y ≤ 255) (hp : 0 ≤ p ∧ p ≤ 1000000000000) (hq : p / L = q) (hq2 : 0 ≤ q ∧ q ≤ p) (hn : 1 ≤ n) :
    Picked n ((bits .xor .i64 (wrap64 (x * 131 + y * 1117 + p * 29 + wrap64 (wrap64 (p / L) * 53))) (wrap64 ((wrap64 (x * 131 + y * 1117 + p * 29 + wrap64 (wrap64 (p / L) * 53))).tdiv 64))).tmod n) := by
  rw [hq]
  have e1 : wrap64 q = q := IntWalk.wrap64_in q ⟨by omega, by omega⟩
  rw [e1]
  have e2 : wrap64 (q * 53) = q * 53 := IntWalk.wrap64_in _ ⟨by omega, by omega⟩
  rw [e2]
  have e3 : wrap64 (x * 131 + y * 1117 + p * 29 + q * 53) = x * 131 + y * 1117 + p * 29 + q * 53 := IntWalk.wrap64_in _ ⟨by omega, by omega⟩
  rw [e3]
  generalize hz : x * 131 + y * 1117 + p * 29 + q * 53 = z
  have h0 : 0 ≤ z := by omega
  have h1 : z ≤ 1000000000000000 := by omega
  have e4 : z.tdiv 64 = z / 64 := Int.tdiv_eq_ediv_of_nonneg h0
  rw [e4]
  have e5 : wrap64 (z / 64) = z / 64 := IntWalk.wrap64_in _ ⟨by omega, by omega⟩
  rw [e5]
  have hb := xor_nonneg (a := z) (b := z / 64) h0 (by omega) (by omega) (by omega)
  generalize bits .xor .i64 z (z / 64) = t at hb
  exact ⟨Int.tmod_nonneg _ hb, .inl (Int.tmod_lt_of_pos _ (by omega))⟩

set_option maxRecDepth 100000 in
set_option maxHeartbeats 800000 in
theorem pick_any (B : Nat) (s : Option Addr) (c : Nat) (xs : List Int) (p : Nat) (n : Int) (w : World) (h : Rd w B s c xs p) (hp : p ≤ 1000000000000) (hn : n ≤ 1000000000) :
    Calls Tryd.prog 47 #[.pointer (some ⟨B, 0, none⟩), .int .i64 n] w fun e w' => ∃ k : Int, e = .returned (.int .i64 k) ∧ Picked n k ∧ Rd w' B s c xs (p + 1) ∧ Upd B w w' ∧ w'.heap.size = w.heap.size := by
  have HR := Lib.hid h
  have hc0 : w.cell? ⟨B, 0, none⟩ = some (.slice s xs.length c) := blk_cell h.blk
  have hc1 : w.cell? ⟨B, 1, none⟩ = some (.int .i64 (p : Int)) := blk_cell h.blk
  have hf : w.frozen? ⟨B, 1, none⟩ = false := blk_free h.blk
  have hl : xs.length ≤ 2000 := h.len
  have HS : Hid (Rd (w.setCell ⟨B, 1, none⟩ (.int .i64 ((p : Int) + 1))) B s c xs (p + 1)) := by
    have h2 := h.setp (q := p + 1)
    have e : ((p + 1 : Nat) : Int) = (p : Int) + 1 := by omega
    rw [e] at h2
    exact h2
  clear h
  by_cases h1 : n < 1
  · go_enter Tryd.func47, Tryd.ntmps47
    go_wp2
    go_ret
    exact ⟨0, rfl, ⟨by omega, .inr rfl⟩, HS.out, Upd.set _ _ _ _, size_set _ _ _⟩
  · by_cases h0 : xs.length = 0
    · obtain rfl : xs = [] := List.eq_nil_of_length_eq_zero h0
      simp only [List.length_nil] at hc0
      clear h0 hl
      go_enter Tryd.func47, Tryd.ntmps47
      go_wp2
      go_ret
      exact ⟨0, rfl, ⟨by omega, .inr rfl⟩, HS.out, Upd.set _ _ _ _, size_set _ _ _⟩
    · have hb0 : ((xs.length : Int) == 0) = false := beq_eq_false_iff_ne.2 (by omega)
      have hbel : Hid (Below B w (w.setCell ⟨B, 1, none⟩ (.int .i64 ((p : Int) + 1)))) := (Below.refl B w).setCell (p := ⟨B, 1, none⟩) (Nat.le_refl _) _
      by_cases hk : p < xs.length
      · obtain ⟨x, hx⟩ := get_of_lt (l := xs) (k := p) hk
        have hxr := HR.out.range x (List.mem_of_getElem? hx)
        obtain ⟨b, off, rfl, hz⟩ := HR.out.bytes.u8 HR.out.apart hbel.out hx
        clear hx h0
        go_enter Tryd.func47, Tryd.ntmps47
        go_wp2
        go_ret
        refine ⟨_, rfl, ⟨?_, .inl ?_⟩, HS.out, Upd.set _ _ _ _, size_set _ _ _⟩
        · first | exact Int.emod_nonneg _ (by omega) | exact Int.tmod_nonneg _ (by omega)
        · first | exact Int.emod_lt_of_pos _ (by omega) | exact Int.tmod_lt_of_pos _ (by omega)
      · obtain ⟨m1, hm1e⟩ : ∃ m, m = p % xs.length := ⟨_, rfl⟩
        obtain ⟨m2, hm2e⟩ : ∃ m, m = (p * 7 + 3) % xs.length := ⟨_, rfl⟩
        obtain ⟨q, hqe⟩ : ∃ m, m = p / xs.length := ⟨_, rfl⟩
        have hm1 : m1 < xs.length := by rw [hm1e]; exact Nat.mod_lt _ (by omega)
        have hm2 : m2 < xs.length := by rw [hm2e]; exact Nat.mod_lt _ (by omega)
        have hqp : q ≤ p := by rw [hqe]; exact Nat.div_le_self _ _
        obtain ⟨x, hx⟩ := get_of_lt (l := xs) hm1
        obtain ⟨y, hy⟩ := get_of_lt (l := xs) hm2
        have hxr := HR.out.range x (List.mem_of_getElem? hx)
        have hyr := HR.out.range y (List.mem_of_getElem? hy)
        obtain ⟨b, off, rfl, hz⟩ := HR.out.bytes.u8 HR.out.apart hbel.out hx
        obtain ⟨b', off', hbb, hz2⟩ := HR.out.bytes.u8 HR.out.apart hbel.out hy
        simp only [Option.some.injEq, Addr.mk.injEq, and_true] at hbb
        obtain ⟨rfl, rfl⟩ := hbb
        clear hx hy
        generalize xs.length = L at hc0 hl h0 hb0 hk hm1 hm2 hz hz2 hm1e hm2e hqe
        have hL1 : (1 : Int) ≤ (L : Int) := by omega
        have hLk : (L : Int) ≤ (p : Int) := by omega
        have hL0 : L ≠ 0 := h0
        have hx1 := hxr.1
        have hx2 := hxr.2
        have hy1 := hyr.1
        have hy2 := hyr.2
        have e1' : (p : Int).tmod (L : Int) = (m1 : Int) := by
          rw [Int.tmod_eq_emod_of_nonneg (by omega), ← Int.natCast_emod, ← hm1e]
        have e4' : ((p : Int) * 7 + 3).tmod (L : Int) = (m2 : Int) := by
          rw [Int.tmod_eq_emod_of_nonneg (by omega), show (p : Int) * 7 + 3 = ((p * 7 + 3 : Nat) : Int) from by omega, ← Int.natCast_emod, ← hm2e]
        have e2 : IntKind.i64.wrap ((p : Int) * 7) = (p : Int) * 7 := IntWalk.i64_in _ ⟨by omega, by omega⟩
        have e3 : IntKind.i64.wrap ((p : Int) * 7 + 3) = (p : Int) * 7 + 3 := IntWalk.i64_in _ ⟨by omega, by omega⟩
        have e5 : IntKind.i64.wrap (x * 131) = x * 131 := IntWalk.i64_in _ ⟨by omega, by omega⟩
        have e6 : IntKind.i64.wrap (y * 1117) = y * 1117 := IntWalk.i64_in _ ⟨by omega, by omega⟩
        have e7 : IntKind.i64.wrap (x * 131 + y * 1117) = x * 131 + y * 1117 := IntWalk.i64_in _ ⟨by omega, by omega⟩
        have e8 : IntKind.i64.wrap ((p : Int) * 29) = (p : Int) * 29 := IntWalk.i64_in _ ⟨by omega, by omega⟩
        have e9 : IntKind.i64.wrap (x * 131 + y * 1117 + (p : Int) * 29) = x * 131 + y * 1117 + (p : Int) * 29 := IntWalk.i64_in _ ⟨by omega, by omega⟩
        have i1 : (m1 : Int) < (L : Int) := by omega
        have i2 : (m2 : Int) < (L : Int) := by omega
        have hqi : (p : Int) / (L : Int) = (q : Int) := by rw [hqe, Int.natCast_ediv]
        have HQ := Lib.hid hqi
        clear hm1e hm2e hqe hqi
        clear h0 hk
        go_enter Tryd.func47, Tryd.ntmps47
        go_wp2
        go_quiet (fail)
        go_wp2
        go_ret
        refine ⟨_, rfl, pick_mix _ _ _ _ _ _ ⟨hx1, hx2⟩ ⟨hy1, hy2⟩ ⟨by omega, by omega⟩ HQ.out ⟨by omega, by omega⟩ (by omega), ?_, ?_, ?_⟩
        · exact ⟨HS.out.blk, HS.out.bytes, HS.out.range, HS.out.len, HS.out.apart⟩
        · exact (Upd.set _ _ _ _).n _
        · exact size_set _ _ _

theorem Rd.drewN {w : World} {B : Nat} {s : Option Addr} {c : Nat} {xs : List Int} {p : Nat} (h : Rd w B s c xs p) (n : Nat) : Rd (w.drewN n) B s c xs p := ⟨h.blk, h.bytes, h.range, h.len, h.apart⟩

theorem Rd.mono {w w' : World} {B : Nat} {s : Option Addr} {c : Nat} {xs : List Int} {p : Nat} (h : Rd w B s c xs p) (hb : Below w.heap.size w w') : Rd w' B s c xs p :=
  ⟨blk_below hb (blk_lt h.blk) h.blk, h.bytes.mono hb, h.range, h.len, h.apart⟩

/-- What has grown but for a row of the call's own, which lies behind the reader. -/
theorem Rd.grown {w w' : World} {B b : Nat} {s : Option Addr} {c : Nat} {xs : List Int} {p : Nat} (h : Rd w B s c xs p) (hb : Below b w w') (hB : B < b) : Rd w' B s c xs p :=
  ⟨blk_below hb hB h.blk, h.bytes.mono' (B := B) (fun a ha hne => h.apart a ha (by intro e; subst e; simp [u8s] at hne)) (hb.mono (by omega)), h.range, h.len, h.apart⟩

theorem Upd.grown {B b : Nat} {w w' : World} (hb : Below b w w') (hB : ∀ k, b ≤ k → k < w.heap.size → k = B ∨ w'.heap[k]? = w.heap[k]?) : Upd B w w' :=
  ⟨hb.os, hb.tape, hb.output, hb.size, fun k hk hne => by
    by_cases h : k < b
    · exact hb.block k h
    · rcases hB k (by omega) hk with rfl | h2
      · exact absurd rfl hne
      · exact h2⟩

def OddPost (B : Nat) (s : Option Addr) (c : Nat) (xs : List Int) (p : Nat) (w : World) (e : Ending) (w' : World) : Prop :=
  ∃ (b : Bool) (p' : Nat), e = .returned (.bool b) ∧ p' ≤ p + 1 ∧ Rd w' B s c xs p' ∧ Upd B w w' ∧ w'.heap.size = w.heap.size

set_option maxHeartbeats 400000 in
theorem odd_any (B : Nat) (s : Option Addr) (c : Nat) (xs : List Int) (p : Nat) (n : Int) (w : World) (h : Rd w B s c xs p) (hp : p ≤ 1000000000000) (hn : -1000 ≤ n) (hn2 : n ≤ 1000000000) :
    Calls Tryd.prog 64 #[.pointer (some ⟨B, 0, none⟩), .int .i64 n] w (OddPost B s c xs p w) := by
  by_cases hc : n > 0
  · go_enter Tryd.func64, Tryd.ntmps64
    go_wp2_with (go_at_call 47; ((with_reducible refine (pick_any _ _ _ _ _ _ _ h hp hn2).mono ?_); rintro e w' ⟨k, rfl, hk1, hk2, hk3, hk4⟩; have HK := Lib.hid (And.intro hk1 (And.intro hk2 (And.intro hk3 hk4))); clear hk1 hk2 hk3 hk4))
    go_ret
    exact ⟨_, _, rfl, Nat.le_refl _, HK.out.2.1, HK.out.2.2.1, HK.out.2.2.2⟩
  · go_enter Tryd.func64, Tryd.ntmps64
    go_wp2
    go_ret
    exact ⟨_, p, rfl, by omega, h, Upd.refl _ _, rfl⟩

set_option maxHeartbeats 400000 in
theorem l20Open_any (s : Option Addr) (cap : Nat) (xs : List Int) (w : World) (hs : Sl w s (u8s xs)) (hl : xs.length ≤ 1048576) (hcap : xs.length ≤ cap) (hcap2 : cap ≤ 9223372036854775807) (hr : ∀ x ∈ xs, 0 ≤ x ∧ x ≤ 255) :
    Calls Tryd.prog 46 #[.slice s xs.length cap] w fun e w' => ∃ c, e = .returned (.pointer (some ⟨w.heap.size, 0, none⟩)) ∧ Rd w' w.heap.size s c (xs.take 2000) 0 ∧ Below w.heap.size w w' ∧ w'.heap.size = w.heap.size + 1 := by
  have HS := Lib.hid (And.intro hs hr)
  clear hs hr
  have hap : Hid (∀ a, s = some a → xs.take 2000 ≠ [] → a.block < w.heap.size) := fun a ha hne => by
    obtain ⟨b, off, rfl, hb, _⟩ := HS.out.1.at (k := 0) (by rw [u8s_length]; cases xs <;> simp at *)
    cases ha; exact hb
  have hsl : Hid (Sl w s (u8s (xs.take 2000))) := by
    rcases HS.out.1 with h | ⟨b, off, rfl, h⟩
    · left; simp [u8s] at h; simp [u8s, h]
    · right
      refine ⟨b, off, rfl, fun j v hv => h j v ?_⟩
      simp only [u8s, List.getElem?_map, List.getElem?_take] at hv ⊢
      split at hv
      · exact hv
      · simp at hv
  by_cases hc : xs.length ≤ 2000
  · have e : xs.take 2000 = xs := List.take_of_length_le hc
    have HE := Lib.hid e
    clear e
    go_enter Tryd.func46, Tryd.ntmps46
    go_wp2
    go_ret
    have e := HE.out
    refine ⟨cap, rfl, ⟨?_, hsl.out.mono ((Below.refl _ _).alloc (Nat.le_refl _) _), fun x hx => HS.out.2 x (List.mem_of_mem_take hx), by rw [e]; exact hc, hap.out⟩, (Below.refl _ _).alloc (Nat.le_refl _) _, by simp⟩
    rw [e]; exact blk_new _ _
  · have e : (xs.take 2000).length = 2000 := by rw [List.length_take]; omega
    have HE := Lib.hid e
    clear e
    go_enter Tryd.func46, Tryd.ntmps46
    go_wp2
    go_ret
    have e := HE.out
    refine ⟨cap, rfl, ⟨?_, hsl.out.mono ((Below.refl _ _).alloc (Nat.le_refl _) _), fun x hx => HS.out.2 x (List.mem_of_mem_take hx), by rw [e]; exact Nat.le_refl _, hap.out⟩, (Below.refl _ _).alloc (Nat.le_refl _) _, by simp⟩
    rw [e]; exact blk_new _ _

/-- Below b nothing has turned but block B. -/
structure Kp (B b : Nat) (w w' : World) : Prop where
  os : w'.os = w.os
  tape : w'.tape = w.tape
  output : w'.output = w.output
  size : w.heap.size ≤ w'.heap.size
  block : ∀ k, k < b → k ≠ B → w'.heap[k]? = w.heap[k]?

theorem Kp.refl (B b : Nat) (w : World) : Kp B b w w := ⟨rfl, rfl, rfl, Nat.le_refl _, fun _ _ _ => rfl⟩
theorem Kp.trans {B b : Nat} {x y z : World} (h : Kp B b x y) (k : Kp B b y z) : Kp B b x z :=
  ⟨k.os.trans h.os, k.tape.trans h.tape, k.output.trans h.output, Nat.le_trans h.size k.size, fun i hi hn => (k.block i hi hn).trans (h.block i hi hn)⟩
theorem Kp.mono {B b b' : Nat} {w w' : World} (h : Kp B b w w') (hb : b' ≤ b) : Kp B b' w w' := ⟨h.os, h.tape, h.output, h.size, fun k hk hn => h.block k (by omega) hn⟩
theorem Kp.of_below {B b : Nat} {w w' : World} (h : Below b w w') : Kp B b w w' := ⟨h.os, h.tape, h.output, h.size, fun k hk _ => h.block k hk⟩
theorem Kp.of_upd {B b : Nat} {w w' : World} (h : Upd B w w') (hb : b ≤ w.heap.size) : Kp B b w w' := ⟨h.os, h.tape, h.output, h.size, fun k hk hn => h.block k (by omega) (by simp; exact hn)⟩
theorem Kp.below {B b b' : Nat} {w w' : World} (h : Kp B b w w') (h1 : b' ≤ B) (h2 : b' ≤ b) : Below b' w w' := ⟨h.os, h.tape, h.output, h.size, fun k hk => h.block k (by omega) (by omega)⟩
theorem Kp.alloc {B b : Nat} {w w' : World} (h : Kp B b w w') (hb : b ≤ w.heap.size) (o : Obj) : Kp B b w (w'.alloc o) :=
  h.trans (Kp.of_below ((Below.refl _ _).alloc (Nat.le_trans hb h.size) o))

theorem own_kp {w w' : World} {base B b : Nat} {e : TypeId} {size : Nat} {v : Value} {n : Nat} {xs : List Value} (h : w.ownsRow base e size v n xs) (hB : B < base) (hb : ∀ k, v.ownBlock = some k → k < b) (hk : Kp B b w w') : w'.ownsRow base e size v n xs := by
  refine ⟨h.1, ?_⟩
  rcases h.2 with hn | ⟨g, cap, cur, rfl, hb', hg, rest⟩
  · exact .inl hn
  · exact .inr ⟨g, cap, cur, rfl, hb', by rw [hk.block g (hb g rfl) (by omega)]; exact hg, rest⟩

/-- Two owned rows of different element types lie in different blocks. -/
theorem own_ne {w : World} {base base' : Nat} {e e' : TypeId} {size size' : Nat} {v v' : Value} {n n' : Nat} {xs xs' : List Value} (h : w.ownsRow base e size v n xs) (h' : w.ownsRow base' e' size' v' n' xs') (he : e ≠ e') {k : Nat} (hk : v.ownBlock = some k) : v'.ownBlock ≠ some k := by
  intro hk'
  rcases h.2 with ⟨rfl, _⟩ | ⟨g, cap, cur, rfl, _, hg, _⟩
  · cases hk
  · rcases h'.2 with ⟨rfl, _⟩ | ⟨g', cap', cur', rfl, _, hg', _⟩
    · cases hk'
    · simp only [Value.ownBlock, Option.some.injEq] at hk hk'
      subst hk; subst hk'
      rw [hg] at hg'
      simp only [Option.some.injEq, Obj.cells.injEq] at hg'
      exact he hg'.2.1

/-- OwnSS, its rows below hi. -/
def OwnB (w : World) (base hi : Nat) (v : Value) (rows : List (List Int)) : Prop :=
  ∃ vs : List Value, w.ownsRow base 22 1 v rows.length vs ∧ (∀ (i : Nat) (r : List Int), rows[i]? = some r → ∃ u, vs[i]? = some u ∧ w.ownsRow base 3 1 u r.length (ints r) ∧ ∀ k, u.ownBlock = some k → k < hi) ∧
    (∀ (i j : Nat) (u u' : Value) (k : Nat), vs[i]? = some u → vs[j]? = some u' → u.ownBlock = some k → u'.ownBlock = some k → i = j) ∧ ∀ k, v.ownBlock = some k → k < hi
theorem OwnB.ss {w : World} {base hi : Nat} {v : Value} {rows : List (List Int)} (h : OwnB w base hi v rows) : OwnSS w base v rows := by
  obtain ⟨vs, h1, h2, h3, _⟩ := h
  exact ⟨vs, h1, fun i r hr => let ⟨u, hu, ho, _⟩ := h2 i r hr; ⟨u, hu, ho⟩, h3⟩
theorem OwnB.up {w : World} {base hi hi' : Nat} {v : Value} {rows : List (List Int)} (h : OwnB w base hi v rows) (hh : hi ≤ hi') : OwnB w base hi' v rows := by
  obtain ⟨vs, h1, h2, h3, h4⟩ := h
  exact ⟨vs, h1, fun i r hr => let ⟨u, hu, ho, hk⟩ := h2 i r hr; ⟨u, hu, ho, fun k e => by have := hk k e; omega⟩, h3, fun k e => by have := h4 k e; omega⟩
theorem OwnB.kp {w w' : World} {base hi B b : Nat} {v : Value} {rows : List (List Int)} (h : OwnB w base hi v rows) (hB : B < base) (hb : hi ≤ b) (hk : Kp B b w w') : OwnB w' base hi v rows := by
  obtain ⟨vs, h1, h2, h3, h4⟩ := h
  exact ⟨vs, own_kp h1 hB (fun k e => by have := h4 k e; omega) hk, fun i r hr => let ⟨u, hu, ho, hl⟩ := h2 i r hr; ⟨u, hu, own_kp ho hB (fun k e => by have := hl k e; omega) hk, hl⟩, h3, h4⟩
theorem OwnB.nil (w : World) (base hi : Nat) : OwnB w base hi (.slice none 0 0) [] :=
  ⟨[], World.ownsRow_nil _ _ _ _, by simp, by simp, fun k e => by cases e⟩

/-- What an append of one row leaves. -/
theorem OwnB.push {w w1 : World} {base b1 : Nat} {v : Value} {rows : List (List Int)} {u : Value} {r : List Int} {vs : List Value} {s' : Option Addr} {c' : Nat} {x : Obj}
    (h : OwnB w base b1 v rows) (hu : w.ownsRow b1 3 1 u r.length (ints r)) (hb1 : base ≤ b1) (hv : w.ownsRow base 22 1 v rows.length vs)
    (hn : w1.ownsRow base 22 1 (.slice s' (rows.length + 1) c') (rows.length + 1) (vs ++ [u])) (hg : (w.alloc x).grownBy w1 v.ownBlock) (hlt : ∀ k, (Value.slice s' (rows.length + 1) c').ownBlock = some k → k < w1.heap.size) :
    OwnB w1 base w1.heap.size (.slice s' (rows.length + 1) c') (rows ++ [r]) := by
  obtain ⟨vs', h1, h2, h3, h4⟩ := h
  have hvs : vs' = vs := by
    rcases h1.2 with ⟨e, h0⟩ | ⟨g, cap, cur, e, _, hgg, _, _, _, ht⟩
    · have l1 := h1.1; have l2 := hv.1
      rw [h0] at l1 l2
      have n1 : vs' = [] := List.eq_nil_of_length_eq_zero (by simpa using l1)
      have n2 : vs = [] := List.eq_nil_of_length_eq_zero (by simpa using l2)
      rw [n1, n2]
    · rcases hv.2 with ⟨e', h0⟩ | ⟨g', cap', cur', e', _, hgg', _, _, _, ht'⟩
      · rw [e] at e'; simp at e'
      · rw [e] at e'
        simp only [Value.slice.injEq, Option.some.injEq, Addr.mk.injEq, and_true, true_and] at e'
        obtain ⟨rfl, rfl⟩ := e'
        rw [hgg] at hgg'
        simp only [Option.some.injEq, Obj.cells.injEq] at hgg'
        rw [← ht, ← ht', hgg'.1]
  subst hvs
  have hsz := hg.size
  simp only [World.size_alloc] at hsz
  have keep : ∀ {bb : Nat} {q : Value} {n : Nat} {xs : List Value}, w.ownsRow bb 3 1 q n xs → w1.ownsRow bb 3 1 q n xs := fun {bb q n xs} ho => by
    refine (ho.alloc x).kept hg ?_
    cases hq : q.ownBlock with
    | none => exact .inl rfl
    | some k => right; rw [← hq]; intro e; exact own_ne ho h1 (by decide) hq (e ▸ hq)
  have hlen : vs'.length = rows.length := by simpa using h1.1
  refine ⟨vs' ++ [u], by simpa using hn, ?_, ?_, hlt⟩
  · intro i r' hr'
    by_cases hi : i < rows.length
    · rw [List.getElem?_append_left hi] at hr'
      obtain ⟨q, hq, ho, hk⟩ := h2 i r' hr'
      exact ⟨q, by rw [List.getElem?_append_left (by omega)]; exact hq, keep ho, fun k e => by have := (own_blk ho e).2; omega⟩
    · have hi2 : i = rows.length := by
        have := (List.getElem?_eq_some_iff.1 hr').1
        simp at this; omega
      subst hi2
      simp at hr'; subst hr'
      exact ⟨u, by rw [← hlen]; simp, keep (own_base hu hb1), fun k e => by have := (own_blk hu e).2; omega⟩
  · have new : ∀ (i : Nat) (q : Value), (vs' ++ [u])[i]? = some q → (i < rows.length ∧ vs'[i]? = some q) ∨ (i = rows.length ∧ q = u) := fun i q hq => by
      by_cases hi : i < rows.length
      · rw [List.getElem?_append_left (by omega)] at hq; exact .inl ⟨hi, hq⟩
      · have := (List.getElem?_eq_some_iff.1 hq).1
        simp at this
        have hi2 : i = vs'.length := by omega
        subst hi2
        simp at hq
        exact .inr ⟨by omega, hq.symm⟩
    have old : ∀ (i : Nat) (q : Value) (k : Nat), i < rows.length → vs'[i]? = some q → q.ownBlock = some k → k < b1 := fun i q k hi hq e => by
      obtain ⟨r', hr'⟩ := get_of_lt (l := rows) (k := i) hi
      obtain ⟨q', hq', _, hk⟩ := h2 i r' hr'
      rw [hq] at hq'; cases hq'
      exact hk k e
    intro i j q q' k hq hq' e e'
    rcases new i q hq with ⟨hi, h5⟩ | ⟨hi, rfl⟩ <;> rcases new j q' hq' with ⟨hj, h6⟩ | ⟨hj, rfl⟩
    · exact h3 i j q q' k h5 h6 e e'
    · have := old i q k hi h5 e; have := (own_blk hu e').1; omega
    · have := old j q' k hj h6 e'; have := (own_blk hu e).1; omega
    · omega

end Go.Proofs.YtnifgamlmaembaaDoor
