import Derived.Test.YtjecchljhdfjdaaZZ2L4
import Derived.Test.YtjecchljhdfjdaaZZ2S1
import Derived.Test.YtjecchljhdfjdaaZZ2RA
import Derived.Test.YtjecchljhdfjdaaZZ2Q1
import Derived.Test.YtjecchljhdfjdaaZZ2OA
import Derived.Deep.QuietTactic
import Derived.BigQuiet
import Derived.Laws.BytesArg
import Derived.Deep.RegionHeld3
namespace Go.Proofs.Ytjecchljhdfjdaa
set_option linter.unusedVariables false
set_option linter.unusedSimpArgs false
open Go.RowKit

/-! Part of the proof of one law. -/

def u8s (xs : List Int) : List Value := xs.map (Value.int .u8)

@[simp] theorem u8s_length (xs : List Int) : (u8s xs).length = xs.length := by simp [u8s]

/-- The reader behind block B: its bytes and its position. -/
structure Rd (w : World) (B : Nat) (s : Option Addr) (c : Nat) (xs : List Int) (p : Nat) : Prop where
  blk : w.heap[B]? = some (.cells #[.slice s xs.length c, .int .i64 (p : Int)] 103 (0, 0))
  bytes : Sl w s (u8s xs)
  range : ∀ x ∈ xs, 0 ≤ x ∧ x ≤ 255
  len : xs.length ≤ 2000
  apart : ∀ a, s = some a → xs ≠ [] → a.block < B

/-- Only block B may have been written. -/
def Upd (B : Nat) (w w' : World) : Prop := w.grownBy w' (some B)

theorem Upd.refl (B : Nat) (w : World) : Upd B w w := World.grownBy.refl w _

theorem Upd.trans {B : Nat} {a b c : World} (h : Upd B a b) (k : Upd B b c) : Upd B a c := World.grownBy.trans h k

theorem Upd.set (B o : Nat) (w : World) (v : Value) : Upd B w (w.setCell ⟨B, o, none⟩ v) :=
  ⟨rfl, rfl, rfl, by rw [size_set]; exact Nat.le_refl _, fun k _ hne => Below.heap_setCell _ _ _ _ (by intro e; apply hne; simp [e])⟩

theorem Upd.n {B : Nat} {w w' : World} (h : Upd B w w') (n : Nat) : Upd B w (w'.drewN n) := ⟨h.os, h.tape, h.output, h.size, h.block⟩

theorem Upd.below {B : Nat} {w w' : World} (h : Upd B w w') {b : Nat} (hB : b ≤ B) (hs : b ≤ w.heap.size) : Below b w w' :=
  ⟨h.os, h.tape, h.output, h.size, fun k hk => h.block k (by omega) (by simp; omega)⟩

theorem Upd.of_below {B : Nat} {w w' : World} (h : Below w.heap.size w w') : Upd B w w' := ⟨h.os, h.tape, h.output, h.size, fun k hk _ => h.block k hk⟩

theorem Rd.setp {w : World} {B : Nat} {s : Option Addr} {c : Nat} {xs : List Int} {p q : Nat} (h : Rd w B s c xs p) : Rd (w.setCell ⟨B, 1, none⟩ (.int .i64 (q : Int))) B s c xs q := by
  refine ⟨by simpa using blk_set (o := 1) (v := .int .i64 (q : Int)) h.blk, ?_, h.range, h.len, h.apart⟩
  refine h.bytes.mono' (B := B) (fun a ha hne => h.apart a ha (by intro e; subst e; simp [u8s] at hne)) ?_
  exact (Below.refl B w).setCell (p := ⟨B, 1, none⟩) (Nat.le_refl _) _

theorem Sl.u8 {w wr : World} {s : Option Addr} {xs : List Int} {B : Nat} (h : Sl w s (u8s xs)) (hB : ∀ a, s = some a → xs ≠ [] → a.block < B) (hbl : Below B w wr) {k : Nat} {x : Int} (hx : xs[k]? = some x) :
    ∃ b off, s = some ⟨b, off, none⟩ ∧ wr.cell? ⟨b, off + k, none⟩ = some (.int .u8 x) := by
  have hlt : k < xs.length := (List.getElem?_eq_some_iff.1 hx).1
  obtain ⟨b, off, rfl, hbw, hcs⟩ := h.at (k := k) (by simpa using hlt)
  have := hB _ rfl (by intro e; subst e; simp at hlt)
  exact ⟨b, off, rfl, by rw [hbl.cell (by exact this)]; exact hcs _ _ (by simp [u8s, hx])⟩

/-- A number that was picked out of n. -/
def Picked (n k : Int) : Prop := 0 ≤ k ∧ (k < n ∨ k = 0)

theorem xor_i64 (a b : Nat) (ha : a < 9223372036854775808) (hb : b < 9223372036854775808) : bits .xor .i64 (a : Int) (b : Int) = ((a ^^^ b : Nat) : Int) := by
  have hx : a ^^^ b < 2 ^ 63 := Nat.xor_lt_two_pow (by omega) (by omega)
  have h1 : (BitVec.ofInt 64 (a : Int)).toNat = a := by
    rw [BitVec.ofInt_natCast, BitVec.toNat_ofNat]; exact Nat.mod_eq_of_lt (by omega)
  have h2 : (BitVec.ofInt 64 (b : Int)).toNat = b := by
    rw [BitVec.ofInt_natCast, BitVec.toNat_ofNat]; exact Nat.mod_eq_of_lt (by omega)
  show IntKind.i64.wrap ((BitVec.ofInt 64 (a : Int) ^^^ BitVec.ofInt 64 (b : Int)).toNat : Int) = _
  rw [BitVec.toNat_xor, h1, h2, IntKind.wrap_i64]
  omega

theorem xor_nonneg {a b : Int} (ha : 0 ≤ a) (ha2 : a < 9223372036854775808) (hb : 0 ≤ b) (hb2 : b < 9223372036854775808) : 0 ≤ bits .xor .i64 a b := by
  obtain ⟨x, rfl⟩ : ∃ x : Nat, a = x := ⟨a.toNat, by omega⟩
  obtain ⟨y, rfl⟩ : ∃ y : Nat, b = y := ⟨b.toNat, by omega⟩
  rw [xor_i64 x y (by omega) (by omega)]
  omega

/-- What the mixture ends in. -/
theorem pick_mix (x y p L q n : Int) (hx : 0 ≤ x ∧ x ≤ 255) (hy : 0 ≤ y ∧ y ≤ 255) (hp : 0 ≤ p ∧ p ≤ 1000000000000) (hq : p / L = q) (hq2 : 0 ≤ q ∧ q ≤ p) (hn : 1 ≤ n) :
    Picked n ((bits .xor .i64 (wrap64 (x * 131 + y * 1117 + p * 29 + wrap64 (wrap64 (p / L) * 53))) (wrap64 ((wrap64 (x * 131 + y * 1117 + p * 29 + wrap64 (wrap64 (p / L) * 53))).tdiv 64))).tmod n) := by
  rw [hq]
  have e1 : wrap64 q = q := IntWalk.wrap64_in q ⟨by omega, by omega⟩
  rw [e1]
  have e2 : wrap64 (q * 53) = q * 53 := IntWalk.wrap64_in _ ⟨by omega, by omega⟩
  rw [e2]
  have e3 : wrap64 (x * 131 + y * 1117 + p * 29 + q * 53) = x * 131 + y * 1117 + p * 29 + q * 53 := IntWalk.wrap64_in _ ⟨by omega, by omega⟩
  rw [e3]
  generalize hz : x * 131 + y * 1117 + p * 29 + q * 53 = z
  have h0 : 0 ≤ z := by omega
  have h1 : z ≤ 1000000000000000 := by omega
  have e4 : z.tdiv 64 = z / 64 := Int.tdiv_eq_ediv_of_nonneg h0
  rw [e4]
  have e5 : wrap64 (z / 64) = z / 64 := IntWalk.wrap64_in _ ⟨by omega, by omega⟩
  rw [e5]
  have hb := xor_nonneg (a := z) (b := z / 64) h0 (by omega) (by omega) (by omega)
  generalize bits .xor .i64 z (z / 64) = t at hb
  exact ⟨Int.tmod_nonneg _ hb, .inl (Int.tmod_lt_of_pos _ (by omega))⟩

set_option maxRecDepth 100000 in
set_option maxHeartbeats 800000 in
theorem pick_any (B : Nat) (s : Option Addr) (c : Nat) (xs : List Int) (p : Nat) (n : Int) (w : World) (h : Rd w B s c xs p) (hp : p ≤ 1000000000000) (hn : n ≤ 1000000000) :
    Calls Try.prog 60 #[.pointer (some ⟨B, 0, none⟩), .int .i64 n] w fun e w' => ∃ k : Int, e = .returned (.int .i64 k) ∧ Picked n k ∧ Rd w' B s c xs (p + 1) ∧ Upd B w w' ∧ w'.heap.size = w.heap.size := by
  have HR := Lib.hid h
  have hc0 : w.cell? ⟨B, 0, none⟩ = some (.slice s xs.length c) := blk_cell h.blk
  have hc1 : w.cell? ⟨B, 1, none⟩ = some (.int .i64 (p : Int)) := blk_cell h.blk
  have hf : w.frozen? ⟨B, 1, none⟩ = false := blk_free h.blk
  have hl : xs.length ≤ 2000 := h.len
  have HS : Hid (Rd (w.setCell ⟨B, 1, none⟩ (.int .i64 ((p : Int) + 1))) B s c xs (p + 1)) := by
    have h2 := h.setp (q := p + 1)
    have e : ((p + 1 : Nat) : Int) = (p : Int) + 1 := by omega
    rw [e] at h2
    exact h2
  clear h
  by_cases h1 : n < 1
  · go_enter Try.func60, Try.ntmps60
    go_wp2
    go_ret
    exact ⟨0, rfl, ⟨by omega, .inr rfl⟩, HS.out, Upd.set _ _ _ _, size_set _ _ _⟩
  · by_cases h0 : xs.length = 0
    · obtain rfl : xs = [] := List.eq_nil_of_length_eq_zero h0
      simp only [List.length_nil] at hc0
      clear h0 hl
      go_enter Try.func60, Try.ntmps60
      go_wp2
      go_ret
      exact ⟨0, rfl, ⟨by omega, .inr rfl⟩, HS.out, Upd.set _ _ _ _, size_set _ _ _⟩
    · have hb0 : ((xs.length : Int) == 0) = false := beq_eq_false_iff_ne.2 (by omega)
      have hbel : Hid (Below B w (w.setCell ⟨B, 1, none⟩ (.int .i64 ((p : Int) + 1)))) := (Below.refl B w).setCell (p := ⟨B, 1, none⟩) (Nat.le_refl _) _
      by_cases hk : p < xs.length
      · obtain ⟨x, hx⟩ := get_of_lt (l := xs) (k := p) hk
        have hxr := HR.out.range x (List.mem_of_getElem? hx)
        obtain ⟨b, off, rfl, hz⟩ := HR.out.bytes.u8 HR.out.apart hbel.out hx
        clear hx h0
        go_enter Try.func60, Try.ntmps60
        go_wp2
        go_ret
        refine ⟨_, rfl, ⟨?_, .inl ?_⟩, HS.out, Upd.set _ _ _ _, size_set _ _ _⟩
        · first | exact Int.emod_nonneg _ (by omega) | exact Int.tmod_nonneg _ (by omega)
        · first | exact Int.emod_lt_of_pos _ (by omega) | exact Int.tmod_lt_of_pos _ (by omega)
      · obtain ⟨m1, hm1e⟩ : ∃ m, m = p % xs.length := ⟨_, rfl⟩
        obtain ⟨m2, hm2e⟩ : ∃ m, m = (p * 7 + 3) % xs.length := ⟨_, rfl⟩
        obtain ⟨q, hqe⟩ : ∃ m, m = p / xs.length := ⟨_, rfl⟩
        have hm1 : m1 < xs.length := by rw [hm1e]; exact Nat.mod_lt _ (by omega)
        have hm2 : m2 < xs.length := by rw [hm2e]; exact Nat.mod_lt _ (by omega)
        have hqp : q ≤ p := by rw [hqe]; exact Nat.div_le_self _ _
        obtain ⟨x, hx⟩ := get_of_lt (l := xs) hm1
        obtain ⟨y, hy⟩ := get_of_lt (l := xs) hm2
        have hxr := HR.out.range x (List.mem_of_getElem? hx)
        have hyr := HR.out.range y (List.mem_of_getElem? hy)
        obtain ⟨b, off, rfl, hz⟩ := HR.out.bytes.u8 HR.out.apart hbel.out hx
        obtain ⟨b', off', hbb, hz2⟩ := HR.out.bytes.u8 HR.out.apart hbel.out hy
        simp only [Option.some.injEq, Addr.mk.injEq, and_true] at hbb
        obtain ⟨rfl, rfl⟩ := hbb
        clear hx hy
        generalize xs.length = L at hc0 hl h0 hb0 hk hm1 hm2 hz hz2 hm1e hm2e hqe
        have hL1 : (1 : Int) ≤ (L : Int) := by omega
        have hLk : (L : Int) ≤ (p : Int) := by omega
        have hL0 : L ≠ 0 := h0
        have hx1 := hxr.1
        have hx2 := hxr.2
        have hy1 := hyr.1
        have hy2 := hyr.2
        have e1' : (p : Int).tmod (L : Int) = (m1 : Int) := by
          rw [Int.tmod_eq_emod_of_nonneg (by omega), ← Int.natCast_emod, ← hm1e]
        have e4' : ((p : Int) * 7 + 3).tmod (L : Int) = (m2 : Int) := by
          rw [Int.tmod_eq_emod_of_nonneg (by omega), show (p : Int) * 7 + 3 = ((p * 7 + 3 : Nat) : Int) from by omega, ← Int.natCast_emod, ← hm2e]
        have e2 : IntKind.i64.wrap ((p : Int) * 7) = (p : Int) * 7 := IntWalk.i64_in _ ⟨by omega, by omega⟩
        have e3 : IntKind.i64.wrap ((p : Int) * 7 + 3) = (p : Int) * 7 + 3 := IntWalk.i64_in _ ⟨by omega, by omega⟩
        have e5 : IntKind.i64.wrap (x * 131) = x * 131 := IntWalk.i64_in _ ⟨by omega, by omega⟩
        have e6 : IntKind.i64.wrap (y * 1117) = y * 1117 := IntWalk.i64_in _ ⟨by omega, by omega⟩
        have e7 : IntKind.i64.wrap (x * 131 + y * 1117) = x * 131 + y * 1117 := IntWalk.i64_in _ ⟨by omega, by omega⟩
        have e8 : IntKind.i64.wrap ((p : Int) * 29) = (p : Int) * 29 := IntWalk.i64_in _ ⟨by omega, by omega⟩
        have e9 : IntKind.i64.wrap (x * 131 + y * 1117 + (p : Int) * 29) = x * 131 + y * 1117 + (p : Int) * 29 := IntWalk.i64_in _ ⟨by omega, by omega⟩
        have i1 : (m1 : Int) < (L : Int) := by omega
        have i2 : (m2 : Int) < (L : Int) := by omega
        have hqi : (p : Int) / (L : Int) = (q : Int) := by rw [hqe, Int.natCast_ediv]
        have HQ := Lib.hid hqi
        clear hm1e hm2e hqe hqi
        clear h0 hk
        go_enter Try.func60, Try.ntmps60
        go_wp2
        go_quiet (fail)
        go_wp2
        go_ret
        refine ⟨_, rfl, pick_mix _ _ _ _ _ _ ⟨hx1, hx2⟩ ⟨hy1, hy2⟩ ⟨by omega, by omega⟩ HQ.out ⟨by omega, by omega⟩ (by omega), ?_, ?_, ?_⟩
        · exact ⟨HS.out.blk, HS.out.bytes, HS.out.range, HS.out.len, HS.out.apart⟩
        · exact (Upd.set _ _ _ _).n _
        · exact size_set _ _ _

theorem Rd.drewN {w : World} {B : Nat} {s : Option Addr} {c : Nat} {xs : List Int} {p : Nat} (h : Rd w B s c xs p) (n : Nat) : Rd (w.drewN n) B s c xs p := ⟨h.blk, h.bytes, h.range, h.len, h.apart⟩

theorem Rd.mono {w w' : World} {B : Nat} {s : Option Addr} {c : Nat} {xs : List Int} {p : Nat} (h : Rd w B s c xs p) (hb : Below w.heap.size w w') : Rd w' B s c xs p :=
  ⟨blk_below hb (blk_lt h.blk) h.blk, h.bytes.mono hb, h.range, h.len, h.apart⟩

/-- What has grown but for a row of the call's own, which lies behind the reader. -/
theorem Rd.grown {w w' : World} {B b : Nat} {s : Option Addr} {c : Nat} {xs : List Int} {p : Nat} (h : Rd w B s c xs p) (hb : Below b w w') (hB : B < b) : Rd w' B s c xs p :=
  ⟨blk_below hb hB h.blk, h.bytes.mono' (B := B) (fun a ha hne => h.apart a ha (by intro e; subst e; simp [u8s] at hne)) (hb.mono (by omega)), h.range, h.len, h.apart⟩

theorem Upd.grown {B b : Nat} {w w' : World} (hb : Below b w w') (hB : ∀ k, b ≤ k → k < w.heap.size → k = B ∨ w'.heap[k]? = w.heap[k]?) : Upd B w w' :=
  ⟨hb.os, hb.tape, hb.output, hb.size, fun k hk hne => by
    by_cases h : k < b
    · exact hb.block k h
    · rcases hB k (by omega) hk with rfl | h2
      · exact absurd rfl hne
      · exact h2⟩

def OddPost (B : Nat) (s : Option Addr) (c : Nat) (xs : List Int) (p : Nat) (w : World) (e : Ending) (w' : World) : Prop :=
  ∃ (b : Bool) (p' : Nat), e = .returned (.bool b) ∧ p' ≤ p + 1 ∧ Rd w' B s c xs p' ∧ Upd B w w' ∧ w'.heap.size = w.heap.size

set_option maxHeartbeats 400000 in
theorem odd_any (B : Nat) (s : Option Addr) (c : Nat) (xs : List Int) (p : Nat) (n : Int) (w : World) (h : Rd w B s c xs p) (hp : p ≤ 1000000000000) (hn : -1000 ≤ n) (hn2 : n ≤ 1000000000) :
    Calls Try.prog 89 #[.pointer (some ⟨B, 0, none⟩), .int .i64 n] w (OddPost B s c xs p w) := by
  by_cases hc : n > 0
  · go_enter Try.func89, Try.ntmps89
    go_wp2_with (go_at_call 60; ((with_reducible refine (pick_any _ _ _ _ _ _ _ h hp hn2).mono ?_); rintro e w' ⟨k, rfl, hk1, hk2, hk3, hk4⟩; have HK := Lib.hid (And.intro hk1 (And.intro hk2 (And.intro hk3 hk4))); clear hk1 hk2 hk3 hk4))
    go_ret
    exact ⟨_, _, rfl, Nat.le_refl _, HK.out.2.1, HK.out.2.2.1, HK.out.2.2.2⟩
  · go_enter Try.func89, Try.ntmps89
    go_wp2
    go_ret
    exact ⟨_, p, rfl, by omega, h, Upd.refl _ _, rfl⟩

set_option maxHeartbeats 400000 in
theorem l20Open_any (s : Option Addr) (cap : Nat) (xs : List Int) (w : World) (hs : Sl w s (u8s xs)) (hl : xs.length ≤ 1048576) (hcap : xs.length ≤ cap) (hcap2 : cap ≤ 9223372036854775807) (hr : ∀ x ∈ xs, 0 ≤ x ∧ x ≤ 255) :
    Calls Try.prog 58 #[.slice s xs.length cap] w fun e w' => ∃ c, e = .returned (.pointer (some ⟨w.heap.size, 0, none⟩)) ∧ Rd w' w.heap.size s c (xs.take 2000) 0 ∧ Below w.heap.size w w' ∧ w'.heap.size = w.heap.size + 1 := by
  have HS := Lib.hid (And.intro hs hr)
  clear hs hr
  have hap : Hid (∀ a, s = some a → xs.take 2000 ≠ [] → a.block < w.heap.size) := fun a ha hne => by
    obtain ⟨b, off, rfl, hb, _⟩ := HS.out.1.at (k := 0) (by rw [u8s_length]; cases xs <;> simp at *)
    cases ha; exact hb
  have hsl : Hid (Sl w s (u8s (xs.take 2000))) := by
    rcases HS.out.1 with h | ⟨b, off, rfl, h⟩
    · left; simp [u8s] at h; simp [u8s, h]
    · right
      refine ⟨b, off, rfl, fun j v hv => h j v ?_⟩
      simp only [u8s, List.getElem?_map, List.getElem?_take] at hv ⊢
      split at hv
      · exact hv
      · simp at hv
  by_cases hc : xs.length ≤ 2000
  · have e : xs.take 2000 = xs := List.take_of_length_le hc
    have HE := Lib.hid e
    clear e
    go_enter Try.func58, Try.ntmps58
    go_wp2
    go_ret
    have e := HE.out
    refine ⟨cap, rfl, ⟨?_, hsl.out.mono ((Below.refl _ _).alloc (Nat.le_refl _) _), fun x hx => HS.out.2 x (List.mem_of_mem_take hx), by rw [e]; exact hc, hap.out⟩, (Below.refl _ _).alloc (Nat.le_refl _) _, by simp⟩
    rw [e]; exact blk_new _ _
  · have e : (xs.take 2000).length = 2000 := by rw [List.length_take]; omega
    have HE := Lib.hid e
    clear e
    go_enter Try.func58, Try.ntmps58
    go_wp2
    go_ret
    have e := HE.out
    refine ⟨cap, rfl, ⟨?_, hsl.out.mono ((Below.refl _ _).alloc (Nat.le_refl _) _), fun x hx => HS.out.2 x (List.mem_of_mem_take hx), by rw [e]; exact Nat.le_refl _, hap.out⟩, (Below.refl _ _).alloc (Nat.le_refl _) _, by simp⟩
    rw [e]; exact blk_new _ _

/-- Below b nothing has turned but block B. -/
structure Kp (B b : Nat) (w w' : World) : Prop where
  os : w'.os = w.os
  tape : w'.tape = w.tape
  output : w'.output = w.output
  size : w.heap.size ≤ w'.heap.size
  block : ∀ k, k < b → k ≠ B → w'.heap[k]? = w.heap[k]?

theorem Kp.refl (B b : Nat) (w : World) : Kp B b w w := ⟨rfl, rfl, rfl, Nat.le_refl _, fun _ _ _ => rfl⟩

theorem Kp.trans {B b : Nat} {x y z : World} (h : Kp B b x y) (k : Kp B b y z) : Kp B b x z :=
  ⟨k.os.trans h.os, k.tape.trans h.tape, k.output.trans h.output, Nat.le_trans h.size k.size, fun i hi hn => (k.block i hi hn).trans (h.block i hi hn)⟩

theorem Kp.mono {B b b' : Nat} {w w' : World} (h : Kp B b w w') (hb : b' ≤ b) : Kp B b' w w' := ⟨h.os, h.tape, h.output, h.size, fun k hk hn => h.block k (by omega) hn⟩

theorem Kp.of_below {B b : Nat} {w w' : World} (h : Below b w w') : Kp B b w w' := ⟨h.os, h.tape, h.output, h.size, fun k hk _ => h.block k hk⟩

theorem Kp.of_upd {B b : Nat} {w w' : World} (h : Upd B w w') (hb : b ≤ w.heap.size) : Kp B b w w' := ⟨h.os, h.tape, h.output, h.size, fun k hk hn => h.block k (by omega) (by simp; exact hn)⟩

theorem Kp.below {B b b' : Nat} {w w' : World} (h : Kp B b w w') (h1 : b' ≤ B) (h2 : b' ≤ b) : Below b' w w' := ⟨h.os, h.tape, h.output, h.size, fun k hk => h.block k (by omega) (by omega)⟩

theorem Kp.alloc {B b : Nat} {w w' : World} (h : Kp B b w w') (hb : b ≤ w.heap.size) (o : Obj) : Kp B b w (w'.alloc o) :=
  h.trans (Kp.of_below ((Below.refl _ _).alloc (Nat.le_trans hb h.size) o))

theorem own_kp {w w' : World} {base B b : Nat} {e : TypeId} {size : Nat} {v : Value} {n : Nat} {xs : List Value} (h : w.ownsRow base e size v n xs) (hB : B < base) (hb : ∀ k, v.ownBlock = some k → k < b) (hk : Kp B b w w') : w'.ownsRow base e size v n xs := by
  refine ⟨h.1, ?_⟩
  rcases h.2 with hn | ⟨g, cap, cur, rfl, hb', hg, rest⟩
  · exact .inl hn
  · exact .inr ⟨g, cap, cur, rfl, hb', by rw [hk.block g (hb g rfl) (by omega)]; exact hg, rest⟩

theorem asgN_le {c : Cir} (h : c.valid) : 1 ≤ asgN c ∧ asgN c ≤ 128 := by
  obtain ⟨q1, q2, q3, q4, q5⟩ := h.lim
  unfold asgN
  exact ⟨Nat.pow_pos (by omega), Nat.le_trans (Nat.pow_le_pow_right (by omega) (show c.inp.toNat + c.next.length ≤ 7 by omega)) (by decide)⟩

theorem Sl.two {w wr : World} {s : Option Addr} {cs : List Value} (h : Sl w s cs) (hbl : Below w.heap.size w wr) {j k : Nat} {x y : Value} (hx : cs[j]? = some x) (hy : cs[k]? = some y) :
    ∃ b off, s = some ⟨b, off, none⟩ ∧ b < w.heap.size ∧ wr.cell? ⟨b, off + j, none⟩ = some x ∧ wr.cell? ⟨b, off + k, none⟩ = some y := by
  obtain ⟨b, off, rfl, hbw, hcs⟩ := h.at (k := j) (List.getElem?_eq_some_iff.1 hx).1
  exact ⟨b, off, rfl, hbw, by rw [hbl.cell (by exact hbw)]; exact hcs _ _ hx, by rw [hbl.cell (by exact hbw)]; exact hcs _ _ hy⟩

theorem roots_lits {c : Cir} (hv : c.valid) : ∀ x ∈ c.next ++ c.outs, 0 ≤ x ∧ x ≤ 1000000 ∧ x / 2 < c.vars := by
  intro x hx
  have := (List.mem_append.1 hx).elim (hv.next x) (hv.outs x)
  have h2 := valid_first hv
  unfold litP at this; omega

set_option maxHeartbeats 800000 in
theorem results_any (b : Nat) (sn sg so : Option Addr) (cn cg co : Nat) (c : Cir) (k : Nat) (st : Int) (val : Bool) (w : World)
    (h : CirAt w b c.inp (.slice sn c.next.length cn) (.slice sg c.gates.length cg) (.slice so c.outs.length co)) (hn : Sl w sn (ints c.next)) (hg : Sl w sg (gcells c.gates)) (ho : Sl w so (ints c.outs)) (hv : c.valid)
    (hk : k ≤ 1000) (hst : -1 ≤ st) (hst2 : st < c.vars) :
    Calls Try.prog 79 #[.pointer (some ⟨b, 0, none⟩), .int .i64 k, .int .i64 st, .bool val] w fun e w' => ∃ s cap, e = .returned (.slice s (c.next.length + c.outs.length) cap) ∧ Sl w' s (bools (resV c k st val)) ∧ Below w.heap.size w w' := by
  have HB : Hid (b < w.heap.size) := World.block_lt_of_cell? w _ h.h0
  obtain ⟨f1, f2, f3, f4⟩ := valid_first hv
  obtain ⟨q1, q2, q3, q4, q5⟩ := id hv.lim
  obtain ⟨V, hV⟩ : ∃ V : Nat, c.vars = V := ⟨c.vars.toNat, by omega⟩
  obtain ⟨ni, hni⟩ : ∃ ni : Nat, c.inp = ni := ⟨c.inp.toNat, by omega⟩
  have n4 : ni ≤ 4 := by omega
  rw [hV] at hst2
  have hkpw : (1 : Int) ≤ 2 ^ ni := by have : (0 : Int) < 2 ^ ni := Int.pow_pos (by decide); omega
  have H := Lib.hid (And.intro h (And.intro hn (And.intro hg (And.intro ho (And.intro hv (And.intro hV hni))))))
  have HM : Hid (∀ W, Below w.heap.size w W → CirAt W b c.inp (.slice sn c.next.length cn) (.slice sg c.gates.length cg) (.slice so c.outs.length co)) := fun W hb => ⟨(hb.cell (p := ⟨b, 0, none⟩) HB.out).trans H.out.1.h0, (hb.cell (p := ⟨b, 1, none⟩) HB.out).trans H.out.1.h1, (hb.cell (p := ⟨b, 2, none⟩) HB.out).trans H.out.1.h2, (hb.cell (p := ⟨b, 3, none⟩) HB.out).trans H.out.1.h3⟩
  have hlV : (evalV c k st val).length = V := by
    have h1 := hV; unfold Cir.vars at h1
    rw [evalV_length]; omega
  have hle : valsV st val (stuckB st val (false :: (bitsV k ni ++ bitsV ((k : Int) / 2 ^ c.inp.toNat) c.next.length))) c.gates = evalV c k st val := by
    unfold evalV asgV; rw [hni]; simp
  have HL := Lib.hid (And.intro hlV hle)
  clear h hn hg ho hv hV hni hkpw hlV hle f1 f2 f3 f4
  go_enter Try.func79, Try.ntmps79
  go_wp2_with (first
    | (go_at_call 80; ((refine (latchBits_any _ _ _ _ _ _ _ _ _ H.out.1 ⟨by omega, by omega⟩ (by omega) (by omega) (by omega)).mono ?_); rintro e wa ⟨sa, rfl, ha, hqa⟩; have HA := Lib.hid (And.intro hqa ha); clear ha hqa))
    | (go_at_call 81; ((refine (inputBits_any _ _ _ _ _ _ _ (HM.out _ HA.out.1) ni H.out.2.2.2.2.2.2 (by omega) (by omega) (by omega)).mono ?_); rintro e wb ⟨sb, rfl, hb, hqb⟩; have HB2 := Lib.hid (And.intro (HA.out.1.trans (hqb.mono HA.out.1.size)) (And.intro hb (HA.out.2.mono hqb))); clear hb hqb))
    | (go_at_call 90; ((refine (evaluate_any _ _ _ _ _ _ c sa sb _ _ (bitsV ((k : Int) / 2 ^ c.inp.toNat) c.next.length) (bitsV k ni) st val _ (HM.out _ HB2.out.1) (H.out.2.2.1.mono HB2.out.1) H.out.2.2.2.2.1 HB2.out.2.2 HB2.out.2.1 (bitsV_length _ _) ni (bitsV_length _ _) H.out.2.2.2.2.2.2 V H.out.2.2.2.2.2.1 hst hst2).mono ?_); rintro e we ⟨gv, rfl, hgv, hqe⟩; rw [HL.out.2] at hgv; have HE := Lib.hid (And.intro (HB2.out.1.trans (hqe.mono HB2.out.1.size)) (Sl.toB hgv)); clear hgv hqe))
    | (go_at_call 71; ((refine (roots_any _ _ _ _ _ _ _ _ _ _ (HM.out _ HE.out.1) (H.out.2.1.mono HE.out.1) (H.out.2.2.2.1.mono HE.out.1) (by omega) (by omega)).mono ?_); rintro e wf ⟨sf, cf, rfl, hof, hqf⟩; rw [ints_append] at hof; have HF := Lib.hid (And.intro (HE.out.1.trans (hqf.mono HE.out.1.size)) (And.intro (HE.out.2.mono hqf) (own_sl hof))); clear hof hqf)))
  have hlv := litValues_any (some ⟨gv, 0, none⟩) sf (evalV c k st val) V cf (c.next ++ c.outs) wf HF.out.2.1 HF.out.2.2 (fun x hx => by have := roots_lits H.out.2.2.2.2.1 x hx; rw [HL.out.1]; rw [H.out.2.2.2.2.2.1] at this; exact this) (by simp; omega)
  rw [HL.out.1, List.length_append] at hlv
  refine hlv.mono ?_
  rintro e wz ⟨sz, cz, rfl, hz, hq⟩
  have HZ := Lib.hid (And.intro hz (HF.out.1.trans (hq.mono HF.out.1.size)))
  clear hz hq hlv
  go_wp2_with fail
  go_ret
  exact ⟨sz, cz, rfl, HZ.out.1, HZ.out.2⟩

/-! A circuit that is being drawn: the reader behind block R, the circuit in block B. -/

structure KT (R : Nat) (s : Option Addr) (c : Nat) (xs : List Int) (w0 : World) (B : Nat) (inp : Int) (xn : List Int) (xg : List Gt) (xo : List Int) (vn vg vo : Value) (p : Nat) (w : World) : Prop where
  out : OutC w w0.heap.size B inp xn xg xo vn vg vo
  rd : Rd w R s c xs p
  kp : Kp R w0.heap.size w0 w
  hR : R < w0.heap.size
  hB : w0.heap.size ≤ B

theorem KT.upd {R : Nat} {s : Option Addr} {c : Nat} {xs : List Int} {w0 : World} {B : Nat} {inp : Int} {xn : List Int} {xg : List Gt} {xo : List Int} {vn vg vo : Value} {p p2 : Nat} {w1 w2 : World} (h : KT R s c xs w0 B inp xn xg xo vn vg vo p w1) (hr : Rd w2 R s c xs p2) (hu : Upd R w1 w2) : KT R s c xs w0 B inp xn xg xo vn vg vo p2 w2 := by
  have h1 := h.hR; have h2 := h.hB; have h3 := blk_lt h.out.blk
  have k : Kp R w1.heap.size w1 w2 := Kp.of_upd hu (Nat.le_refl _)
  refine ⟨⟨by rw [hu.block B h3 (by simp; omega)]; exact h.out.blk, own_kp h.out.n h1 (fun k e => (own_blk h.out.n e).2) k, own_kp h.out.g h1 (fun k e => (own_blk h.out.g e).2) k, own_kp h.out.o h1 (fun k e => (own_blk h.out.o e).2) k, h.out.ne⟩, hr, h.kp.trans (k.mono (by omega)), h1, h2⟩

theorem KT.below {R : Nat} {s : Option Addr} {c : Nat} {xs : List Int} {w0 : World} {B : Nat} {inp : Int} {xn : List Int} {xg : List Gt} {xo : List Int} {vn vg vo : Value} {p : Nat} {w1 w2 : World} (h : KT R s c xs w0 B inp xn xg xo vn vg vo p w1) (hb : Below w1.heap.size w1 w2) : KT R s c xs w0 B inp xn xg xo vn vg vo p w2 :=
  h.upd (h.rd.mono hb) (Upd.of_below hb)

theorem KT.alloc {R : Nat} {s : Option Addr} {c : Nat} {xs : List Int} {w0 : World} {B : Nat} {inp : Int} {xn : List Int} {xg : List Gt} {xo : List Int} {vn vg vo : Value} {p : Nat} {w1 : World} (h : KT R s c xs w0 B inp xn xg xo vn vg vo p w1) (o : Obj) : KT R s c xs w0 B inp xn xg xo vn vg vo p (w1.alloc o) :=
  h.below ((Below.refl _ _).alloc (Nat.le_refl _) _)

theorem KT.drew {R : Nat} {s : Option Addr} {c : Nat} {xs : List Int} {w0 : World} {B : Nat} {inp : Int} {xn : List Int} {xg : List Gt} {xo : List Int} {vn vg vo : Value} {p : Nat} {w1 : World} (h : KT R s c xs w0 B inp xn xg xo vn vg vo p w1) : KT R s c xs w0 B inp xn xg xo vn vg vo p w1.drew :=
  h.below (Below.refl _ _).drew

theorem KT.cells {R : Nat} {s : Option Addr} {c : Nat} {xs : List Int} {w0 : World} {B : Nat} {inp : Int} {xn : List Int} {xg : List Gt} {xo : List Int} {vn vg vo : Value} {p : Nat} {w1 : World} (h : KT R s c xs w0 B inp xn xg xo vn vg vo p w1) : (∀ o, w1.cell? ⟨B, o, none⟩ = #[Value.int .i64 inp, vn, vg, vo][o]?) ∧ ∀ o, w1.frozen? ⟨B, o, none⟩ = false := blk_all h.out.blk

theorem KT.kpG {R : Nat} {s : Option Addr} {c : Nat} {xs : List Int} {w0 : World} {B : Nat} {inp : Int} {xn : List Int} {xg : List Gt} {xo : List Int} {vn vg vo : Value} {p : Nat} {w1 w2 : World} (h : KT R s c xs w0 B inp xn xg xo vn vg vo p w1) (hb : Below w0.heap.size w1 w2) : Rd w2 R s c xs p ∧ Kp R w0.heap.size w0 w2 :=
  ⟨h.rd.grown hb h.hR, h.kp.trans (Kp.of_below hb)⟩

theorem KT.sz {R : Nat} {s : Option Addr} {c : Nat} {xs : List Int} {w0 : World} {B : Nat} {inp : Int} {xn : List Int} {xg : List Gt} {xo : List Int} {vn vg vo : Value} {p : Nat} {w1 : World} (h : KT R s c xs w0 B inp xn xg xo vn vg vo p w1) : w0.heap.size ≤ w1.heap.size := h.kp.size

theorem KT.pushN {R : Nat} {s : Option Addr} {c : Nat} {xs : List Int} {w0 : World} {B : Nat} {inp : Int} {xn xn' : List Int} {xg : List Gt} {xo : List Int} {vn vn' vg vo : Value} {p : Nat} {w1 w2 : World} (h : KT R s c xs w0 B inp xn xg xo vn vg vo p w1)
    (hg : w1.grownBy w2 vn.ownBlock) (ho : w2.ownsRow w0.heap.size 3 1 vn' xn'.length (ints xn')) (hb : vn'.ownBlock = vn.ownBlock ∨ vn'.ownBlock = some w1.heap.size) : w2.heap[B]? = some (.cells #[.int .i64 inp, vn, vg, vo] 28 (0, 0)) ∧ KT R s c xs w0 B inp xn' xg xo vn' vg vo p (w2.setCell ⟨B, 1, none⟩ vn') := by
  obtain ⟨a, b⟩ := h.out.pushN hg ho hb
  have hb2 : Below w0.heap.size w1 w2 := (Below.refl _ _).grown hg h.sz (fun q e => (own_blk h.out.n e).1)
  obtain ⟨r, k⟩ := h.kpG (hb2.setCell (p := ⟨B, 1, none⟩) h.hB vn')
  exact ⟨a, b, r, k, h.hR, h.hB⟩

theorem KT.pushG {R : Nat} {s : Option Addr} {c : Nat} {xs : List Int} {w0 : World} {B : Nat} {inp : Int} {xn : List Int} {xg xg' : List Gt} {xo : List Int} {vn vg vg' vo : Value} {p : Nat} {w1 w2 : World} (h : KT R s c xs w0 B inp xn xg xo vn vg vo p w1)
    (hg : w1.grownBy w2 vg.ownBlock) (ho : w2.ownsRow w0.heap.size 24 2 vg' xg'.length (gcells xg')) : w2.heap[B]? = some (.cells #[.int .i64 inp, vn, vg, vo] 28 (0, 0)) ∧ KT R s c xs w0 B inp xn xg' xo vn vg' vo p (w2.setCell ⟨B, 2, none⟩ vg') := by
  obtain ⟨a, b⟩ := h.out.pushG hg ho
  have hb2 : Below w0.heap.size w1 w2 := (Below.refl _ _).grown hg h.sz (fun q e => (own_blk h.out.g e).1)
  obtain ⟨r, k⟩ := h.kpG (hb2.setCell (p := ⟨B, 2, none⟩) h.hB vg')
  exact ⟨a, b, r, k, h.hR, h.hB⟩

theorem KT.pushO {R : Nat} {s : Option Addr} {c : Nat} {xs : List Int} {w0 : World} {B : Nat} {inp : Int} {xn : List Int} {xg : List Gt} {xo xo' : List Int} {vn vg vo vo' : Value} {p : Nat} {w1 w2 : World} (h : KT R s c xs w0 B inp xn xg xo vn vg vo p w1)
    (hg : w1.grownBy w2 vo.ownBlock) (ho : w2.ownsRow w0.heap.size 3 1 vo' xo'.length (ints xo')) (hb : vo'.ownBlock = vo.ownBlock ∨ vo'.ownBlock = some w1.heap.size) : w2.heap[B]? = some (.cells #[.int .i64 inp, vn, vg, vo] 28 (0, 0)) ∧ KT R s c xs w0 B inp xn xg xo' vn vg vo' p (w2.setCell ⟨B, 3, none⟩ vo') := by
  obtain ⟨a, b⟩ := h.out.pushO hg ho hb
  have hb2 : Below w0.heap.size w1 w2 := (Below.refl _ _).grown hg h.sz (fun q e => (own_blk h.out.o e).1)
  obtain ⟨r, k⟩ := h.kpG (hb2.setCell (p := ⟨B, 3, none⟩) h.hB vo')
  exact ⟨a, b, r, k, h.hR, h.hB⟩

theorem KT.setInp {R : Nat} {s : Option Addr} {c : Nat} {xs : List Int} {w0 : World} {B : Nat} {inp : Int} {xn : List Int} {xg : List Gt} {xo : List Int} {vn vg vo : Value} {p : Nat} {w1 : World} (h : KT R s c xs w0 B inp xn xg xo vn vg vo p w1) (y : Int) : KT R s c xs w0 B y xn xg xo vn vg vo p (w1.setCell ⟨B, 0, none⟩ (.int .i64 y)) := by
  obtain ⟨r, k⟩ := h.kpG (((Below.refl _ w1).mono h.sz).setCell (p := ⟨B, 0, none⟩) h.hB (.int .i64 y))
  exact ⟨⟨by simpa using blk_set (o := 0) (v := .int .i64 y) h.out.blk, own_set_ne h.out.n (own_tyb h.out.n h.out.blk (by decide)) _, own_set_ne h.out.g (own_tyb h.out.g h.out.blk (by decide)) _, own_set_ne h.out.o (own_tyb h.out.o h.out.blk (by decide)) _, h.out.ne⟩, r, k, h.hR, h.hB⟩

def PkK (R : Nat) (s : Option Addr) (c : Nat) (xs : List Int) (w0 : World) (B : Nat) (inp : Int) (xn : List Int) (xg : List Gt) (xo : List Int) (vn vg vo : Value) (p : Nat) (n : Int) (w1 : World) (e : Ending) (w' : World) : Prop :=
  ∃ k : Nat, e = .returned (.int .i64 k) ∧ Picked n k ∧ KT R s c xs w0 B inp xn xg xo vn vg vo (p + 1) w' ∧ Upd R w1 w' ∧ w'.heap.size = w1.heap.size

theorem pick_kt (R : Nat) (s : Option Addr) (c : Nat) (xs : List Int) (w0 : World) (B : Nat) (inp : Int) (xn : List Int) (xg : List Gt) (xo : List Int) (vn vg vo : Value) (p : Nat) (n : Int) (w1 : World) (h : KT R s c xs w0 B inp xn xg xo vn vg vo p w1) (hp : p ≤ 1000000000) (hn : n ≤ 1000000) :
    Calls Try.prog 60 #[.pointer (some ⟨R, 0, none⟩), .int .i64 n] w1 (PkK R s c xs w0 B inp xn xg xo vn vg vo p n w1) :=
  (pick_any _ _ _ _ _ _ _ h.rd (by omega) (by omega)).mono fun _ _ ⟨k, h1, h2, h3, h4, h5⟩ => by
    obtain ⟨m, rfl⟩ : ∃ m : Nat, k = m := ⟨k.toNat, by have := h2.1; omega⟩
    exact ⟨m, h1, h2, h.upd h3 h4, h4, h5⟩

theorem odd_kt (R : Nat) (s : Option Addr) (c : Nat) (xs : List Int) (w0 : World) (B : Nat) (inp : Int) (xn : List Int) (xg : List Gt) (xo : List Int) (vn vg vo : Value) (p : Nat) (n : Int) (w1 : World) (h : KT R s c xs w0 B inp xn xg xo vn vg vo p w1) (hp : p ≤ 1000000000) (hn0 : -1000 ≤ n) (hn : n ≤ 1000000000) :
    Calls Try.prog 89 #[.pointer (some ⟨R, 0, none⟩), .int .i64 n] w1 fun e w' => ∃ (k : Bool) (p' : Nat), e = .returned (.bool k) ∧ p' ≤ p + 1 ∧ KT R s c xs w0 B inp xn xg xo vn vg vo p' w' :=
  (odd_any _ _ _ _ _ _ _ h.rd (by omega) hn0 hn).mono fun _ _ ⟨k, p', h1, h2, h3, h4, _⟩ => ⟨k, p', h1, h2, h.upd h3 h4⟩

end Go.Proofs.Ytjecchljhdfjdaa
