import Derived.Test.YtdcjiclonjillaaZZ63V6
import Derived.Test.YtdcjiclonjillaaZZ63H2
import Derived.Test.YtdcjiclonjillaaZZ63L4
import Derived.Test.YtdcjiclonjillaaZZ63OA
import Derived.Test.YtdcjiclonjillaaZZ63Q1
import Derived.Deep.QuietTactic
import Derived.BigQuiet
namespace Go.Proofs.Ytdcjiclonjillaa
set_option linter.unusedVariables false
set_option linter.unusedSimpArgs false
open Go.RowKit

/-! Part of the proof of one law. -/

theorem own_tyb {w : World} {base : Nat} {e : TypeId} {size n : Nat} {v : Value} {xs : List Value} (h : w.ownsRow base e size v n xs) {b : Nat} {arr : Array Value} {t : TypeId} {fz : Nat × Nat} (hb : w.heap[b]? = some (.cells arr t fz)) (he : e ≠ t) : v.ownBlock ≠ some b := by
  intro hk
  rcases h.2 with ⟨rfl, _⟩ | ⟨g, cap, cur, rfl, _, hg, _⟩
  · cases hk
  · simp only [Value.ownBlock, Option.some.injEq] at hk
    subst hk
    rw [hg] at hb
    simp only [Option.some.injEq, Obj.cells.injEq] at hb
    exact he hb.2.1

theorem evalV_gate {c : Cir} (hv : c.valid) (x : Int) {i : Nat} {g : Gt} (hg : c.gates[i]? = some g) :
    litB (evalV c x (-1) false) (2 * (c.first + i)) = (litB (evalV c x (-1) false) g.a && litB (evalV c x (-1) false) g.b) := by
  obtain ⟨⟨a0, a2⟩, b0, b2⟩ := valid_gate hv hg
  obtain ⟨q1, q2, q3, q4, q5⟩ := hv.lim
  have eF : c.first = 1 + c.inp + c.next.length := rfl
  have hi := (List.getElem?_eq_some_iff.1 hg).1
  rw [evalV_no]
  have e1 : valsV (-1) false (asgV c x) c.gates = valsV (-1) false (valsV (-1) false (asgV c x) (c.gates.take (i + 1))) (c.gates.drop (i + 1)) := by
    rw [← valsV_append, List.take_append_drop]
  obtain ⟨r, hr⟩ := valsV_pre (-1) false (valsV (-1) false (asgV c x) (c.gates.take (i + 1))) (c.gates.drop (i + 1))
  rw [e1, hr, valsV_snoc hg]
  obtain ⟨vs, hvs⟩ : ∃ vs, vs = valsV (-1) false (asgV c x) (c.gates.take i) := ⟨_, rfl⟩
  rw [← hvs]
  have hlen : vs.length = c.first.toNat + i := by
    rw [hvs, valsV_length, asgV_length, List.length_take]; omega
  unfold stepV
  rw [if_neg (by omega)]
  have p1 : (2 * (c.first + (i : Int)) / 2).toNat = vs.length := by omega
  have la : litB (vs ++ [litB vs g.a && litB vs g.b] ++ r) g.a = litB vs g.a := by rw [List.append_assoc]; exact litB_pre (by omega)
  have lb : litB (vs ++ [litB vs g.a && litB vs g.b] ++ r) g.b = litB vs g.b := by rw [List.append_assoc]; exact litB_pre (by omega)
  rw [la, lb]
  unfold litB
  rw [p1]
  have e2 : decide (2 * (c.first + (i : Int)) % 2 = 1) = false := by rw [decide_eq_false_iff_not]; omega
  rw [e2]
  simp [List.getD, List.getElem?_append]

def u8s (xs : List Int) : List Value := xs.map (Value.int .u8)

@[simp] theorem u8s_length (xs : List Int) : (u8s xs).length = xs.length := by simp [u8s]

/-- The reader behind block B: its bytes and its position. -/
structure Rd (w : World) (B : Nat) (s : Option Addr) (c : Nat) (xs : List Int) (p : Nat) : Prop where
  blk : w.heap[B]? = some (.cells #[.slice s xs.length c, .int .i64 (p : Int)] 103 (0, 0))
  bytes : Sl w s (u8s xs)
  range : ∀ x ∈ xs, 0 ≤ x ∧ x ≤ 255
  len : xs.length ≤ 2000
  apart : ∀ a, s = some a → xs ≠ [] → a.block < B

/-- Only block B may have been written. -/
def Upd (B : Nat) (w w' : World) : Prop := w.grownBy w' (some B)

theorem Upd.refl (B : Nat) (w : World) : Upd B w w := World.grownBy.refl w _

theorem Upd.trans {B : Nat} {a b c : World} (h : Upd B a b) (k : Upd B b c) : Upd B a c := World.grownBy.trans h k

theorem Upd.set (B o : Nat) (w : World) (v : Value) : Upd B w (w.setCell ⟨B, o, none⟩ v) :=
  ⟨rfl, rfl, rfl, by rw [size_set]; exact Nat.le_refl _, fun k _ hne => Below.heap_setCell _ _ _ _ (by intro e; apply hne; simp [e])⟩

theorem Upd.n {B : Nat} {w w' : World} (h : Upd B w w') (n : Nat) : Upd B w (w'.drewN n) := ⟨h.os, h.tape, h.output, h.size, h.block⟩

theorem Upd.below {B : Nat} {w w' : World} (h : Upd B w w') {b : Nat} (hB : b ≤ B) (hs : b ≤ w.heap.size) : Below b w w' :=
  ⟨h.os, h.tape, h.output, h.size, fun k hk => h.block k (by omega) (by simp; omega)⟩

theorem Upd.of_below {B : Nat} {w w' : World} (h : Below w.heap.size w w') : Upd B w w' := ⟨h.os, h.tape, h.output, h.size, fun k hk _ => h.block k hk⟩

theorem Rd.setp {w : World} {B : Nat} {s : Option Addr} {c : Nat} {xs : List Int} {p q : Nat} (h : Rd w B s c xs p) : Rd (w.setCell ⟨B, 1, none⟩ (.int .i64 (q : Int))) B s c xs q := by
  refine ⟨by simpa using blk_set (o := 1) (v := .int .i64 (q : Int)) h.blk, ?_, h.range, h.len, h.apart⟩
  refine h.bytes.mono' (B := B) (fun a ha hne => h.apart a ha (by intro e; subst e; simp [u8s] at hne)) ?_
  exact (Below.refl B w).setCell (p := ⟨B, 1, none⟩) (Nat.le_refl _) _

theorem Sl.u8 {w wr : World} {s : Option Addr} {xs : List Int} {B : Nat} (h : Sl w s (u8s xs)) (hB : ∀ a, s = some a → xs ≠ [] → a.block < B) (hbl : Below B w wr) {k : Nat} {x : Int} (hx : xs[k]? = some x) :
    ∃ b off, s = some ⟨b, off, none⟩ ∧ wr.cell? ⟨b, off + k, none⟩ = some (.int .u8 x) := by
  have hlt : k < xs.length := (List.getElem?_eq_some_iff.1 hx).1
  obtain ⟨b, off, rfl, hbw, hcs⟩ := h.at (k := k) (by simpa using hlt)
  have := hB _ rfl (by intro e; subst e; simp at hlt)
  exact ⟨b, off, rfl, by rw [hbl.cell (by exact this)]; exact hcs _ _ (by simp [u8s, hx])⟩

/-- A number that was picked out of n. -/
def Picked (n k : Int) : Prop := 0 ≤ k ∧ (k < n ∨ k = 0)

theorem xor_i64 (a b : Nat) (ha : a < 9223372036854775808) (hb : b < 9223372036854775808) : bits .xor .i64 (a : Int) (b : Int) = ((a ^^^ b : Nat) : Int) := by
  have hx : a ^^^ b < 2 ^ 63 := Nat.xor_lt_two_pow (by omega) (by omega)
  have h1 : (BitVec.ofInt 64 (a : Int)).toNat = a := by
    rw [BitVec.ofInt_natCast, BitVec.toNat_ofNat]; exact Nat.mod_eq_of_lt (by omega)
  have h2 : (BitVec.ofInt 64 (b : Int)).toNat = b := by
    rw [BitVec.ofInt_natCast, BitVec.toNat_ofNat]; exact Nat.mod_eq_of_lt (by omega)
  show IntKind.i64.wrap ((BitVec.ofInt 64 (a : Int) ^^^ BitVec.ofInt 64 (b : Int)).toNat : Int) = _
  rw [BitVec.toNat_xor, h1, h2, IntKind.wrap_i64]
  omega

theorem xor_nonneg {a b : Int} (ha : 0 ≤ a) (ha2 : a < 9223372036854775808) (hb : 0 ≤ b) (hb2 : b < 9223372036854775808) : 0 ≤ bits .xor .i64 a b := by
  obtain ⟨x, rfl⟩ : ∃ x : Nat, a = x := ⟨a.toNat, by omega⟩
  obtain ⟨y, rfl⟩ : ∃ y : Nat, b = y := ⟨b.toNat, by omega⟩
  rw [xor_i64 x y (by omega) (by omega)]
  omega

/-- What the mixture ends in. -/
theorem pick_mix (x y p L q n : Int) (hx : 0 ≤ x ∧ x ≤ 255) (hy : 0 ≤ y ∧ y ≤ 255) (hp : 0 ≤ p ∧ p ≤ 1000000000000) (hq : p / L = q) (hq2 : 0 ≤ q ∧ q ≤ p) (hn : 1 ≤ n) :
    Picked n ((bits .xor .i64 (wrap64 (x * 131 + y * 1117 + p * 29 + wrap64 (wrap64 (p / L) * 53))) (wrap64 ((wrap64 (x * 131 + y * 1117 + p * 29 + wrap64 (wrap64 (p / L) * 53))).tdiv 64))).tmod n) := by
  rw [hq]
  have e1 : wrap64 q = q := IntWalk.wrap64_in q ⟨by omega, by omega⟩
  rw [e1]
  have e2 : wrap64 (q * 53) = q * 53 := IntWalk.wrap64_in _ ⟨by omega, by omega⟩
  rw [e2]
  have e3 : wrap64 (x * 131 + y * 1117 + p * 29 + q * 53) = x * 131 + y * 1117 + p * 29 + q * 53 := IntWalk.wrap64_in _ ⟨by omega, by omega⟩
  rw [e3]
  generalize hz : x * 131 + y * 1117 + p * 29 + q * 53 = z
  have h0 : 0 ≤ z := by omega
  have h1 : z ≤ 1000000000000000 := by omega
  have e4 : z.tdiv 64 = z / 64 := Int.tdiv_eq_ediv_of_nonneg h0
  rw [e4]
  have e5 : wrap64 (z / 64) = z / 64 := IntWalk.wrap64_in _ ⟨by omega, by omega⟩
  rw [e5]
  have hb := xor_nonneg (a := z) (b := z / 64) h0 (by omega) (by omega) (by omega)
  generalize bits .xor .i64 z (z / 64) = t at hb
  exact ⟨Int.tmod_nonneg _ hb, .inl (Int.tmod_lt_of_pos _ (by omega))⟩

set_option maxRecDepth 100000 in
set_option maxHeartbeats 800000 in
theorem pick_any (B : Nat) (s : Option Addr) (c : Nat) (xs : List Int) (p : Nat) (n : Int) (w : World) (h : Rd w B s c xs p) (hp : p ≤ 1000000000000) (hn : n ≤ 1000000000) :
    Calls Try.prog 60 #[.pointer (some ⟨B, 0, none⟩), .int .i64 n] w fun e w' => ∃ k : Int, e = .returned (.int .i64 k) ∧ Picked n k ∧ Rd w' B s c xs (p + 1) ∧ Upd B w w' ∧ w'.heap.size = w.heap.size := by
  have HR := Lib.hid h
  have hc0 : w.cell? ⟨B, 0, none⟩ = some (.slice s xs.length c) := blk_cell h.blk
  have hc1 : w.cell? ⟨B, 1, none⟩ = some (.int .i64 (p : Int)) := blk_cell h.blk
  have hf : w.frozen? ⟨B, 1, none⟩ = false := blk_free h.blk
  have hl : xs.length ≤ 2000 := h.len
  have HS : Hid (Rd (w.setCell ⟨B, 1, none⟩ (.int .i64 ((p : Int) + 1))) B s c xs (p + 1)) := by
    have h2 := h.setp (q := p + 1)
    have e : ((p + 1 : Nat) : Int) = (p : Int) + 1 := by omega
    rw [e] at h2
    exact h2
  clear h
  by_cases h1 : n < 1
  · go_enter Try.func60, Try.ntmps60
    go_wp2
    go_ret
    exact ⟨0, rfl, ⟨by omega, .inr rfl⟩, HS.out, Upd.set _ _ _ _, size_set _ _ _⟩
  · by_cases h0 : xs.length = 0
    · obtain rfl : xs = [] := List.eq_nil_of_length_eq_zero h0
      simp only [List.length_nil] at hc0
      clear h0 hl
      go_enter Try.func60, Try.ntmps60
      go_wp2
      go_ret
      exact ⟨0, rfl, ⟨by omega, .inr rfl⟩, HS.out, Upd.set _ _ _ _, size_set _ _ _⟩
    · have hb0 : ((xs.length : Int) == 0) = false := beq_eq_false_iff_ne.2 (by omega)
      have hbel : Hid (Below B w (w.setCell ⟨B, 1, none⟩ (.int .i64 ((p : Int) + 1)))) := (Below.refl B w).setCell (p := ⟨B, 1, none⟩) (Nat.le_refl _) _
      by_cases hk : p < xs.length
      · obtain ⟨x, hx⟩ := get_of_lt (l := xs) (k := p) hk
        have hxr := HR.out.range x (List.mem_of_getElem? hx)
        obtain ⟨b, off, rfl, hz⟩ := HR.out.bytes.u8 HR.out.apart hbel.out hx
        clear hx h0
        go_enter Try.func60, Try.ntmps60
        go_wp2
        go_ret
        refine ⟨_, rfl, ⟨?_, .inl ?_⟩, HS.out, Upd.set _ _ _ _, size_set _ _ _⟩
        · first | exact Int.emod_nonneg _ (by omega) | exact Int.tmod_nonneg _ (by omega)
        · first | exact Int.emod_lt_of_pos _ (by omega) | exact Int.tmod_lt_of_pos _ (by omega)
      · obtain ⟨m1, hm1e⟩ : ∃ m, m = p % xs.length := ⟨_, rfl⟩
        obtain ⟨m2, hm2e⟩ : ∃ m, m = (p * 7 + 3) % xs.length := ⟨_, rfl⟩
        obtain ⟨q, hqe⟩ : ∃ m, m = p / xs.length := ⟨_, rfl⟩
        have hm1 : m1 < xs.length := by rw [hm1e]; exact Nat.mod_lt _ (by omega)
        have hm2 : m2 < xs.length := by rw [hm2e]; exact Nat.mod_lt _ (by omega)
        have hqp : q ≤ p := by rw [hqe]; exact Nat.div_le_self _ _
        obtain ⟨x, hx⟩ := get_of_lt (l := xs) hm1
        obtain ⟨y, hy⟩ := get_of_lt (l := xs) hm2
        have hxr := HR.out.range x (List.mem_of_getElem? hx)
        have hyr := HR.out.range y (List.mem_of_getElem? hy)
        obtain ⟨b, off, rfl, hz⟩ := HR.out.bytes.u8 HR.out.apart hbel.out hx
        obtain ⟨b', off', hbb, hz2⟩ := HR.out.bytes.u8 HR.out.apart hbel.out hy
        simp only [Option.some.injEq, Addr.mk.injEq, and_true] at hbb
        obtain ⟨rfl, rfl⟩ := hbb
        clear hx hy
        generalize xs.length = L at hc0 hl h0 hb0 hk hm1 hm2 hz hz2 hm1e hm2e hqe
        have hL1 : (1 : Int) ≤ (L : Int) := by omega
        have hLk : (L : Int) ≤ (p : Int) := by omega
        have hL0 : L ≠ 0 := h0
        have hx1 := hxr.1
        have hx2 := hxr.2
        have hy1 := hyr.1
        have hy2 := hyr.2
        have e1' : (p : Int).tmod (L : Int) = (m1 : Int) := by
          rw [Int.tmod_eq_emod_of_nonneg (by omega), ← Int.natCast_emod, ← hm1e]
        have e4' : ((p : Int) * 7 + 3).tmod (L : Int) = (m2 : Int) := by
          rw [Int.tmod_eq_emod_of_nonneg (by omega), show (p : Int) * 7 + 3 = ((p * 7 + 3 : Nat) : Int) from by omega, ← Int.natCast_emod, ← hm2e]
        have e2 : IntKind.i64.wrap ((p : Int) * 7) = (p : Int) * 7 := IntWalk.i64_in _ ⟨by omega, by omega⟩
        have e3 : IntKind.i64.wrap ((p : Int) * 7 + 3) = (p : Int) * 7 + 3 := IntWalk.i64_in _ ⟨by omega, by omega⟩
        have e5 : IntKind.i64.wrap (x * 131) = x * 131 := IntWalk.i64_in _ ⟨by omega, by omega⟩
        have e6 : IntKind.i64.wrap (y * 1117) = y * 1117 := IntWalk.i64_in _ ⟨by omega, by omega⟩
        have e7 : IntKind.i64.wrap (x * 131 + y * 1117) = x * 131 + y * 1117 := IntWalk.i64_in _ ⟨by omega, by omega⟩
        have e8 : IntKind.i64.wrap ((p : Int) * 29) = (p : Int) * 29 := IntWalk.i64_in _ ⟨by omega, by omega⟩
        have e9 : IntKind.i64.wrap (x * 131 + y * 1117 + (p : Int) * 29) = x * 131 + y * 1117 + (p : Int) * 29 := IntWalk.i64_in _ ⟨by omega, by omega⟩
        have i1 : (m1 : Int) < (L : Int) := by omega
        have i2 : (m2 : Int) < (L : Int) := by omega
        have hqi : (p : Int) / (L : Int) = (q : Int) := by rw [hqe, Int.natCast_ediv]
        have HQ := Lib.hid hqi
        clear hm1e hm2e hqe hqi
        clear h0 hk
        go_enter Try.func60, Try.ntmps60
        go_wp2
        go_quiet (fail)
        go_wp2
        go_ret
        refine ⟨_, rfl, pick_mix _ _ _ _ _ _ ⟨hx1, hx2⟩ ⟨hy1, hy2⟩ ⟨by omega, by omega⟩ HQ.out ⟨by omega, by omega⟩ (by omega), ?_, ?_, ?_⟩
        · exact ⟨HS.out.blk, HS.out.bytes, HS.out.range, HS.out.len, HS.out.apart⟩
        · exact (Upd.set _ _ _ _).n _
        · exact size_set _ _ _

theorem Rd.drewN {w : World} {B : Nat} {s : Option Addr} {c : Nat} {xs : List Int} {p : Nat} (h : Rd w B s c xs p) (n : Nat) : Rd (w.drewN n) B s c xs p := ⟨h.blk, h.bytes, h.range, h.len, h.apart⟩

theorem Rd.mono {w w' : World} {B : Nat} {s : Option Addr} {c : Nat} {xs : List Int} {p : Nat} (h : Rd w B s c xs p) (hb : Below w.heap.size w w') : Rd w' B s c xs p :=
  ⟨blk_below hb (blk_lt h.blk) h.blk, h.bytes.mono hb, h.range, h.len, h.apart⟩

/-- What has grown but for a row of the call's own, which lies behind the reader. -/
theorem Rd.grown {w w' : World} {B b : Nat} {s : Option Addr} {c : Nat} {xs : List Int} {p : Nat} (h : Rd w B s c xs p) (hb : Below b w w') (hB : B < b) : Rd w' B s c xs p :=
  ⟨blk_below hb hB h.blk, h.bytes.mono' (B := B) (fun a ha hne => h.apart a ha (by intro e; subst e; simp [u8s] at hne)) (hb.mono (by omega)), h.range, h.len, h.apart⟩

theorem Upd.grown {B b : Nat} {w w' : World} (hb : Below b w w') (hB : ∀ k, b ≤ k → k < w.heap.size → k = B ∨ w'.heap[k]? = w.heap[k]?) : Upd B w w' :=
  ⟨hb.os, hb.tape, hb.output, hb.size, fun k hk hne => by
    by_cases h : k < b
    · exact hb.block k h
    · rcases hB k (by omega) hk with rfl | h2
      · exact absurd rfl hne
      · exact h2⟩

def OddPost (B : Nat) (s : Option Addr) (c : Nat) (xs : List Int) (p : Nat) (w : World) (e : Ending) (w' : World) : Prop :=
  ∃ (b : Bool) (p' : Nat), e = .returned (.bool b) ∧ p' ≤ p + 1 ∧ Rd w' B s c xs p' ∧ Upd B w w' ∧ w'.heap.size = w.heap.size

set_option maxHeartbeats 400000 in
theorem odd_any (B : Nat) (s : Option Addr) (c : Nat) (xs : List Int) (p : Nat) (n : Int) (w : World) (h : Rd w B s c xs p) (hp : p ≤ 1000000000000) (hn : -1000 ≤ n) (hn2 : n ≤ 1000000000) :
    Calls Try.prog 89 #[.pointer (some ⟨B, 0, none⟩), .int .i64 n] w (OddPost B s c xs p w) := by
  by_cases hc : n > 0
  · go_enter Try.func89, Try.ntmps89
    go_wp2_with (go_at_call 60; ((with_reducible refine (pick_any _ _ _ _ _ _ _ h hp hn2).mono ?_); rintro e w' ⟨k, rfl, hk1, hk2, hk3, hk4⟩; have HK := Lib.hid (And.intro hk1 (And.intro hk2 (And.intro hk3 hk4))); clear hk1 hk2 hk3 hk4))
    go_ret
    exact ⟨_, _, rfl, Nat.le_refl _, HK.out.2.1, HK.out.2.2.1, HK.out.2.2.2⟩
  · go_enter Try.func89, Try.ntmps89
    go_wp2
    go_ret
    exact ⟨_, p, rfl, by omega, h, Upd.refl _ _, rfl⟩

set_option maxHeartbeats 400000 in
theorem l20Open_any (s : Option Addr) (cap : Nat) (xs : List Int) (w : World) (hs : Sl w s (u8s xs)) (hl : xs.length ≤ 1048576) (hcap : xs.length ≤ cap) (hcap2 : cap ≤ 9223372036854775807) (hr : ∀ x ∈ xs, 0 ≤ x ∧ x ≤ 255) :
    Calls Try.prog 58 #[.slice s xs.length cap] w fun e w' => ∃ c, e = .returned (.pointer (some ⟨w.heap.size, 0, none⟩)) ∧ Rd w' w.heap.size s c (xs.take 2000) 0 ∧ Below w.heap.size w w' ∧ w'.heap.size = w.heap.size + 1 := by
  have HS := Lib.hid (And.intro hs hr)
  clear hs hr
  have hap : Hid (∀ a, s = some a → xs.take 2000 ≠ [] → a.block < w.heap.size) := fun a ha hne => by
    obtain ⟨b, off, rfl, hb, _⟩ := HS.out.1.at (k := 0) (by rw [u8s_length]; cases xs <;> simp at *)
    cases ha; exact hb
  have hsl : Hid (Sl w s (u8s (xs.take 2000))) := by
    rcases HS.out.1 with h | ⟨b, off, rfl, h⟩
    · left; simp [u8s] at h; simp [u8s, h]
    · right
      refine ⟨b, off, rfl, fun j v hv => h j v ?_⟩
      simp only [u8s, List.getElem?_map, List.getElem?_take] at hv ⊢
      split at hv
      · exact hv
      · simp at hv
  by_cases hc : xs.length ≤ 2000
  · have e : xs.take 2000 = xs := List.take_of_length_le hc
    have HE := Lib.hid e
    clear e
    go_enter Try.func58, Try.ntmps58
    go_wp2
    go_ret
    have e := HE.out
    refine ⟨cap, rfl, ⟨?_, hsl.out.mono ((Below.refl _ _).alloc (Nat.le_refl _) _), fun x hx => HS.out.2 x (List.mem_of_mem_take hx), by rw [e]; exact hc, hap.out⟩, (Below.refl _ _).alloc (Nat.le_refl _) _, by simp⟩
    rw [e]; exact blk_new _ _
  · have e : (xs.take 2000).length = 2000 := by rw [List.length_take]; omega
    have HE := Lib.hid e
    clear e
    go_enter Try.func58, Try.ntmps58
    go_wp2
    go_ret
    have e := HE.out
    refine ⟨cap, rfl, ⟨?_, hsl.out.mono ((Below.refl _ _).alloc (Nat.le_refl _) _), fun x hx => HS.out.2 x (List.mem_of_mem_take hx), by rw [e]; exact Nat.le_refl _, hap.out⟩, (Below.refl _ _).alloc (Nat.le_refl _) _, by simp⟩
    rw [e]; exact blk_new _ _

/-- Below b nothing has turned but block B. -/
structure Kp (B b : Nat) (w w' : World) : Prop where
  os : w'.os = w.os
  tape : w'.tape = w.tape
  output : w'.output = w.output
  size : w.heap.size ≤ w'.heap.size
  block : ∀ k, k < b → k ≠ B → w'.heap[k]? = w.heap[k]?

theorem Kp.refl (B b : Nat) (w : World) : Kp B b w w := ⟨rfl, rfl, rfl, Nat.le_refl _, fun _ _ _ => rfl⟩

theorem Kp.trans {B b : Nat} {x y z : World} (h : Kp B b x y) (k : Kp B b y z) : Kp B b x z :=
  ⟨k.os.trans h.os, k.tape.trans h.tape, k.output.trans h.output, Nat.le_trans h.size k.size, fun i hi hn => (k.block i hi hn).trans (h.block i hi hn)⟩

theorem Kp.mono {B b b' : Nat} {w w' : World} (h : Kp B b w w') (hb : b' ≤ b) : Kp B b' w w' := ⟨h.os, h.tape, h.output, h.size, fun k hk hn => h.block k (by omega) hn⟩

theorem Kp.of_below {B b : Nat} {w w' : World} (h : Below b w w') : Kp B b w w' := ⟨h.os, h.tape, h.output, h.size, fun k hk _ => h.block k hk⟩

theorem Kp.of_upd {B b : Nat} {w w' : World} (h : Upd B w w') (hb : b ≤ w.heap.size) : Kp B b w w' := ⟨h.os, h.tape, h.output, h.size, fun k hk hn => h.block k (by omega) (by simp; exact hn)⟩

theorem Kp.below {B b b' : Nat} {w w' : World} (h : Kp B b w w') (h1 : b' ≤ B) (h2 : b' ≤ b) : Below b' w w' := ⟨h.os, h.tape, h.output, h.size, fun k hk => h.block k (by omega) (by omega)⟩

theorem Kp.alloc {B b : Nat} {w w' : World} (h : Kp B b w w') (hb : b ≤ w.heap.size) (o : Obj) : Kp B b w (w'.alloc o) :=
  h.trans (Kp.of_below ((Below.refl _ _).alloc (Nat.le_trans hb h.size) o))

theorem own_kp {w w' : World} {base B b : Nat} {e : TypeId} {size : Nat} {v : Value} {n : Nat} {xs : List Value} (h : w.ownsRow base e size v n xs) (hB : B < base) (hb : ∀ k, v.ownBlock = some k → k < b) (hk : Kp B b w w') : w'.ownsRow base e size v n xs := by
  refine ⟨h.1, ?_⟩
  rcases h.2 with hn | ⟨g, cap, cur, rfl, hb', hg, rest⟩
  · exact .inl hn
  · exact .inr ⟨g, cap, cur, rfl, hb', by rw [hk.block g (hb g rfl) (by omega)]; exact hg, rest⟩

theorem elem_u8 : ElemOf Try.prog 22 5 (.int .u8 0) 1 1 :=
  ⟨by kernel_rfl, info_parts (by kernel_rfl), rfl, by omega⟩

theorem elem_str : ElemOf Try.prog 75 9 (.string ByteArray.empty) 1 16 :=
  ⟨by kernel_rfl, info_parts (by kernel_rfl), rfl, by omega⟩

theorem mkCols (w : World) (n : Nat) (h : n ≤ 1048576) : (Instr.makeSlice 105 (.int .i64 (n : Int)) (.int .i64 (n : Int))).run Try.prog w = .ok (.slice (some ⟨w.heap.size, 0, none⟩) n n) (w.alloc (.cells (List.replicate n (.slice none 0 0)).toArray 22)) := by
  obtain ⟨i, hi, h1, h2, h3⟩ := info_parts (P := Try.prog) (e := 22) (z := .slice none 0 0) (size := 1) (bytes := 24) (by kernel_rfl)
  have := run_make (P := Try.prog) w 105 22 i (.slice none 0 0) (by kernel_rfl) hi h1 .i64 .i64 n n (by omega) (by omega) (by rw [h3]; omega) (by omega)
  rw [this, h2]
  have e : madeCells #[Value.slice none 0 0] n = (List.replicate n (Value.slice none 0 0)).toArray := by
    apply Array.ext'
    rw [toList_madeCells_one]
  simp [Value.cells, e]

/-- Rows of bytes: each in a block of its own. -/
structure ColsAt (w : World) (base G : Nat) (cells : List Value) (rows : List (List Int)) : Prop where
  blk : w.heap[G]? = some (.cells cells.toArray 22 (0, 0))
  len : cells.length = rows.length
  own : ∀ (i : Nat) (v : Value) (r : List Int), cells[i]? = some v → rows[i]? = some r → w.ownsRow base 5 1 v r.length (u8s r)
  ne : ∀ (i j : Nat) (vi vj : Value), i ≠ j → cells[i]? = some vi → cells[j]? = some vj → ∀ k, vi.ownBlock = some k → vj.ownBlock ≠ some k

theorem ColsAt.below {w w' : World} {base G : Nat} {cells : List Value} {rows : List (List Int)} (h : ColsAt w base G cells rows) (hb : Below w.heap.size w w') : ColsAt w' base G cells rows :=
  ⟨blk_below hb (blk_lt h.blk) h.blk, h.len, fun i v r h1 h2 => own_below (h.own i v r h1 h2) hb, h.ne⟩

theorem ColsAt.get {w : World} {base G : Nat} {cells : List Value} {rows : List (List Int)} (h : ColsAt w base G cells rows) {i : Nat} {r : List Int} (hr : rows[i]? = some r) : ∃ s c, cells[i]? = some (.slice s r.length c) := by
  obtain ⟨v, hv⟩ := get_of_lt (l := cells) (k := i) (by rw [h.len]; exact (List.getElem?_eq_some_iff.1 hr).1)
  obtain ⟨s, c, rfl⟩ := own_shape (h.own i v r hv hr)
  exact ⟨s, c, hv⟩

theorem ColsAt.row {w : World} {base G : Nat} {cells : List Value} {rows : List (List Int)} (h : ColsAt w base G cells rows) {i : Nat} {v : Value} (hv : cells[i]? = some v) : ∃ r, rows[i]? = some r :=
  get_of_lt (by rw [← h.len]; exact (List.getElem?_eq_some_iff.1 hv).1)

theorem ColsAt.step {w w2 : World} {base G : Nat} {cells : List Value} {rows : List (List Int)} (h : ColsAt w base G cells rows) {m : Nat} {v v' : Value} {r r' : List Int} (hv : cells[m]? = some v) (hr : rows[m]? = some r)
    (hg : w.grownBy w2 v.ownBlock) (ho : w2.ownsRow base 5 1 v' r'.length (u8s r')) (hb : v'.ownBlock = v.ownBlock ∨ v'.ownBlock = some w.heap.size) :
    ColsAt (w2.setCell ⟨G, m, none⟩ v') base G (cells.set m v') (rows.set m r') := by
  have tn : ∀ {i : Nat} {u : Value}, cells[i]? = some u → u.ownBlock ≠ some G := fun {i u} hu => by
    obtain ⟨q, hq⟩ := h.row hu
    exact own_tyb (h.own i u q hu hq) h.blk (by decide)
  have hG2 : w2.heap[G]? = some (.cells cells.toArray 22 (0, 0)) := by
    rw [hg.block G (blk_lt h.blk) (fun e => tn hv e.symm)]; exact h.blk
  have vn : v'.ownBlock ≠ some G := by
    rcases hb with e | e
    · rw [e]; exact tn hv
    · rw [e]; intro e2; have := blk_lt h.blk; simp at e2; omega
  have ml : m < cells.length := (List.getElem?_eq_some_iff.1 hv).1
  have lt : ∀ {i : Nat} {u : Value} {k : Nat}, cells[i]? = some u → u.ownBlock = some k → k < w.heap.size := fun {i u k} hu hk => by
    obtain ⟨q, hq⟩ := h.row hu
    exact (own_blk (h.own i u q hu hq) hk).2
  refine ⟨?_, by simp [h.len], fun i u q h1 h2 => ?_, fun i j vi vj hne h1 h2 k hk => ?_⟩
  · rw [← List.setIfInBounds_toArray]; exact blk_set hG2
  · by_cases e : i = m
    · subst e
      rw [List.getElem?_set_self (by exact ml)] at h1
      rw [List.getElem?_set_self (by rw [← h.len]; exact ml)] at h2
      cases h1; cases h2
      exact own_set_ne ho vn _
    · rw [List.getElem?_set_ne (Ne.symm e)] at h1 h2
      refine own_set_ne ((Chg.of_grown hg).own (h.own i u q h1 h2) (fun k hk hk2 => h.ne i m u v e h1 hv k hk hk2)) (tn h1) _
  · by_cases e : i = m
    · subst e
      rw [List.getElem?_set_self (by exact ml)] at h1
      rw [List.getElem?_set_ne hne] at h2
      cases h1
      rcases hb with e | e
      · rw [e] at hk; exact h.ne i j v vj hne hv h2 k hk
      · rw [e] at hk; cases hk
        intro hj; have := lt h2 hj; omega
    · rw [List.getElem?_set_ne (Ne.symm e)] at h1
      by_cases e2 : j = m
      · subst e2
        rw [List.getElem?_set_self (by exact ml)] at h2
        cases h2
        intro hj
        rcases hb with e3 | e3
        · rw [e3] at hj; exact h.ne i j vi v hne h1 hv k hk hj
        · rw [e3] at hj; cases hj; have := lt h1 hk; omega
      · rw [List.getElem?_set_ne (Ne.symm e2)] at h2
        exact h.ne i j vi vj hne h1 h2 k hk

def rowsK (c : Cir) (V k m : Nat) : List (List Int) := (List.range V).map fun (p : Nat) => bnums (colV c p) (if p < m then k + 1 else k)

theorem rowsK_length (c : Cir) (V k m : Nat) : (rowsK c V k m).length = V := by simp [rowsK]

theorem rowsK_get {c : Cir} {V k m p : Nat} (h : p < V) : (rowsK c V k m)[p]? = some (bnums (colV c p) (if p < m then k + 1 else k)) := by simp [rowsK, h]

theorem rowsK_full (c : Cir) (V k : Nat) : rowsK c V k V = rowsK c V (k + 1) 0 := by
  unfold rowsK
  apply List.map_congr_left
  intro p hp
  rw [if_pos (by simpa using hp), if_neg (by omega)]

theorem rowsK_set {c : Cir} {V k m : Nat} (h : m < V) : (rowsK c V k m).set m (bnums (colV c m) (k + 1)) = rowsK c V k (m + 1) := by
  apply List.ext_getElem?
  intro i
  by_cases hi : i < V
  · by_cases e : i = m
    · subst e
      rw [List.getElem?_set_self (by rw [rowsK_length]; exact h), rowsK_get h, if_pos (by omega)]
    · rw [List.getElem?_set_ne (Ne.symm e), rowsK_get hi, rowsK_get hi]
      by_cases h2 : i < m
      · rw [if_pos h2, if_pos (by omega)]
      · rw [if_neg h2, if_neg (by omega)]
  · rw [List.getElem?_eq_none (by simp [rowsK_length]; omega), List.getElem?_eq_none (by rw [rowsK_length]; omega)]

theorem u8s_append (xs ys : List Int) : u8s xs ++ u8s ys = u8s (xs ++ ys) := by simp [u8s]

set_option maxRecDepth 100000 in
set_option maxHeartbeats 3200000 in
theorem functions_any (b : Nat) (sn sg : Option Addr) (cn cg : Nat) (vo : Value) (c : Cir) (w : World)
    (h : CirAt w b c.inp (.slice sn c.next.length cn) (.slice sg c.gates.length cg) vo) (hg : Sl w sg (gcells c.gates)) (hv : c.valid) (V : Nat) (hV : c.vars = V) :
    Calls Try.prog 63 #[.pointer (some ⟨b, 0, none⟩)] w fun e w' => ∃ s cap, e = .returned (.slice s V cap) ∧ Sl w' s ((List.range V).map fun p => Value.string (bstr (colV c p) (asgN c))) ∧ Below w.heap.size w w' := by
  have HB : Hid (b < w.heap.size) := World.block_lt_of_cell? w _ h.h0
  obtain ⟨f1, f2, f3, f4⟩ := valid_first hv
  obtain ⟨q1, q2, q3, q4, q5⟩ := id hv.lim
  obtain ⟨n1, n2⟩ := asgN_le hv
  have eF : c.first = 1 + c.inp + c.next.length := rfl
  obtain ⟨ni, hni⟩ : ∃ ni : Nat, c.inp = ni := ⟨c.inp.toNat, by omega⟩
  obtain ⟨N, hN⟩ : ∃ N, N = asgN c := ⟨_, rfl⟩
  have n4 : ni ≤ 4 := by omega
  have v1 : 1 ≤ V := by omega
  have v2 : V ≤ 22 := by omega
  rw [← hN] at n1 n2 ⊢
  have H := Lib.hid (And.intro h (And.intro hg (And.intro hv (And.intro hV (And.intro hni hN)))))
  have hmk := fun w => mkCols w V (by omega)
  have HM : Hid (∀ W, Below w.heap.size w W → CirAt W b c.inp (.slice sn c.next.length cn) (.slice sg c.gates.length cg) vo) := fun W hb => ⟨(hb.cell (p := ⟨b, 0, none⟩) HB.out).trans H.out.1.h0, (hb.cell (p := ⟨b, 1, none⟩) HB.out).trans H.out.1.h1, (hb.cell (p := ⟨b, 2, none⟩) HB.out).trans H.out.1.h2, (hb.cell (p := ⟨b, 3, none⟩) HB.out).trans H.out.1.h3⟩
  have e0 : 1 + c.inp + (c.next.length : Int) + (c.gates.length : Int) = (V : Int) := by omega
  have e1 : ((2 ^ (c.inp.toNat + c.next.length) : Nat) : Int) = (N : Int) := by rw [hN]; rfl
  have E0 := Lib.hid (And.intro e0 e1)
  clear h hg hv hV hni hN e0 e1 f1 f2 f3 eF
  go_enter Try.func63, Try.ntmps63
  go_wp2_with (first
    | (go_at_call 38; ((refine (vars_any _ _ _ _ _ _ _ _ _ _ H.out.1 (by omega) (by omega) (by omega)).mono ?_); rintro e w1 ⟨rfl, hd⟩; rw [E0.out.1]; have HD := Lib.hid hd; clear hd))
    | (go_at_call 77; ((refine (assignments_any _ _ _ _ _ _ _ _ (HM.out _ ((HD.out.below _).alloc (by rw [HD.out.heap]; exact Nat.le_refl _) _)) (by omega) (by omega)).mono ?_); rintro e w2 ⟨rfl, hd⟩; rw [E0.out.2]; have HD2 := Lib.hid hd; clear hd)))
  clear hmk
  have hG : w1.heap.size = w.heap.size := by rw [HD.out.heap]
  have hbA : Below w.heap.size w w2 := ((HD.out.below _).alloc (by omega) _).trans (HD2.out.below _)
  have hbN : w2.heap[w.heap.size]? = some (.cells (List.replicate V (Value.slice none 0 0)).toArray 22 (0, 0)) := by
    rw [HD2.out.heap, ← hG]; exact blk_new _ _
  have hc0 : ColsAt w2 w.heap.size w.heap.size (List.replicate V (Value.slice none 0 0)) (rowsK c V 0 0) := by
    refine ⟨hbN, by rw [rowsK_length]; simp, fun i v r h1 h2 => ?_, fun i j vi vj _ h1 _ k hk => ?_⟩
    · have hi : i < V := by have := (List.getElem?_eq_some_iff.1 h1).1; simpa using this
      rw [rowsK_get hi] at h2
      simp [hi] at h1
      simp [bnums] at h2
      subst h1 h2
      exact World.ownsRow_nil _ _ _ _
    · have hi : i < V := by have := (List.getElem?_eq_some_iff.1 h1).1; simpa using this
      simp [hi] at h1
      subst h1
      cases hk
  rw [hG]
  have HA := Lib.hid (And.intro hbA hc0)
  clear hbA hbN hc0 hG HD HD2
  obtain ⟨G, hG⟩ : ∃ G, w.heap.size = G := ⟨_, rfl⟩
  have HG := Lib.hid hG
  rw [hG] at HA HM HB ⊢
  clear hG
  go_loopw [16] (fun i wr => ∃ (k : Nat) (cells : List Value), k ≤ N ∧ i = .int .i64 k ∧ ColsAt wr G G cells (rowsK c V k 0) ∧ Below G w wr) (fun i _ => N - (intOf i).toNat)
  case atStart => exact ⟨0, _, Nat.zero_le _, rfl, HA.out.2, HA.out.1⟩
  case round =>
    obtain ⟨k, cells, hk, rfl, hco, hbl⟩ := hrel
    by_cases hlt : k < N
    · have hbs : G ≤ wr.heap.size := by have h1 := hbl.size; have h2 := HG.out; omega
      have hkpw : (1 : Int) ≤ 2 ^ ni := by have : (0 : Int) < 2 ^ ni := Int.pow_pos (by decide); omega
      have HR := Lib.hid (And.intro hco (And.intro hbl hkpw))
      clear hco hbl hkpw
      go_wp2_with (first
        | (go_at_call 80; ((refine (latchBits_any _ _ _ _ _ _ _ _ _ (HM.out _ HR.out.2.1) ⟨by omega, by omega⟩ (by omega) (by omega) (by omega)).mono ?_); rintro e wa ⟨sa, rfl, ha, hqa⟩; have HL1 := Lib.hid (And.intro (HR.out.2.1.trans (hqa.mono hbs)) (And.intro ha (And.intro hqa (show wr.heap.size ≤ wa.heap.size from hqa.size)))); clear ha hqa))
        | (go_at_call 81; ((refine (inputBits_any _ _ _ _ _ _ _ (HM.out _ HL1.out.1) ni H.out.2.2.2.2.1 (by omega) (by omega) (by omega)).mono ?_); rintro e wb ⟨sb, rfl, hb, hqb⟩; have HL2 := Lib.hid (And.intro (HL1.out.1.trans (hqb.mono (by have := HL1.out.2.2.2; omega))) (And.intro hb (And.intro (HL1.out.2.1.mono hqb) (And.intro (HL1.out.2.2.1.trans (hqb.mono HL1.out.2.2.2)) (show wr.heap.size ≤ wb.heap.size by have h1 := HL1.out.2.2.2; have h2 := hqb.size; omega))))); clear hb hqb))
        | (go_at_call 90; ((refine (evaluate_any _ _ _ _ _ _ c sa sb _ _ (bitsV ((k : Int) / 2 ^ c.inp.toNat) c.next.length) (bitsV k ni) (-1) false _ (HM.out _ HL2.out.1) (H.out.2.1.mono (by rw [HG.out]; exact HL2.out.1)) H.out.2.2.1 HL2.out.2.2.1 HL2.out.2.1 (bitsV_length _ _) ni (bitsV_length _ _) H.out.2.2.2.2.1 V H.out.2.2.2.1 (by omega) (by omega)).mono ?_); rintro e we ⟨gv, rfl, hgv, hqe⟩; have HE := Lib.hid (And.intro (HL2.out.1.trans (hqe.mono (by have := HL2.out.2.2.2.2; omega))) (And.intro hgv (And.intro (HL2.out.2.2.2.1.trans (hqe.mono HL2.out.2.2.2.2)) (show wr.heap.size ≤ we.heap.size by have h1 := HL2.out.2.2.2.2; have h2 := hqe.size; omega)))); clear hgv hqe)))
      obtain ⟨L, hL⟩ : ∃ L, L = evalV c k (-1) false := ⟨_, rfl⟩
      have hLe : valsV (-1) false (stuckB (-1) false (false :: (bitsV k ni ++ bitsV ((k : Int) / 2 ^ c.inp.toNat) c.next.length))) c.gates = L := by
        rw [hL, ← evalV_asg c k ni H.out.2.2.2.2.1]
        unfold stuckB
        rw [if_neg (by omega), H.out.2.2.2.2.1]
        simp
      have hLl : L.length = V := by
        have h1 := H.out.2.2.2.1; have h2 := H.out.2.2.2.2.1; unfold Cir.vars at h1
        rw [hL, evalV_length]; omega
      have hgv := HE.out.2.1
      rw [hLe] at hgv
      have HV := Lib.hid (And.intro hgv (And.intro hL (And.intro hLl (HR.out.1.below HE.out.2.2.1))))
      have hes : G ≤ we.heap.size := by have h1 := HE.out.2.2.2; omega
      clear hgv hL hLl hLe
      go_loopw [28] (fun j wq => ∃ (m : Nat) (cells : List Value), m ≤ V ∧ j = .int .i64 m ∧ ColsAt wq G G cells (rowsK c V k m) ∧ wq.heap[gv]? = some (.cells (bools L).toArray 4 (0, 0)) ∧ Below G we wq) (fun j _ => V - (intOf j).toNat)
      case atStart => exact ⟨0, cells, Nat.zero_le _, rfl, HV.out.2.2.2, HV.out.1, Below.refl _ _⟩
      case round =>
        obtain ⟨m, cells2, hm, rfl, hco, hgv, hbq⟩ := hrel
        by_cases hmlt : m < V
        · have hrm := rowsK_get (c := c) (k := k) (m := m) hmlt
          rw [if_neg (Nat.lt_irrefl m)] at hrm
          obtain ⟨sm, cm, hvm⟩ := hco.get hrm
          have hom := hco.own m _ _ hvm hrm
          rw [bnums_length] at hom hvm
          obtain ⟨y, hy⟩ := get_of_lt (l := L) (k := m) (by rw [HV.out.2.2.1]; exact hmlt)
          have hcol : colV c m k = y := colV_get (by rw [← HV.out.2.1]; exact hy)
          have hbsucc := bnums_succ (colV c m) k
          have hbn : bnum (colV c m) k = if y then 49 else 48 := by unfold bnum; rw [hcol]
          have z1 := bools_cell hgv hy
          have z2 : wr.cell? ⟨G, m, none⟩ = some (.slice sm k cm) := by rw [blk_cell hco.blk]; simpa using hvm
          have hqs : G ≤ wr.heap.size := by have h1 := hbq.size; omega
          have hGlt := blk_lt hco.blk
          have HQ := Lib.hid (And.intro hco (And.intro hgv (And.intro hbq (And.intro hrm (And.intro hvm (And.intro hom (And.intro hbsucc hbn)))))))
          clear hco hgv hbq hrm hvm hom hy hcol hbsucc hbn
          cases y
          · go_wp2_with (at_builtin; refine wpl_app rfl _ _ rfl elem_u8 (own_below HQ.out.2.2.2.2.2.1 ((Below.refl _ _).alloc (Nat.le_refl _) _)) rfl rfl rfl (Sl.new _ _ _) (by simp [Value.oneCell']) (k + 1) rfl (u8s (bnums (colV c m) (k + 1))) (by rw [HQ.out.2.2.2.2.2.2.1, HQ.out.2.2.2.2.2.2.2, ← u8s_append]; rfl) (by unfold maxLen; omega) (by omega) (by simp; omega) ?_; intro s3 c3 w3 h3 hb3 hg3 ho3; have hcA := HQ.out.1.below ((Below.refl _ _).alloc (Nat.le_refl _) (.cells #[.int .u8 48] 5)); have hgvA := blk_old (o := .cells #[.int .u8 48] 5) HQ.out.2.1; have hG3 : w3.heap[G]? = some (.cells cells2.toArray 22 (0, 0)) := (by rw [hg3.block G (blk_lt hcA.blk) (fun e => own_tyb HQ.out.2.2.2.2.2.1 HQ.out.1.blk (by decide) e.symm)]; exact hcA.blk); have hgv3 : w3.heap[gv]? = some (.cells (bools L).toArray 4 (0, 0)) := (by rw [hg3.block gv (blk_lt hgvA) (fun e => own_tyb HQ.out.2.2.2.2.2.1 HQ.out.2.1 (by decide) e.symm)]; exact hgvA); have z3 : w3.cell? ⟨G, m, none⟩ = some (.slice sm k cm) := (by rw [blk_cell hG3]; simpa using HQ.out.2.2.2.2.1); have z4 : w3.frozen? ⟨G, m, none⟩ = false := blk_free hG3; have HS := Lib.hid (And.intro (hcA.step HQ.out.2.2.2.2.1 HQ.out.2.2.2.1 hg3 (r' := bnums (colV c m) (k + 1)) (v' := .slice s3 (k + 1) c3) (by rw [bnums_length]; exact h3) ho3) (And.intro hgv3 (And.intro ((HQ.out.2.2.1.alloc hqs _).trans hb3) hG3))); clear hcA hgvA hG3 hgv3 h3 hb3 hg3 ho3)
            go_roundw
            case rel =>
              have hne : gv ≠ G := by
                intro e; have h1 := HS.out.2.1; rw [e, HS.out.2.2.2] at h1; simp at h1
              refine ⟨m + 1, cells2.set m (.slice s3 (k + 1) c3), by omega, by go_num, ?_, blk_set_ne (Ne.symm hne) HS.out.2.1, HS.out.2.2.1.setCell (p := ⟨G, m, none⟩) (Nat.le_refl _) _⟩
              rw [← rowsK_set hmlt]; exact HS.out.1
            case measure => simp [intOf]; omega
          · go_wp2_with (at_builtin; refine wpl_app rfl _ _ rfl elem_u8 (own_below HQ.out.2.2.2.2.2.1 ((Below.refl _ _).alloc (Nat.le_refl _) _)) rfl rfl rfl (Sl.new _ _ _) (by simp [Value.oneCell']) (k + 1) rfl (u8s (bnums (colV c m) (k + 1))) (by rw [HQ.out.2.2.2.2.2.2.1, HQ.out.2.2.2.2.2.2.2, ← u8s_append]; rfl) (by unfold maxLen; omega) (by omega) (by simp; omega) ?_; intro s3 c3 w3 h3 hb3 hg3 ho3; have hcA := HQ.out.1.below ((Below.refl _ _).alloc (Nat.le_refl _) (.cells #[.int .u8 49] 5)); have hgvA := blk_old (o := .cells #[.int .u8 49] 5) HQ.out.2.1; have hG3 : w3.heap[G]? = some (.cells cells2.toArray 22 (0, 0)) := (by rw [hg3.block G (blk_lt hcA.blk) (fun e => own_tyb HQ.out.2.2.2.2.2.1 HQ.out.1.blk (by decide) e.symm)]; exact hcA.blk); have hgv3 : w3.heap[gv]? = some (.cells (bools L).toArray 4 (0, 0)) := (by rw [hg3.block gv (blk_lt hgvA) (fun e => own_tyb HQ.out.2.2.2.2.2.1 HQ.out.2.1 (by decide) e.symm)]; exact hgvA); have z3 : w3.cell? ⟨G, m, none⟩ = some (.slice sm k cm) := (by rw [blk_cell hG3]; simpa using HQ.out.2.2.2.2.1); have z4 : w3.frozen? ⟨G, m, none⟩ = false := blk_free hG3; have HS := Lib.hid (And.intro (hcA.step HQ.out.2.2.2.2.1 HQ.out.2.2.2.1 hg3 (r' := bnums (colV c m) (k + 1)) (v' := .slice s3 (k + 1) c3) (by rw [bnums_length]; exact h3) ho3) (And.intro hgv3 (And.intro ((HQ.out.2.2.1.alloc hqs _).trans hb3) hG3))); clear hcA hgvA hG3 hgv3 h3 hb3 hg3 ho3)
            go_roundw
            case rel =>
              have hne : gv ≠ G := by
                intro e; have h1 := HS.out.2.1; rw [e, HS.out.2.2.2] at h1; simp at h1
              refine ⟨m + 1, cells2.set m (.slice s3 (k + 1) c3), by omega, by go_num, ?_, blk_set_ne (Ne.symm hne) HS.out.2.1, HS.out.2.2.1.setCell (p := ⟨G, m, none⟩) (Nat.le_refl _) _⟩
              rw [← rowsK_set hmlt]; exact HS.out.1
            case measure => simp [intOf]; omega
        · obtain rfl : m = V := by omega
          rw [rowsK_full] at hco
          have HQ := Lib.hid (And.intro hco hbq)
          clear hco hgv hbq
          go_wp2_with fail
          go_roundw
          case rel => exact ⟨k + 1, cells2, by omega, by go_num, HQ.out.1, HE.out.1.trans HQ.out.2⟩
          case measure => simp [intOf]; omega
    · obtain rfl : k = N := by omega
      have HQ := Lib.hid (And.intro hco hbl)
      clear hco hbl
      obtain ⟨WF, hWF⟩ : ∃ WF, WF = wr := ⟨_, rfl⟩
      subst hWF
      have hrG : G ≤ WF.heap.size := by have h1 := HQ.out.2.size; have h2 := HG.out; omega
      go_wp2_with fail
      obtain ⟨z2, z3⟩ := blk_all HQ.out.1.blk
      clear z3
      clear z2
      go_loopw [48, 8] (fun i v wz => ∃ (m : Nat) (s : Option Addr) (cc : Nat), m ≤ V ∧ i = .int .i64 m ∧ v = .slice s m cc ∧ wz.ownsRow WF.heap.size 9 1 v m ((List.range m).map fun p => Value.string (bstr (colV c p) k)) ∧ Below WF.heap.size WF wz) (fun i _ _ => V - (intOf i).toNat)
      case atStart => exact ⟨0, _, _, Nat.zero_le _, rfl, rfl, World.ownsRow_nil _ _ _ _, Below.refl _ _⟩
      case round =>
        obtain ⟨m, s8, c8, hm, rfl, rfl, ho, hbq⟩ := hrel
        by_cases hmlt : m < V
        · have hrm := rowsK_get (c := c) (k := k) (m := 0) hmlt
          rw [if_neg (Nat.not_lt_zero m)] at hrm
          have hco := HQ.out.1.below hbq
          obtain ⟨sm, cm, hvm⟩ := hco.get hrm
          have hom := hco.own m _ _ hvm hrm
          rw [bnums_length] at hom hvm
          obtain ⟨g, rfl⟩ : ∃ g, sm = some ⟨g, 0, none⟩ := by
            rcases own_some hom with ⟨_, e, _⟩ | ⟨g, e⟩
            · omega
            · exact ⟨g, e⟩
          have z2 : wr.cell? ⟨G, m, none⟩ = some (.slice (some ⟨g, 0, none⟩) k cm) := by rw [blk_cell hco.blk]; simpa using hvm
          have hconv : (convert 22 9 (.slice (some ⟨g, 0, none⟩) k cm)).run Try.prog wr = .ok (.string (bstr (colV c m) k)) wr := by
            refine run_convert_bytes_arg wr 22 5 (by kernel_rfl) (by kernel_rfl) g 0 k cm (bnums (colV c m) k) (bnums_length _ _) (fun i hi => ?_) 9 (by kernel_rfl)
            have := hom.cellAt i (by omega)
            rw [Nat.zero_add, this]
            have hi2 : i < (bnums (colV c m) k).length := by rw [bnums_length]; exact hi
            simp [u8s, List.getD, hi2]
          have HS := Lib.hid (And.intro ho hbq)
          have hzs : WF.heap.size ≤ wr.heap.size := hbq.size
          clear hrm hco hvm hom ho hbq
          go_wp2_with (at_builtin; refine wpl_app rfl _ _ rfl elem_str (own_below HS.out.1 ((Below.refl _ _).alloc (Nat.le_refl _) _)) rfl rfl rfl (Sl.new _ _ _) (by simp [Value.oneCell']) (m + 1) rfl ((List.range (m + 1)).map fun p => Value.string (bstr (colV c p) k)) (by rw [List.range_succ, List.map_append]; rfl) (by unfold maxLen; omega) (by omega) (by simp; omega) ?_; intro s3 c3 w3 h3 hb3 _ _; have HT := Lib.hid (And.intro h3 hb3); clear h3 hb3)
          go_roundw
          case rel => exact ⟨m + 1, s3, c3, by omega, by go_num, rfl, HT.out.1, (HS.out.2.alloc hzs _).trans HT.out.2⟩
          case measure => simp [intOf]; omega
        · obtain rfl : m = V := by omega
          have HS := Lib.hid (And.intro ho hbq)
          have hws : w.heap.size ≤ WF.heap.size := HQ.out.2.size
          clear ho hbq
          go_wp2_with fail
          go_ret
          exact ⟨s8, c8, rfl, own_sl HS.out.1, by rw [HG.out]; exact HQ.out.2.trans (HS.out.2.mono hrG)⟩

/-! SameFunction, both. -/

def sfOk (c : Cir) (p q : Int) : Prop := c.validB = true ∧ (0 ≤ p ∧ p < c.vars) ∧ 0 ≤ q ∧ q < c.vars

instance (c : Cir) (p q : Int) : Decidable (sfOk c p q) := inferInstanceAs (Decidable (_ ∧ _))

def sfR (c : Cir) (p q : Int) : Int := if sfOk c p q then sameV c p.toNat q.toNat else 0

theorem sfR_no {c : Cir} {p q : Int} (h : ¬ sfOk c p q) : sfR c p q = 0 := by unfold sfR; rw [if_neg h]

theorem sfR_yes {c : Cir} {p q : Int} (h : sfOk c p q) : sfR c p q = sameV c p.toNat q.toNat := by unfold sfR; rw [if_pos h]

theorem Sl.two {w wr : World} {s : Option Addr} {cs : List Value} (h : Sl w s cs) (hbl : Below w.heap.size w wr) {j k : Nat} {x y : Value} (hx : cs[j]? = some x) (hy : cs[k]? = some y) :
    ∃ b off, s = some ⟨b, off, none⟩ ∧ b < w.heap.size ∧ wr.cell? ⟨b, off + j, none⟩ = some x ∧ wr.cell? ⟨b, off + k, none⟩ = some y := by
  obtain ⟨b, off, rfl, hbw, hcs⟩ := h.at (k := j) (List.getElem?_eq_some_iff.1 hx).1
  exact ⟨b, off, rfl, hbw, by rw [hbl.cell (by exact hbw)]; exact hcs _ _ hx, by rw [hbl.cell (by exact hbw)]; exact hcs _ _ hy⟩

theorem compareCols_any (c : Cir) (p q : Nat) (w : World) (hN : asgN c ≤ 1000) :
    Calls Try.prog 66 #[.string (bstr (colV c p) (asgN c)), .string (bstr (colV c q) (asgN c))] w fun e w' => e = .returned (.int .i64 (sameV c p q)) ∧ Drew w w' := compareColumns_any _ _ _ w hN

end Go.Proofs.Ytdcjiclonjillaa
