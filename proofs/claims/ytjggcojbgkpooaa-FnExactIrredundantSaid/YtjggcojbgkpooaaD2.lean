import Derived.Test.YtjggcojbgkpooaaD1
namespace Go.Proofs.Ytjggcojbgkpooaa
set_option linter.unusedVariables false
set_option linter.unusedSimpArgs false
open Go.RowKit

theorem Rd.drewN {w : World} {B : Nat} {s : Option Addr} {c : Nat} {xs : List Int} {p : Nat} (h : Rd w B s c xs p) (n : Nat) : Rd (w.drewN n) B s c xs p := ⟨h.blk, h.bytes, h.range, h.len, h.apart⟩

theorem Rd.mono {w w' : World} {B : Nat} {s : Option Addr} {c : Nat} {xs : List Int} {p : Nat} (h : Rd w B s c xs p) (hb : Below w.heap.size w w') : Rd w' B s c xs p :=
  ⟨blk_below hb (blk_lt h.blk) h.blk, h.bytes.mono hb, h.range, h.len, h.apart⟩

/-- What has grown but for a row of the call's own, which lies behind the reader. -/
theorem Rd.grown {w w' : World} {B b : Nat} {s : Option Addr} {c : Nat} {xs : List Int} {p : Nat} (h : Rd w B s c xs p) (hb : Below b w w') (hB : B < b) : Rd w' B s c xs p :=
  ⟨blk_below hb hB h.blk, h.bytes.mono' (B := B) (fun a ha hne => h.apart a ha (by intro e; subst e; simp [u8s] at hne)) (hb.mono (by omega)), h.range, h.len, h.apart⟩

theorem Upd.grown {B b : Nat} {w w' : World} (hb : Below b w w') (hB : ∀ k, b ≤ k → k < w.heap.size → k = B ∨ w'.heap[k]? = w.heap[k]?) : Upd B w w' :=
  ⟨hb.os, hb.tape, hb.output, hb.size, fun k hk hne => by
    by_cases h : k < b
    · exact hb.block k h
    · rcases hB k (by omega) hk with rfl | h2
      · exact absurd rfl hne
      · exact h2⟩

def OddPost (B : Nat) (s : Option Addr) (c : Nat) (xs : List Int) (p : Nat) (w : World) (e : Ending) (w' : World) : Prop :=
  ∃ (b : Bool) (p' : Nat), e = .returned (.bool b) ∧ p' ≤ p + 1 ∧ Rd w' B s c xs p' ∧ Upd B w w' ∧ w'.heap.size = w.heap.size

set_option maxHeartbeats 400000 in
theorem odd_any (B : Nat) (s : Option Addr) (c : Nat) (xs : List Int) (p : Nat) (n : Int) (w : World) (h : Rd w B s c xs p) (hp : p ≤ 1000000000000) (hn : -1000 ≤ n) (hn2 : n ≤ 1000000000) :
    Calls Try.prog 83 #[.pointer (some ⟨B, 0, none⟩), .int .i64 n] w (OddPost B s c xs p w) := by
  by_cases hc : n > 0
  · go_enter Try.func83, Try.ntmps83
    go_wp2_with (go_at_call 45; ((with_reducible refine (pick_any _ _ _ _ _ _ _ h hp hn2).mono ?_); rintro e w' ⟨k, rfl, hk1, hk2, hk3, hk4⟩; have HK := Lib.hid (And.intro hk1 (And.intro hk2 (And.intro hk3 hk4))); clear hk1 hk2 hk3 hk4))
    go_ret
    exact ⟨_, _, rfl, Nat.le_refl _, HK.out.2.1, HK.out.2.2.1, HK.out.2.2.2⟩
  · go_enter Try.func83, Try.ntmps83
    go_wp2
    go_ret
    exact ⟨_, p, rfl, by omega, h, Upd.refl _ _, rfl⟩

set_option maxHeartbeats 400000 in
theorem l20Open_any (s : Option Addr) (cap : Nat) (xs : List Int) (w : World) (hs : Sl w s (u8s xs)) (hl : xs.length ≤ 1048576) (hcap : xs.length ≤ cap) (hcap2 : cap ≤ 9223372036854775807) (hr : ∀ x ∈ xs, 0 ≤ x ∧ x ≤ 255) :
    Calls Try.prog 43 #[.slice s xs.length cap] w fun e w' => ∃ c, e = .returned (.pointer (some ⟨w.heap.size, 0, none⟩)) ∧ Rd w' w.heap.size s c (xs.take 2000) 0 ∧ Below w.heap.size w w' ∧ w'.heap.size = w.heap.size + 1 := by
  have HS := Lib.hid (And.intro hs hr)
  clear hs hr
  have hap : Hid (∀ a, s = some a → xs.take 2000 ≠ [] → a.block < w.heap.size) := fun a ha hne => by
    obtain ⟨b, off, rfl, hb, _⟩ := HS.out.1.at (k := 0) (by rw [u8s_length]; cases xs <;> simp at *)
    cases ha; exact hb
  have hsl : Hid (Sl w s (u8s (xs.take 2000))) := by
    rcases HS.out.1 with h | ⟨b, off, rfl, h⟩
    · left; simp [u8s] at h; simp [u8s, h]
    · right
      refine ⟨b, off, rfl, fun j v hv => h j v ?_⟩
      simp only [u8s, List.getElem?_map, List.getElem?_take] at hv ⊢
      split at hv
      · exact hv
      · simp at hv
  by_cases hc : xs.length ≤ 2000
  · have e : xs.take 2000 = xs := List.take_of_length_le hc
    have HE := Lib.hid e
    clear e
    go_enter Try.func43, Try.ntmps43
    go_wp2
    go_ret
    have e := HE.out
    refine ⟨cap, rfl, ⟨?_, hsl.out.mono ((Below.refl _ _).alloc (Nat.le_refl _) _), fun x hx => HS.out.2 x (List.mem_of_mem_take hx), by rw [e]; exact hc, hap.out⟩, (Below.refl _ _).alloc (Nat.le_refl _) _, by simp⟩
    rw [e]; exact blk_new _ _
  · have e : (xs.take 2000).length = 2000 := by rw [List.length_take]; omega
    have HE := Lib.hid e
    clear e
    go_enter Try.func43, Try.ntmps43
    go_wp2
    go_ret
    have e := HE.out
    refine ⟨cap, rfl, ⟨?_, hsl.out.mono ((Below.refl _ _).alloc (Nat.le_refl _) _), fun x hx => HS.out.2 x (List.mem_of_mem_take hx), by rw [e]; exact Nat.le_refl _, hap.out⟩, (Below.refl _ _).alloc (Nat.le_refl _) _, by simp⟩
    rw [e]; exact blk_new _ _

end Go.Proofs.Ytjggcojbgkpooaa
