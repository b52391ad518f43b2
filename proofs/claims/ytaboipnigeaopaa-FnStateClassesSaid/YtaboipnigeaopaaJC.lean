import Derived.Test.YtaboipnigeaopaaJA
import Derived.Test.YtaboipnigeaopaaDI
import Derived.Test.YtaboipnigeaopaaW2
import Derived.Test.YtaboipnigeaopaaY0
namespace Go.Proofs.Ytaboipnigeaopaa
set_option linter.unusedVariables false
set_option linter.unusedSimpArgs false
open Go.RowKit

/-! The next states and outputs of a state; closures of classes. -/

def rowN (c : Cir) (s : Int) (M : Nat) : List Int := (List.range M).map fun (x : Nat) => nextN c s (x : Int)
def rowO (c : Cir) (s : Int) (M : Nat) : List Int := (List.range M).map fun (x : Nat) => outN c s (x : Int)
theorem rowN_length (c : Cir) (s : Int) (M : Nat) : (rowN c s M).length = M := by simp [rowN]
theorem rowO_length (c : Cir) (s : Int) (M : Nat) : (rowO c s M).length = M := by simp [rowO]
theorem rowN_succ (c : Cir) (s : Int) (M : Nat) : rowN c s (M + 1) = rowN c s M ++ [nextN c s (M : Int)] := by simp [rowN, List.range_succ]
theorem rowO_succ (c : Cir) (s : Int) (M : Nat) : rowO c s (M + 1) = rowO c s M ++ [outN c s (M : Int)] := by simp [rowO, List.range_succ]
theorem rowN_get {c : Cir} {s : Int} {M x : Nat} (h : x < M) : (rowN c s M)[x]? = some (nextN c s (x : Int)) := by simp [rowN, h]

set_option maxHeartbeats 800000 in
theorem slicesEqI_any (sa sb : Option Addr) (ca cb n : Nat) (xs ys : List Int) (w : World) (ha : Sl w sa (ints xs)) (hb : Sl w sb (ints ys)) (lx : xs.length = n) (ly : ys.length = n) (hl : n ≤ 1000000) :
    Calls Try.prog 71 #[.slice sa n ca, .slice sb n cb] w fun e w' => e = .returned (.bool (decide (xs = ys))) ∧ Drew w w' := by
  have H := Lib.hid (And.intro ha (And.intro hb (And.intro lx ly)))
  clear ha hb lx ly
  go_enter Try.func71, Try.ntmps71
  go_upto_region 4 with fail
  go_loopw [13] (fun i wr => ∃ k : Nat, k ≤ n ∧ i = .int .i64 k ∧ xs.take k = ys.take k ∧ Drew w wr) (fun i _ => n - (intOf i).toNat)
  case atStart => exact ⟨0, Nat.zero_le _, rfl, rfl, 0, rfl⟩
  case round =>
    obtain ⟨k, hk, rfl, htk, hd⟩ := hrel
    by_cases hlt : k < n
    · obtain ⟨x, hx⟩ := get_of_lt (l := xs) (k := k) (by rw [H.out.2.2.1]; exact hlt)
      obtain ⟨y, hy⟩ := get_of_lt (l := ys) (k := k) (by rw [H.out.2.2.2]; exact hlt)
      obtain ⟨b1, o1, rfl, hb1, z1⟩ := H.out.1.int (hd.below _) hx
      obtain ⟨b2, o2, rfl, hb2, z2⟩ := H.out.2.1.int (hd.below _) hy
      have HD := Lib.hid (And.intro hd htk)
      have HE := Lib.hid (And.intro hx hy)
      clear hd hx hy htk
      by_cases e : x = y
      · subst e
        go_upto_region 6 with fail
        go_quiet (fail)
        go_wp2_with fail
        go_roundw
        case rel => exact ⟨k + 1, by omega, by go_num, by rw [List.take_add_one, List.take_add_one, HD.out.2, HE.out.1, HE.out.2], HD.out.1.n _⟩
        case measure => simp [intOf]; omega
      · have hf : decide (xs = ys) = false := by
          rw [decide_eq_false_iff_not]; intro he; have h1 := HE.out.1; rw [he, HE.out.2] at h1; exact e (by simpa using h1.symm)
        have HF := Lib.hid hf
        clear hf
        go_upto_region 6 with fail
        go_quiet (fail)
        go_wp2_with fail
        go_ret
        exact ⟨ret_bool HF.out.symm, HD.out.1.n _⟩
    · obtain rfl : n = k := by omega
      have ht : decide (xs = ys) = true := by
        rw [List.take_of_length_le (by rw [H.out.2.2.1]; exact Nat.le_refl _), List.take_of_length_le (by rw [H.out.2.2.2]; exact Nat.le_refl _)] at htk
        exact decide_eq_true htk
      have HF := Lib.hid (And.intro ht hd)
      clear ht hd htk
      go_wp2_with fail
      go_ret
      exact ⟨ret_bool HF.out.1.symm, HF.out.2⟩

set_option maxHeartbeats 3200000 in
theorem stateRows_any (b M ni : Nat) (sn sg so : Option Addr) (cn cg co : Nat) (c : Cir) (s : Int) (w : World)
    (h : CirAt w b c.inp (.slice sn c.next.length cn) (.slice sg c.gates.length cg) (.slice so c.outs.length co)) (hn : Sl w sn (ints c.next)) (hg : Sl w sg (gcells c.gates)) (ho : Sl w so (ints c.outs)) (hv : c.valid)
    (hs : 0 ≤ s) (hs2 : s ≤ 1000) (hni : c.inp = ni) (hM : M = 2 ^ ni) :
    Calls Try.prog 43 #[.pointer (some ⟨b, 0, none⟩), .int .i64 s] w fun e w' => ∃ s1 c1 s2 c2, e = .returned (.tuple #[.slice s1 M c1, .slice s2 M c2]) ∧ w'.ownsRow w.heap.size 3 1 (.slice s1 M c1) M (ints (rowN c s M)) ∧ w'.ownsRow w.heap.size 3 1 (.slice s2 M c2) M (ints (rowO c s M)) ∧ Below w.heap.size w w' := by
  have HB : Hid (b < w.heap.size) := World.block_lt_of_cell? w _ h.h0
  obtain ⟨q1, q2, q3, q4, q5⟩ := id hv.lim
  have n4 : ni ≤ 4 := by omega
  have M16 : M ≤ 16 := by rw [hM]; exact Nat.le_trans (Nat.pow_le_pow_right (by decide) n4) (by decide)
  have hwp : wrap64 (2 ^ ni) = (M : Int) := by rw [wrap_pow (by omega), hM]; simp
  have HC : Hid (∀ W, Below w.heap.size w W → Calls Try.prog 68 #[.pointer (some ⟨b, 0, none⟩), .int .i64 s, .int .i64 0] W (fun _ _ => True) ∨ True) := fun _ _ => Or.inr trivial
  have HM : Hid (∀ W, Below w.heap.size w W → CirAt W b c.inp (.slice sn c.next.length cn) (.slice sg c.gates.length cg) (.slice so c.outs.length co)) := fun W hb => ⟨(hb.cell (p := ⟨b, 0, none⟩) HB.out).trans h.h0, (hb.cell (p := ⟨b, 1, none⟩) HB.out).trans h.h1, (hb.cell (p := ⟨b, 2, none⟩) HB.out).trans h.h2, (hb.cell (p := ⟨b, 3, none⟩) HB.out).trans h.h3⟩
  have HCY : Hid (∀ W (i : Int), Below w.heap.size w W → 0 ≤ i → i ≤ 1000 → Calls Try.prog 68 #[.pointer (some ⟨b, 0, none⟩), .int .i64 s, .int .i64 i] W fun e w' => e = .returned (.tuple #[.int .i64 (nextN c s i), .int .i64 (outN c s i)]) ∧ Below W.heap.size W w') := fun W i hW h0 h1 => cycle_any b sn sg so cn cg co c s i W (HM.out W hW) (hn.mono hW) (hg.mono hW) (ho.mono hW) hv hs hs2 h0 h1
  have c0 : w.cell? ⟨b, 0, none⟩ = some (.int .i64 ni) := by rw [← hni]; exact h.h0
  clear h hn hg ho hv hM hni HC HM
  go_enter Try.func43, Try.ntmps43
  go_wp2_with fail
  rw [hwp]
  clear c0
  go_loopw [16, 6, 7] (fun i x y wr => ∃ (k : Nat) (s1 s2 : Option Addr) (c1 c2 : Nat), k ≤ M ∧ i = .int .i64 k ∧ x = .slice s1 k c1 ∧ y = .slice s2 k c2 ∧ TriO wr w.heap.size k k 0 x y (.slice none 0 0) (rowN c s k) (rowO c s k) [] ∧ Below w.heap.size w wr) (fun i _ _ _ => M - (intOf i).toNat)
  case atStart => exact ⟨0, none, none, 0, 0, Nat.zero_le _, rfl, rfl, rfl, ⟨World.ownsRow_nil _ _ _ _, World.ownsRow_nil _ _ _ _, World.ownsRow_nil _ _ _ _, by simp [Value.ownBlock], by simp [Value.ownBlock], by simp [Value.ownBlock]⟩, Below.refl _ _⟩
  case round =>
    obtain ⟨k, s1, s2, c1, c2, hk, rfl, rfl, rfl, ht, hbl⟩ := hrel
    have HR := Lib.hid (And.intro ht hbl)
    clear ht hbl
    by_cases hlt : k < M
    · obtain ⟨n, hn⟩ : ∃ n, n = nextN c s (k : Int) := ⟨_, rfl⟩
      obtain ⟨o, ho⟩ : ∃ o, o = outN c s (k : Int) := ⟨_, rfl⟩
      have HNO := Lib.hid (And.intro hn ho)
      clear hn ho
      go_upto_region 6 with (go_at_call 68; ((with_reducible refine (HCY.out _ (k : Int) HR.out.2 (by omega) (by omega)).mono ?_); rintro e w1 ⟨rfl, hq⟩; rw [← HNO.out.1, ← HNO.out.2]; have H1 := Lib.hid (And.intro (HR.out.1.below hq) (HR.out.2.trans (hq.mono HR.out.2.size))); clear hq))
      have hz1 := H1.out.2.size
      go_upto_region 7 with (at_builtin; refine wpl_app rfl _ _ rfl elem_int (own_below H1.out.1.p ((Below.refl _ _).alloc (Nat.le_refl _) _)) rfl rfl rfl (Sl.new _ _ _) (by simp [Value.oneCell']) (k + 1) rfl (ints (rowN c s k ++ [n])) (by rw [← ints_append]; rfl) (by unfold maxLen; omega) (by omega) (by simp; omega) ?_; intro s9 c9 w9 h9 hb9 hg9 ho9; have HP := Lib.hid (And.intro (((H1.out.1.below ((Below.refl _ _).alloc (Nat.le_refl _) (.cells #[.int .i64 n] 3))).push hg9 h9 ho9).rot) ((H1.out.2.alloc hz1 _).trans hb9)); have hw9 := HP.out.2.size; clear h9 hb9 hg9 ho9)
      go_wp2_with (at_builtin; refine wpl_app rfl _ _ rfl elem_int (own_below HP.out.1.p ((Below.refl _ _).alloc (Nat.le_refl _) _)) rfl rfl rfl (Sl.new _ _ _) (by simp [Value.oneCell']) (k + 1) rfl (ints (rowO c s k ++ [o])) (by rw [← ints_append]; rfl) (by unfold maxLen; omega) (by omega) (by simp; omega) ?_; intro s10 c10 w10 h9 hb9 hg9 ho9; have HP2 := Lib.hid (And.intro (((HP.out.1.below ((Below.refl _ _).alloc (Nat.le_refl _) (.cells #[.int .i64 o] 3))).push hg9 h9 ho9).rot.rot) ((HP.out.2.alloc hw9 _).trans hb9)); clear h9 hb9 hg9 ho9)
      go_roundw
      case rel =>
        refine ⟨k + 1, s9, s10, c9, c10, by omega, by go_num, by simp, by simp, ?_, HP2.out.2⟩
        have h := HP2.out.1
        rw [rowN_succ, rowO_succ, ← HNO.out.1, ← HNO.out.2]
        simpa using h
      case measure => simp [intOf]; omega
    · obtain rfl : k = M := by omega
      go_wp2_with fail
      go_ret2
      exact ⟨s1, c1, s2, c2, rfl, HR.out.1.p, HR.out.1.f, HR.out.2⟩

/-- Rows of numbers in the cells of a slice, by a key. -/
def RowsK (w : World) (ob oo N M : Nat) (key : Nat → List Int) : Prop :=
  ∀ t : Nat, t < N → ∃ st ct, w.cell? ⟨ob, oo + t, none⟩ = some (.slice st M ct) ∧ Sl w st (ints (key t)) ∧ (key t).length = M
theorem RowsK.mono {w w' : World} {ob oo N M : Nat} {key : Nat → List Int} (h : RowsK w ob oo N M key) (hb : Below w.heap.size w w') : RowsK w' ob oo N M key := fun t ht => by
  obtain ⟨st, ct, h1, h2, h3⟩ := h t ht
  exact ⟨st, ct, (hb.cell (p := ⟨ob, oo + t, none⟩) (World.block_lt_of_cell? w _ h1)).trans h1, h2.mono hb, h3⟩

set_option maxHeartbeats 800000 in
theorem cls1_any (q pb ob oo N M k co cr : Nat) (sr : Option Addr) (key : Nat → List Int) (r : List Int) (w : World) (hq : w.cell? ⟨q, 0, none⟩ = some (.slice (some ⟨ob, oo, none⟩) N co)) (hp : w.cell? ⟨pb, 0, none⟩ = some (.int .i64 k)) (hk : k < N) (hN : N ≤ 1000) (hM : M ≤ 1000)
    (hR : RowsK w ob oo N M key) (hr : Sl w sr (ints r)) (hl : r.length = M) :
    Calls Try.prog (70) #[.slice sr M cr, .pointer (some ⟨q, 0, none⟩), .pointer (some ⟨pb, 0, none⟩)] w fun e w' => e = .returned (.bool (decide (r = key k))) ∧ Drew w w' := by
  obtain ⟨st, ct, z1, h2, h3⟩ := hR k hk
  have H := Lib.hid (And.intro h2 (And.intro h3 (And.intro hr hl)))
  clear h2 h3 hr hl hR
  go_enter Try.func70, Try.ntmps70
  go_wp2_with (go_at_call 71; ((with_reducible refine (slicesEqI_any sr st cr ct M r (key k) _ H.out.2.2.1 H.out.1 H.out.2.2.2 H.out.2.1 (by omega)).mono ?_); rintro e w1 ⟨rfl, hd⟩; have HD := Lib.hid hd; clear hd))
  go_ret
  exact ⟨rfl, HD.out⟩

set_option maxHeartbeats 1600000 in
theorem idxRows_any (q pb ob oo N M k co : Nat) (key : Nat → List Int) (w : World) (hq : w.cell? ⟨q, 0, none⟩ = some (.slice (some ⟨ob, oo, none⟩) N co)) (hp : w.cell? ⟨pb, 0, none⟩ = some (.int .i64 k)) (hk : k < N) (hN : N ≤ 1000) (hM : M ≤ 1000)
    (hR : RowsK w ob oo N M key) :
    Calls Try.prog 69 #[.slice (some ⟨ob, oo, none⟩) N co, .func (.func (70)) #[] #[.pointer (some ⟨q, 0, none⟩), .pointer (some ⟨pb, 0, none⟩)]] w fun e w' => e = .returned (.int .i64 (fstK key k : Nat)) ∧ Drew w w' := by
  have HC : Hid (∀ W, Drew w W → w.cell? ⟨q, 0, none⟩ = W.cell? ⟨q, 0, none⟩ ∧ W.cell? ⟨pb, 0, none⟩ = some (.int .i64 k) ∧ RowsK W ob oo N M key) := fun W hW => by
    obtain ⟨n, rfl⟩ := hW
    exact ⟨rfl, hp, hR.mono (below_n (Below.refl _ _) n)⟩
  have HQ := Lib.hid hq
  clear hq hp hR
  go_enter Try.func69, Try.ntmps69
  go_wp2
  go_loopw [8] (fun i wr => ∃ j : Nat, j ≤ k ∧ i = .int .i64 j ∧ (∀ t : Nat, t < j → key t ≠ key k) ∧ Drew w wr) (fun i _ => k + 1 - (intOf i).toNat)
  case atStart => exact ⟨0, Nat.zero_le _, rfl, fun t h => absurd h (by omega), Drew.refl _⟩
  case round =>
    obtain ⟨j, hj, rfl, hne, hd⟩ := hrel
    have hjN : j < N := by omega
    obtain ⟨st, ct, z1, h2, h3⟩ := (HC.out _ hd).2.2 j hjN
    have HD := Lib.hid (And.intro hd (And.intro hne (And.intro h2 h3)))
    clear hd hne h2 h3
    by_cases e : key j = key k
    · have he : decide (key j = key k) = true := decide_eq_true e
      have HE := Lib.hid (And.intro e he)
      clear e he
      go_wp2_with fail
      refine (cls1_any q pb ob oo N M k co ct st key (key j) _ (by rw [← (HC.out _ HD.out.1).1]; exact HQ.out) (HC.out _ HD.out.1).2.1 hk hN hM (HC.out _ HD.out.1).2.2 HD.out.2.2.1 HD.out.2.2.2).mono ?_
      rintro e w3 ⟨rfl, hq⟩
      rw [HE.out.2]
      have H3 := Lib.hid (HD.out.1.trans hq)
      clear hq
      go_wp2_with fail
      go_ret
      exact ⟨ret_int (by rw [fstK_eq hj HE.out.1 HD.out.2.1]), H3.out⟩
    · have he : decide (key j = key k) = false := decide_eq_false e
      have hjk : j ≠ k := fun h => e (by rw [h])
      have HE := Lib.hid (And.intro e he)
      clear e he
      go_wp2_with fail
      refine (cls1_any q pb ob oo N M k co ct st key (key j) _ (by rw [← (HC.out _ HD.out.1).1]; exact HQ.out) (HC.out _ HD.out.1).2.1 hk hN hM (HC.out _ HD.out.1).2.2 HD.out.2.2.1 HD.out.2.2.2).mono ?_
      rintro e w3 ⟨rfl, hq⟩
      rw [HE.out.2]
      have H3 := Lib.hid (HD.out.1.trans hq)
      clear hq
      go_wp2_with fail
      go_roundw
      case rel => exact ⟨j + 1, by omega, by go_num, fun t h => by
        by_cases h' : t < j
        · exact HD.out.2.1 t h'
        · obtain rfl : t = j := by omega
          exact HE.out.1, H3.out⟩
      case measure => simp [intOf]; omega

end Go.Proofs.Ytaboipnigeaopaa
