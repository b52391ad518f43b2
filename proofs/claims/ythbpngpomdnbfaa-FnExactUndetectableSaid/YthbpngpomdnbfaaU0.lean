import Derived.Test.YthbpngpomdnbfaaP1
import Derived.Test.YthbpngpomdnbfaaH5
namespace Go.Proofs.Ythbpngpomdnbfaa
set_option linter.unusedVariables false
set_option linter.unusedSimpArgs false
open Go.RowKit

/-! Lists of faults: compared, marked, read back. -/

theorem eqFault_any (a x : Int) (b y : Bool) (w : World) :
    Calls Try.prog 47 #[.agg #[.int .i64 a, .bool b], .agg #[.int .i64 x, .bool y]] w fun e w' => e = .returned (.bool (decide (a = x) && decide (b = y))) ∧ Below w.heap.size w w' := by
  by_cases h : a = x
  · subst h
    cases b <;> cases y
    all_goals
      go_enter Try.func47, Try.ntmps47
      go_wp2
      go_ret
      refine ⟨ret_bool (by simp), ?_⟩
      go_grown
  · have e : decide (a = x) = false := decide_eq_false h
    rw [e]
    clear e
    go_enter Try.func47, Try.ntmps47
    go_wp2
    go_ret
    refine ⟨ret_bool (by simp), ?_⟩
    go_grown

set_option maxHeartbeats 400000 in
theorem eqFaultS_any (s t : Option Addr) (xs ys : List (Int × Bool)) (cap cap2 : Nat) (w : World) (hs : Sl w s (fcells xs)) (ht : Sl w t (fcells ys)) (hl : xs.length ≤ 1048576) (hl2 : ys.length ≤ 1048576) :
    Calls Try.prog 13 #[.slice s xs.length cap, .slice t ys.length cap2] w fun e w' => e = .returned (.bool (decide (xs = ys))) ∧ Below w.heap.size w w' := by
  have HS : Hid (Sl w s (fcells xs) ∧ Sl w t (fcells ys)) := ⟨hs, ht⟩
  clear hs ht
  by_cases hc : xs.length = ys.length
  · rw [← hc]
    generalize hn : xs.length = n at hc hl ⊢
    have HC : Hid (xs.length = n ∧ ys.length = n) := ⟨hn, hc.symm⟩
    clear hc hn hl2
    go_enter Try.func13, Try.ntmps13
    go_wp2
    go_loopw [5] (fun i wr => ∃ k : Nat, k ≤ n ∧ i = .int .i64 k ∧ xs.take k = ys.take k ∧ Below w.heap.size w wr) (fun i _ => n - (intOf i).toNat)
    case atStart => exact ⟨0, Nat.zero_le _, rfl, rfl, Below.refl _ _⟩
    case round =>
      obtain ⟨k, hk, rfl, htk, hd⟩ := hrel
      have HT : Hid (xs.take k = ys.take k) := htk
      have HD := Lib.hid hd
      clear htk hd
      by_cases hlt : k < n
      · obtain ⟨⟨xa, xb⟩, hx⟩ := get_of_lt (l := xs) (k := k) (by have := HC.out; omega)
        obtain ⟨⟨ya, yb⟩, hy⟩ := get_of_lt (l := ys) (k := k) (by have := HC.out; omega)
        obtain ⟨b, off, rfl, hbw, hz1, hz2⟩ := HS.out.1.fault HD.out hx
        obtain ⟨b2, off2, rfl, hbw2, hz3, hz4⟩ := HS.out.2.fault HD.out hy
        dsimp only at hz1 hz2 hz3 hz4
        obtain ⟨r, hr⟩ : ∃ r, r = (decide (xa = ya) && decide (xb = yb)) := ⟨_, rfl⟩
        have HR := Lib.hid (And.intro hx (And.intro hy hr))
        clear hx hy hr
        go_wp2_with fail
        go_region_held3 (fun w' => w'.cell? ⟨b, off + k * 2, none⟩ = some (.int .i64 xa) ∧ w'.cell? ⟨b, off + k * 2 + 1, none⟩ = some (.bool xb) ∧ w'.cell? ⟨b2, off2 + k * 2, none⟩ = some (.int .i64 ya) ∧ w'.cell? ⟨b2, off2 + k * 2 + 1, none⟩ = some (.bool yb))
          (first
            | go_keep
            | (go_split_ands
               refine ⟨?_, ?_, ?_, ?_⟩
               · rw [HQ.out.cell (by exact Nat.lt_of_lt_of_le hbw HD.out.size)]; assumption
               · rw [HQ.out.cell (by exact Nat.lt_of_lt_of_le hbw HD.out.size)]; assumption
               · rw [HQ.out.cell (by exact Nat.lt_of_lt_of_le hbw2 HD.out.size)]; assumption
               · rw [HQ.out.cell (by exact Nat.lt_of_lt_of_le hbw2 HD.out.size)]; assumption))
          ((first
            | (go_at_call 47; ((with_reducible refine (eqFault_any _ _ _ _ _).mono ?_); rintro e w1 ⟨rfl, hq⟩; rw [← HR.out.2.2]; have HQ := Lib.hid hq; clear hq))))
        cases r
        · go_wp2
          go_ret
          refine ⟨ret_bool ?_, HD.out.drew.trans (HQ.out.mono HD.out.size)⟩
          symm; rw [decide_eq_false_iff_not]; intro e; subst e
          have h1 := HR.out.1
          rw [HR.out.2.1] at h1
          cases h1
          have h2 := HR.out.2.2
          simp at h2
        · go_wp2
          go_roundw
          case rel =>
            have h2 := HR.out.2.2
            simp at h2
            exact ⟨k + 1, by omega, by go_num, by rw [List.take_add_one, List.take_add_one, HT.out, HR.out.1, HR.out.2.1, h2.1, h2.2], HD.out.drew.trans (HQ.out.mono HD.out.size)⟩
          case measure => simp [intOf]; omega
      · obtain rfl : k = n := by omega
        have he : decide (xs = ys) = true := by
          have h1 := HT.out
          rw [List.take_of_length_le (by have := HC.out; omega), List.take_of_length_le (by have := HC.out; omega)] at h1
          simpa using h1
        have HE := Lib.hid he
        clear he
        go_wp2
        go_ret
        exact ⟨ret_bool HE.out.symm, HD.out⟩
  · have hd : decide (xs = ys) = false := by simp; intro e; exact hc (by rw [e])
    rw [hd]
    clear hd
    go_enter Try.func13, Try.ntmps13
    go_wp2
    go_ret
    exact ⟨rfl, Below.refl _ _⟩

def markF (k : Int) (n : Nat) : List (Int × Bool) := (List.range n).map fun (j : Nat) => (k + 2 * (j : Int), decide ((k + 2 * (j : Int) + 1) % 3 = 0))
theorem markF_length (k : Int) (n : Nat) : (markF k n).length = n := by simp [markF]
theorem markF_get {k : Int} {n j : Nat} (h : j < n) : (markF k n)[j]? = some (k + 2 * (j : Int), decide ((k + 2 * (j : Int) + 1) % 3 = 0)) := by simp [markF, h]

set_option maxHeartbeats 800000 in
theorem markFaultS_any (base : Nat) (s : Option Addr) (n cap : Nat) (xs : List Value) (k : Int) (w : World) (h : w.ownsRow base 57 2 (.slice s n cap) n xs) (hn : n ≤ 1048576) (hk : 0 ≤ k) (hk2 : k ≤ 100000000) :
    Calls Try.prog 16 #[.slice s n cap, .int .i64 k] w fun e w' => e = .returned (.int .i64 (k + 2 * n)) ∧ w'.ownsRow base 57 2 (.slice s n cap) n (fcells (markF k n)) ∧ w.grownBy w' (Value.slice s n cap).ownBlock := by
  rcases own_some h with ⟨rfl, rfl, rfl⟩ | ⟨g, rfl⟩
  · have HO := Lib.hid h
    clear h
    go_enter Try.func16, Try.ntmps16
    go_wp2_with fail
    refine wp_loop_rounds 1 ?_
    rw [rounds_succ]
    go_wp2
    go_ret
    exact ⟨ret_int (by simp), World.ownsRow_nil _ _ _ _, World.grownBy.refl _ _⟩
  · have HO := Lib.hid h
    clear h
    go_enter Try.func16, Try.ntmps16
    go_wp2_with fail
    go_loopw [1, 5] (fun v1 i wr => ∃ (j : Nat) (ys : List Value), j ≤ n ∧ i = .int .i64 j ∧ v1 = .int .i64 (k + 2 * j) ∧ (∀ q : Nat, q < j → ys[2 * q]? = some (.int .i64 (k + 2 * (q : Int))) ∧ ys[2 * q + 1]? = some (.bool (decide ((k + 2 * (q : Int) + 1) % 3 = 0)))) ∧ wr.ownsRow base 57 2 (.slice (some ⟨g, 0, none⟩) n cap) n ys ∧ w.grownBy wr (some g)) (fun _ i _ => n - (intOf i).toNat)
    case atStart => exact ⟨0, _, Nat.zero_le _, rfl, by simp, fun q hq => by omega, HO.out, World.grownBy.refl _ _⟩
    case round =>
      obtain ⟨j, ys, hj, rfl, rfl, hy, ho, hg⟩ := hrel
      have hlen : ys.length = n * 2 := by simpa using ho.1
      by_cases hlt : j < n
      · obtain ⟨y, hyj⟩ := get_of_lt (l := ys) (k := j * 2) (by omega)
        obtain ⟨y', hyj'⟩ := get_of_lt (l := ys) (k := j * 2 + 1) (by omega)
        have hc : wr.cell? ⟨g, j * 2, none⟩ = some y := (ho.cellAt (j * 2) (by omega)).trans hyj
        have hf : wr.frozen? ⟨g, j * 2, none⟩ = false := ho.frozenAt _
        have hc' : wr.cell? ⟨g, j * 2 + 1, none⟩ = some y' := (ho.cellAt (j * 2 + 1) (by omega)).trans hyj'
        have hf' : wr.frozen? ⟨g, j * 2 + 1, none⟩ = false := ho.frozenAt _
        have HR := Lib.hid (And.intro hy (And.intro ho (And.intro hg hlen)))
        clear hy ho hg hlen hyj hyj'
        obtain ⟨bv, hbv⟩ : ∃ bv, bv = decide ((k + 2 * (j : Int) + 1) % 3 = 0) := ⟨_, rfl⟩
        go_wp2
        obtain ⟨hy, ho, hg, hlen⟩ := HR.out
        obtain ⟨h1, h2⟩ := ho.stored (j * 2) (.int .i64 (k + 2 * j))
        obtain ⟨h3, h4⟩ := h1.stored (j * 2 + 1) (.bool (decide ((k + 2 * (j : Int) + 1) % 3 = 0)))
        go_roundw
        case rel =>
          refine ⟨j + 1, ((ys.set (j * 2) (.int .i64 (k + 2 * j))).set (j * 2 + 1) (.bool (decide ((k + 2 * (j : Int) + 1) % 3 = 0)))), by omega, by go_num, by go_num, fun q hq => ?_, by first | exact h3 | simpa using h3, by first | exact (hg.trans h2).trans h4 | simpa using (hg.trans h2).trans h4⟩
          by_cases e : q = j
          · subst e
            refine ⟨?_, ?_⟩
            · rw [List.getElem?_set_ne (by omega), Nat.mul_comm 2 q, List.getElem?_set_self (by omega)]
            · rw [Nat.mul_comm 2 q, List.getElem?_set_self (by simp; omega)]
          · obtain ⟨u1, u2⟩ := hy q (by omega)
            refine ⟨?_, ?_⟩
            · rw [List.getElem?_set_ne (by omega), List.getElem?_set_ne (by omega)]; exact u1
            · rw [List.getElem?_set_ne (by omega), List.getElem?_set_ne (by omega)]; exact u2
        case measure => simp [intOf]; omega
      · obtain rfl : j = n := by omega
        have e : ys = fcells (markF k j) := by
          apply List.ext_getElem?
          intro q
          by_cases hq : q < 2 * j
          · obtain ⟨i, hi⟩ : ∃ i, q = 2 * i ∨ q = 2 * i + 1 := ⟨q / 2, by omega⟩
            rcases hi with rfl | rfl
            · rw [(hy i (by omega)).1, (fcells_get (markF_get (k := k) (n := j) (j := i) (by omega))).1]
            · rw [(hy i (by omega)).2, (fcells_get (markF_get (k := k) (n := j) (j := i) (by omega))).2]
          · rw [List.getElem?_eq_none (by omega), List.getElem?_eq_none (by rw [fcells_length, markF_length]; omega)]
        subst e
        have HR := Lib.hid (And.intro ho hg)
        clear ho hg hy hlen
        go_wp2
        go_ret
        exact ⟨rfl, HR.out.1, HR.out.2⟩

set_option maxHeartbeats 400000 in
theorem heldFaultS_any (s : Option Addr) (n cap : Nat) (k : Int) (w : World) (h : Sl w s (fcells (markF k n))) (hn : n ≤ 1048576) (hk : 0 ≤ k) (hk2 : k ≤ 100000000) :
    Calls Try.prog 17 #[.slice s n cap, .int .i64 k] w fun e w' => e = .returned (.int .i64 (k + 2 * n)) ∧ Drew w w' := by
  have HS := Lib.hid h
  clear h
  go_enter Try.func17, Try.ntmps17
  go_wp2_with fail
  go_loopw [1, 5] (fun v1 i wr => ∃ j : Nat, j ≤ n ∧ i = .int .i64 j ∧ v1 = .int .i64 (k + 2 * j) ∧ Drew w wr) (fun _ i _ => n - (intOf i).toNat)
  case atStart => exact ⟨0, Nat.zero_le _, rfl, by simp, Drew.refl _⟩
  case round =>
    obtain ⟨j, hj, rfl, rfl, hd⟩ := hrel
    by_cases hlt : j < n
    · obtain ⟨b, off, rfl, hbw, hz, hz'⟩ := HS.out.fault (hd.below _) (markF_get hlt)
      dsimp only at hz hz'
      by_cases hm : (k + 2 * (j : Int) + 1) % 3 = 0
      · rw [decide_eq_true hm] at hz'
        have HD := Lib.hid hd
        clear hd
        go_wp2_with fail
        first | (go_quiet (fail); go_wp2) | skip
        first | (go_quiet (fail); go_wp2) | skip
        go_roundw
        case rel => exact ⟨j + 1, by omega, by go_num, by go_num, by first | exact HD.out | exact HD.out.n _ | exact (HD.out.n _).n _⟩
        case measure => simp [intOf]; omega
      · rw [decide_eq_false hm] at hz'
        have HD := Lib.hid hd
        clear hd
        go_wp2_with fail
        first | (go_quiet (fail); go_wp2) | skip
        first | (go_quiet (fail); go_wp2) | skip
        go_roundw
        case rel => exact ⟨j + 1, by omega, by go_num, by go_num, by first | exact HD.out | exact HD.out.n _ | exact (HD.out.n _).n _⟩
        case measure => simp [intOf]; omega
    · obtain rfl : j = n := by omega
      have HD := Lib.hid hd
      clear hd
      go_wp2
      go_ret
      exact ⟨rfl, HD.out⟩

end Go.Proofs.Ythbpngpomdnbfaa
