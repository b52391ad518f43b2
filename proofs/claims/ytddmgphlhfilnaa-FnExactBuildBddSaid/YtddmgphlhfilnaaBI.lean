import Derived.Test.YtddmgphlhfilnaaN1
import Derived.Test.YtddmgphlhfilnaaP1
namespace Go.Proofs.Ytddmgphlhfilnaa
set_option linter.unusedVariables false
set_option linter.unusedSimpArgs false
open Go.RowKit

/-! Marks of diagrams. -/

theorem eqBddW_any (sn sn' : Option Addr) (cn cn' : Nat) (x y : Bd) (w : World) (h1 : Sl w sn (ncells x.nodes)) (k1 : Sl w sn' (ncells y.nodes)) (hl1 : x.nodes.length ≤ 1048576) (ml1 : y.nodes.length ≤ 1048576) :
    Calls Try.prog 29 #[.agg #[.slice sn x.nodes.length cn, .int .i64 x.root], .agg #[.slice sn' y.nodes.length cn', .int .i64 y.root]] w fun e w' => e = .returned (.bool (bdB x y)) ∧ Below w.heap.size w w' := by
  have HS := Lib.hid (And.intro h1 k1)
  clear h1 k1
  have hL : Below w.heap.size w ((w.alloc (.cells #[.slice sn x.nodes.length cn, .int .i64 x.root] 25)).alloc (.cells #[.slice sn' y.nodes.length cn', .int .i64 y.root] 25)) := by go_grown
  have HL := Lib.hid hL
  clear hL
  go_enter Try.func29, Try.ntmps29
  go_wp2_with (go_at_call 71; ((with_reducible refine (eqBddNodeS_any sn sn' _ _ _ _ _ (HS.out.1.mono HL.out) (HS.out.2.mono HL.out) hl1 ml1).mono ?_); rintro e w1 ⟨rfl, hq⟩; have HQ := Lib.hid hq; have hc : (∀ b o, b < w.heap.size + 1 + 1 → w1.cell? ⟨b, o, none⟩ = ((w.alloc (.cells #[.slice sn x.nodes.length cn, .int .i64 x.root] 25)).alloc (.cells #[.slice sn' y.nodes.length cn', .int .i64 y.root] 25)).cell? ⟨b, o, none⟩) := fun b o h => hq.cell (p := ⟨b, o, none⟩) (by simpa using h); clear hq))
  all_goals go_ret
  all_goals refine ⟨ret_bool (by unfold bdB; simp at *; simp [*]), ?_⟩
  all_goals exact HL.out.trans (HQ.out.mono (by simp; omega))

set_option maxHeartbeats 800000 in
theorem markBddNodeS_any (base : Nat) (s : Option Addr) (n cap : Nat) (xs : List Value) (k : Int) (w : World) (h : w.ownsRow base 29 3 (.slice s n cap) n xs) (hn : n ≤ 1048576) (hk : 0 ≤ k) (hk2 : k ≤ 100000000) :
    Calls Try.prog 74 #[.slice s n cap, .int .i64 k] w fun e w' => e = .returned (.int .i64 (k + 3 * n)) ∧ w'.ownsRow base 29 3 (.slice s n cap) n (ints (iota k (3 * n))) ∧ w.grownBy w' (Value.slice s n cap).ownBlock := by
  rcases own_some h with ⟨rfl, rfl, rfl⟩ | ⟨g, rfl⟩
  · have HO := Lib.hid h
    clear h
    go_enter Try.func74, Try.ntmps74
    go_wp2_with fail
    refine wp_loop_rounds 1 ?_
    rw [rounds_succ]
    go_wp2
    go_ret
    exact ⟨ret_int (by simp), World.ownsRow_nil _ _ _ _, World.grownBy.refl _ _⟩
  · have HO := Lib.hid h
    clear h
    go_enter Try.func74, Try.ntmps74
    go_wp2_with fail
    go_loopw [1, 5] (fun v1 i wr => ∃ (j : Nat) (ys : List Value), j ≤ n ∧ i = .int .i64 j ∧ v1 = .int .i64 (k + 3 * j) ∧ (∀ q, q < 3 * j → ys[q]? = some (.int .i64 (k + q))) ∧ wr.ownsRow base 29 3 (.slice (some ⟨g, 0, none⟩) n cap) n ys ∧ w.grownBy wr (some g)) (fun _ i _ => n - (intOf i).toNat)
    case atStart => exact ⟨0, _, Nat.zero_le _, rfl, by simp, fun q hq => by omega, HO.out, World.grownBy.refl _ _⟩
    case round =>
      obtain ⟨j, ys, hj, rfl, rfl, hy, ho, hg⟩ := hrel
      have hlen : ys.length = n * 3 := by simpa using ho.1
      by_cases hlt : j < n
      · obtain ⟨y, hyj⟩ := get_of_lt (l := ys) (k := j * 3) (by omega)
        obtain ⟨y', hyj'⟩ := get_of_lt (l := ys) (k := j * 3 + 1) (by omega)
        obtain ⟨y'', hyj''⟩ := get_of_lt (l := ys) (k := j * 3 + 2) (by omega)
        have hc : wr.cell? ⟨g, j * 3, none⟩ = some y := (ho.cellAt (j * 3) (by omega)).trans hyj
        have hf : wr.frozen? ⟨g, j * 3, none⟩ = false := ho.frozenAt _
        have hc' : wr.cell? ⟨g, j * 3 + 1, none⟩ = some y' := (ho.cellAt (j * 3 + 1) (by omega)).trans hyj'
        have hf' : wr.frozen? ⟨g, j * 3 + 1, none⟩ = false := ho.frozenAt _
        have hc'' : wr.cell? ⟨g, j * 3 + 2, none⟩ = some y'' := (ho.cellAt (j * 3 + 2) (by omega)).trans hyj''
        have hf'' : wr.frozen? ⟨g, j * 3 + 2, none⟩ = false := ho.frozenAt _
        have HR := Lib.hid (And.intro hy (And.intro ho (And.intro hg hlen)))
        clear hy ho hg hlen hyj hyj' hyj''
        go_wp2
        obtain ⟨hy, ho, hg, hlen⟩ := HR.out
        obtain ⟨h1, h2⟩ := ho.stored (j * 3) (.int .i64 (k + 3 * j))
        obtain ⟨h3, h4⟩ := h1.stored (j * 3 + 1) (.int .i64 (k + 3 * j + 1))
        obtain ⟨h5, h6⟩ := h3.stored (j * 3 + 2) (.int .i64 (k + 3 * j + 1 + 1))
        go_roundw
        case rel =>
          refine ⟨j + 1, _, by omega, by go_num, by go_num, fun q hq => ?_, h5, ((hg.trans h2).trans h4).trans h6⟩
          by_cases e0 : q = j * 3 + 2
          · subst e0
            rw [List.getElem?_set_self (by simp; omega)]
            congr 2; omega
          · rw [List.getElem?_set_ne (Ne.symm e0)]
            by_cases e : q = j * 3 + 1
            · subst e
              rw [List.getElem?_set_self (by simp; omega)]
              congr 2; omega
            · rw [List.getElem?_set_ne (Ne.symm e)]
              by_cases e2 : q = j * 3
              · subst e2
                rw [List.getElem?_set_self (by omega)]
                congr 2; omega
              · rw [List.getElem?_set_ne (Ne.symm e2)]; exact hy q (by omega)
        case measure => simp [intOf]; omega
      · obtain rfl : j = n := by omega
        have e : ys = ints (iota k (3 * j)) := by
          apply List.ext_getElem?
          intro q
          by_cases hq : q < 3 * j
          · rw [hy q hq, ints_get (iota_get hq)]
          · rw [List.getElem?_eq_none (by omega), List.getElem?_eq_none (by rw [ints_length, iota_length]; omega)]
        subst e
        have HR := Lib.hid (And.intro ho hg)
        clear ho hg hy hlen
        go_wp2
        go_ret
        exact ⟨rfl, HR.out.1, HR.out.2⟩

set_option maxHeartbeats 800000 in
theorem heldBddNodeS_any (s : Option Addr) (n cap : Nat) (k : Int) (w : World) (h : Sl w s (ints (iota k (3 * n)))) (hn : n ≤ 1048576) (hk : 0 ≤ k) (hk2 : k ≤ 100000000) :
    Calls Try.prog 75 #[.slice s n cap, .int .i64 k] w fun e w' => e = .returned (.int .i64 (k + 3 * n)) ∧ Drew w w' := by
  have HS := Lib.hid h
  clear h
  go_enter Try.func75, Try.ntmps75
  go_wp2_with fail
  go_loopw [1, 5] (fun v1 i wr => ∃ j : Nat, j ≤ n ∧ i = .int .i64 j ∧ v1 = .int .i64 (k + 3 * j) ∧ Drew w wr) (fun _ i _ => n - (intOf i).toNat)
  case atStart => exact ⟨0, Nat.zero_le _, rfl, by simp, Drew.refl _⟩
  case round =>
    obtain ⟨j, hj, rfl, rfl, hd⟩ := hrel
    by_cases hlt : j < n
    · obtain ⟨b, off, rfl, hbw, hz⟩ := HS.out.int (hd.below _) (iota_get (show j * 3 < 3 * n by omega))
      obtain ⟨b', off', hbb, -, hz'⟩ := HS.out.int (hd.below _) (iota_get (show j * 3 + 1 < 3 * n by omega))
      simp only [Option.some.injEq, Addr.mk.injEq, and_true] at hbb
      obtain ⟨rfl, rfl⟩ := hbb
      obtain ⟨b'', off'', hbb, -, hz''⟩ := HS.out.int (hd.below _) (iota_get (show j * 3 + 2 < 3 * n by omega))
      simp only [Option.some.injEq, Addr.mk.injEq, and_true] at hbb
      obtain ⟨rfl, rfl⟩ := hbb
      rw [show k + ((j * 3 : Nat) : Int) = k + 3 * j by omega] at hz
      rw [show k + ((j * 3 + 1 : Nat) : Int) = k + 3 * j + 1 by omega, ← Nat.add_assoc] at hz'
      rw [show k + ((j * 3 + 2 : Nat) : Int) = k + 3 * j + 1 + 1 by omega, ← Nat.add_assoc] at hz''
      have HD := Lib.hid hd
      clear hd
      go_wp2_with fail
      first | (go_quiet (fail); go_wp2) | skip
      go_roundw
      case rel => exact ⟨j + 1, by omega, by go_num, by go_num, by first | exact HD.out | exact HD.out.n _⟩
      case measure => simp [intOf]; omega
    · obtain rfl : j = n := by omega
      have HD := Lib.hid hd
      clear hd
      go_wp2
      go_ret
      exact ⟨rfl, HD.out⟩

theorem markBdd_any (base : Nat) (s : Option Addr) (n cap : Nat) (r : Int) (xs : List Value) (k : Int) (w : World) (h : w.ownsRow base 29 3 (.slice s n cap) n xs) (hn : n ≤ 1048576) (hk : 0 ≤ k) (hk2 : k ≤ 1000) :
    Calls Try.prog 32 #[.agg #[.slice s n cap, .int .i64 r], .int .i64 k] w fun e w' => e = .returned (.int .i64 (k + 3 * n)) ∧ w'.ownsRow base 29 3 (.slice s n cap) n (ints (iota k (3 * n))) ∧ Chg (fun q => (Value.slice s n cap).ownBlock = some q) w w' := by
  have hb := (Below.refl w.heap.size w).alloc (Nat.le_refl _) (.cells #[.slice s n cap, .int .i64 r] 25)
  have H := Lib.hid (And.intro (own_below h hb) (Chg.of_below (S := fun q => (Value.slice s n cap).ownBlock = some q) hb))
  clear h hb
  go_enter Try.func32, Try.ntmps32
  go_wp2_with (go_at_call 74; ((with_reducible refine (markBddNodeS_any base s n cap _ k _ H.out.1 hn hk (by omega)).mono ?_); rintro e w1 ⟨rfl, h1, h2⟩; have H1 := Lib.hid (And.intro h1 (H.out.2.trans (Chg.of_grown h2))); clear h1 h2))
  go_ret
  exact ⟨rfl, H1.out.1, H1.out.2⟩

theorem heldBdd_any (s : Option Addr) (n cap : Nat) (r : Int) (k : Int) (w : World) (h : Sl w s (ints (iota k (3 * n)))) (hn : n ≤ 1048576) (hk : 0 ≤ k) (hk2 : k ≤ 1000) :
    Calls Try.prog 33 #[.agg #[.slice s n cap, .int .i64 r], .int .i64 k] w fun e w' => e = .returned (.int .i64 (k + 3 * n)) ∧ Below w.heap.size w w' := by
  have hb := (Below.refl w.heap.size w).alloc (Nat.le_refl _) (.cells #[.slice s n cap, .int .i64 r] 25)
  have H := Lib.hid (And.intro (h.mono hb) hb)
  clear h hb
  go_enter Try.func33, Try.ntmps33
  go_wp2_with (go_at_call 75; ((with_reducible refine (heldBddNodeS_any s n cap k _ H.out.1 hn hk (by omega)).mono ?_); rintro e w1 ⟨rfl, n1, rfl⟩))
  go_ret
  exact ⟨rfl, below_n H.out.2 _⟩

end Go.Proofs.Ytddmgphlhfilnaa
