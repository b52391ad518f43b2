import Derived.Test.YtjggcojbgkpooaaBH
import Derived.Test.YtjggcojbgkpooaaN5
import Derived.Test.YtjggcojbgkpooaaL3
import Derived.Deep.DeepCutAuto
import Derived.BigQuiet
namespace Go.Proofs.Ytjggcojbgkpooaa
set_option linter.unusedVariables false
set_option linter.unusedSimpArgs false
open Go.RowKit

/-! Diagrams compared by the laws. -/

theorem Bd.ext' {x y : Bd} (h1 : x.nodes = y.nodes) (h2 : x.root = y.root) : x = y := by cases x; cases y; simp_all

set_option maxRecDepth 100000 in
set_option maxHeartbeats 1600000 in
theorem sameBdd_any (sn sn' : Option Addr) (cn cn' : Nat) (x y : Bd) (b : Bool) (w : World) (h1 : Sl w sn (ncells x.nodes)) (k1 : Sl w sn' (ncells y.nodes)) (hl1 : x.nodes.length ≤ 1000) (ml1 : y.nodes.length ≤ 1000) (hr : -1000 ≤ x.root ∧ x.root ≤ 1000) (hr2 : -1000 ≤ y.root ∧ y.root ≤ 1000) (hb : b = true ↔ x = y) :
    Calls Try.prog 18 #[.agg #[.slice sn x.nodes.length cn, .int .i64 x.root], .agg #[.slice sn' y.nodes.length cn', .int .i64 y.root]] w fun e w' => e = .returned (.bool b) ∧ Below w.heap.size w w' := by
  have HB := Lib.hid hb
  obtain ⟨xs, xr⟩ := x
  obtain ⟨ys, yr⟩ := y
  dsimp only at h1 k1 hl1 ml1 hr hr2 ⊢
  clear hb
  obtain ⟨A, hA⟩ : ∃ A, A = w.heap.size := ⟨_, rfl⟩
  have hL : Below w.heap.size w ((w.alloc (.cells #[.slice sn xs.length cn, .int .i64 xr] 35)).alloc (.cells #[.slice sn' ys.length cn', .int .i64 yr] 35)) := by go_grown
  have hk0 := blk_old (o := .cells #[.slice sn' ys.length cn', .int .i64 yr] 35) (blk_new w (.cells #[.slice sn xs.length cn, .int .i64 xr] 35))
  have hk1 : ((w.alloc (.cells #[.slice sn xs.length cn, .int .i64 xr] 35)).alloc (.cells #[.slice sn' ys.length cn', .int .i64 yr] 35)).heap[w.heap.size + 1]? = some (.cells #[.slice sn' ys.length cn', .int .i64 yr] 35 (0, 0)) := blk_at (by simp)
  have HL : Hid (Below w.heap.size w ((w.alloc (.cells #[.slice sn xs.length cn, .int .i64 xr] 35)).alloc (.cells #[.slice sn' ys.length cn', .int .i64 yr] 35)) ∧ _ ∧ _ ∧ Sl _ sn (ncells xs) ∧ Sl _ sn' (ncells ys)) := Lib.hid (And.intro hL (And.intro hk0 (And.intro hk1 (And.intro (h1.mono hL) (k1.mono hL)))))
  clear h1 k1 hL hk0 hk1 hA
  go_enter Try.func18, Try.ntmps18
  go_upto_region 1 with fail
  revert HL
  generalize ((w.alloc (.cells #[.slice sn xs.length cn, .int .i64 xr] 35)).alloc (.cells #[.slice sn' ys.length cn', .int .i64 yr] 35)) = W1
  intro HL
  have ca := (blk_all HL.out.2.1).1
  have cb := (blk_all HL.out.2.2.1).1
  by_cases e1 : xr = yr
  · subst e1
    by_cases e2 : xs.length = ys.length
    · obtain ⟨n, hn⟩ : ∃ n, n = xs.length := ⟨_, rfl⟩
      rw [← hn] at ca hl1
      rw [← e2, ← hn] at cb
      have HN := Lib.hid (And.intro hn (hn.trans e2))
      clear hn e2 ml1
      go_wp2_with fail
      clear ca cb
      go_loopw [5] (fun i wr => ∃ k : Nat, k ≤ n ∧ i = .int .i64 k ∧ xs.take k = ys.take k ∧ Drew W1 wr) (fun i _ => n - (intOf i).toNat)
      case atStart => exact ⟨0, Nat.zero_le _, rfl, rfl, Drew.refl _⟩
      case round =>
        obtain ⟨k, hk, rfl, htk, hd⟩ := hrel
        have ca : ∀ m o, (wr.drewN m).cell? ⟨w.heap.size, o, none⟩ = #[Value.slice sn n cn, .int .i64 xr][o]? := fun m o => by
          have h : (wr.drewN m).heap = W1.heap := (hd.n m).heap
          unfold World.cell?; rw [h]; have := (blk_all HL.out.2.1).1 o; unfold World.cell? at this; rw [this, ← HN.out.1]
        have ca0 := (blk_all (blk_below (hd.below W1.heap.size) (blk_lt HL.out.2.1) HL.out.2.1)).1
        have cb0 := (blk_all (blk_below (hd.below W1.heap.size) (blk_lt HL.out.2.2.1) HL.out.2.2.1)).1
        rw [← HN.out.1] at ca0
        rw [← HN.out.2] at cb0
        clear ca
        have HT := Lib.hid (And.intro htk hd)
        clear htk hd
        by_cases hlt : k < n
        · obtain ⟨x, hx⟩ := get_of_lt (l := xs) (k := k) (by have := HN.out.1; omega)
          obtain ⟨y, hy⟩ := get_of_lt (l := ys) (k := k) (by have := HN.out.2; omega)
          obtain ⟨b1, off, rfl, hbw, hz1, hz2, hz3⟩ := HL.out.2.2.2.1.node (HT.out.2.below _) hx
          obtain ⟨b2, off2, rfl, hbw2, hz4, hz5, hz6⟩ := HL.out.2.2.2.2.node (HT.out.2.below _) hy
          have HR := Lib.hid (And.intro hx hy)
          clear hx hy hbw hbw2
          obtain ⟨xv, xl, xh⟩ := x
          obtain ⟨yv, yl, yh⟩ := y
          dsimp only at hz1 hz2 hz3 hz4 hz5 hz6
          by_cases he : (⟨xv, xl, xh⟩ : Nd) = ⟨yv, yl, yh⟩
          · obtain ⟨rfl, rfl, rfl⟩ : xv = yv ∧ xl = yl ∧ xh = yh := by simpa using he
            clear he
            go_upto_region 6 with fail
            go_quiet (fail)
            go_wp2_with fail
            go_roundw
            case rel => exact ⟨k + 1, by omega, by go_num, by rw [List.take_add_one, List.take_add_one, HT.out.1, HR.out.1, HR.out.2], HT.out.2.n _⟩
            case measure => simp [intOf]; omega
          · have HE := Lib.hid he
            clear he
            have hne : xv ≠ yv ∨ (xv = yv ∧ (xl ≠ yl ∨ (xl = yl ∧ xh ≠ yh))) := by
              by_cases a1 : xv = yv
              · by_cases a2 : xl = yl
                · by_cases a3 : xh = yh
                  · exact absurd (by rw [a1, a2, a3]) HE.out
                  · exact .inr ⟨a1, .inr ⟨a2, a3⟩⟩
                · exact .inr ⟨a1, .inl a2⟩
              · exact .inl a1
            have hbf : b = false := by
              cases b with
              | false => rfl
              | true =>
                exfalso
                have := HB.out.1 rfl
                simp only [Bd.mk.injEq] at this
                have h2 := HR.out.1
                rw [this.1, HR.out.2] at h2
                exact HE.out (Option.some.inj h2).symm
            subst hbf
            rcases hne with hne | ⟨rfl, hne | ⟨rfl, hne⟩⟩
            all_goals go_upto_region 6 with fail
            all_goals go_quiet (fail)
            all_goals go_wp2_with fail
            all_goals go_ret
            all_goals exact ⟨rfl, HL.out.1.trans ((HT.out.2.n _).below _ |>.mono HL.out.1.size)⟩
        · obtain rfl : k = n := by omega
          have hbt : b = true := HB.out.2 (Bd.ext' (by
            have h := HT.out.1
            rwa [List.take_of_length_le (by have := HN.out.1; show xs.length ≤ k; omega), List.take_of_length_le (by have := HN.out.2; show ys.length ≤ k; omega)] at h) rfl)
          subst hbt
          go_wp2_with fail
          go_ret
          exact ⟨rfl, HL.out.1.trans ((HT.out.2.below _).mono HL.out.1.size)⟩
    · have hbf : b = false := by
        cases b with
        | false => rfl
        | true => exfalso; have := HB.out.1 rfl; simp only [Bd.mk.injEq] at this; exact e2 (by rw [this.1])
      subst hbf
      go_wp2_with fail
      go_ret
      exact ⟨rfl, HL.out.1⟩
  · have hbf : b = false := by
      cases b with
      | false => rfl
      | true => exfalso; have := HB.out.1 rfl; simp only [Bd.mk.injEq] at this; exact e1 this.2
    subst hbf
    go_wp2_with fail
    go_ret
    exact ⟨rfl, HL.out.1⟩

theorem own_cap {w : World} {base : Nat} {e : TypeId} {size : Nat} {s : Option Addr} {n c : Nat} {xs : List Value} (h : w.ownsRow base e size (.slice s n c) n xs) : n ≤ c ∧ c ≤ maxLen := by
  rcases h.2 with ⟨e, _⟩ | ⟨g, cap, cur, e, _, _, h1, h2, _⟩
  · simp only [Value.slice.injEq] at e
    obtain ⟨_, rfl, rfl⟩ := e
    exact ⟨Nat.le_refl _, by unfold maxLen; omega⟩
  · simp only [Value.slice.injEq] at e
    obtain ⟨_, _, rfl⟩ := e
    exact ⟨h1, h2⟩
theorem bdV_own {w : World} {base : Nat} {s : Option Addr} {c : Nat} {d : Bd} (h : w.ownsRow base 76 3 (.slice s d.nodes.length c) d.nodes.length (ncells d.nodes)) (hl : d.nodes.length ≤ 1048576) : BdV w (.agg #[.slice s d.nodes.length c, .int .i64 d.root]) d := by
  obtain ⟨h1, h2⟩ := own_cap h
  exact ⟨s, c, rfl, own_sl h, hl, h1, by unfold maxLen at h2; omega⟩
theorem bdR_root (c : Cir) (l : Int) : 0 ≤ (bdR c l).root ∧ (bdR c l).root ≤ 200 := by
  by_cases h : tsOk c l
  · have hl := bdR_len c l
    rw [bdR_yes h] at hl ⊢
    obtain ⟨q1, q2, q3, q4, q5⟩ := (c.validB_iff.1 h.1).lim
    have := ((Bd.validB_iff _).1 (bdK_valid (litF c l) (n := c.inp.toNat + c.next.length) (by omega))).1
    have h1 := this.r0; have h2 := this.r1
    omega
  · rw [bdR_no h]; simp
theorem bdR_eval {c : Cir} {l : Int} (h : tsOk c l) (k : Nat) (hk : k < asgN c) : (bdR c l).evalB k = litF c l k := by
  obtain ⟨q1, q2, q3, q4, q5⟩ := (c.validB_iff.1 h.1).lim
  unfold asgN at hk
  rw [bdR_yes h, bdK_eval _ (by omega), Nat.mod_eq_of_lt hk]
theorem bdR_valid {c : Cir} {l : Int} (h : tsOk c l) : (bdR c l).validB = true := by
  obtain ⟨q1, q2, q3, q4, q5⟩ := (c.validB_iff.1 h.1).lim
  rw [bdR_yes h]; exact bdK_valid _ (by omega)

end Go.Proofs.Ytjggcojbgkpooaa
