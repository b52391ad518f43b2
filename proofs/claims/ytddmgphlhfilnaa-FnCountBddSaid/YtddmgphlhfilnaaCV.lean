import Derived.Test.YtddmgphlhfilnaaCT
import Derived.Test.YtddmgphlhfilnaaCR
import Derived.Test.YtddmgphlhfilnaaCC
namespace Go.Proofs.Ytddmgphlhfilnaa
set_option linter.unusedVariables false
set_option linter.unusedSimpArgs false
open Go.RowKit

/-! The law FnCountBdd. -/

theorem count_bd (d : Bd) (n : Int) : -1 ≤ d.count n ∧ d.count n ≤ 128 := by
  by_cases h : d.fine n
  · rw [count_yes h]
    obtain ⟨P, h1, -, -, h4⟩ := pow_n h.2.1 h.2.2.1
    rw [h1]
    have := cntB_le d P
    omega
  · rw [count_no h]; omega

set_option maxRecDepth 100000 in
set_option maxHeartbeats 3200000 in
theorem FnCountBdd_any (s : Option Addr) (cap : Nat) (xs : List Int) (w : World) (hs : Sl w s (u8s xs)) (hl : xs.length ≤ 9223372036854775807) (hcap : xs.length ≤ cap) (hcap2 : cap ≤ 9223372036854775807) (hr : ∀ x ∈ xs, 0 ≤ x ∧ x ≤ 255) :
    Calls Try.prog 5 #[.slice s xs.length cap] w fun e w' => e = .returned (.bool true) ∧ Below w.heap.size w w' := by
  by_cases hc : xs.length ≤ 1048576
  · have HD := Lib.hid (DrawCountBdd_any s cap xs w hs hc hcap hcap2 hr)
    clear hs hr
    go_enter Try.func5, Try.ntmps5
    go_upto_region 4 with (go_at_call 22; (with_reducible refine HD.out.mono ?_); rintro e w1 ⟨d, sb, kb, x, rfl, h1, h2, ⟨h3, h4⟩, ⟨x0, x1⟩, h5⟩; have H1 := Lib.hid (And.intro h1 h5); clear h1 h5)
    obtain ⟨D, hD⟩ : ∃ D, D = w1.heap.size := ⟨_, rfl⟩
    have hk := blk_new w1 (.cells #[.slice sb d.nodes.length kb, .int .i64 d.root] 25)
    have hbb := below_alloc w1 (.cells #[.slice sb d.nodes.length kb, .int .i64 d.root] 25)
    have hV := bdV_own (own_below H1.out.1 hbb) (by omega)
    have hbw := H1.out.2.trans (hbb.mono H1.out.2.size)
    have hsb := own_sl (own_below H1.out.1 hbb)
    rw [← hD] at hk
    rw [← hD]
    clear hbb hD H1
    revert hV hbw hk hsb
    generalize w1.alloc (.cells #[.slice sb d.nodes.length kb, .int .i64 d.root] 25) = W2
    intro hk hV hbw hsb
    have HB : Hid (∀ W, Below W2.heap.size W2 W → (∀ o, W.cell? ⟨D, o, none⟩ = #[Value.slice sb d.nodes.length kb, .int .i64 d.root][o]?) ∧ BdV W (.agg #[.slice sb d.nodes.length kb, .int .i64 d.root]) d ∧ Sl W sb (ncells d.nodes) ∧ Below w.heap.size w W) := fun W hW => ⟨(blk_all (blk_below hW (blk_lt hk) hk)).1, hV.mono hW, hsb.mono hW, hbw.trans (hW.mono hbw.size)⟩
    clear hV hbw hk hsb
    have cb := (HB.out _ (Below.refl _ _)).1
    obtain ⟨K, hKK⟩ : ∃ K, K = d.count x := ⟨_, rfl⟩
    have hKb : -1 ≤ K ∧ K ≤ 128 := by rw [hKK]; exact count_bd d x
    obtain ⟨kb1, kb2⟩ := hKb
    have HKK := Lib.hid hKK
    clear hKK
    go_upto_region 7 with (first
      | (go_at_call 23; ((with_reducible refine (CountBdd_i _ d x _ (HB.out _ (Below.refl _ _)).2.1 ⟨by omega, by omega⟩).mono ?_); rintro e w3 ⟨rfl, hq⟩; rw [← HKK.out]; have HQ := Lib.hid hq; clear hq cb; have cb := (HB.out _ HQ.out).1))
      | (go_at_call 24; ((with_reducible refine (CountBdd_s _ d x _ (HB.out _ HQ.out).2.1 ⟨by omega, by omega⟩).mono ?_); rintro e w4 ⟨rfl, hq⟩; rw [← HKK.out]; have HQ2 := Lib.hid (HQ.out.trans (hq.mono HQ.out.size)); clear hq cb HQ; have cb := (HB.out _ HQ2.out).1)))
    by_cases hx : 0 ≤ K
    · have hf : d.fine x := count_fine (by rw [← HKK.out]; exact hx)
      have hf0 := hf.2.1
      have hf7 := hf.2.2.1
      obtain ⟨m, rfl⟩ : ∃ m : Nat, x = m := ⟨x.toNat, by omega⟩
      have hKm : K = (cntB d (2 ^ m) : Int) := by rw [HKK.out, count_yes hf]; simp
      obtain ⟨N, hN⟩ : ∃ N, N = 2 ^ m := ⟨_, rfl⟩
      have hwq : wrap64 (2 ^ m) = (N : Int) := by rw [wrap_pow (by omega), hN]; simp
      have hN8 : N ≤ 128 := by rw [hN]; exact Nat.le_trans (Nat.pow_le_pow_right (by omega) (show m ≤ 7 by omega)) (by decide)
      rw [← hN] at hKm
      have HKm := Lib.hid hKm
      have HNX : Hid ((m : Int) < 7 → d.count ((m : Int) + 1) = 2 * K) := fun h => by rw [HKK.out]; exact count_next hf h
      clear hf hN hKm
      go_upto_region 11 with fail
      go_loopw [6, 7] (fun sv xv wr => ∃ (y : Nat) (z : Int), y ≤ N ∧ 0 ≤ z ∧ z ≤ y ∧ xv = .int .i64 y ∧ sv = .int .i64 z ∧ z = (cntB d y : Int) ∧ Below W2.heap.size W2 wr) (fun _ xv _ => N - (intOf xv).toNat)
      case atStart => exact ⟨0, 0, by omega, by omega, by omega, rfl, rfl, rfl, HQ2.out⟩
      case round =>
        obtain ⟨y, z, hy, z0, z1, rfl, rfl, hz, hb⟩ := hrel
        have HZ := Lib.hid hz
        have HK := Lib.hid hb
        have cb2 := (HB.out _ HK.out).1
        clear hz hb
        by_cases hlt : y < N
        · have hs := cntB_succ d y
          have HS := Lib.hid hs
          clear hs
          cases he : d.evalB (y : Int)
          all_goals
            have HEV := Lib.hid he
            clear he
            go_wp2_with (go_at_call 19; ((with_reducible refine (EvalBdd_i _ d y _ (HB.out _ HK.out).2.1 ⟨by omega, by omega⟩).mono ?_); rintro e w9 ⟨rfl, hq⟩; rw [HEV.out]; have HQ9 := Lib.hid (HK.out.trans (hq.mono HK.out.size)); clear hq cb2))
            go_roundw
            case rel => first
              | exact ⟨y + 1, z + 1, by omega, by omega, by omega, by first | rfl | go_num, by first | rfl | go_num, by rw [HS.out, HZ.out, HEV.out]; simp, HQ9.out⟩
              | exact ⟨y + 1, z, by omega, by omega, by omega, by first | rfl | go_num, by first | rfl | go_num, by rw [HS.out, HZ.out, HEV.out]; simp, HQ9.out⟩
            case measure => simp [intOf]; omega
        · obtain rfl : y = N := by omega
          obtain rfl : z = K := by rw [HZ.out, HKm.out]
          go_upto_region 15 with fail
          by_cases h7 : (m : Int) = 7
          · go_wp2_with fail
            go_ret
            exact ⟨rfl, (HB.out _ HK.out).2.2.2⟩
          · go_wp2_with (go_at_call 23; ((with_reducible refine (CountBdd_i _ d ((m : Int) + 1) _ (HB.out _ HK.out).2.1 ⟨by omega, by omega⟩).mono ?_); rintro e w9 ⟨rfl, hq⟩; rw [HNX.out (by omega)]; have HQ9 := Lib.hid (HK.out.trans (hq.mono HK.out.size)); clear hq cb2))
            go_ret
            exact ⟨rfl, (HB.out _ HQ9.out).2.2.2⟩
    · go_wp2_with (go_at_call 21; ((with_reducible refine (alive_any _).mono ?_); rintro e w6 ⟨rfl, hq⟩; have HQ4 := Lib.hid (HQ2.out.trans (hq.mono HQ2.out.size)); clear hq))
      go_ret
      exact ⟨rfl, (HB.out _ HQ4.out).2.2.2⟩
  · clear hs hr
    go_enter Try.func5, Try.ntmps5
    go_wp2
    go_ret
    exact ⟨rfl, Below.refl _ _⟩

end Go.Proofs.Ytddmgphlhfilnaa
