import Derived.Test.YtdcjiclonjillaaV3
import Derived.Test.YtdcjiclonjillaaOA
import Derived.Test.YtdcjiclonjillaaL4
namespace Go.Proofs.Ytdcjiclonjillaa
set_option linter.unusedVariables false
set_option linter.unusedSimpArgs false
open Go.RowKit

/-! Values of variables, for the laws. -/

/-! The value of a literal, for the laws; rows of ints compared. -/

theorem evalV_eq (c : Cir) (x : Int) (ni : Nat) (li : c.inp = ni) : valsV (-1) false (stuckB (-1) false (false :: (bitsV x ni ++ bitsV (x / 2 ^ ni) c.next.length))) c.gates = evalV c x (-1) false := by
  unfold evalV asgV
  rw [li, Int.toNat_natCast]

set_option maxHeartbeats 800000 in
theorem sameInts_any (sa sb : Option Addr) (ca cb : Nat) (xs ys : List Int) (w : World) (ha : Sl w sa (ints xs)) (hb : Sl w sb (ints ys)) (hl : xs.length ≤ 1000000) (hl2 : ys.length ≤ 1000000) (he : xs = ys) :
    Calls Try.prog 9 #[.slice sa xs.length ca, .slice sb ys.length cb] w fun e w' => e = .returned (.bool true) ∧ Drew w w' := by
  subst he
  have H := Lib.hid (And.intro ha hb)
  clear ha hb
  go_enter Try.func9, Try.ntmps9
  go_upto_region 4 with fail
  go_loopw [5] (fun i wr => ∃ k : Nat, k ≤ xs.length ∧ i = .int .i64 k ∧ Drew w wr) (fun i _ => xs.length - (intOf i).toNat)
  case atStart => exact ⟨0, Nat.zero_le _, rfl, 0, rfl⟩
  case round =>
    obtain ⟨k, hk, rfl, hd⟩ := hrel
    by_cases hlt : k < xs.length
    · obtain ⟨x, hx⟩ := get_of_lt hlt
      have hD := hd
      obtain ⟨b1, o1, rfl, hb1, z1⟩ := H.out.1.int (hd.below _) hx
      obtain ⟨b2, o2, rfl, hb2, z2⟩ := H.out.2.int (hd.below _) hx
      have HD := Lib.hid hd
      clear hd hD hx
      go_upto_region 6 with fail
      go_quiet (fail)
      go_wp2_with fail
      go_roundw
      case rel => exact ⟨k + 1, by omega, by go_num, HD.out.n _⟩
      case measure => simp [intOf]; omega
    · obtain rfl : k = xs.length := by omega
      have HD := Lib.hid hd
      clear hd
      go_wp2_with fail
      go_ret
      exact ⟨rfl, HD.out⟩

end Go.Proofs.Ytdcjiclonjillaa
