import Derived.Test.YtaboipnigeaopaaS6
import Derived.Test.YtaboipnigeaopaaY2
namespace Go.Proofs.Ytaboipnigeaopaa
set_option linter.unusedVariables false
set_option linter.unusedSimpArgs false
open Go.RowKit

/-! A number in a list; the number of a state; a circuit drawn out of bytes. -/

theorem wrap_small {z : Int} (h0 : 0 ≤ z) (h1 : z ≤ 1000) : wrap64 z = z := IntWalk.wrap64_in _ ⟨by omega, by omega⟩

set_option maxHeartbeats 800000 in
theorem stateNumber_any (s : Option Addr) (cap : Nat) (bs : List Bool) (w : World) (h : Sl w s (bools bs)) (hl : bs.length ≤ 4) :
    Calls Try.prog 21 #[.slice s bs.length cap] w fun e w' => e = .returned (.int .i64 (numB bs)) ∧ w = w' := by
  have H := Lib.hid h
  clear h
  go_enter Try.func21, Try.ntmps21
  go_wp2
  go_loopw [3, 4] (fun x i wr => ∃ k : Nat, k ≤ bs.length ∧ i = .int .i64 k ∧ x = .int .i64 (numB (bs.take k)) ∧ w = wr) (fun _ i _ => bs.length - (intOf i).toNat)
  case atStart => exact ⟨0, Nat.zero_le _, rfl, rfl, rfl⟩
  case round =>
    obtain ⟨k, hk, rfl, rfl, rfl⟩ := hrel
    by_cases hlt : k < bs.length
    · obtain ⟨b, hb⟩ := get_of_lt hlt
      obtain ⟨sb, off, rfl, hbw, hz⟩ := H.out.bool (Below.refl _ _) hb
      have hlk : (bs.take k).length = k := by simp; omega
      have hbd := numB_bd (bs.take k)
      rw [hlk] at hbd
      have hsn := numB_snoc (bs.take k) b
      rw [hlk] at hsn
      have htk : bs.take (k + 1) = bs.take k ++ [b] := by rw [List.take_add_one, hb]; rfl
      rw [← htk] at hsn
      obtain ⟨n, hn⟩ : ∃ n : Nat, numB (bs.take k) = n := ⟨(numB (bs.take k)).toNat, by omega⟩
      rw [hn] at hsn hbd ⊢
      have hp16 : (2 : Int) ^ k ≤ 16 := by
        have := Nat.pow_le_pow_right (show 0 < 2 by omega) (show k ≤ 4 by omega)
        exact_mod_cast this
      have hp0 : (0 : Int) ≤ 2 ^ k := Int.le_of_lt (Int.pow_pos (by decide))
      have n16 : n ≤ 16 := by have := hbd.2; omega
      have hwp : wrap64 (2 ^ k) = 2 ^ k := wrap_pow (by omega)
      have hw2 : wrap64 ((n : Int) + 2 ^ k) = (n : Int) + 2 ^ k := wrap_small (Int.add_nonneg (Int.natCast_nonneg n) hp0) (Int.le_trans (Int.add_le_add (Int.ofNat_le.2 n16) hp16) (by decide))
      have HR := Lib.hid (And.intro hsn hb)
      clear hsn hb hbd hlk htk hn hbw
      cases b
      · go_wp2
        go_roundw
        case rel => exact ⟨k + 1, by omega, by go_num, by rw [HR.out.1]; simp⟩
        case measure => first | (simp [intOf]; done) | (simp [intOf]; omega)
      · go_wp2
        go_roundw
        case rel => exact ⟨k + 1, by omega, by go_num, by rw [HR.out.1]; simp⟩
        case measure => first | (simp [intOf]; done) | (simp [intOf]; omega)
    · obtain rfl : k = bs.length := by omega
      rw [List.take_length]
      go_wp2
      go_ret
      exact ⟨rfl, rfl⟩

/-- A circuit that was drawn. -/
def DrawnC (w : World) (e : Ending) (w' : World) : Prop :=
  ∃ (C : Cir) (vn vg vo : Value), e = .returned (.agg #[.int .i64 C.inp, vn, vg, vo]) ∧ CirOwn w' w.heap.size C vn vg vo ∧ (-10 ≤ C.inp ∧ C.inp ≤ 10 ∧ C.next.length ≤ 8 ∧ C.gates.length ≤ 40 ∧ C.outs.length ≤ 16) ∧ Below w.heap.size w w'

end Go.Proofs.Ytaboipnigeaopaa
