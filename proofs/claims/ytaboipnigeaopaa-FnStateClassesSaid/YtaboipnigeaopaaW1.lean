import Derived.Test.YtaboipnigeaopaaH2
import Derived.Test.YtaboipnigeaopaaV6
import Derived.Test.YtaboipnigeaopaaL4
namespace Go.Proofs.Ytaboipnigeaopaa
set_option linter.unusedVariables false
set_option linter.unusedSimpArgs false
open Go.RowKit

/-! Numbers out of bits. -/

def numB : List Bool → Int
  | [] => 0
  | b :: bs => (if b then 1 else 0) + 2 * numB bs
theorem numB_bd : ∀ bs : List Bool, 0 ≤ numB bs ∧ numB bs < 2 ^ bs.length
  | [] => by simp [numB]
  | b :: bs => by
    have := numB_bd bs
    unfold numB
    rw [List.length_cons, Int.pow_succ]
    cases b <;> simp <;> omega
theorem numB_snoc : ∀ (bs : List Bool) (b : Bool), numB (bs ++ [b]) = numB bs + (if b then 2 ^ bs.length else 0)
  | [], b => by cases b <;> simp [numB]
  | a :: bs, b => by
    have := numB_snoc bs b
    show (if a then 1 else 0) + 2 * numB (bs ++ [b]) = (if a then 1 else 0) + 2 * numB bs + _
    rw [this, List.length_cons, Int.pow_succ]
    cases b <;> simp <;> omega
theorem numB_drop {bs : List Bool} {k : Nat} {b : Bool} (h : bs[k]? = some b) : numB (bs.drop k) = (if b then 1 else 0) + 2 * numB (bs.drop (k + 1)) := by
  obtain ⟨hk, rfl⟩ := List.getElem?_eq_some_iff.1 h
  rw [List.drop_eq_getElem_cons hk]; rfl
theorem or_pow (n i : Nat) (hi : i ≤ 4) (hn : n < 2 ^ i) : bits .or .i64 (n : Int) (2 ^ i) = (n : Int) + 2 ^ i := by
  have h : ∀ i : Fin 5, ∀ n : Fin 16, n.val < 2 ^ i.val → bits .or .i64 ((n.val : Nat) : Int) (2 ^ i.val) = ((n.val : Nat) : Int) + 2 ^ i.val := by decide +kernel
  have hp : 2 ^ i ≤ 2 ^ 4 := Nat.pow_le_pow_right (by omega) hi
  exact h ⟨i, by omega⟩ ⟨n, by omega⟩ hn

set_option maxHeartbeats 800000 in
theorem number_any (s : Option Addr) (cap : Nat) (bs : List Bool) (w : World) (h : Sl w s (bools bs)) (hl : bs.length ≤ 4) :
    Calls Try.prog 87 #[.slice s bs.length cap] w fun e w' => e = .returned (.int .i64 (numB bs)) ∧ w = w' := by
  have H := Lib.hid h
  clear h
  go_enter Try.func87, Try.ntmps87
  go_wp2
  go_loopw [3, 8] (fun x i wr => ∃ k : Nat, k ≤ bs.length ∧ i = .int .i64 k ∧ x = .int .i64 (numB (bs.take k)) ∧ w = wr) (fun _ i _ => bs.length - (intOf i).toNat)
  case atStart => exact ⟨0, Nat.zero_le _, rfl, rfl, rfl⟩
  case round =>
    obtain ⟨k, hk, rfl, rfl, rfl⟩ := hrel
    by_cases hlt : k < bs.length
    · obtain ⟨b, hb⟩ := get_of_lt hlt
      obtain ⟨sb, off, rfl, hbw, hz⟩ := H.out.bool (Below.refl _ _) hb
      have hlk : (bs.take k).length = k := by simp; omega
      have hbd := numB_bd (bs.take k)
      rw [hlk] at hbd
      have hsn := numB_snoc (bs.take k) b
      rw [hlk] at hsn
      have htk : bs.take (k + 1) = bs.take k ++ [b] := by rw [List.take_add_one, hb]; rfl
      rw [← htk] at hsn
      obtain ⟨n, hn⟩ : ∃ n : Nat, numB (bs.take k) = n := ⟨(numB (bs.take k)).toNat, by omega⟩
      rw [hn] at hsn hbd ⊢
      have hn2 : n < 2 ^ k := by have := hbd.2; exact_mod_cast this
      have hor := or_pow n k (by omega) hn2
      have hwp : wrap64 (2 ^ k) = 2 ^ k := wrap_pow (by omega)
      have HR := Lib.hid (And.intro hsn hb)
      clear hsn hb hbd hlk htk hn hn2 hbw
      cases b
      · go_wp2
        go_roundw
        case rel => exact ⟨k + 1, by omega, by go_num, by rw [HR.out.1]; simp⟩
        case measure => first | (simp [intOf]; done) | (simp [intOf]; omega)
      · go_wp2
        go_roundw
        case rel => exact ⟨k + 1, by omega, by go_num, by rw [HR.out.1]; simp⟩
        case measure => first | (simp [intOf]; done) | (simp [intOf]; omega)
    · obtain rfl : k = bs.length := by omega
      rw [List.take_length]
      go_wp2
      go_ret
      exact ⟨rfl, rfl⟩

set_option maxHeartbeats 800000 in
theorem l16Number_any (s : Option Addr) (cap : Nat) (bs : List Bool) (w : World) (h : Sl w s (bools bs)) (hl : bs.length ≤ 4) :
    Calls Try.prog 90 #[.slice s bs.length cap] w fun e w' => e = .returned (.int .i64 (numB bs)) ∧ w = w' := by
  have H := Lib.hid h
  clear h
  go_enter Try.func90, Try.ntmps90
  go_wp2
  go_loopw [3, 4] (fun x i wr => ∃ k : Nat, k ≤ bs.length ∧ i = .int .i64 ((k : Int) - 1) ∧ x = .int .i64 (numB (bs.drop k)) ∧ w = wr) (fun _ i _ => (intOf i + 1).toNat)
  case atStart => exact ⟨bs.length, Nat.le_refl _, rfl, by simp [numB], rfl⟩
  case round =>
    obtain ⟨k, hk, rfl, rfl, rfl⟩ := hrel
    have hbd := numB_bd (bs.drop k)
    have hpw : (2 : Int) ^ (bs.drop k).length ≤ 2 ^ 4 := by
      have := Nat.pow_le_pow_right (show 0 < 2 by omega) (show (bs.drop k).length ≤ 4 by simp; omega)
      exact_mod_cast this
    obtain ⟨N, hN⟩ : ∃ N, N = numB (bs.drop k) := ⟨_, rfl⟩
    rw [← hN] at hbd ⊢
    have n0 : 0 ≤ N := hbd.1
    have n1 : N ≤ 16 := by have := hbd.2; omega
    have HN := Lib.hid hN
    clear hbd hpw hN
    cases k with
    | zero =>
      go_wp2
      go_ret
      exact ⟨ret_int (by rw [HN.out]; simp), rfl⟩
    | succ k =>
      obtain ⟨b, hb⟩ := get_of_lt (l := bs) (k := k) (by omega)
      obtain ⟨sb, off, rfl, hbw, hz⟩ := H.out.bool (Below.refl _ _) hb
      have hsn := numB_drop hb
      have HR := Lib.hid hsn
      clear hsn hb hbw
      have e1 : ((k + 1 : Nat) : Int) - 1 = (k : Int) := by omega
      rw [e1]
      cases b
      · go_wp2
        go_roundw
        case rel => exact ⟨k, by omega, by go_num, by rw [HR.out, HN.out]; simp⟩
        case measure => first | (simp [intOf]; done) | (simp [intOf]; omega)
      · go_wp2
        go_roundw
        case rel => exact ⟨k, by omega, by go_num, by rw [HR.out, HN.out]; simp; omega⟩
        case measure => first | (simp [intOf]; done) | (simp [intOf]; omega)

end Go.Proofs.Ytaboipnigeaopaa
