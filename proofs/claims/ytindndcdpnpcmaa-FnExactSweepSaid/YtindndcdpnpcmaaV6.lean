import Derived.Test.YtindndcdpnpcmaaV5
import Derived.Laws.BytesArg
namespace Go.Proofs.Ytindndcdpnpcmaa
set_option linter.unusedVariables false
set_option linter.unusedSimpArgs false
open Go.RowKit

/-! Functions of variables as strings: the program's walks. -/

def bnum (f : Nat → Bool) (x : Nat) : Int := if f x then 49 else 48
def bnums (f : Nat → Bool) (N : Nat) : List Int := (List.range N).map (bnum f)
theorem bnums_length (f : Nat → Bool) (N : Nat) : (bnums f N).length = N := by simp [bnums]
theorem bnums_succ (f : Nat → Bool) (N : Nat) : bnums f (N + 1) = bnums f N ++ [bnum f N] := by simp [bnums, List.range_succ]
def bstr (f : Nat → Bool) (N : Nat) : ByteArray := strOfNums (bnums f N)
theorem bstr_size (f : Nat → Bool) (N : Nat) : (bstr f N).size = N := by unfold bstr; rw [strOfNums_size, bnums_length]
theorem bstr_get (f : Nat → Bool) (N i : Nat) (h : i < (bstr f N).size) : (bstr f N)[i].toNat = if f i then 49 else 48 := by
  have h2 : i < N := by rw [bstr_size] at h; exact h
  have e : (bstr f N)[i] = UInt8.ofNat (bnum f i).toNat := by
    simp [bstr, strOfNums, bnums, ByteArray.getElem_eq_getElem_data]
  rw [e]
  unfold bnum
  split <;> rfl
theorem bstr_beq (f g : Nat → Bool) (N k : Nat) (h1 : k < (bstr f N).size) (h2 : k < (bstr g N).size) : (((bstr f N)[k].toNat : Int) == ((bstr g N)[k].toNat : Int)) = (f k == g k) := by
  rw [bstr_get, bstr_get]
  cases f k <;> cases g k <;> rfl
def eqCnt (f g : Nat → Bool) (k : Nat) : Nat := ((List.range k).filter fun x => f x == g x).length
theorem eqCnt_succ (f g : Nat → Bool) (k : Nat) : eqCnt f g (k + 1) = eqCnt f g k + (if f k = g k then 1 else 0) := by
  unfold eqCnt
  rw [List.range_succ, List.filter_append, List.length_append]
  by_cases h : f k = g k <;> simp [h]
theorem eqCnt_le (f g : Nat → Bool) (k : Nat) : eqCnt f g k ≤ k := by
  have := List.length_filter_le (fun x => f x == g x) (List.range k); simpa [eqCnt] using this
theorem eqCnt_all (f g : Nat → Bool) (k : Nat) : eqCnt f g k = k ↔ eqAll f g k = true := by
  induction k with
  | zero => simp [eqCnt, eqAll]
  | succ k ih =>
    rw [eqCnt_succ, eqAll_succ, Bool.and_eq_true, ← ih]
    have := eqCnt_le f g k
    by_cases h : f k = g k
    · simp [h]
    · simp [h]; omega
theorem eqCnt_none (f g : Nat → Bool) (k : Nat) : eqCnt f g k = 0 ↔ neAll f g k = true := by
  induction k with
  | zero => simp [eqCnt, neAll]
  | succ k ih =>
    rw [eqCnt_succ, neAll_succ, Bool.and_eq_true, ← ih]
    by_cases h : f k = g k <;> simp [h]

set_option maxHeartbeats 800000 in
theorem compareColumns_any (f g : Nat → Bool) (N : Nat) (w : World) (hN : N ≤ 1000) :
    Calls Try.prog 73 #[.string (bstr f N), .string (bstr g N)] w fun e w' => e = .returned (.int .i64 (if eqAll f g N then 1 else if neAll f g N then -1 else 0)) ∧ Drew w w' := by
  have ha := bstr_size f N
  have hb := bstr_size g N
  obtain ⟨A, hA⟩ : ∃ A, A = bstr f N := ⟨_, rfl⟩
  obtain ⟨B, hB⟩ : ∃ B, B = bstr g N := ⟨_, rfl⟩
  rw [← hA] at ha ⊢
  rw [← hB] at hb ⊢
  obtain ⟨R, hR⟩ : ∃ R : Int, R = if eqAll f g N then 1 else if neAll f g N then -1 else 0 := ⟨_, rfl⟩
  rw [← hR]
  have H := Lib.hid (And.intro hA hB)
  have HR := Lib.hid hR
  clear hA hB hR
  go_enter Try.func73, Try.ntmps73
  go_wp2
  go_loopw [5, 9] (fun e i wr => ∃ k : Nat, k ≤ N ∧ i = .int .i64 k ∧ e = .int .i64 (eqCnt f g k) ∧ Drew w wr) (fun _ i _ => N - (intOf i).toNat)
  case atStart => exact ⟨0, Nat.zero_le _, rfl, rfl, Drew.refl _⟩
  case round =>
    obtain ⟨k, hk, rfl, rfl, hd⟩ := hrel
    have HD := Lib.hid hd
    have hc1 := eqCnt_le f g k
    clear hd
    by_cases hlt : k < N
    · go_wp2
      go_quiet (fail)
      go_wp2
      all_goals
        rename_i hh
        obtain ⟨rfl, rfl⟩ := H.out
        rw [bstr_beq] at hh
        have hs := eqCnt_succ f g k
        go_roundw
        case rel =>
          refine ⟨k + 1, by omega, by go_num, ?_, HD.out.n _⟩
          rw [hs]
          first
            | (rw [if_pos (by simpa using hh)]; go_num)
            | (rw [if_neg (by simpa using hh)]; go_num)
        case measure => simp [intOf]; omega
    · obtain rfl : k = N := by omega
      have h1 := eqCnt_all f g k
      have h2 := eqCnt_none f g k
      by_cases e1 : eqCnt f g k = k
      · have HE : Hid (R = 1) := by have := HR.out; rw [h1.1 e1] at this; exact this
        clear h1 h2
        go_wp2
        all_goals first
          | (exfalso; omega)
          | (go_ret; exact ⟨ret_int HE.out.symm, HD.out⟩)
      · have n1 : eqAll f g k = false := by
          cases hq : eqAll f g k
          · rfl
          · exact absurd (h1.2 hq) e1
        by_cases e2 : eqCnt f g k = 0
        · have HE : Hid (R = -1) := by have := HR.out; rw [n1, h2.1 e2] at this; exact this
          clear n1 h1 h2
          go_wp2
          all_goals first
            | (exfalso; omega)
            | (go_ret; exact ⟨ret_int HE.out.symm, HD.out⟩)
        · have n2 : neAll f g k = false := by
            cases hq : neAll f g k
            · rfl
            · exact absurd (h2.2 hq) e2
          have HE : Hid (R = 0) := by have := HR.out; rw [n1, n2] at this; exact this
          clear n1 n2 h1 h2
          go_wp2
          all_goals first
            | (exfalso; omega)
            | (go_ret; exact ⟨ret_int HE.out.symm, HD.out⟩)

end Go.Proofs.Ytindndcdpnpcmaa
