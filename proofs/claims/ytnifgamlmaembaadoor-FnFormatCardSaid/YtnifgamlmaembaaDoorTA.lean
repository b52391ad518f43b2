import Derived.Test.YtnifgamlmaembaaDoorOA
import Derived.Laws.IdiomStrings
namespace Go.Proofs.YtnifgamlmaembaaDoor
set_option linter.unusedVariables false
set_option linter.unusedSimpArgs false
open Go.RowKit

/-! Texts: a string's bytes, decimal numerals, rows of strings. -/

abbrev Tx := List UInt8
def sv (l : Tx) : Value := .string ⟨l.toArray⟩
def strs (ls : List Tx) : List Value := ls.map sv
def plT (n : Nat) (acc : Tx) : Tx := if n ≤ 9 then UInt8.ofNat (48 + n) :: acc else plT (n / 10) (UInt8.ofNat (48 + n % 10) :: acc)
termination_by n
decreasing_by omega

theorem conv1 (W : World) (n : Int) : (convert 42 9 (.slice (some ⟨W.heap.size, 0, none⟩) 1 1)).run Tryd.prog (W.alloc (.cells #[.int .u8 n] 5)) = .ok (.string ⟨#[UInt8.ofNat n.toNat]⟩) (W.alloc (.cells #[.int .u8 n] 5)) := by
  rw [run_convert_bytes_string _ _ _ 5 _ _ _ Tryd.underlying42 Tryd.underlying5 Tryd.underlying9]
  exact run_bytesToString _ ⟨W.heap.size, 0, none⟩ 1 1 [n] (run_loadCells_list (P := Tryd.prog) _ ⟨W.heap.size, 0, none⟩ [.int .u8 n] (fun j v hj => by
    rcases j with _ | j
    · cases hj; exact blk_cell (blk_new _ _)
    · simp at hj))

theorem cat1 (j : Nat) (acc : Tx) : (⟨#[48 + UInt8.ofNat j]⟩ : ByteArray) ++ ⟨acc.toArray⟩ = ⟨(UInt8.ofNat (48 + j) :: acc).toArray⟩ := by
  apply ByteArray.ext
  simp [UInt8.ofNat_add]

set_option maxRecDepth 10000 in
theorem l13Plain_any (n : Nat) (hn : n < 1000000) (w : World) :
    Calls Tryd.prog 29 #[.int .i64 n] w fun e w' => e = .returned (sv (plT n [])) ∧ Below w.heap.size w w' := by
  have hcv := conv1
  go_enter Tryd.func29, Tryd.ntmps29
  go_wp2
  go_loopw [0, 3] (fun v0 v3 wr => ∃ (j : Nat) (acc : Tx), v0 = .int .i64 j ∧ v3 = sv acc ∧ plT j acc = plT n [] ∧ acc.length + j ≤ n ∧ Below w.heap.size w wr) (fun v0 _ _ => (intOf v0).toNat)
  case atStart => exact ⟨n, [], rfl, rfl, rfl, by simp, Below.refl _ _⟩
  case round =>
    obtain ⟨j, acc, rfl, rfl, he, hj, hbl⟩ := hrel
    have HE := Lib.hid he
    have HB := Lib.hid hbl
    clear he hbl
    have hc1 := cat1 j acc
    have hc2 := cat1 (j % 10) acc
    have hsz : (⟨acc.toArray⟩ : ByteArray).size ≤ 1000000 := by show acc.toArray.size ≤ 1000000; simp; omega
    have hsz1 : ∀ b : UInt8, (⟨#[b]⟩ : ByteArray).size = 1 := fun _ => rfl
    by_cases hlt : j ≤ 9
    · have hp : plT n [] = UInt8.ofNat (48 + j) :: acc := by rw [← HE.out, plT, if_pos hlt]
      have HP := Lib.hid hp
      clear hp
      unfold sv
      go_wp2_with fail
      go_ret
      refine ⟨?_, HB.out.alloc HB.out.size _⟩
      rw [HP.out]
      simp [UInt8.ofNat_add]
      rfl
    · have hp : plT (j / 10) (UInt8.ofNat (48 + j % 10) :: acc) = plT n [] := by rw [← HE.out, plT.eq_def j, if_neg hlt]
      have HP := Lib.hid hp
      clear hp
      unfold sv
      go_wp2_with fail
      go_roundw
      case rel => exact ⟨j / 10, UInt8.ofNat (48 + j % 10) :: acc, by go_num, by simp [UInt8.ofNat_add], HP.out, by simp; omega, HB.out.alloc HB.out.size _⟩
      case measure => simp [intOf]; omega

def mdT (n : Nat) (acc : Tx) : Tx := if n = 0 then acc else mdT (n / 10) (UInt8.ofNat (48 + n % 10) :: acc)
termination_by n
decreasing_by omega
/-- What markText returns. -/
def mtx (k : Nat) : Tx := if k = 0 then [109, 48] else 109 :: mdT k []

theorem catm (acc : Tx) : (⟨#[109]⟩ : ByteArray) ++ ⟨acc.toArray⟩ = ⟨(109 :: acc).toArray⟩ := by
  apply ByteArray.ext
  simp

set_option maxRecDepth 10000 in
theorem markText_any (n : Nat) (hn : n < 100000000) (w : World) :
    Calls Tryd.prog 37 #[.int .i64 n] w fun e w' => e = .returned (sv (mtx n)) ∧ Below w.heap.size w w' := by
  have hcv := conv1
  by_cases h0 : n = 0
  · subst h0
    go_enter Tryd.func37, Tryd.ntmps37
    go_wp2
    go_ret
    exact ⟨rfl, Below.refl _ _⟩
  · have hn0 : 1 ≤ n := by omega
    have hm : mtx n = 109 :: mdT n [] := by unfold mtx; rw [if_neg h0]
    have HM := Lib.hid hm
    clear h0 hm
    go_enter Tryd.func37, Tryd.ntmps37
    go_wp2_with fail
    go_loopw [0, 3] (fun v0 v3 wr => ∃ (j : Nat) (acc : Tx), v0 = .int .i64 j ∧ v3 = sv acc ∧ mdT j acc = mdT n [] ∧ acc.length + j ≤ n ∧ Below w.heap.size w wr) (fun v0 _ _ => (intOf v0).toNat)
    case atStart => exact ⟨n, [], rfl, rfl, rfl, by simp, Below.refl _ _⟩
    case round =>
      obtain ⟨j, acc, rfl, rfl, he, hj, hbl⟩ := hrel
      have HE := Lib.hid he
      have HB := Lib.hid hbl
      clear he hbl
      have hc1 := catm acc
      have hc2 := cat1 (j % 10) acc
      have hsz : (⟨acc.toArray⟩ : ByteArray).size ≤ 100000000 := by show acc.toArray.size ≤ 100000000; simp; omega
      have hsz1 : ∀ b : UInt8, (⟨#[b]⟩ : ByteArray).size = 1 := fun _ => rfl
      by_cases hlt : 0 < j
      · have hp : mdT (j / 10) (UInt8.ofNat (48 + j % 10) :: acc) = mdT n [] := by rw [← HE.out, mdT.eq_def j, if_neg (by omega)]
        have HP := Lib.hid hp
        clear hp
        unfold sv
        go_wp2_with fail
        go_roundw
        case rel => exact ⟨j / 10, UInt8.ofNat (48 + j % 10) :: acc, by go_num, by simp [UInt8.ofNat_add], HP.out, by simp; omega, HB.out.alloc HB.out.size _⟩
        case measure => simp [intOf]; omega
      · obtain rfl : j = 0 := by omega
        have hp : mdT n [] = acc := by rw [← HE.out, mdT, if_pos rfl]
        have HP := Lib.hid hp
        clear hp
        unfold sv
        go_wp2_with fail
        go_ret
        refine ⟨?_, HB.out⟩
        rw [HM.out, HP.out]
        rfl

end Go.Proofs.YtnifgamlmaembaaDoor
