import Derived.Test.YtddmgphlhfilnaaV1
namespace Go.Proofs.Ytddmgphlhfilnaa
set_option linter.unusedVariables false
set_option linter.unusedSimpArgs false
open Go.RowKit

theorem latchBits_any (b : Nat) (inp x : Int) (sn : Option Addr) (nn cn : Nat) (vg vo : Value) (w : World) (h : CirAt w b inp (.slice sn nn cn) vg vo) (hi : 0 ≤ inp ∧ inp ≤ 4) (hn : nn ≤ 3) (h0 : 0 ≤ x) (h1 : x ≤ 1000000) :
    Calls Try.prog 98 #[.pointer (some ⟨b, 0, none⟩), .int .i64 x] w fun e w' => ∃ s, e = .returned (.slice s nn nn) ∧ Sl w' s (bools (bitsV (x / 2 ^ inp.toNat) nn)) ∧ Below w.heap.size w w' := by
  have HB : Hid (b < w.heap.size) := World.block_lt_of_cell? w _ h.h0
  obtain ⟨c0, c1, c2, c3⟩ := h
  obtain ⟨hi, hi'⟩ := hi
  have hpw : (1 : Int) ≤ 2 ^ inp.toNat := by have : (0 : Int) < 2 ^ inp.toNat := Int.pow_pos (by decide); omega
  have q1 : 0 ≤ x / 2 ^ inp.toNat := Int.ediv_nonneg h0 (by omega)
  have q2 : x / 2 ^ inp.toNat ≤ 1000000 := Int.le_trans (Int.ediv_le_self _ h0) h1
  clear hpw
  go_enter Try.func98, Try.ntmps98
  go_wp2_with fail
  go_region_held3 (fun w' => w'.cell? ⟨b, 0, none⟩ = some (.int .i64 inp) ∧ w'.cell? ⟨b, 1, none⟩ = some (.slice sn nn cn))
    (first
      | go_keep
      | (go_split_ands; refine ⟨?_, ?_⟩ <;> (rw [HBL.out.cell HB.out]; assumption)))
    ((go_at_call 109; ((refine (bitsOf_any _ _ _ q1 q2 (by omega)).mono ?_); rintro e w1 ⟨s, rfl, hs, hb⟩; have HBL := Lib.hid hb; have HS := Lib.hid hs; clear hb hs)))
  go_wp2
  go_ret
  exact ⟨_, rfl, HS.out, (Below.refl _ _).drew.trans HBL.out⟩

theorem inputBits_any (b : Nat) (inp x : Int) (vn vg vo : Value) (w : World) (h : CirAt w b inp vn vg vo) (n : Nat) (hn : inp = n) (hn4 : n ≤ 4) (h0 : 0 ≤ x) (h1 : x ≤ 1000000) :
    Calls Try.prog 99 #[.pointer (some ⟨b, 0, none⟩), .int .i64 x] w fun e w' => ∃ s, e = .returned (.slice s n n) ∧ Sl w' s (bools (bitsV x n)) ∧ Below w.heap.size w w' := by
  subst hn
  obtain ⟨c0, c1, c2, c3⟩ := h
  go_enter Try.func99, Try.ntmps99
  go_wp2_with (go_at_call 109; ((refine (bitsOf_any _ _ _ h0 h1 (by omega)).mono ?_); rintro e w1 ⟨s, rfl, hs, hb⟩; have HBL := Lib.hid hb; have HS := Lib.hid hs; clear hb hs))
  go_ret
  exact ⟨_, rfl, HS.out, HBL.out⟩

theorem wrap_pow {m : Nat} (h : m ≤ 8) : wrap64 (2 ^ m) = 2 ^ m := by
  have : ∀ m : Fin 9, wrap64 (2 ^ m.val) = 2 ^ m.val := by decide +kernel
  exact this ⟨m, by omega⟩

theorem assignments_any (b : Nat) (inp : Int) (sn : Option Addr) (nn cn : Nat) (vg vo : Value) (w : World) (h : CirAt w b inp (.slice sn nn cn) vg vo) (hi : 0 ≤ inp ∧ inp ≤ 4) (hn : nn ≤ 3) :
    Calls Try.prog 95 #[.pointer (some ⟨b, 0, none⟩)] w fun e w' => e = .returned (.int .i64 ((2 ^ (inp.toNat + nn) : Nat) : Int)) ∧ Drew w w' := by
  obtain ⟨c0, c1, c2, c3⟩ := h
  obtain ⟨hi, hi'⟩ := hi
  go_enter Try.func95, Try.ntmps95
  go_wp2
  go_quiet (fail)
  go_wp2
  go_ret
  refine ⟨ret_int ?_, _, rfl⟩
  rw [show (inp + (nn : Int)).toNat = inp.toNat + nn from by omega, wrap_pow (by omega)]
  simp

theorem mkBools0 (w : World) (n : Nat) (h : n ≤ 1048576) : (Instr.makeSlice 83 (.int .i64 0) (.int .i64 (n : Int))).run Try.prog w = .ok (.slice (some ⟨w.heap.size, 0, none⟩) 0 n) (w.alloc (.cells (bools (List.replicate n false)).toArray 4)) := by
  obtain ⟨i, hi, h1, h2, h3⟩ := info_parts (P := Try.prog) (e := 4) (z := .bool false) (size := 1) (bytes := 1) (by kernel_rfl)
  have := run_make (P := Try.prog) w 83 4 i (.bool false) (by kernel_rfl) hi h1 .i64 .i64 0 n (by omega) (by omega) (by rw [h3]; omega) (by omega)
  rw [this, h2]
  have e : madeCells #[Value.bool false] n = (bools (List.replicate n false)).toArray := by
    apply Array.ext'
    rw [toList_madeCells_one]; simp [bools]
  simp [Value.cells, e]

end Go.Proofs.Ytddmgphlhfilnaa
