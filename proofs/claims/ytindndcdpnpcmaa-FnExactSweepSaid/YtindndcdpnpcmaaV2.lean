import Derived.Test.YtindndcdpnpcmaaV1
namespace Go.Proofs.Ytindndcdpnpcmaa
set_option linter.unusedVariables false
set_option linter.unusedSimpArgs false
open Go.RowKit

theorem latchBits_any (b : Nat) (inp x : Int) (sn : Option Addr) (nn cn : Nat) (vg vo : Value) (w : World) (h : CirAt w b inp (.slice sn nn cn) vg vo) (hi : 0 ≤ inp ∧ inp ≤ 4) (hn : nn ≤ 3) (h0 : 0 ≤ x) (h1 : x ≤ 1000000) :
    Calls Try.prog 114 #[.pointer (some ⟨b, 0, none⟩), .int .i64 x] w fun e w' => ∃ s, e = .returned (.slice s nn nn) ∧ Sl w' s (bools (bitsV (x / 2 ^ inp.toNat) nn)) ∧ Below w.heap.size w w' := by
  have HB : Hid (b < w.heap.size) := World.block_lt_of_cell? w _ h.h0
  obtain ⟨c0, c1, c2, c3⟩ := h
  obtain ⟨hi, hi'⟩ := hi
  have hpw : (1 : Int) ≤ 2 ^ inp.toNat := by have : (0 : Int) < 2 ^ inp.toNat := Int.pow_pos (by decide); omega
  have q1 : 0 ≤ x / 2 ^ inp.toNat := Int.ediv_nonneg h0 (by omega)
  have q2 : x / 2 ^ inp.toNat ≤ 1000000 := Int.le_trans (Int.ediv_le_self _ h0) h1
  clear hpw
  go_enter Try.func114, Try.ntmps114
  go_wp2_with fail
  go_region_held3 (fun w' => w'.cell? ⟨b, 0, none⟩ = some (.int .i64 inp) ∧ w'.cell? ⟨b, 1, none⟩ = some (.slice sn nn cn))
    (first
      | go_keep
      | (go_split_ands; refine ⟨?_, ?_⟩ <;> (rw [HBL.out.cell HB.out]; assumption)))
    ((go_at_call 135; ((refine (bitsOf_any _ _ _ q1 q2 (by omega)).mono ?_); rintro e w1 ⟨s, rfl, hs, hb⟩; have HBL := Lib.hid hb; have HS := Lib.hid hs; clear hb hs)))
  go_wp2
  go_ret
  exact ⟨_, rfl, HS.out, (Below.refl _ _).drew.trans HBL.out⟩

theorem inputBits_any (b : Nat) (inp x : Int) (vn vg vo : Value) (w : World) (h : CirAt w b inp vn vg vo) (n : Nat) (hn : inp = n) (hn4 : n ≤ 4) (h0 : 0 ≤ x) (h1 : x ≤ 1000000) :
    Calls Try.prog 115 #[.pointer (some ⟨b, 0, none⟩), .int .i64 x] w fun e w' => ∃ s, e = .returned (.slice s n n) ∧ Sl w' s (bools (bitsV x n)) ∧ Below w.heap.size w w' := by
  subst hn
  obtain ⟨c0, c1, c2, c3⟩ := h
  go_enter Try.func115, Try.ntmps115
  go_wp2_with (go_at_call 135; ((refine (bitsOf_any _ _ _ h0 h1 (by omega)).mono ?_); rintro e w1 ⟨s, rfl, hs, hb⟩; have HBL := Lib.hid hb; have HS := Lib.hid hs; clear hb hs))
  go_ret
  exact ⟨_, rfl, HS.out, HBL.out⟩

theorem wrap_pow {m : Nat} (h : m ≤ 8) : wrap64 (2 ^ m) = 2 ^ m := by
  have : ∀ m : Fin 9, wrap64 (2 ^ m.val) = 2 ^ m.val := by decide +kernel
  exact this ⟨m, by omega⟩

theorem assignments_any (b : Nat) (inp : Int) (sn : Option Addr) (nn cn : Nat) (vg vo : Value) (w : World) (h : CirAt w b inp (.slice sn nn cn) vg vo) (hi : 0 ≤ inp ∧ inp ≤ 4) (hn : nn ≤ 3) :
    Calls Try.prog 91 #[.pointer (some ⟨b, 0, none⟩)] w fun e w' => e = .returned (.int .i64 ((2 ^ (inp.toNat + nn) : Nat) : Int)) ∧ Drew w w' := by
  obtain ⟨c0, c1, c2, c3⟩ := h
  obtain ⟨hi, hi'⟩ := hi
  go_enter Try.func91, Try.ntmps91
  go_wp2
  go_quiet (fail)
  go_wp2
  go_ret
  refine ⟨ret_int ?_, _, rfl⟩
  rw [show (inp + (nn : Int)).toNat = inp.toNat + nn from by omega, wrap_pow (by omega)]
  simp

theorem mkBools0 (w : World) (n : Nat) (h : n ≤ 1048576) : (Instr.makeSlice 78 (.int .i64 0) (.int .i64 (n : Int))).run Try.prog w = .ok (.slice (some ⟨w.heap.size, 0, none⟩) 0 n) (w.alloc (.cells (bools (List.replicate n false)).toArray 4)) := by
  obtain ⟨i, hi, h1, h2, h3⟩ := info_parts (P := Try.prog) (e := 4) (z := .bool false) (size := 1) (bytes := 1) (by kernel_rfl)
  have := run_make (P := Try.prog) w 78 4 i (.bool false) (by kernel_rfl) hi h1 .i64 .i64 0 n (by omega) (by omega) (by rw [h3]; omega) (by omega)
  rw [this, h2]
  have e : madeCells #[Value.bool false] n = (bools (List.replicate n false)).toArray := by
    apply Array.ext'
    rw [toList_madeCells_one]; simp [bools]
  simp [Value.cells, e]

set_option maxHeartbeats 400000 in
theorem litValues_any (s t : Option Addr) (vs : List Bool) (cap capl : Nat) (xs : List Int) (w : World) (h : Sl w s (bools vs)) (ht : Sl w t (ints xs)) (hx : ∀ x ∈ xs, 0 ≤ x ∧ x ≤ 1000000 ∧ x / 2 < vs.length) (hl : xs.length ≤ 1000) :
    Calls Try.prog 136 #[.slice s vs.length cap, .slice t xs.length capl] w fun e w' => ∃ s c, e = .returned (.slice s xs.length c) ∧ Sl w' s (bools (xs.map (litB vs))) ∧ Below w.heap.size w w' := by
  have H := Lib.hid (And.intro h (And.intro ht hx))
  clear h ht hx
  have hmk := fun w => mkBools0 w xs.length (by omega)
  have hA : Below w.heap.size w (w.alloc (.cells (bools (List.replicate xs.length false)).toArray 4)) := (Below.refl _ _).alloc (Nat.le_refl _) _
  have ho : (w.alloc (.cells (bools (List.replicate xs.length false)).toArray 4)).ownsRow w.heap.size 4 1 (.slice (some ⟨w.heap.size, 0, none⟩) 0 xs.length) 0 [] := by
    have := World.ownsRow_made (base := w.heap.size) (e := 4) (size := 1) w (bools (List.replicate xs.length false)).toArray xs.length (Nat.le_refl _) (by unfold maxLen; omega) (by simp)
    simpa using this
  have HO := Lib.hid (And.intro ho hA)
  clear ho hA
  go_enter Try.func136, Try.ntmps136
  go_wp2
  clear hmk
  revert HO
  generalize w.alloc (.cells (bools (List.replicate xs.length false)).toArray 4) = WA
  intro HO
  go_loopw [13, 5] (fun i v wr => ∃ (k : Nat) (s : Option Addr) (c : Nat), k ≤ xs.length ∧ i = .int .i64 k ∧ v = .slice s k c ∧ wr.ownsRow w.heap.size 4 1 v k (bools ((xs.take k).map (litB vs))) ∧ Below w.heap.size w wr) (fun i _ _ => xs.length - (intOf i).toNat)
  case atStart => exact ⟨0, _, _, Nat.zero_le _, rfl, rfl, by simpa [bools] using HO.out.1, HO.out.2⟩
  case round =>
    obtain ⟨k, so, c, hk, rfl, rfl, ho, hbl⟩ := hrel
    by_cases hlt : k < xs.length
    · obtain ⟨x, hx⟩ := get_of_lt hlt
      obtain ⟨b, off, rfl, hbw, hz⟩ := H.out.2.1.int hbl hx
      obtain ⟨x0, x1, x2⟩ := H.out.2.2 x (List.mem_of_getElem? hx)
      have hbs := hbl.size
      have HR := Lib.hid (And.intro ho (And.intro hbl hx))
      clear ho hbl hx
      go_wp2_with (first
        | (go_at_call 134; ((refine (litValue_any _ _ _ _ _ (H.out.1.mono HR.out.2.1) x0 x1 x2).mono ?_); rintro e w' ⟨rfl, rfl⟩))
        | (at_builtin; refine wpl_app rfl _ _ rfl elem_bool (own_below HR.out.1 ((Below.refl _ _).alloc (Nat.le_refl _) _)) rfl rfl rfl (Sl.new _ _ _) (by simp [Value.oneCell']) (k + 1) rfl _ rfl (by unfold maxLen; omega) (by omega) (by simp; omega) ?_; intro s3 c3 w3 h3 hb3 _ _; have HA := Lib.hid (And.intro h3 hb3); clear h3 hb3))
      obtain ⟨ho, hbl, hx⟩ := HR.out
      go_roundw
      case rel =>
        refine ⟨k + 1, s3, c3, by omega, by go_num, rfl, ?_, (hbl.alloc hbs _).trans HA.out.2⟩
        have := HA.out.1
        rw [List.take_add_one, hx]
        simpa [bools] using this
      case measure => simp [intOf]; omega
    · obtain rfl : k = xs.length := by omega
      rw [List.take_length] at ho
      have HR := Lib.hid (And.intro ho hbl)
      clear ho hbl
      go_wp2
      go_ret
      exact ⟨_, _, rfl, own_sl HR.out.1, HR.out.2⟩

end Go.Proofs.Ytindndcdpnpcmaa
