import Derived.Test.YtnmafbggpjglaaaS6
import Derived.Test.YtnmafbggpjglaaaY2
namespace Go.Proofs.Ytnmafbggpjglaaa
set_option linter.unusedVariables false
set_option linter.unusedSimpArgs false
open Go.RowKit

/-! A number in a list; the number of a state; a circuit drawn out of bytes. -/

set_option maxHeartbeats 400000 in
theorem contains_any (s : Option Addr) (cap : Nat) (xs : List Int) (n : Int) (w : World) (h : Sl w s (ints xs)) (hl : xs.length ≤ 1000) :
    Calls Try.prog 21 #[.slice s xs.length cap, .int .i64 n] w fun e w' => e = .returned (.bool (decide (n ∈ xs))) ∧ w = w' := by
  have H := Lib.hid h
  clear h
  go_enter Try.func21, Try.ntmps21
  go_wp2
  go_loopw [5] (fun i wr => ∃ k : Nat, k ≤ xs.length ∧ i = .int .i64 k ∧ (∀ x ∈ xs.take k, x ≠ n) ∧ w = wr) (fun i _ => xs.length - (intOf i).toNat)
  case atStart => exact ⟨0, Nat.zero_le _, rfl, by simp, rfl⟩
  case round =>
    obtain ⟨k, hk, rfl, hne, rfl⟩ := hrel
    by_cases hlt : k < xs.length
    · obtain ⟨x, hx⟩ := get_of_lt hlt
      obtain ⟨b, off, rfl, hbw, hz⟩ := H.out.int (Below.refl _ _) hx
      have HX := Lib.hid (And.intro hx hne)
      clear hx hne hbw
      by_cases hxn : x = n
      · subst hxn
        go_wp2
        go_ret
        exact ⟨ret_bool (by simp; exact List.mem_of_getElem? HX.out.1), rfl⟩
      · have e1 : (x == n) = false := beq_eq_false_iff_ne.2 hxn
        go_wp2
        go_roundw
        case rel => exact ⟨k + 1, by omega, by go_num, fun y hy => by
          rw [List.take_add_one, HX.out.1] at hy
          rcases List.mem_append.1 hy with h | h
          · exact HX.out.2 y h
          · simp at h; rw [h]; exact hxn, trivial⟩
        case measure => first | (simp [intOf]; done) | (simp [intOf]; omega)
    · obtain rfl : k = xs.length := by omega
      rw [List.take_length] at hne
      have HX := Lib.hid hne
      clear hne
      go_wp2
      go_ret
      exact ⟨ret_bool (by simp; exact fun h => HX.out _ h rfl), rfl⟩

theorem wrap_small {z : Int} (h0 : 0 ≤ z) (h1 : z ≤ 1000) : wrap64 z = z := IntWalk.wrap64_in _ ⟨by omega, by omega⟩

set_option maxHeartbeats 800000 in
theorem stateNumber_any (s : Option Addr) (cap : Nat) (bs : List Bool) (w : World) (h : Sl w s (bools bs)) (hl : bs.length ≤ 4) :
    Calls Try.prog 18 #[.slice s bs.length cap] w fun e w' => e = .returned (.int .i64 (numB bs)) ∧ w = w' := by
  have H := Lib.hid h
  clear h
  go_enter Try.func18, Try.ntmps18
  go_wp2
  go_loopw [3, 4] (fun x i wr => ∃ k : Nat, k ≤ bs.length ∧ i = .int .i64 k ∧ x = .int .i64 (numB (bs.take k)) ∧ w = wr) (fun _ i _ => bs.length - (intOf i).toNat)
  case atStart => exact ⟨0, Nat.zero_le _, rfl, rfl, rfl⟩
  case round =>
    obtain ⟨k, hk, rfl, rfl, rfl⟩ := hrel
    by_cases hlt : k < bs.length
    · obtain ⟨b, hb⟩ := get_of_lt hlt
      obtain ⟨sb, off, rfl, hbw, hz⟩ := H.out.bool (Below.refl _ _) hb
      have hlk : (bs.take k).length = k := by simp; omega
      have hbd := numB_bd (bs.take k)
      rw [hlk] at hbd
      have hsn := numB_snoc (bs.take k) b
      rw [hlk] at hsn
      have htk : bs.take (k + 1) = bs.take k ++ [b] := by rw [List.take_add_one, hb]; rfl
      rw [← htk] at hsn
      obtain ⟨n, hn⟩ : ∃ n : Nat, numB (bs.take k) = n := ⟨(numB (bs.take k)).toNat, by omega⟩
      rw [hn] at hsn hbd ⊢
      have hp16 : (2 : Int) ^ k ≤ 16 := by
        have := Nat.pow_le_pow_right (show 0 < 2 by omega) (show k ≤ 4 by omega)
        exact_mod_cast this
      have hp0 : (0 : Int) ≤ 2 ^ k := Int.le_of_lt (Int.pow_pos (by decide))
      have n16 : n ≤ 16 := by have := hbd.2; omega
      have hwp : wrap64 (2 ^ k) = 2 ^ k := wrap_pow (by omega)
      have hw2 : wrap64 ((n : Int) + 2 ^ k) = (n : Int) + 2 ^ k := wrap_small (Int.add_nonneg (Int.natCast_nonneg n) hp0) (Int.le_trans (Int.add_le_add (Int.ofNat_le.2 n16) hp16) (by decide))
      have HR := Lib.hid (And.intro hsn hb)
      clear hsn hb hbd hlk htk hn hbw
      cases b
      · go_wp2
        go_roundw
        case rel => exact ⟨k + 1, by omega, by go_num, by rw [HR.out.1]; simp⟩
        case measure => first | (simp [intOf]; done) | (simp [intOf]; omega)
      · go_wp2
        go_roundw
        case rel => exact ⟨k + 1, by omega, by go_num, by rw [HR.out.1]; simp⟩
        case measure => first | (simp [intOf]; done) | (simp [intOf]; omega)
    · obtain rfl : k = bs.length := by omega
      rw [List.take_length]
      go_wp2
      go_ret
      exact ⟨rfl, rfl⟩

/-- A circuit that was drawn. -/
def DrawnC (w : World) (e : Ending) (w' : World) : Prop :=
  ∃ (C : Cir) (vn vg vo : Value), e = .returned (.agg #[.int .i64 C.inp, vn, vg, vo]) ∧ CirOwn w' w.heap.size C vn vg vo ∧ (-10 ≤ C.inp ∧ C.inp ≤ 10 ∧ C.next.length ≤ 8 ∧ C.gates.length ≤ 40 ∧ C.outs.length ≤ 16) ∧ Below w.heap.size w w'

set_option maxHeartbeats 800000 in
theorem DrawReachable_any (s : Option Addr) (cap : Nat) (xs : List Int) (w : World) (hs : Sl w s (u8s xs)) (hl : xs.length ≤ 1048576) (hcap : xs.length ≤ cap) (hcap2 : cap ≤ 9223372036854775807) (hr : ∀ x ∈ xs, 0 ≤ x ∧ x ≤ 255) :
    Calls Try.prog 13 #[.slice s xs.length cap] w (DrawnC w) := by
  obtain ⟨W0, hW0⟩ : ∃ W0, W0 = w.alloc (.cells #[.int .i64 0, .slice none 0 0, .slice none 0 0, .slice none 0 0] 26) := ⟨_, rfl⟩
  have hz : W0.heap.size = w.heap.size + 1 := by rw [hW0]; simp
  have hb0 : Below w.heap.size w W0 := by rw [hW0]; exact below_alloc _ _
  have hk0 : W0.heap[w.heap.size]? = some (.cells #[.int .i64 0, .slice none 0 0, .slice none 0 0, .slice none 0 0] 26 (0, 0)) := by rw [hW0]; exact blk_new _ _
  have HH := Lib.hid (l20Open_any s cap xs W0 (hs.mono hb0) hl hcap hcap2 hr)
  have HW := Lib.hid (And.intro hW0 (And.intro hz (And.intro hb0 hk0)))
  clear hs hr hW0 hz hb0 hk0
  go_enter Try.func13, Try.ntmps13
  go_upto_region 1 with fail
  rw [← HW.out.1]
  go_wp2_with (first
    | (go_at_call 48; (with_reducible refine HH.out.mono ?_); rintro e w1 ⟨c, rfl, h1, h2, h3⟩; have H1 := Lib.hid (And.intro h1 (And.intro h2 h3)); clear h1 h2 h3)
    | (go_at_call 52; (with_reducible refine (l20Circuit_any _ _ _ _ _ _ _ H1.out.1 (by omega) (by omega) (by omega)).mono ?_); rintro e w2 ⟨C, vn, vg, vo, p', rfl, h1, h2, h3, h4, h6⟩; obtain ⟨sn, cn, rfl⟩ := own_shape h1.n; obtain ⟨sg, cg, rfl⟩ := own_shape h1.g; obtain ⟨so, co, rfl⟩ := own_shape h1.o; have h0 : w2.heap[w.heap.size]? = some (.cells #[.int .i64 0, .slice none 0 0, .slice none 0 0, .slice none 0 0] 26 (0, 0)) := (by have e1 := HW.out.2.1; have e2 := H1.out.2.2; rw [h6.block _ (by omega) (by omega)]; exact blk_below H1.out.2.1 (by omega) HW.out.2.2.2); obtain ⟨rc, rf⟩ := blk_all h0; have H2 := Lib.hid (And.intro h0 (And.intro h1 (And.intro h2 h6))); clear h0 h1 h2 h3 h4 h6))
  have hbl : Below w.heap.size w w2 := by
    have e1 := HW.out.2.1; have e2 := H1.out.2.2
    exact (HW.out.2.2.1.trans (H1.out.2.1.mono (by omega))).trans (H2.out.2.2.2.below (by omega) (by omega))
  have e1 := HW.out.2.1
  have e2 := H1.out.2.2
  have hZ : ((((w2.setCell ⟨w.heap.size, 0, none⟩ (.int .i64 C.inp)).setCell ⟨w.heap.size, 1, none⟩ (.slice sn C.next.length cn)).setCell ⟨w.heap.size, 2, none⟩ (.slice sg C.gates.length cg)).setCell ⟨w.heap.size, 3, none⟩ (.slice so C.outs.length co)).heap[w.heap.size]? = some (.cells #[.int .i64 C.inp, .slice sn C.next.length cn, .slice sg C.gates.length cg, .slice so C.outs.length co] 26 (0, 0)) := by
    simpa using blk_set (o := 3) (v := .slice so C.outs.length co) (blk_set (o := 2) (v := .slice sg C.gates.length cg) (blk_set (o := 1) (v := .slice sn C.next.length cn) (blk_set (o := 0) (v := .int .i64 C.inp) H2.out.1)))
  have hR := (H2.out.2.1).sets4 (r := w.heap.size) (by omega) (base := w.heap.size) (by omega) (a := .int .i64 C.inp) (b' := .slice sn C.next.length cn) (c' := .slice sg C.gates.length cg) (d := .slice so C.outs.length co)
  have hB := ((((hbl).setCell (p := ⟨w.heap.size, 0, none⟩) (by simp) (.int .i64 C.inp)).setCell (p := ⟨w.heap.size, 1, none⟩) (by simp) (.slice sn C.next.length cn)).setCell (p := ⟨w.heap.size, 2, none⟩) (by simp) (.slice sg C.gates.length cg)).setCell (p := ⟨w.heap.size, 3, none⟩) (by simp) (.slice so C.outs.length co)
  clear rc rf
  revert hZ hR hB
  generalize ((((w2.setCell ⟨w.heap.size, 0, none⟩ (.int .i64 C.inp)).setCell ⟨w.heap.size, 1, none⟩ (.slice sn C.next.length cn)).setCell ⟨w.heap.size, 2, none⟩ (.slice sg C.gates.length cg)).setCell ⟨w.heap.size, 3, none⟩ (.slice so C.outs.length co)) = WZ
  intro hZ hR hB
  have cr := (blk_all hZ).1
  exact bodyPost_ret (v := .agg #[.int .i64 C.inp, .slice sn C.next.length cn, .slice sg C.gates.length cg, .slice so C.outs.length co]) (by simp [results, Try.results13, go_sem, cr]) rfl ⟨C, _, _, _, rfl, hR, H2.out.2.2.1, hB⟩

end Go.Proofs.Ytnmafbggpjglaaa
