import Derived.Test.YtaboipnigeaopaaV3
import Derived.Test.YtaboipnigeaopaaV6
import Derived.Test.YtaboipnigeaopaaL4
namespace Go.Proofs.Ytaboipnigeaopaa
set_option linter.unusedVariables false
set_option linter.unusedSimpArgs false
open Go.RowKit

/-! Outputs and next states under a fault: the program's walks. -/

theorem roots_lits {c : Cir} (hv : c.valid) : ∀ x ∈ c.next ++ c.outs, 0 ≤ x ∧ x ≤ 1000000 ∧ x / 2 < c.vars := by
  intro x hx
  have := (List.mem_append.1 hx).elim (hv.next x) (hv.outs x)
  have h2 := valid_first hv
  unfold litP at this; omega

set_option maxHeartbeats 800000 in
theorem results_any (b : Nat) (sn sg so : Option Addr) (cn cg co : Nat) (c : Cir) (k : Nat) (st : Int) (val : Bool) (w : World)
    (h : CirAt w b c.inp (.slice sn c.next.length cn) (.slice sg c.gates.length cg) (.slice so c.outs.length co)) (hn : Sl w sn (ints c.next)) (hg : Sl w sg (gcells c.gates)) (ho : Sl w so (ints c.outs)) (hv : c.valid)
    (hk : k ≤ 1000) (hst : -1 ≤ st) (hst2 : st < c.vars) :
    Calls Try.prog 81 #[.pointer (some ⟨b, 0, none⟩), .int .i64 k, .int .i64 st, .bool val] w fun e w' => ∃ s cap, e = .returned (.slice s (c.next.length + c.outs.length) cap) ∧ Sl w' s (bools (resV c k st val)) ∧ Below w.heap.size w w' := by
  have HB : Hid (b < w.heap.size) := World.block_lt_of_cell? w _ h.h0
  obtain ⟨f1, f2, f3, f4⟩ := valid_first hv
  obtain ⟨q1, q2, q3, q4, q5⟩ := id hv.lim
  obtain ⟨V, hV⟩ : ∃ V : Nat, c.vars = V := ⟨c.vars.toNat, by omega⟩
  obtain ⟨ni, hni⟩ : ∃ ni : Nat, c.inp = ni := ⟨c.inp.toNat, by omega⟩
  have n4 : ni ≤ 4 := by omega
  rw [hV] at hst2
  have hkpw : (1 : Int) ≤ 2 ^ ni := by have : (0 : Int) < 2 ^ ni := Int.pow_pos (by decide); omega
  have H := Lib.hid (And.intro h (And.intro hn (And.intro hg (And.intro ho (And.intro hv (And.intro hV hni))))))
  have HM : Hid (∀ W, Below w.heap.size w W → CirAt W b c.inp (.slice sn c.next.length cn) (.slice sg c.gates.length cg) (.slice so c.outs.length co)) := fun W hb => ⟨(hb.cell (p := ⟨b, 0, none⟩) HB.out).trans H.out.1.h0, (hb.cell (p := ⟨b, 1, none⟩) HB.out).trans H.out.1.h1, (hb.cell (p := ⟨b, 2, none⟩) HB.out).trans H.out.1.h2, (hb.cell (p := ⟨b, 3, none⟩) HB.out).trans H.out.1.h3⟩
  have hlV : (evalV c k st val).length = V := by
    have h1 := hV; unfold Cir.vars at h1
    rw [evalV_length]; omega
  have hle : valsV st val (stuckB st val (false :: (bitsV k ni ++ bitsV ((k : Int) / 2 ^ c.inp.toNat) c.next.length))) c.gates = evalV c k st val := by
    unfold evalV asgV; rw [hni]; simp
  have HL := Lib.hid (And.intro hlV hle)
  clear h hn hg ho hv hV hni hkpw hlV hle f1 f2 f3 f4
  go_enter Try.func81, Try.ntmps81
  go_wp2_with (first
    | (go_at_call 82; ((refine (latchBits_any _ _ _ _ _ _ _ _ _ H.out.1 ⟨by omega, by omega⟩ (by omega) (by omega) (by omega)).mono ?_); rintro e wa ⟨sa, rfl, ha, hqa⟩; have HA := Lib.hid (And.intro hqa ha); clear ha hqa))
    | (go_at_call 83; ((refine (inputBits_any _ _ _ _ _ _ _ (HM.out _ HA.out.1) ni H.out.2.2.2.2.2.2 (by omega) (by omega) (by omega)).mono ?_); rintro e wb ⟨sb, rfl, hb, hqb⟩; have HB2 := Lib.hid (And.intro (HA.out.1.trans (hqb.mono HA.out.1.size)) (And.intro hb (HA.out.2.mono hqb))); clear hb hqb))
    | (go_at_call 76; ((refine (evaluate_any _ _ _ _ _ _ c sa sb _ _ (bitsV ((k : Int) / 2 ^ c.inp.toNat) c.next.length) (bitsV k ni) st val _ (HM.out _ HB2.out.1) (H.out.2.2.1.mono HB2.out.1) H.out.2.2.2.2.1 HB2.out.2.2 HB2.out.2.1 (bitsV_length _ _) ni (bitsV_length _ _) H.out.2.2.2.2.2.2 V H.out.2.2.2.2.2.1 hst hst2).mono ?_); rintro e we ⟨gv, rfl, hgv, hqe⟩; rw [HL.out.2] at hgv; have HE := Lib.hid (And.intro (HB2.out.1.trans (hqe.mono HB2.out.1.size)) (Sl.toB hgv)); clear hgv hqe))
    | (go_at_call 38; ((refine (roots_any _ _ _ _ _ _ _ _ _ _ (HM.out _ HE.out.1) (H.out.2.1.mono HE.out.1) (H.out.2.2.2.1.mono HE.out.1) (by omega) (by omega)).mono ?_); rintro e wf ⟨sf, cf, rfl, hof, hqf⟩; rw [ints_append] at hof; have HF := Lib.hid (And.intro (HE.out.1.trans (hqf.mono HE.out.1.size)) (And.intro (HE.out.2.mono hqf) (own_sl hof))); clear hof hqf)))
  have hlv := litValues_any (some ⟨gv, 0, none⟩) sf (evalV c k st val) V cf (c.next ++ c.outs) wf HF.out.2.1 HF.out.2.2 (fun x hx => by have := roots_lits H.out.2.2.2.2.1 x hx; rw [HL.out.1]; rw [H.out.2.2.2.2.2.1] at this; exact this) (by simp; omega)
  rw [HL.out.1, List.length_append] at hlv
  refine hlv.mono ?_
  rintro e wz ⟨sz, cz, rfl, hz, hq⟩
  have HZ := Lib.hid (And.intro hz (HF.out.1.trans (hq.mono HF.out.1.size)))
  clear hz hq hlv
  go_wp2_with fail
  go_ret
  exact ⟨sz, cz, rfl, HZ.out.1, HZ.out.2⟩

set_option maxHeartbeats 400000 in
theorem eqBools_any (s t : Option Addr) (xs ys : List Bool) (n cap cap2 : Nat) (w : World) (hs : Sl w s (bools xs)) (ht : Sl w t (bools ys)) (hl : xs.length = n) (hl2 : ys.length = n) (hn : n ≤ 1000) :
    Calls Try.prog 80 #[.slice s n cap, .slice t n cap2] w fun e w' => e = .returned (.bool (decide (xs = ys))) ∧ Drew w w' := by
  have HS := Lib.hid (And.intro hs (And.intro ht (And.intro hl hl2)))
  clear hs ht hl hl2
  go_enter Try.func80, Try.ntmps80
  go_wp2
  go_loopw [13] (fun i wr => ∃ k : Nat, k ≤ n ∧ i = .int .i64 k ∧ xs.take k = ys.take k ∧ Drew w wr) (fun i _ => n - (intOf i).toNat)
  case atStart => exact ⟨0, Nat.zero_le _, rfl, rfl, Drew.refl _⟩
  case round =>
    obtain ⟨k, hk, rfl, htk, hd⟩ := hrel
    have HT : Hid (xs.take k = ys.take k) := htk
    have HD := Lib.hid hd
    clear htk hd
    by_cases hlt : k < n
    · obtain ⟨x, hx⟩ := get_of_lt (l := xs) (k := k) (by have := HS.out.2.2.1; omega)
      obtain ⟨y, hy⟩ := get_of_lt (l := ys) (k := k) (by have := HS.out.2.2.2; omega)
      obtain ⟨b, off, rfl, hbw, hz⟩ := HS.out.1.bool (HD.out.below _) hx
      obtain ⟨b2, off2, rfl, hbw2, hz2⟩ := HS.out.2.1.bool (HD.out.below _) hy
      have HR := Lib.hid (And.intro hx hy)
      clear hx hy
      cases x <;> cases y
      all_goals
        go_wp2
        go_quiet (fail)
        go_wp2
        obtain ⟨hx, hy⟩ := HR.out
        first
          | (go_roundw
             case rel => exact ⟨k + 1, by omega, by go_num, by rw [List.take_add_one, List.take_add_one, HT.out, hx, hy], HD.out.n _⟩
             case measure => simp [intOf]; omega)
          | (go_ret
             refine ⟨ret_bool ?_, HD.out.n _⟩
             symm; rw [decide_eq_false_iff_not]; intro e; subst e; rw [hx] at hy; simp at hy)
    · obtain rfl : k = n := by omega
      have he : decide (xs = ys) = true := by
        have h1 := HT.out
        rw [List.take_of_length_le (by have := HS.out.2.2.1; omega), List.take_of_length_le (by have := HS.out.2.2.2; omega)] at h1
        simpa using h1
      have HE := Lib.hid he
      clear he
      go_wp2
      go_ret
      exact ⟨ret_bool HE.out.symm, HD.out⟩

end Go.Proofs.Ytaboipnigeaopaa
