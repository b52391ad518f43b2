import Derived.Test.YtjggcojbgkpooaaV3
import Derived.Test.YtjggcojbgkpooaaV5
namespace Go.Proofs.Ytjggcojbgkpooaa
set_option linter.unusedVariables false
set_option linter.unusedSimpArgs false
open Go.RowKit

/-! Outputs and next states under a fault: the program's walks. -/

theorem roots_lits {c : Cir} (hv : c.valid) : ∀ x ∈ c.next ++ c.outs, 0 ≤ x ∧ x ≤ 1000000 ∧ x / 2 < c.vars := by
  intro x hx
  have := (List.mem_append.1 hx).elim (hv.next x) (hv.outs x)
  have h2 := valid_first hv
  unfold litP at this; omega

set_option maxHeartbeats 800000 in
theorem results_any (b : Nat) (sn sg so : Option Addr) (cn cg co : Nat) (c : Cir) (k : Nat) (st : Int) (val : Bool) (w : World)
    (h : CirAt w b c.inp (.slice sn c.next.length cn) (.slice sg c.gates.length cg) (.slice so c.outs.length co)) (hn : Sl w sn (ints c.next)) (hg : Sl w sg (gcells c.gates)) (ho : Sl w so (ints c.outs)) (hv : c.valid)
    (hk : k ≤ 1000) (hst : -1 ≤ st) (hst2 : st < c.vars) :
    Calls Try.prog 94 #[.pointer (some ⟨b, 0, none⟩), .int .i64 k, .int .i64 st, .bool val] w fun e w' => ∃ s cap, e = .returned (.slice s (c.next.length + c.outs.length) cap) ∧ Sl w' s (bools (resV c k st val)) ∧ Below w.heap.size w w' := by
  have HB : Hid (b < w.heap.size) := World.block_lt_of_cell? w _ h.h0
  obtain ⟨f1, f2, f3, f4⟩ := valid_first hv
  obtain ⟨q1, q2, q3, q4, q5⟩ := id hv.lim
  obtain ⟨V, hV⟩ : ∃ V : Nat, c.vars = V := ⟨c.vars.toNat, by omega⟩
  obtain ⟨ni, hni⟩ : ∃ ni : Nat, c.inp = ni := ⟨c.inp.toNat, by omega⟩
  have n4 : ni ≤ 4 := by omega
  rw [hV] at hst2
  have hkpw : (1 : Int) ≤ 2 ^ ni := by have : (0 : Int) < 2 ^ ni := Int.pow_pos (by decide); omega
  have H := Lib.hid (And.intro h (And.intro hn (And.intro hg (And.intro ho (And.intro hv (And.intro hV hni))))))
  have HM : Hid (∀ W, Below w.heap.size w W → CirAt W b c.inp (.slice sn c.next.length cn) (.slice sg c.gates.length cg) (.slice so c.outs.length co)) := fun W hb => ⟨(hb.cell (p := ⟨b, 0, none⟩) HB.out).trans H.out.1.h0, (hb.cell (p := ⟨b, 1, none⟩) HB.out).trans H.out.1.h1, (hb.cell (p := ⟨b, 2, none⟩) HB.out).trans H.out.1.h2, (hb.cell (p := ⟨b, 3, none⟩) HB.out).trans H.out.1.h3⟩
  have hlV : (evalV c k st val).length = V := by
    have h1 := hV; unfold Cir.vars at h1
    rw [evalV_length]; omega
  have hle : valsV st val (stuckB st val (false :: (bitsV k ni ++ bitsV ((k : Int) / 2 ^ c.inp.toNat) c.next.length))) c.gates = evalV c k st val := by
    unfold evalV asgV; rw [hni]; simp
  have HL := Lib.hid (And.intro hlV hle)
  clear h hn hg ho hv hV hni hkpw hlV hle f1 f2 f3 f4
  go_enter Try.func94, Try.ntmps94
  go_wp2_with (first
    | (go_at_call 88; ((refine (latchBits_any _ _ _ _ _ _ _ _ _ H.out.1 ⟨by omega, by omega⟩ (by omega) (by omega) (by omega)).mono ?_); rintro e wa ⟨sa, rfl, ha, hqa⟩; have HA := Lib.hid (And.intro hqa ha); clear ha hqa))
    | (go_at_call 89; ((refine (inputBits_any _ _ _ _ _ _ _ (HM.out _ HA.out.1) ni H.out.2.2.2.2.2.2 (by omega) (by omega) (by omega)).mono ?_); rintro e wb ⟨sb, rfl, hb, hqb⟩; have HB2 := Lib.hid (And.intro (HA.out.1.trans (hqb.mono HA.out.1.size)) (And.intro hb (HA.out.2.mono hqb))); clear hb hqb))
    | (go_at_call 87; ((refine (evaluate_any _ _ _ _ _ _ c sa sb _ _ (bitsV ((k : Int) / 2 ^ c.inp.toNat) c.next.length) (bitsV k ni) st val _ (HM.out _ HB2.out.1) (H.out.2.2.1.mono HB2.out.1) H.out.2.2.2.2.1 HB2.out.2.2 HB2.out.2.1 (bitsV_length _ _) ni (bitsV_length _ _) H.out.2.2.2.2.2.2 V H.out.2.2.2.2.2.1 hst hst2).mono ?_); rintro e we ⟨gv, rfl, hgv, hqe⟩; rw [HL.out.2] at hgv; have HE := Lib.hid (And.intro (HB2.out.1.trans (hqe.mono HB2.out.1.size)) (Sl.toB hgv)); clear hgv hqe))
    | (go_at_call 84; ((refine (roots_any _ _ _ _ _ _ _ _ _ _ (HM.out _ HE.out.1) (H.out.2.1.mono HE.out.1) (H.out.2.2.2.1.mono HE.out.1) (by omega) (by omega)).mono ?_); rintro e wf ⟨sf, cf, rfl, hof, hqf⟩; rw [ints_append] at hof; have HF := Lib.hid (And.intro (HE.out.1.trans (hqf.mono HE.out.1.size)) (And.intro (HE.out.2.mono hqf) (own_sl hof))); clear hof hqf)))
  have hlv := litValues_any (some ⟨gv, 0, none⟩) sf (evalV c k st val) V cf (c.next ++ c.outs) wf HF.out.2.1 HF.out.2.2 (fun x hx => by have := roots_lits H.out.2.2.2.2.1 x hx; rw [HL.out.1]; rw [H.out.2.2.2.2.2.1] at this; exact this) (by simp; omega)
  rw [HL.out.1, List.length_append] at hlv
  refine hlv.mono ?_
  rintro e wz ⟨sz, cz, rfl, hz, hq⟩
  have HZ := Lib.hid (And.intro hz (HF.out.1.trans (hq.mono HF.out.1.size)))
  clear hz hq hlv
  go_wp2_with fail
  go_ret
  exact ⟨sz, cz, rfl, HZ.out.1, HZ.out.2⟩

end Go.Proofs.Ytjggcojbgkpooaa
