import Derived.Test.YtaboipnigeaopaaW1
import Derived.Test.YtaboipnigeaopaaM1
namespace Go.Proofs.Ytaboipnigeaopaa
set_option linter.unusedVariables false
set_option linter.unusedSimpArgs false
open Go.RowKit

/-! One cycle: next state and outputs as numbers. -/

def cycV (c : Cir) (s i : Int) : List Bool := valsV (-1) false (false :: (bitsV i c.inp.toNat ++ bitsV s c.next.length)) c.gates
theorem cycV_length (c : Cir) (s i : Int) : (cycV c s i).length = 1 + c.inp.toNat + c.next.length + c.gates.length := by
  unfold cycV; rw [valsV_length]; simp [bitsV_length]; omega
def nextN (c : Cir) (s i : Int) : Int := numB (c.next.map (litB (cycV c s i)))
def outN (c : Cir) (s i : Int) : Int := numB (c.outs.map (litB (cycV c s i)))
theorem nextN_bd (c : Cir) (s i : Int) : 0 ≤ nextN c s i ∧ nextN c s i < 2 ^ c.next.length := by
  have := numB_bd (c.next.map (litB (cycV c s i)))
  simpa [nextN] using this
theorem outN_bd (c : Cir) (s i : Int) : 0 ≤ outN c s i ∧ outN c s i < 2 ^ c.outs.length := by
  have := numB_bd (c.outs.map (litB (cycV c s i)))
  simpa [outN] using this

set_option maxHeartbeats 1600000 in
theorem cycle_any (b : Nat) (sn sg so : Option Addr) (cn cg co : Nat) (c : Cir) (s i : Int) (w : World)
    (h : CirAt w b c.inp (.slice sn c.next.length cn) (.slice sg c.gates.length cg) (.slice so c.outs.length co)) (hn : Sl w sn (ints c.next)) (hg : Sl w sg (gcells c.gates)) (ho : Sl w so (ints c.outs)) (hv : c.valid)
    (hs : 0 ≤ s) (hs2 : s ≤ 1000) (hi : 0 ≤ i) (hi2 : i ≤ 1000) :
    Calls Try.prog 68 #[.pointer (some ⟨b, 0, none⟩), .int .i64 s, .int .i64 i] w fun e w' => e = .returned (.tuple #[.int .i64 (nextN c s i), .int .i64 (outN c s i)]) ∧ Below w.heap.size w w' := by
  have HB : Hid (b < w.heap.size) := World.block_lt_of_cell? w _ h.h0
  obtain ⟨f1, f2, f3, f4⟩ := valid_first hv
  obtain ⟨q1, q2, q3, q4, q5⟩ := id hv.lim
  obtain ⟨V, hV⟩ : ∃ V : Nat, c.vars = V := ⟨c.vars.toNat, by omega⟩
  obtain ⟨ni, hni⟩ : ∃ ni : Nat, c.inp = ni := ⟨c.inp.toNat, by omega⟩
  have n4 : ni ≤ 4 := by omega
  have v1 : 1 ≤ V := by omega
  have hlV : (cycV c s i).length = V := by
    have h1 := hV; unfold Cir.vars at h1
    rw [cycV_length]; omega
  have hle : valsV (-1) false (stuckB (-1) false (false :: (bitsV i ni ++ bitsV s c.next.length))) c.gates = cycV c s i := by
    unfold cycV stuckB; rw [if_neg (by omega), hni]; simp
  have hlit : ∀ x ∈ c.next ++ c.outs, 0 ≤ x ∧ x ≤ 1000000 ∧ x / 2 < (cycV c s i).length := fun x hx => by have := roots_lits hv x hx; rw [hlV]; rw [hV] at this; exact this
  have H := Lib.hid (And.intro h (And.intro hn (And.intro hg (And.intro ho (And.intro hv (And.intro hV (And.intro hni (And.intro hlV (And.intro hle hlit)))))))))
  have HM : Hid (∀ W, Below w.heap.size w W → CirAt W b c.inp (.slice sn c.next.length cn) (.slice sg c.gates.length cg) (.slice so c.outs.length co)) := fun W hb => ⟨(hb.cell (p := ⟨b, 0, none⟩) HB.out).trans H.out.1.h0, (hb.cell (p := ⟨b, 1, none⟩) HB.out).trans H.out.1.h1, (hb.cell (p := ⟨b, 2, none⟩) HB.out).trans H.out.1.h2, (hb.cell (p := ⟨b, 3, none⟩) HB.out).trans H.out.1.h3⟩
  have HS : Hid (∀ W, Below w.heap.size w W → W.cell? ⟨b, 0, none⟩ = some (.int .i64 ni) ∧ W.cell? ⟨b, 1, none⟩ = some (.slice sn c.next.length cn) ∧ W.cell? ⟨b, 3, none⟩ = some (.slice so c.outs.length co)) := fun W hb => ⟨by rw [← H.out.2.2.2.2.2.2.1]; exact (HM.out W hb).h0, (HM.out W hb).h1, (HM.out W hb).h3⟩
  clear h hn hg ho hv hV hni hlV hle hlit f1 f2 f3 f4
  go_enter Try.func68, Try.ntmps68
  go_wp2_with fail
  go_cut [8] from 9 to 23 (fun s8 wx => ∃ g, s8 = .slice (some ⟨g, 0, none⟩) V V ∧ Sl wx (some ⟨g, 0, none⟩) (bools (cycV c s i)) ∧ Below w.heap.size w wx)
  case first =>
    refine wp_region_T (fun w' => w'.cell? ⟨b, 0, none⟩ = some (.int .i64 ni) ∧ w'.cell? ⟨b, 1, none⟩ = some (.slice sn c.next.length cn) ∧ w'.cell? ⟨b, 3, none⟩ = some (.slice so c.outs.length co)) (.q 0 (.q 1 (.q 2 (.q 3 (.q 4 (.q 5 (.q 6 (.q 8 (.q 9 (.q 10 (.q 11 (.q 12 (.e 7 (.e 13 (.e 14 (.q 15 .nil)))))))))))))))) (by kernel_rfl) (by kernel_rfl) (by kernel_rfl) (HS.out _ (Below.refl _ _).drew) ?_
    repeat (first | (refine ordt_s (o := ?_) ?_ ?_ ?_; rotate_left 1; (focus ((simp only [List.getElem?_toArray, List.getElem?_cons_succ, List.getElem?_cons_zero]) <;> rfl)); (focus rfl); simp only [Act.put, List.setIfInBounds_toArray, List.set_cons_zero, List.set_cons_succ]) | (refine ordt_q (o := ?_) (v := ?_) ?_ ?_ ?_ ?_; rotate_left 2; (focus ((simp only [List.getElem?_toArray, List.getElem?_cons_succ, List.getElem?_cons_zero]) <;> rfl)); (focus rfl); (focus (intro w' hS; (try dsimp only at hS); go_split_ands; go_simp; (try (with_reducible rfl)))); simp only [Act.put, List.setIfInBounds_toArray, List.set_cons_zero, List.set_cons_succ]))
    refine ordt_e ?_
    (refine op_e (o := ?_) ?_ ?_ (fun K hK => ?_); rotate_left 1; (focus ((simp only [List.getElem?_toArray, List.getElem?_cons_succ, List.getElem?_cons_zero]) <;> rfl)); (focus rfl); go_simp)
    refine (bitsOf_any s c.next.length _ hs (by omega) (by omega)).mono ?_
    rintro e wa ⟨sa, rfl, ha, hqa⟩
    have hba : Below w.heap.size w wa := (Below.refl _ _).drew.trans hqa
    refine hK.out _ _ (HS.out _ hba) ?_
    clear hK K hqa
    have HA := Lib.hid (And.intro hba ha)
    clear hba ha
    (try simp only [Act.put, List.setIfInBounds_toArray, List.set_cons_zero, List.set_cons_succ])
    refine ordt_e ?_
    (refine op_e (o := ?_) ?_ ?_ (fun K hK => ?_); rotate_left 1; (focus ((simp only [List.getElem?_toArray, List.getElem?_cons_succ, List.getElem?_cons_zero]) <;> rfl)); (focus rfl); go_simp)
    refine (bitsOf_any i ni _ hi (by omega) (by omega)).mono ?_
    rintro e wb ⟨sb, rfl, hb, hqb⟩
    have hbb : Below w.heap.size w wb := HA.out.1.trans (hqb.mono HA.out.1.size)
    refine hK.out _ _ (HS.out _ hbb) ?_
    clear hK K
    have HB2 := Lib.hid (And.intro hbb (And.intro (HA.out.2.mono hqb) hb))
    clear hbb hb hqb
    (try simp only [Act.put, List.setIfInBounds_toArray, List.set_cons_zero, List.set_cons_succ])
    refine ordt_e ?_
    (refine op_e (o := ?_) ?_ ?_ (fun K hK => ?_); rotate_left 1; (focus ((simp only [List.getElem?_toArray, List.getElem?_cons_succ, List.getElem?_cons_zero]) <;> rfl)); (focus rfl); go_simp)
    refine (evaluate_any _ _ _ _ _ _ c sa sb _ _ (bitsV s c.next.length) (bitsV i ni) (-1) false _ (HM.out _ HB2.out.1) (H.out.2.2.1.mono HB2.out.1) H.out.2.2.2.2.1 HB2.out.2.1 HB2.out.2.2 (bitsV_length _ _) ni (bitsV_length _ _) H.out.2.2.2.2.2.2.1 V H.out.2.2.2.2.2.1 (by omega) (by omega)).mono ?_
    rintro e we ⟨gv, rfl, hgv, hqe⟩
    rw [H.out.2.2.2.2.2.2.2.2.1] at hgv
    have hbe : Below w.heap.size w we := HB2.out.1.trans (hqe.mono HB2.out.1.size)
    refine hK.out _ _ (HS.out _ hbe) ?_
    clear hK K hqe
    have HE := Lib.hid (And.intro hbe (Sl.toB hgv))
    clear hbe hgv
    (try simp only [Act.put, List.setIfInBounds_toArray, List.set_cons_zero, List.set_cons_succ])
    repeat (first | (refine ordt_s (o := ?_) ?_ ?_ ?_; rotate_left 1; (focus ((simp only [List.getElem?_toArray, List.getElem?_cons_succ, List.getElem?_cons_zero]) <;> rfl)); (focus rfl); simp only [Act.put, List.setIfInBounds_toArray, List.set_cons_zero, List.set_cons_succ]) | (refine ordt_q (o := ?_) (v := ?_) ?_ ?_ ?_ ?_; rotate_left 2; (focus ((simp only [List.getElem?_toArray, List.getElem?_cons_succ, List.getElem?_cons_zero]) <;> rfl)); (focus rfl); (focus (intro w' hS; (try dsimp only at hS); go_split_ands; go_simp; (try (with_reducible rfl)))); simp only [Act.put, List.setIfInBounds_toArray, List.set_cons_zero, List.set_cons_succ]))
    refine ordt_nil ?_
    go_wp2_with fail
    go_meet
    exact ⟨gv, rfl, HE.out.2, HE.out.1⟩
  case rest =>
    obtain ⟨g, rfl, hsl, hb⟩ := hcut
    have HX := Lib.hid (And.intro hsl hb)
    clear hsl hb
    obtain ⟨N, hN⟩ : ∃ N, N = nextN c s i := ⟨_, rfl⟩
    obtain ⟨O, hO⟩ : ∃ O, O = outN c s i := ⟨_, rfl⟩
    have HNO := Lib.hid (And.intro hN hO)
    clear hN hO
    go_wp2_with fail
    refine wp_region_T (fun w' => w'.cell? ⟨b, 0, none⟩ = some (.int .i64 ni) ∧ w'.cell? ⟨b, 1, none⟩ = some (.slice sn c.next.length cn) ∧ w'.cell? ⟨b, 3, none⟩ = some (.slice so c.outs.length co)) (.q 0 (.q 1 (.q 2 (.q 3 (.q 4 (.q 7 (.q 8 (.q 9 (.q 10 (.q 11 (.e 5 (.e 6 (.e 12 (.e 13 (.q 14 (.q 15 .nil)))))))))))))))) (by kernel_rfl) (by kernel_rfl) (by kernel_rfl) (HS.out _ HX.out.2.drew) ?_
    repeat (first | (refine ordt_s (o := ?_) ?_ ?_ ?_; rotate_left 1; (focus ((simp only [List.getElem?_toArray, List.getElem?_cons_succ, List.getElem?_cons_zero]) <;> rfl)); (focus rfl); simp only [Act.put, List.setIfInBounds_toArray, List.set_cons_zero, List.set_cons_succ]) | (refine ordt_q (o := ?_) (v := ?_) ?_ ?_ ?_ ?_; rotate_left 2; (focus ((simp only [List.getElem?_toArray, List.getElem?_cons_succ, List.getElem?_cons_zero]) <;> rfl)); (focus rfl); (focus (intro w' hS; (try dsimp only at hS); go_split_ands; go_simp; (try (with_reducible rfl)))); simp only [Act.put, List.setIfInBounds_toArray, List.set_cons_zero, List.set_cons_succ]))
    refine ordt_e ?_
    (refine op_e (o := ?_) ?_ ?_ (fun K hK => ?_); rotate_left 1; (focus ((simp only [List.getElem?_toArray, List.getElem?_cons_succ, List.getElem?_cons_zero]) <;> rfl)); (focus rfl); go_simp)
    have hl1 := fun W (hW : Below w.heap.size w W) (hs : Sl W (some ⟨g, 0, none⟩) (bools (cycV c s i))) => litValues_any (some ⟨g, 0, none⟩) sn (cycV c s i) V cn c.next W hs (H.out.2.1.mono hW) (fun x hx => H.out.2.2.2.2.2.2.2.2.2 x (by simp [hx])) (by omega)
    have hl2 := fun W (hW : Below w.heap.size w W) (hs : Sl W (some ⟨g, 0, none⟩) (bools (cycV c s i))) => litValues_any (some ⟨g, 0, none⟩) so (cycV c s i) V co c.outs W hs (H.out.2.2.2.1.mono hW) (fun x hx => H.out.2.2.2.2.2.2.2.2.2 x (by simp [hx])) (by omega)
    rw [H.out.2.2.2.2.2.2.2.1] at hl1 hl2
    refine (hl1 _ HX.out.2.drew HX.out.1.drew).mono ?_
    rintro e wf ⟨sf, cf, rfl, hf, hqf⟩
    have hbf : Below wc.heap.size wc wf := (Below.refl _ _).drew.trans hqf
    have hbw := HX.out.2.trans (hbf.mono HX.out.2.size)
    refine hK.out _ _ (HS.out _ hbw) ?_
    clear hK K hqf
    have HF := Lib.hid (And.intro hbw (And.intro hf (HX.out.1.mono hbf)))
    clear hbf hf hbw
    (try simp only [Act.put, List.setIfInBounds_toArray, List.set_cons_zero, List.set_cons_succ])
    refine ordt_e ?_
    (refine op_e (o := ?_) ?_ ?_ (fun K hK => ?_); rotate_left 1; (focus ((simp only [List.getElem?_toArray, List.getElem?_cons_succ, List.getElem?_cons_zero]) <;> rfl)); (focus rfl); go_simp)
    have hnum1 := number_any sf cf (c.next.map (litB (cycV c s i))) wf HF.out.2.1 (by simp; omega)
    rw [List.length_map] at hnum1
    refine hnum1.mono ?_
    rintro e wg ⟨rfl, rfl⟩
    rw [show numB (c.next.map (litB (cycV c s i))) = N from HNO.out.1.symm]
    refine hK.out _ _ (HS.out _ HF.out.1) ?_
    clear hK K hnum1
    (try simp only [Act.put, List.setIfInBounds_toArray, List.set_cons_zero, List.set_cons_succ])
    refine ordt_e ?_
    (refine op_e (o := ?_) ?_ ?_ (fun K hK => ?_); rotate_left 1; (focus ((simp only [List.getElem?_toArray, List.getElem?_cons_succ, List.getElem?_cons_zero]) <;> rfl)); (focus rfl); go_simp)
    refine (hl2 _ HF.out.1 HF.out.2.2).mono ?_
    rintro e wh ⟨sh, ch, rfl, hh, hqh⟩
    have hbw := HF.out.1.trans (hqh.mono HF.out.1.size)
    refine hK.out _ _ (HS.out _ hbw) ?_
    clear hK K hqh hl1 hl2
    have HH := Lib.hid (And.intro hbw hh)
    clear hbw hh
    (try simp only [Act.put, List.setIfInBounds_toArray, List.set_cons_zero, List.set_cons_succ])
    refine ordt_e ?_
    (refine op_e (o := ?_) ?_ ?_ (fun K hK => ?_); rotate_left 1; (focus ((simp only [List.getElem?_toArray, List.getElem?_cons_succ, List.getElem?_cons_zero]) <;> rfl)); (focus rfl); go_simp)
    have hnum2 := number_any sh ch (c.outs.map (litB (cycV c s i))) wh HH.out.2 (by simp; omega)
    rw [List.length_map] at hnum2
    refine hnum2.mono ?_
    rintro e wk ⟨rfl, rfl⟩
    rw [show numB (c.outs.map (litB (cycV c s i))) = O from HNO.out.2.symm]
    refine hK.out _ _ (HS.out _ HH.out.1) ?_
    clear hK K hnum2
    (try simp only [Act.put, List.setIfInBounds_toArray, List.set_cons_zero, List.set_cons_succ])
    repeat (first | (refine ordt_s (o := ?_) ?_ ?_ ?_; rotate_left 1; (focus ((simp only [List.getElem?_toArray, List.getElem?_cons_succ, List.getElem?_cons_zero]) <;> rfl)); (focus rfl); simp only [Act.put, List.setIfInBounds_toArray, List.set_cons_zero, List.set_cons_succ]) | (refine ordt_q (o := ?_) (v := ?_) ?_ ?_ ?_ ?_; rotate_left 2; (focus ((simp only [List.getElem?_toArray, List.getElem?_cons_succ, List.getElem?_cons_zero]) <;> rfl)); (focus rfl); (focus (intro w' hS; (try dsimp only at hS); go_split_ands; go_simp; (try (with_reducible rfl)))); simp only [Act.put, List.setIfInBounds_toArray, List.set_cons_zero, List.set_cons_succ]))
    refine ordt_nil ?_
    go_wp2_with fail
    go_ret2
    exact ⟨by rw [← HNO.out.1, ← HNO.out.2]; rfl, HH.out.1⟩

end Go.Proofs.Ytaboipnigeaopaa
