import Derived.Test.YtbcolcchchgldaaB5
import Derived.Deep.RegionWith
import Derived.Test.YtbcolcchchgldaaL4
namespace Go.Proofs.Ytbcolcchchgldaa
set_option linter.unusedVariables false
set_option linter.unusedSimpArgs false
open Go.RowKit

/-- A circuit's literals are small. -/
theorem Cir.gate_lit {c : Cir} (h : c.validB = true) {k : Nat} {g : Gt} (hg : c.gates[k]? = some g) : 0 ≤ g.a ∧ g.a ≤ 1000 ∧ 0 ≤ g.b ∧ g.b ≤ 1000 := by
  have hv := c.validB_iff.1 h
  obtain ⟨ha, hb, hc, hd, he⟩ := hv.lim
  have hk := (List.getElem?_eq_some_iff.1 hg).1
  have := gatesP_at hv.gates hg
  unfold litP Cir.first at this
  omega

def latchLit (c : Cir) (l : Int) : Prop := c.inp < l / 2 ∧ l / 2 < 1 + c.inp + c.next.length
instance (c : Cir) (l : Int) : Decidable (latchLit c l) := inferInstanceAs (Decidable (_ ∧ _))
def canRetimeB (c : Cir) (i : Int) : Bool := c.validB && (decide (0 ≤ i ∧ i < c.gates.length ∧ c.next.length < 3 ∧ c.gates.length < 14) && match c.gates[i.toNat]? with
  | some g => decide (latchLit c g.a ∧ latchLit c g.b)
  | none => false)

set_option maxRecDepth 100000 in
set_option maxHeartbeats 800000 in
theorem CanRetime_i (v : Value) (c : Cir) (i : Int) (w : World) (h : CirV w v c) :
    Calls Try.prog 28 #[v, .int .i64 i] w fun e w' => e = .returned (.bool (canRetimeB c i)) ∧ Below w.heap.size w w' := by
  obtain ⟨sn, cn, sg, cg, so, co, hv, h1, h2, h3, hl1, hl2, hl3⟩ := h
  have HC : Hid ((∀ w', Below w.heap.size w w' → CirV w' v c) ∧ Sl w sg (gcells c.gates)) := ⟨fun w' hb => CirV.mono ⟨sn, cn, sg, cg, so, co, hv, h1, h2, h3, hl1, hl2, hl3⟩ hb, h2⟩
  subst hv
  clear h1 h2 h3
  have hL : Below w.heap.size w (w.alloc (.cells #[.int .i64 c.inp, .slice sn c.next.length cn, .slice sg c.gates.length cg, .slice so c.outs.length co] 26)) := by go_grown
  have hN := blk_new w (.cells #[.int .i64 c.inp, .slice sn c.next.length cn, .slice sg c.gates.length cg, .slice so c.outs.length co] 26)
  have HL := Lib.hid (And.intro hL hN)
  clear hL hN
  cases hv : c.validB
  · have hf : canRetimeB c i = false := by simp [canRetimeB, hv]
    rw [hf]
    clear hf
    go_enter Try.func28, Try.ntmps28
    go_wp2_with (go_at_call 18; ((with_reducible refine (CircuitValid_i _ _ _ (HC.out.1 _ HL.out.1)).mono ?_); rintro e w1 ⟨rfl, hq⟩; have HQ := Lib.hid hq; obtain ⟨hc, hf⟩ := bcell hq; clear hq; rw [hv]))
    go_ret
    exact ⟨rfl, HL.out.1.trans (HQ.out.mono (by simp))⟩
  · obtain ⟨ha, hb, hc, hd, he⟩ := Cir.small hv
    by_cases hi : 0 ≤ i ∧ i < c.gates.length ∧ c.next.length < 3 ∧ c.gates.length < 14
    · obtain ⟨k, rfl⟩ : ∃ k : Nat, i = k := ⟨i.toNat, by omega⟩
      obtain ⟨g, hg⟩ := get_of_lt (l := c.gates) (k := k) (by omega)
      have hf : canRetimeB c k = decide (latchLit c g.a ∧ latchLit c g.b) := by simp [canRetimeB, hv, hg]; omega
      have hgl := Cir.gate_lit hv hg
      obtain ⟨b, off, rfl, hbw, hz1, hz2⟩ := HC.out.2.gate (Below.refl _ _) hg
      obtain ⟨hi0, hi1, hi2, hi3⟩ := hi
      have HF := Lib.hid (And.intro hf hg)
      clear hf hg
      go_enter Try.func28, Try.ntmps28
      go_wp2_with (go_at_call 18; ((with_reducible refine (CircuitValid_i _ _ _ (HC.out.1 _ HL.out.1)).mono ?_); rintro e w1 ⟨rfl, hq⟩; have HQ := Lib.hid hq; obtain ⟨hcc, hff⟩ := bcell hq; clear hq; have hz1' : w1.cell? ⟨b, off + k * 2, none⟩ = some (.int .i64 g.a) := (HQ.out.cell (by simp; omega)).trans ((HL.out.1.cell hbw).trans hz1); have hz2' : w1.cell? ⟨b, off + k * 2 + 1, none⟩ = some (.int .i64 g.b) := (HQ.out.cell (by simp; omega)).trans ((HL.out.1.cell hbw).trans hz2); have hca0 : CirAt w1 w.heap.size c.inp (.slice sn c.next.length cn) (.slice (some ⟨b, off, none⟩) c.gates.length cg) (.slice so c.outs.length co) := CirAt.of_blk (blk_below HQ.out (by simp) HL.out.2); have hCA := Lib.hid (And.intro hca0 (fun n => hca0.drewN n)); clear hca0; have hbi : Hid (-1000000 ≤ c.inp ∧ c.inp ≤ 1000000) := ⟨by omega, by omega⟩; rw [hv]))
      go_wp2_with (first
        | (go_at_call 81; ((with_reducible refine (isLatch_any _ _ _ _ _ _ _ _ _ hCA.out.1 hbi.out (by omega)).mono ?_); rintro e w' ⟨rfl, n, rfl⟩))
        | (go_at_call 81; ((with_reducible refine (isLatch_any _ _ _ _ _ _ _ _ _ (hCA.out.2 _) hbi.out (by omega)).mono ?_); rintro e w' ⟨rfl, n, rfl⟩)))
      all_goals go_ret
      all_goals refine ⟨ret_bool ?_, ?_⟩
      all_goals first
        | (rw [HF.out.1]; unfold latchLit; rw [Bool.eq_iff_iff]; simp; omega)
        | exact below_n (HL.out.1.trans (HQ.out.mono (by simp))) _
    · have hf : canRetimeB c i = false := by simp [canRetimeB, hi]
      rw [hf]
      have HI := Lib.hid hi
      clear hf hi
      go_enter Try.func28, Try.ntmps28
      go_wp2_with (go_at_call 18; ((with_reducible refine (CircuitValid_i _ _ _ (HC.out.1 _ HL.out.1)).mono ?_); rintro e w1 ⟨rfl, hq⟩; have HQ := Lib.hid hq; obtain ⟨hcc, hff⟩ := bcell hq; clear hq; rw [hv]))
      all_goals first
        | (go_ret; exact ⟨rfl, HL.out.1.trans (HQ.out.mono (by simp))⟩)
        | (exfalso; apply HI.out; refine ⟨?_, ?_, ?_, ?_⟩ <;> omega)

set_option maxRecDepth 100000 in
set_option maxHeartbeats 800000 in
theorem CanRetime_s (v : Value) (c : Cir) (i : Int) (w : World) (h : CirV w v c) :
    Calls Try.prog 25 #[v, .int .i64 i] w fun e w' => e = .returned (.bool (canRetimeB c i)) ∧ Below w.heap.size w w' := by
  obtain ⟨sn, cn, sg, cg, so, co, hv, h1, h2, h3, hl1, hl2, hl3⟩ := h
  have HC : Hid ((∀ w', Below w.heap.size w w' → CirV w' v c) ∧ Sl w sg (gcells c.gates)) := ⟨fun w' hb => CirV.mono ⟨sn, cn, sg, cg, so, co, hv, h1, h2, h3, hl1, hl2, hl3⟩ hb, h2⟩
  subst hv
  clear h1 h2 h3
  have hL : Below w.heap.size w (w.alloc (.cells #[.int .i64 c.inp, .slice sn c.next.length cn, .slice sg c.gates.length cg, .slice so c.outs.length co] 26)) := by go_grown
  have hN := blk_new w (.cells #[.int .i64 c.inp, .slice sn c.next.length cn, .slice sg c.gates.length cg, .slice so c.outs.length co] 26)
  have HL := Lib.hid (And.intro hL hN)
  clear hL hN
  cases hv : c.validB
  · have hf : canRetimeB c i = false := by simp [canRetimeB, hv]
    have HF := Lib.hid hf
    clear hf
    go_enter Try.func25, Try.ntmps25
    go_wp2_with fail
    refine wp_region_ord (fun w' => ∀ o, w'.cell? ⟨w.heap.size, o, none⟩ = #[Value.int .i64 c.inp, Value.slice sn c.next.length cn, Value.slice sg c.gates.length cg, Value.slice so c.outs.length co][o]?) ((0, false) :: (1, true) :: (2, false) :: (3, false) :: (4, false) :: (5, false) :: (6, false) :: (7, false) :: (8, true) :: (9, false) :: (10, false) :: (11, false) :: (12, false) :: (13, false) :: (14, false) :: (15, false) :: (16, false) :: (17, false) :: (18, true) :: (19, false) :: (20, false) :: (21, false) :: (22, false) :: (23, false) :: (24, false) :: (25, false) :: (26, false) :: (27, false) :: (28, true) :: (29, false) :: (30, false) :: (31, false) :: (32, false) :: (33, false) :: (34, false) :: (35, false) :: (36, false) :: (37, false) :: (38, false) :: (39, false) :: (40, false) :: (41, false) :: (42, false) :: [])
      (by kernel_rfl) (by kernel_rfl) (by kernel_rfl) (by kernel_rfl) (blk_all HL.out.2).1 ?_
    repeat (first | (refine ord_es (o := ?_) ?_ ?_ (by assumption) ?_; rotate_left 1; (focus ((simp only [List.getElem?_toArray, List.getElem?_cons_succ, List.getElem?_cons_zero]) <;> rfl)); (focus rfl); simp only [Act.put, List.setIfInBounds_toArray, List.set_cons_zero, List.set_cons_succ]) | (refine ord_s (o := ?_) ?_ ?_ ?_; rotate_left 1; (focus ((simp only [List.getElem?_toArray, List.getElem?_cons_succ, List.getElem?_cons_zero]) <;> rfl)); (focus rfl); simp only [Act.put, List.setIfInBounds_toArray, List.set_cons_zero, List.set_cons_succ]) | (refine ord_q (o := ?_) (v := ?_) ?_ ?_ ?_ ?_; rotate_left 2; (focus ((simp only [List.getElem?_toArray, List.getElem?_cons_succ, List.getElem?_cons_zero]) <;> rfl)); (focus rfl); (focus (intro w' hS; (try dsimp only at hS); go_split_ands; go_simp; (try (with_reducible rfl)))); simp only [Act.put, List.setIfInBounds_toArray, List.set_cons_zero, List.set_cons_succ]))
    (refine ord_e (o := ?_) ?_ ?_ (fun K hK => ?_); rotate_left 1; (focus ((simp only [List.getElem?_toArray, List.getElem?_cons_succ, List.getElem?_cons_zero]) <;> rfl)); (focus rfl); go_simp)
    refine (CircuitValid_s _ _ _ (HC.out.1 _ HL.out.1.drew)).mono ?_
    rintro e w1 ⟨rfl, hq⟩
    have W1 := Lib.hid (And.intro (blk_below hq (blk_lt HL.out.2) HL.out.2) (HL.out.1.drew.trans (hq.mono HL.out.1.size)))
    clear hq
    have hSW := (blk_all W1.out.1).1
    refine hK.out _ _ hSW ?_
    clear hK K
    rw [hv]
    (try simp only [Act.put, List.setIfInBounds_toArray, List.set_cons_zero, List.set_cons_succ])
    repeat (first | (refine ord_es (o := ?_) ?_ ?_ (by assumption) ?_; rotate_left 1; (focus ((simp only [List.getElem?_toArray, List.getElem?_cons_succ, List.getElem?_cons_zero]) <;> rfl)); (focus rfl); simp only [Act.put, List.setIfInBounds_toArray, List.set_cons_zero, List.set_cons_succ]) | (refine ord_s (o := ?_) ?_ ?_ ?_; rotate_left 1; (focus ((simp only [List.getElem?_toArray, List.getElem?_cons_succ, List.getElem?_cons_zero]) <;> rfl)); (focus rfl); simp only [Act.put, List.setIfInBounds_toArray, List.set_cons_zero, List.set_cons_succ]) | (refine ord_q (o := ?_) (v := ?_) ?_ ?_ ?_ ?_; rotate_left 2; (focus ((simp only [List.getElem?_toArray, List.getElem?_cons_succ, List.getElem?_cons_zero]) <;> rfl)); (focus rfl); (focus (intro w' hS; (try dsimp only at hS); go_split_ands; go_simp; (try (with_reducible rfl)))); simp only [Act.put, List.setIfInBounds_toArray, List.set_cons_zero, List.set_cons_succ]))
    refine ord_nil ?_
    go_wp2
    go_ret
    exact ⟨ret_bool HF.out.symm, W1.out.2⟩
  · obtain ⟨ha, hb, hc, hd, he⟩ := Cir.small hv
    by_cases hi : 0 ≤ i ∧ i < c.gates.length
    · obtain ⟨k, rfl⟩ : ∃ k : Nat, i = k := ⟨i.toNat, by omega⟩
      obtain ⟨g, hg⟩ := get_of_lt (l := c.gates) (k := k) (by omega)
      have hf : canRetimeB c k = (decide (latchLit c g.a ∧ latchLit c g.b) && decide (c.next.length < 3 ∧ c.gates.length < 14)) := by
        have hk : (k : Int) < c.gates.length := by omega
        rw [Bool.eq_iff_iff]
        simp [canRetimeB, hv, hg]
        exact ⟨fun ⟨h1, h2⟩ => ⟨h2, h1.2⟩, fun ⟨h1, h2⟩ => ⟨⟨by omega, h2⟩, h1⟩⟩
      have hgl := Cir.gate_lit hv hg
      obtain ⟨b, off, rfl, hbw, hz1, hz2⟩ := HC.out.2.gate (Below.refl _ _) hg
      have HF := Lib.hid hf
      have hin : decide ((0 : Int) ≤ (k : Int) ∧ (k : Int) ≤ (c.gates.length : Int) - 1) = true := decide_eq_true (by omega)
      have hlt : k < c.gates.length := by omega
      have hlti : (k : Int) < (c.gates.length : Int) := by omega
      have hwr1 : IntKind.i64.wrap ((c.gates.length : Int) - 1) = (c.gates.length : Int) - 1 := IntWalk.i64_in _ ⟨by omega, by omega⟩
      have hla : Hid (latchLit c g.a ∨ ¬ latchLit c g.a) := Classical.em _
      have hlb : Hid (latchLit c g.b ∨ ¬ latchLit c g.b) := Classical.em _
      clear hf hi hg
      go_enter Try.func25, Try.ntmps25
      go_wp2_with fail
      refine wp_region_ord (fun w' => (∀ o, w'.cell? ⟨w.heap.size, o, none⟩ = #[Value.int .i64 c.inp, Value.slice sn c.next.length cn, Value.slice (some ⟨b, off, none⟩) c.gates.length cg, Value.slice so c.outs.length co][o]?) ∧ w'.cell? ⟨b, off + k * 2, none⟩ = some (.int .i64 g.a) ∧ w'.cell? ⟨b, off + k * 2 + 1, none⟩ = some (.int .i64 g.b)) ((0, false) :: (1, true) :: (2, false) :: (3, false) :: (4, false) :: (5, false) :: (6, false) :: (7, false) :: (8, true) :: (9, false) :: (10, false) :: (11, false) :: (12, false) :: (13, false) :: (14, false) :: (15, false) :: (16, false) :: (17, false) :: (18, true) :: (19, false) :: (20, false) :: (21, false) :: (22, false) :: (23, false) :: (24, false) :: (25, false) :: (26, false) :: (27, false) :: (28, true) :: (29, false) :: (30, false) :: (31, false) :: (32, false) :: (33, false) :: (34, false) :: (35, false) :: (36, false) :: (37, false) :: (38, false) :: (39, false) :: (40, false) :: (41, false) :: (42, false) :: [])
        (by kernel_rfl) (by kernel_rfl) (by kernel_rfl) (by kernel_rfl) ⟨(blk_all HL.out.2).1, (HL.out.1.cell hbw).trans hz1, (HL.out.1.cell hbw).trans hz2⟩ ?_
      repeat (first | (refine ord_es (o := ?_) ?_ ?_ (by assumption) ?_; rotate_left 1; (focus ((simp only [List.getElem?_toArray, List.getElem?_cons_succ, List.getElem?_cons_zero]) <;> rfl)); (focus rfl); simp only [Act.put, List.setIfInBounds_toArray, List.set_cons_zero, List.set_cons_succ]) | (refine ord_s (o := ?_) ?_ ?_ ?_; rotate_left 1; (focus ((simp only [List.getElem?_toArray, List.getElem?_cons_succ, List.getElem?_cons_zero]) <;> rfl)); (focus rfl); simp only [Act.put, List.setIfInBounds_toArray, List.set_cons_zero, List.set_cons_succ]) | (refine ord_q (o := ?_) (v := ?_) ?_ ?_ ?_ ?_; rotate_left 2; (focus ((simp only [List.getElem?_toArray, List.getElem?_cons_succ, List.getElem?_cons_zero]) <;> rfl)); (focus rfl); (focus (intro w' hS; (try dsimp only at hS); go_split_ands; go_simp; (try (with_reducible rfl)))); simp only [Act.put, List.setIfInBounds_toArray, List.set_cons_zero, List.set_cons_succ]))
      (refine ord_e (o := ?_) ?_ ?_ (fun K hK => ?_); rotate_left 1; (focus ((simp only [List.getElem?_toArray, List.getElem?_cons_succ, List.getElem?_cons_zero]) <;> rfl)); (focus rfl); go_simp)
      refine (CircuitValid_s _ _ _ (HC.out.1 _ HL.out.1.drew)).mono ?_
      rintro e w1 ⟨rfl, hq⟩
      have W1 := Lib.hid (And.intro (blk_below hq (blk_lt HL.out.2) HL.out.2) (HL.out.1.drew.trans (hq.mono HL.out.1.size)))
      clear hq
      have hSW := And.intro (blk_all W1.out.1).1 (And.intro ((W1.out.2.cell (p := ⟨b, off + k * 2, none⟩) hbw).trans hz1) ((W1.out.2.cell (p := ⟨b, off + k * 2 + 1, none⟩) hbw).trans hz2))
      refine hK.out _ _ hSW ?_
      clear hK K
      rw [hv]
      (try simp only [Act.put, List.setIfInBounds_toArray, List.set_cons_zero, List.set_cons_succ])
      repeat (first | (refine ord_es (o := ?_) ?_ ?_ (by assumption) ?_; rotate_left 1; (focus ((simp only [List.getElem?_toArray, List.getElem?_cons_succ, List.getElem?_cons_zero]) <;> rfl)); (focus rfl); simp only [Act.put, List.setIfInBounds_toArray, List.set_cons_zero, List.set_cons_succ]) | (refine ord_s (o := ?_) ?_ ?_ ?_; rotate_left 1; (focus ((simp only [List.getElem?_toArray, List.getElem?_cons_succ, List.getElem?_cons_zero]) <;> rfl)); (focus rfl); simp only [Act.put, List.setIfInBounds_toArray, List.set_cons_zero, List.set_cons_succ]) | (refine ord_q (o := ?_) (v := ?_) ?_ ?_ ?_ ?_; rotate_left 2; (focus ((simp only [List.getElem?_toArray, List.getElem?_cons_succ, List.getElem?_cons_zero]) <;> rfl)); (focus rfl); (focus (intro w' hS; (try dsimp only at hS); go_split_ands; go_simp; (try (with_reducible rfl)))); simp only [Act.put, List.setIfInBounds_toArray, List.set_cons_zero, List.set_cons_succ]))
      (refine ord_e (o := ?_) ?_ ?_ (fun K hK => ?_); rotate_left 1; (focus ((simp only [List.getElem?_toArray, List.getElem?_cons_succ, List.getElem?_cons_zero]) <;> rfl)); (focus rfl); go_simp)
      refine (l1In_any _ _ _ _).mono ?_
      rintro e w1' ⟨rfl, rfl⟩
      refine hK.out _ _ hSW ?_
      clear hK K
      rw [hin]
      (try simp only [Act.put, List.setIfInBounds_toArray, List.set_cons_zero, List.set_cons_succ])
      repeat (first | (refine ord_es (o := ?_) ?_ ?_ (by assumption) ?_; rotate_left 1; (focus ((simp only [List.getElem?_toArray, List.getElem?_cons_succ, List.getElem?_cons_zero]) <;> rfl)); (focus rfl); simp only [Act.put, List.setIfInBounds_toArray, List.set_cons_zero, List.set_cons_succ]) | (refine ord_s (o := ?_) ?_ ?_ ?_; rotate_left 1; (focus ((simp only [List.getElem?_toArray, List.getElem?_cons_succ, List.getElem?_cons_zero]) <;> rfl)); (focus rfl); simp only [Act.put, List.setIfInBounds_toArray, List.set_cons_zero, List.set_cons_succ]) | (refine ord_q (o := ?_) (v := ?_) ?_ ?_ ?_ ?_; rotate_left 2; (focus ((simp only [List.getElem?_toArray, List.getElem?_cons_succ, List.getElem?_cons_zero]) <;> rfl)); (focus rfl); (focus (intro w' hS; (try dsimp only at hS); go_split_ands; go_simp; (try (with_reducible rfl)))); simp only [Act.put, List.setIfInBounds_toArray, List.set_cons_zero, List.set_cons_succ]))
      (refine ord_e (o := ?_) ?_ ?_ (fun K hK => ?_); rotate_left 1; (focus ((simp only [List.getElem?_toArray, List.getElem?_cons_succ, List.getElem?_cons_zero]) <;> rfl)); (focus rfl); go_simp)
      refine (l20Latch_any _ _ _ _ _ _ _ _ (by constructor <;> omega) (by omega) (by omega) (by omega)).mono ?_
      rintro e w2 ⟨rfl, hq⟩
      have W2 := Lib.hid (And.intro (blk_below hq (blk_lt W1.out.1) W1.out.1) (W1.out.2.trans (hq.mono W1.out.2.size)))
      clear hq hSW
      have hSW := And.intro (blk_all W2.out.1).1 (And.intro ((W2.out.2.cell (p := ⟨b, off + k * 2, none⟩) hbw).trans hz1) ((W2.out.2.cell (p := ⟨b, off + k * 2 + 1, none⟩) hbw).trans hz2))
      refine hK.out _ _ hSW ?_
      clear hK K
      rcases hla.out with hA | hA
      · have e1 : decide (c.inp < g.a / 2 ∧ g.a / 2 < 1 + c.inp + (c.next.length : Int)) = true := decide_eq_true hA
        have HA := Lib.hid hA
        clear hA
        rw [e1]
        clear e1
        (try simp only [Act.put, List.setIfInBounds_toArray, List.set_cons_zero, List.set_cons_succ])
        repeat (first | (refine ord_es (o := ?_) ?_ ?_ (by assumption) ?_; rotate_left 1; (focus ((simp only [List.getElem?_toArray, List.getElem?_cons_succ, List.getElem?_cons_zero]) <;> rfl)); (focus rfl); simp only [Act.put, List.setIfInBounds_toArray, List.set_cons_zero, List.set_cons_succ]) | (refine ord_s (o := ?_) ?_ ?_ ?_; rotate_left 1; (focus ((simp only [List.getElem?_toArray, List.getElem?_cons_succ, List.getElem?_cons_zero]) <;> rfl)); (focus rfl); simp only [Act.put, List.setIfInBounds_toArray, List.set_cons_zero, List.set_cons_succ]) | (refine ord_q (o := ?_) (v := ?_) ?_ ?_ ?_ ?_; rotate_left 2; (focus ((simp only [List.getElem?_toArray, List.getElem?_cons_succ, List.getElem?_cons_zero]) <;> rfl)); (focus rfl); (focus (intro w' hS; (try dsimp only at hS); go_split_ands; go_simp; (try (with_reducible rfl)))); simp only [Act.put, List.setIfInBounds_toArray, List.set_cons_zero, List.set_cons_succ]))
        (refine ord_e (o := ?_) ?_ ?_ (fun K hK => ?_); rotate_left 1; (focus ((simp only [List.getElem?_toArray, List.getElem?_cons_succ, List.getElem?_cons_zero]) <;> rfl)); (focus rfl); go_simp)
        refine (l20Latch_any _ _ _ _ _ _ _ _ (by constructor <;> omega) (by omega) (by omega) (by omega)).mono ?_
        rintro e w3 ⟨rfl, hq⟩
        have W3 := Lib.hid (And.intro (blk_below hq (blk_lt W2.out.1) W2.out.1) (W2.out.2.trans (hq.mono W2.out.2.size)))
        clear hq hSW
        have hSW := And.intro (blk_all W3.out.1).1 (And.intro ((W3.out.2.cell (p := ⟨b, off + k * 2, none⟩) hbw).trans hz1) ((W3.out.2.cell (p := ⟨b, off + k * 2 + 1, none⟩) hbw).trans hz2))
        refine hK.out _ _ hSW ?_
        clear hK K
        rcases hlb.out with hB | hB
        · have e2 : decide (c.inp < g.b / 2 ∧ g.b / 2 < 1 + c.inp + (c.next.length : Int)) = true := decide_eq_true hB
          have HB := Lib.hid hB
          clear hB
          rw [e2]
          clear e2
          (try simp only [Act.put, List.setIfInBounds_toArray, List.set_cons_zero, List.set_cons_succ])
          by_cases h3 : (c.next.length : Int) < 3
          · have e3 : decide ((c.next.length : Int) < 3) = true := decide_eq_true h3
            repeat (first | (refine ord_es (o := ?_) ?_ ?_ (by assumption) ?_; rotate_left 1; (focus ((simp only [List.getElem?_toArray, List.getElem?_cons_succ, List.getElem?_cons_zero]) <;> rfl)); (focus rfl); simp only [Act.put, List.setIfInBounds_toArray, List.set_cons_zero, List.set_cons_succ]) | (refine ord_s (o := ?_) ?_ ?_ ?_; rotate_left 1; (focus ((simp only [List.getElem?_toArray, List.getElem?_cons_succ, List.getElem?_cons_zero]) <;> rfl)); (focus rfl); simp only [Act.put, List.setIfInBounds_toArray, List.set_cons_zero, List.set_cons_succ]) | (refine ord_q (o := ?_) (v := ?_) ?_ ?_ ?_ ?_; rotate_left 2; (focus ((simp only [List.getElem?_toArray, List.getElem?_cons_succ, List.getElem?_cons_zero]) <;> rfl)); (focus rfl); (focus (intro w' hS; (try dsimp only at hS); go_split_ands; go_simp; (try (with_reducible rfl)))); simp only [Act.put, List.setIfInBounds_toArray, List.set_cons_zero, List.set_cons_succ]))
            refine ord_nil ?_
            go_wp2
            go_ret
            exact ⟨ret_bool (by rw [HF.out]; rw [Bool.eq_iff_iff]; simp [HA.out, HB.out]; omega), W3.out.2⟩
          · have e3 : decide ((c.next.length : Int) < 3) = false := decide_eq_false h3
            repeat (first | (refine ord_es (o := ?_) ?_ ?_ (by assumption) ?_; rotate_left 1; (focus ((simp only [List.getElem?_toArray, List.getElem?_cons_succ, List.getElem?_cons_zero]) <;> rfl)); (focus rfl); simp only [Act.put, List.setIfInBounds_toArray, List.set_cons_zero, List.set_cons_succ]) | (refine ord_s (o := ?_) ?_ ?_ ?_; rotate_left 1; (focus ((simp only [List.getElem?_toArray, List.getElem?_cons_succ, List.getElem?_cons_zero]) <;> rfl)); (focus rfl); simp only [Act.put, List.setIfInBounds_toArray, List.set_cons_zero, List.set_cons_succ]) | (refine ord_q (o := ?_) (v := ?_) ?_ ?_ ?_ ?_; rotate_left 2; (focus ((simp only [List.getElem?_toArray, List.getElem?_cons_succ, List.getElem?_cons_zero]) <;> rfl)); (focus rfl); (focus (intro w' hS; (try dsimp only at hS); go_split_ands; go_simp; (try (with_reducible rfl)))); simp only [Act.put, List.setIfInBounds_toArray, List.set_cons_zero, List.set_cons_succ]))
            refine ord_nil ?_
            go_wp2
            go_ret
            exact ⟨ret_bool (by rw [HF.out]; rw [Bool.eq_iff_iff]; simp [HA.out, HB.out]; omega), W3.out.2⟩
        · have e2 : decide (c.inp < g.b / 2 ∧ g.b / 2 < 1 + c.inp + (c.next.length : Int)) = false := decide_eq_false hB
          have HB := Lib.hid hB
          clear hB
          rw [e2]
          clear e2
          (try simp only [Act.put, List.setIfInBounds_toArray, List.set_cons_zero, List.set_cons_succ])
          repeat (first | (refine ord_es (o := ?_) ?_ ?_ (by assumption) ?_; rotate_left 1; (focus ((simp only [List.getElem?_toArray, List.getElem?_cons_succ, List.getElem?_cons_zero]) <;> rfl)); (focus rfl); simp only [Act.put, List.setIfInBounds_toArray, List.set_cons_zero, List.set_cons_succ]) | (refine ord_s (o := ?_) ?_ ?_ ?_; rotate_left 1; (focus ((simp only [List.getElem?_toArray, List.getElem?_cons_succ, List.getElem?_cons_zero]) <;> rfl)); (focus rfl); simp only [Act.put, List.setIfInBounds_toArray, List.set_cons_zero, List.set_cons_succ]) | (refine ord_q (o := ?_) (v := ?_) ?_ ?_ ?_ ?_; rotate_left 2; (focus ((simp only [List.getElem?_toArray, List.getElem?_cons_succ, List.getElem?_cons_zero]) <;> rfl)); (focus rfl); (focus (intro w' hS; (try dsimp only at hS); go_split_ands; go_simp; (try (with_reducible rfl)))); simp only [Act.put, List.setIfInBounds_toArray, List.set_cons_zero, List.set_cons_succ]))
          refine ord_nil ?_
          go_wp2
          go_ret
          exact ⟨ret_bool (by rw [HF.out]; simp [HB.out]), W3.out.2⟩
      · have e1 : decide (c.inp < g.a / 2 ∧ g.a / 2 < 1 + c.inp + (c.next.length : Int)) = false := decide_eq_false hA
        have HA := Lib.hid hA
        clear hA
        rw [e1]
        clear e1
        (try simp only [Act.put, List.setIfInBounds_toArray, List.set_cons_zero, List.set_cons_succ])
        repeat (first | (refine ord_es (o := ?_) ?_ ?_ (by assumption) ?_; rotate_left 1; (focus ((simp only [List.getElem?_toArray, List.getElem?_cons_succ, List.getElem?_cons_zero]) <;> rfl)); (focus rfl); simp only [Act.put, List.setIfInBounds_toArray, List.set_cons_zero, List.set_cons_succ]) | (refine ord_s (o := ?_) ?_ ?_ ?_; rotate_left 1; (focus ((simp only [List.getElem?_toArray, List.getElem?_cons_succ, List.getElem?_cons_zero]) <;> rfl)); (focus rfl); simp only [Act.put, List.setIfInBounds_toArray, List.set_cons_zero, List.set_cons_succ]) | (refine ord_q (o := ?_) (v := ?_) ?_ ?_ ?_ ?_; rotate_left 2; (focus ((simp only [List.getElem?_toArray, List.getElem?_cons_succ, List.getElem?_cons_zero]) <;> rfl)); (focus rfl); (focus (intro w' hS; (try dsimp only at hS); go_split_ands; go_simp; (try (with_reducible rfl)))); simp only [Act.put, List.setIfInBounds_toArray, List.set_cons_zero, List.set_cons_succ]))
        refine ord_nil ?_
        go_wp2
        go_ret
        exact ⟨ret_bool (by rw [HF.out]; simp [HA.out]), W2.out.2⟩
    · have hf : canRetimeB c i = false := by
        simp [canRetimeB]
        intro _ h1 h2
        exact absurd ⟨h1, h2⟩ hi
      have HF := Lib.hid hf
      have hin : decide ((0 : Int) ≤ i ∧ i ≤ (c.gates.length : Int) - 1) = false := decide_eq_false (by omega)
      have hwr1 : IntKind.i64.wrap ((c.gates.length : Int) - 1) = (c.gates.length : Int) - 1 := IntWalk.i64_in _ ⟨by omega, by omega⟩
      clear hf hi
      go_enter Try.func25, Try.ntmps25
      go_wp2_with fail
      refine wp_region_ord (fun w' => ∀ o, w'.cell? ⟨w.heap.size, o, none⟩ = #[Value.int .i64 c.inp, Value.slice sn c.next.length cn, Value.slice sg c.gates.length cg, Value.slice so c.outs.length co][o]?) ((0, false) :: (1, true) :: (2, false) :: (3, false) :: (4, false) :: (5, false) :: (6, false) :: (7, false) :: (8, true) :: (9, false) :: (10, false) :: (11, false) :: (12, false) :: (13, false) :: (14, false) :: (15, false) :: (16, false) :: (17, false) :: (18, true) :: (19, false) :: (20, false) :: (21, false) :: (22, false) :: (23, false) :: (24, false) :: (25, false) :: (26, false) :: (27, false) :: (28, true) :: (29, false) :: (30, false) :: (31, false) :: (32, false) :: (33, false) :: (34, false) :: (35, false) :: (36, false) :: (37, false) :: (38, false) :: (39, false) :: (40, false) :: (41, false) :: (42, false) :: [])
        (by kernel_rfl) (by kernel_rfl) (by kernel_rfl) (by kernel_rfl) (blk_all HL.out.2).1 ?_
      repeat (first | (refine ord_es (o := ?_) ?_ ?_ (by assumption) ?_; rotate_left 1; (focus ((simp only [List.getElem?_toArray, List.getElem?_cons_succ, List.getElem?_cons_zero]) <;> rfl)); (focus rfl); simp only [Act.put, List.setIfInBounds_toArray, List.set_cons_zero, List.set_cons_succ]) | (refine ord_s (o := ?_) ?_ ?_ ?_; rotate_left 1; (focus ((simp only [List.getElem?_toArray, List.getElem?_cons_succ, List.getElem?_cons_zero]) <;> rfl)); (focus rfl); simp only [Act.put, List.setIfInBounds_toArray, List.set_cons_zero, List.set_cons_succ]) | (refine ord_q (o := ?_) (v := ?_) ?_ ?_ ?_ ?_; rotate_left 2; (focus ((simp only [List.getElem?_toArray, List.getElem?_cons_succ, List.getElem?_cons_zero]) <;> rfl)); (focus rfl); (focus (intro w' hS; (try dsimp only at hS); go_split_ands; go_simp; (try (with_reducible rfl)))); simp only [Act.put, List.setIfInBounds_toArray, List.set_cons_zero, List.set_cons_succ]))
      (refine ord_e (o := ?_) ?_ ?_ (fun K hK => ?_); rotate_left 1; (focus ((simp only [List.getElem?_toArray, List.getElem?_cons_succ, List.getElem?_cons_zero]) <;> rfl)); (focus rfl); go_simp)
      refine (CircuitValid_s _ _ _ (HC.out.1 _ HL.out.1.drew)).mono ?_
      rintro e w1 ⟨rfl, hq⟩
      have W1 := Lib.hid (And.intro (blk_below hq (blk_lt HL.out.2) HL.out.2) (HL.out.1.drew.trans (hq.mono HL.out.1.size)))
      clear hq
      have hSW := (blk_all W1.out.1).1
      refine hK.out _ _ hSW ?_
      clear hK K
      rw [hv]
      (try simp only [Act.put, List.setIfInBounds_toArray, List.set_cons_zero, List.set_cons_succ])
      repeat (first | (refine ord_es (o := ?_) ?_ ?_ (by assumption) ?_; rotate_left 1; (focus ((simp only [List.getElem?_toArray, List.getElem?_cons_succ, List.getElem?_cons_zero]) <;> rfl)); (focus rfl); simp only [Act.put, List.setIfInBounds_toArray, List.set_cons_zero, List.set_cons_succ]) | (refine ord_s (o := ?_) ?_ ?_ ?_; rotate_left 1; (focus ((simp only [List.getElem?_toArray, List.getElem?_cons_succ, List.getElem?_cons_zero]) <;> rfl)); (focus rfl); simp only [Act.put, List.setIfInBounds_toArray, List.set_cons_zero, List.set_cons_succ]) | (refine ord_q (o := ?_) (v := ?_) ?_ ?_ ?_ ?_; rotate_left 2; (focus ((simp only [List.getElem?_toArray, List.getElem?_cons_succ, List.getElem?_cons_zero]) <;> rfl)); (focus rfl); (focus (intro w' hS; (try dsimp only at hS); go_split_ands; go_simp; (try (with_reducible rfl)))); simp only [Act.put, List.setIfInBounds_toArray, List.set_cons_zero, List.set_cons_succ]))
      (refine ord_e (o := ?_) ?_ ?_ (fun K hK => ?_); rotate_left 1; (focus ((simp only [List.getElem?_toArray, List.getElem?_cons_succ, List.getElem?_cons_zero]) <;> rfl)); (focus rfl); go_simp)
      refine (l1In_any _ _ _ _).mono ?_
      rintro e w1' ⟨rfl, rfl⟩
      refine hK.out _ _ hSW ?_
      clear hK K
      rw [hin]
      (try simp only [Act.put, List.setIfInBounds_toArray, List.set_cons_zero, List.set_cons_succ])
      repeat (first | (refine ord_es (o := ?_) ?_ ?_ (by assumption) ?_; rotate_left 1; (focus ((simp only [List.getElem?_toArray, List.getElem?_cons_succ, List.getElem?_cons_zero]) <;> rfl)); (focus rfl); simp only [Act.put, List.setIfInBounds_toArray, List.set_cons_zero, List.set_cons_succ]) | (refine ord_s (o := ?_) ?_ ?_ ?_; rotate_left 1; (focus ((simp only [List.getElem?_toArray, List.getElem?_cons_succ, List.getElem?_cons_zero]) <;> rfl)); (focus rfl); simp only [Act.put, List.setIfInBounds_toArray, List.set_cons_zero, List.set_cons_succ]) | (refine ord_q (o := ?_) (v := ?_) ?_ ?_ ?_ ?_; rotate_left 2; (focus ((simp only [List.getElem?_toArray, List.getElem?_cons_succ, List.getElem?_cons_zero]) <;> rfl)); (focus rfl); (focus (intro w' hS; (try dsimp only at hS); go_split_ands; go_simp; (try (with_reducible rfl)))); simp only [Act.put, List.setIfInBounds_toArray, List.set_cons_zero, List.set_cons_succ]))
      refine ord_nil ?_
      go_wp2
      go_ret
      exact ⟨ret_bool HF.out.symm, W1.out.2⟩

end Go.Proofs.Ytbcolcchchgldaa
