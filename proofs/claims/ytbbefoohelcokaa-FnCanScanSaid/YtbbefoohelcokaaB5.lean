import Derived.Test.YtbbefoohelcokaaA4
import Derived.Test.YtbbefoohelcokaaM1
namespace Go.Proofs.Ytbbefoohelcokaa
set_option linter.unusedVariables false
set_option linter.unusedSimpArgs false
open Go.RowKit

/-! gates and circuits: sizes, copies, comparisons. -/

def Cir.size (c : Cir) : Int := c.next.length + c.gates.length + c.outs.length

theorem mk45 (w : World) (n : Nat) (h : n ≤ 1048576) : (Instr.makeSlice 24 (.int .i64 (n : Int)) (.int .i64 (n : Int))).run Try.prog w = .ok (.slice (some ⟨w.heap.size, 0, none⟩) n n) (w.alloc (.cells (madeCells #[.int .i64 0, .int .i64 0] (n * 2)) 36)) := by
  obtain ⟨i, hi, h1, h2, h3⟩ := info_parts (P := Try.prog) (e := 36) (z := .agg #[.int .i64 0, .int .i64 0]) (size := 2) (bytes := 16) (by kernel_rfl)
  have := run_make (P := Try.prog) w 24 36 i (.agg #[.int .i64 0, .int .i64 0]) (by kernel_rfl) hi h1 .i64 .i64 n n (by omega) (by omega) (by rw [h3]; omega) (by omega)
  rw [this, h2]; simp [Value.cells]

theorem Cir.size_eq (c : Cir) : c.size = c.next.length + c.gates.length + c.outs.length := rfl

theorem Sl.toA {w : World} {b : Nat} {cs : List Value} {t : TypeId} {fz : Nat × Nat} (h : w.heap[b]? = some (.cells cs.toArray t fz)) : Sl w (some ⟨b, 0, none⟩) cs := by
  have := Sl.blk h; simpa using this

theorem bcell {W w1 : World} (hb : Below W.heap.size W w1) : (∀ b o, b < W.heap.size → w1.cell? ⟨b, o, none⟩ = W.cell? ⟨b, o, none⟩) ∧ (∀ b o, b < W.heap.size → w1.frozen? ⟨b, o, none⟩ = W.frozen? ⟨b, o, none⟩) :=
  ⟨fun b o h => hb.cell (p := ⟨b, o, none⟩) h, fun b o h => hb.frozen (p := ⟨b, o, none⟩) h⟩

def cirB (x y : Cir) : Bool := decide (x.inp = y.inp) && (decide (x.next = y.next) && (decide (x.gates = y.gates) && decide (x.outs = y.outs)))
theorem cirB_self (x : Cir) : cirB x x = true := by simp [cirB]
theorem cirB_iff (x y : Cir) : cirB x y = true ↔ x = y := by
  simp only [cirB, Bool.and_eq_true, decide_eq_true_eq]
  exact ⟨fun h => Cir.ext' h.1 h.2.1 h.2.2.1 h.2.2.2, fun h => by rw [h]; exact ⟨rfl, rfl, rfl, rfl⟩⟩

theorem Cir.small {c : Cir} (h : c.validB = true) : c.limits := (c.validB_iff.1 h).lim

def canScanB (c : Cir) : Bool := c.validB && decide ((1 : Int) ≤ c.next.length ∧ c.inp ≤ 2 ∧ c.outs.length < 3 ∧ c.gates.length + 3 * c.next.length ≤ 14)

theorem CanScan_i (v : Value) (c : Cir) (w : World) (h : CirV w v c) :
    Calls Try.prog 5 #[v] w fun e w' => e = .returned (.bool (canScanB c)) ∧ Below w.heap.size w w' := by
  obtain ⟨sn, cn, sg, cg, so, co, hv, h1, h2, h3, hl1, hl2, hl3⟩ := h
  have HC : Hid (∀ w', Below w.heap.size w w' → CirV w' v c) := fun w' hb => CirV.mono ⟨sn, cn, sg, cg, so, co, hv, h1, h2, h3, hl1, hl2, hl3⟩ hb
  subst hv
  clear h1 h2 h3
  have hL : Below w.heap.size w (w.alloc (.cells #[.int .i64 c.inp, .slice sn c.next.length cn, .slice sg c.gates.length cg, .slice so c.outs.length co] 26)) := by go_grown
  have HL := Lib.hid hL
  clear hL
  cases hv : c.validB
  · have hf : canScanB c = false := by simp [canScanB, hv]
    rw [hf]
    clear hf
    go_enter Try.func5, Try.ntmps5
    go_wp2_with (go_at_call 7; ((with_reducible refine (CircuitValid_i _ _ _ (HC.out _ HL.out)).mono ?_); rintro e w1 ⟨rfl, hq⟩; have HQ := Lib.hid hq; obtain ⟨hc, hf⟩ := bcell hq; clear hq; rw [hv]))
    go_ret
    exact ⟨rfl, HL.out.trans (HQ.out.mono (by simp))⟩
  · obtain ⟨ha, hb, hc, hd, he⟩ := Cir.small hv
    have hf : canScanB c = decide ((1 : Int) ≤ c.next.length ∧ c.inp ≤ 2 ∧ c.outs.length < 3 ∧ c.gates.length + 3 * c.next.length ≤ 14) := by simp [canScanB, hv]
    have HF := Lib.hid hf
    clear hf
    go_enter Try.func5, Try.ntmps5
    go_wp2_with (go_at_call 7; ((with_reducible refine (CircuitValid_i _ _ _ (HC.out _ HL.out)).mono ?_); rintro e w1 ⟨rfl, hq⟩; have HQ := Lib.hid hq; obtain ⟨hcc, hff⟩ := bcell hq; clear hq; rw [hv]))
    all_goals go_ret
    all_goals refine ⟨ret_bool ?_, HL.out.trans (HQ.out.mono (by simp))⟩
    all_goals rw [HF.out]
    all_goals rw [Bool.eq_iff_iff]
    all_goals first | (simp; omega) | (simp at *; omega)

theorem CanScan_s (v : Value) (c : Cir) (w : World) (h : CirV w v c) :
    Calls Try.prog 6 #[v] w fun e w' => e = .returned (.bool (canScanB c)) ∧ Below w.heap.size w w' := by
  obtain ⟨sn, cn, sg, cg, so, co, hv, h1, h2, h3, hl1, hl2, hl3⟩ := h
  have HC : Hid (∀ w', Below w.heap.size w w' → CirV w' v c) := fun w' hb => CirV.mono ⟨sn, cn, sg, cg, so, co, hv, h1, h2, h3, hl1, hl2, hl3⟩ hb
  subst hv
  clear h1 h2 h3
  have hL : Below w.heap.size w (w.alloc (.cells #[.int .i64 c.inp, .slice sn c.next.length cn, .slice sg c.gates.length cg, .slice so c.outs.length co] 26)) := by go_grown
  have HL := Lib.hid hL
  clear hL
  cases hv : c.validB
  · have hf : canScanB c = false := by simp [canScanB, hv]
    rw [hf]
    clear hf
    go_enter Try.func6, Try.ntmps6
    go_wp2_with (go_at_call 12; ((with_reducible refine (CircuitValid_s _ _ _ (HC.out _ HL.out)).mono ?_); rintro e w1 ⟨rfl, hq⟩; have HQ := Lib.hid hq; obtain ⟨hc, hf⟩ := bcell hq; clear hq; rw [hv]))
    go_ret
    exact ⟨rfl, HL.out.trans (HQ.out.mono (by simp))⟩
  · obtain ⟨ha, hb, hc, hd, he⟩ := Cir.small hv
    have hf : canScanB c = decide ((1 : Int) ≤ c.next.length ∧ c.inp ≤ 2 ∧ c.outs.length < 3 ∧ c.gates.length + 3 * c.next.length ≤ 14) := by simp [canScanB, hv]
    have HF := Lib.hid hf
    clear hf
    go_enter Try.func6, Try.ntmps6
    go_wp2_with (go_at_call 12; ((with_reducible refine (CircuitValid_s _ _ _ (HC.out _ HL.out)).mono ?_); rintro e w1 ⟨rfl, hq⟩; have HQ := Lib.hid hq; obtain ⟨hcc, hff⟩ := bcell hq; clear hq; rw [hv]))
    all_goals go_ret
    all_goals refine ⟨ret_bool ?_, HL.out.trans (HQ.out.mono (by simp))⟩
    all_goals rw [HF.out]
    all_goals rw [Bool.eq_iff_iff]
    all_goals first | (simp; omega) | (simp at *; omega)

theorem CirAt.drewN {w : World} {b : Nat} {inp : Int} {vn vg vo : Value} (h : CirAt w b inp vn vg vo) (n : Nat) : CirAt (w.drewN n) b inp vn vg vo := ⟨h.h0, h.h1, h.h2, h.h3⟩

end Go.Proofs.Ytbbefoohelcokaa
