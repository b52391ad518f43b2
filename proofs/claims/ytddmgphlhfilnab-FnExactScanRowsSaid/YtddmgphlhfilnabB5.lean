import Derived.Test.YtddmgphlhfilnabB4
namespace Go.Proofs.Ytddmgphlhfilnab
set_option linter.unusedVariables false
set_option linter.unusedSimpArgs false
open Go.RowKit

theorem bcell {W w1 : World} (hb : Below W.heap.size W w1) : (∀ b o, b < W.heap.size → w1.cell? ⟨b, o, none⟩ = W.cell? ⟨b, o, none⟩) ∧ (∀ b o, b < W.heap.size → w1.frozen? ⟨b, o, none⟩ = W.frozen? ⟨b, o, none⟩) :=
  ⟨fun b o h => hb.cell (p := ⟨b, o, none⟩) h, fun b o h => hb.frozen (p := ⟨b, o, none⟩) h⟩

def cirB (x y : Cir) : Bool := decide (x.inp = y.inp) && (decide (x.next = y.next) && (decide (x.gates = y.gates) && decide (x.outs = y.outs)))
theorem cirB_self (x : Cir) : cirB x x = true := by simp [cirB]
theorem cirB_iff (x y : Cir) : cirB x y = true ↔ x = y := by
  simp only [cirB, Bool.and_eq_true, decide_eq_true_eq]
  exact ⟨fun h => Cir.ext' h.1 h.2.1 h.2.2.1 h.2.2.2, fun h => by rw [h]; exact ⟨rfl, rfl, rfl, rfl⟩⟩

set_option maxHeartbeats 400000 in
theorem eqCircuit_any (u v : Value) (x y : Cir) (w : World) (hx : CirV w u x) (hy : CirV w v y) :
    Calls Try.prog 27 #[u, v] w fun e w' => e = .returned (.bool (cirB x y)) ∧ Below w.heap.size w w' := by
  obtain ⟨sn, cn, sg, cg, so, co, rfl, h1, h2, h3, hl1, hl2, hl3⟩ := hx
  obtain ⟨sn', cn', sg', cg', so', co', rfl, k1, k2, k3, ml1, ml2, ml3⟩ := hy
  have HS := Lib.hid (And.intro (And.intro h1 (And.intro h2 h3)) (And.intro k1 (And.intro k2 k3)))
  clear h1 h2 h3 k1 k2 k3
  have hL : Below w.heap.size w ((w.alloc (.cells #[.int .i64 x.inp, .slice sn x.next.length cn, .slice sg x.gates.length cg, .slice so x.outs.length co] 26)).alloc (.cells #[.int .i64 y.inp, .slice sn' y.next.length cn', .slice sg' y.gates.length cg', .slice so' y.outs.length co'] 26)) := by go_grown
  have HL := Lib.hid hL
  clear hL
  go_enter Try.func27, Try.ntmps27
  go_wp2_with (first
    | (go_at_call 42; ((with_reducible refine (eqIntS_any sn sn' _ _ _ _ _ (HS.out.1.1.mono HL.out) (HS.out.2.1.mono HL.out) hl1 ml1).mono ?_); rintro e w' ⟨rfl, n1, rfl⟩))
    | (go_at_call 79; ((with_reducible refine (eqGateS_any sg sg' _ _ _ _ _ (HS.out.1.2.1.mono (below_n HL.out _)) (HS.out.2.2.1.mono (below_n HL.out _)) hl2 ml2).mono ?_); rintro e w1 ⟨rfl, hq⟩; have HQ := Lib.hid hq; obtain ⟨hc, hf⟩ := bcell hq; clear hq))
    | (go_at_call 42; ((with_reducible refine (eqIntS_any so so' _ _ _ _ _ (HS.out.1.2.2.mono ((below_n HL.out _).trans (HQ.out.mono (by simp; omega)))) (HS.out.2.2.2.mono ((below_n HL.out _).trans (HQ.out.mono (by simp; omega)))) hl3 ml3).mono ?_); rintro e w' ⟨rfl, n2, rfl⟩)))
  all_goals go_ret
  all_goals refine ⟨ret_bool (by unfold cirB; simp at *; simp [*]), ?_⟩
  all_goals first
    | exact HL.out
    | exact below_n HL.out _
    | exact (below_n HL.out _).trans (HQ.out.mono (by simp; omega))
    | exact below_n ((below_n HL.out _).trans (HQ.out.mono (by simp; omega))) _

theorem Cir.small {c : Cir} (h : c.validB = true) : c.limits := (c.validB_iff.1 h).lim

def canScanB (c : Cir) : Bool := c.validB && decide ((1 : Int) ≤ c.next.length ∧ c.inp ≤ 2 ∧ c.outs.length < 3 ∧ c.gates.length + 3 * c.next.length ≤ 14)

theorem CanScan_i (v : Value) (c : Cir) (w : World) (h : CirV w v c) :
    Calls Try.prog 16 #[v] w fun e w' => e = .returned (.bool (canScanB c)) ∧ Below w.heap.size w w' := by
  obtain ⟨sn, cn, sg, cg, so, co, hv, h1, h2, h3, hl1, hl2, hl3⟩ := h
  have HC : Hid (∀ w', Below w.heap.size w w' → CirV w' v c) := fun w' hb => CirV.mono ⟨sn, cn, sg, cg, so, co, hv, h1, h2, h3, hl1, hl2, hl3⟩ hb
  subst hv
  clear h1 h2 h3
  have hL : Below w.heap.size w (w.alloc (.cells #[.int .i64 c.inp, .slice sn c.next.length cn, .slice sg c.gates.length cg, .slice so c.outs.length co] 26)) := by go_grown
  have HL := Lib.hid hL
  clear hL
  cases hv : c.validB
  · have hf : canScanB c = false := by simp [canScanB, hv]
    rw [hf]
    clear hf
    go_enter Try.func16, Try.ntmps16
    go_wp2_with (go_at_call 18; ((with_reducible refine (CircuitValid_i _ _ _ (HC.out _ HL.out)).mono ?_); rintro e w1 ⟨rfl, hq⟩; have HQ := Lib.hid hq; obtain ⟨hc, hf⟩ := bcell hq; clear hq; rw [hv]))
    go_ret
    exact ⟨rfl, HL.out.trans (HQ.out.mono (by simp))⟩
  · obtain ⟨ha, hb, hc, hd, he⟩ := Cir.small hv
    have hf : canScanB c = decide ((1 : Int) ≤ c.next.length ∧ c.inp ≤ 2 ∧ c.outs.length < 3 ∧ c.gates.length + 3 * c.next.length ≤ 14) := by simp [canScanB, hv]
    have HF := Lib.hid hf
    clear hf
    go_enter Try.func16, Try.ntmps16
    go_wp2_with (go_at_call 18; ((with_reducible refine (CircuitValid_i _ _ _ (HC.out _ HL.out)).mono ?_); rintro e w1 ⟨rfl, hq⟩; have HQ := Lib.hid hq; obtain ⟨hcc, hff⟩ := bcell hq; clear hq; rw [hv]))
    all_goals go_ret
    all_goals refine ⟨ret_bool ?_, HL.out.trans (HQ.out.mono (by simp))⟩
    all_goals rw [HF.out]
    all_goals rw [Bool.eq_iff_iff]
    all_goals first | (simp; omega) | (simp at *; omega)

theorem CanScan_s (v : Value) (c : Cir) (w : World) (h : CirV w v c) :
    Calls Try.prog 17 #[v] w fun e w' => e = .returned (.bool (canScanB c)) ∧ Below w.heap.size w w' := by
  obtain ⟨sn, cn, sg, cg, so, co, hv, h1, h2, h3, hl1, hl2, hl3⟩ := h
  have HC : Hid (∀ w', Below w.heap.size w w' → CirV w' v c) := fun w' hb => CirV.mono ⟨sn, cn, sg, cg, so, co, hv, h1, h2, h3, hl1, hl2, hl3⟩ hb
  subst hv
  clear h1 h2 h3
  have hL : Below w.heap.size w (w.alloc (.cells #[.int .i64 c.inp, .slice sn c.next.length cn, .slice sg c.gates.length cg, .slice so c.outs.length co] 26)) := by go_grown
  have HL := Lib.hid hL
  clear hL
  cases hv : c.validB
  · have hf : canScanB c = false := by simp [canScanB, hv]
    rw [hf]
    clear hf
    go_enter Try.func17, Try.ntmps17
    go_wp2_with (go_at_call 47; ((with_reducible refine (CircuitValid_s _ _ _ (HC.out _ HL.out)).mono ?_); rintro e w1 ⟨rfl, hq⟩; have HQ := Lib.hid hq; obtain ⟨hc, hf⟩ := bcell hq; clear hq; rw [hv]))
    go_ret
    exact ⟨rfl, HL.out.trans (HQ.out.mono (by simp))⟩
  · obtain ⟨ha, hb, hc, hd, he⟩ := Cir.small hv
    have hf : canScanB c = decide ((1 : Int) ≤ c.next.length ∧ c.inp ≤ 2 ∧ c.outs.length < 3 ∧ c.gates.length + 3 * c.next.length ≤ 14) := by simp [canScanB, hv]
    have HF := Lib.hid hf
    clear hf
    go_enter Try.func17, Try.ntmps17
    go_wp2_with (go_at_call 47; ((with_reducible refine (CircuitValid_s _ _ _ (HC.out _ HL.out)).mono ?_); rintro e w1 ⟨rfl, hq⟩; have HQ := Lib.hid hq; obtain ⟨hcc, hff⟩ := bcell hq; clear hq; rw [hv]))
    all_goals go_ret
    all_goals refine ⟨ret_bool ?_, HL.out.trans (HQ.out.mono (by simp))⟩
    all_goals rw [HF.out]
    all_goals rw [Bool.eq_iff_iff]
    all_goals first | (simp; omega) | (simp at *; omega)

theorem CirAt.drewN {w : World} {b : Nat} {inp : Int} {vn vg vo : Value} (h : CirAt w b inp vn vg vo) (n : Nat) : CirAt (w.drewN n) b inp vn vg vo := ⟨h.h0, h.h1, h.h2, h.h3⟩

theorem isLatch_any (b : Nat) (inp : Int) (sn : Option Addr) (nn cn : Nat) (vg vo : Value) (v : Int) (w : World) (h : CirAt w b inp (.slice sn nn cn) vg vo) (hi : -1000000 ≤ inp ∧ inp ≤ 1000000) (hn : nn ≤ 1048576) :
    Calls Try.prog 110 #[.pointer (some ⟨b, 0, none⟩), .int .i64 v] w fun e w' => e = .returned (.bool (decide (inp < v ∧ v < 1 + inp + nn))) ∧ Drew w w' := by
  have HC : Hid (∀ n, CirAt (w.drewN n) b inp (.slice sn nn cn) vg vo) := fun n => ⟨h.h0, h.h1, h.h2, h.h3⟩
  have H := h
  obtain ⟨h0, h1, h2, h3⟩ := h
  by_cases hc : inp < v
  · go_enter Try.func110, Try.ntmps110
    go_wp2_with (go_at_call 83; ((with_reducible refine (firstGate_any _ _ _ _ _ _ _ _ H hi hn).mono ?_); rintro e w' ⟨rfl, n, rfl⟩))
    go_ret
    exact ⟨ret_bool (by simp [hc]), _, rfl⟩
  · go_enter Try.func110, Try.ntmps110
    go_wp2
    go_ret
    exact ⟨ret_bool (by simp; omega), Drew.refl _⟩

theorem l20Latch_any (inp : Int) (sn : Option Addr) (nn cn : Nat) (vg vo : Value) (l : Int) (w : World) (hi : -1000000 ≤ inp ∧ inp ≤ 1000000) (hn : nn ≤ 1048576) (hl : 0 ≤ l) (hl2 : l ≤ 1000000000) :
    Calls Try.prog 89 #[.agg #[.int .i64 inp, .slice sn nn cn, vg, vo], .int .i64 l] w fun e w' => e = .returned (.bool (decide (inp < l / 2 ∧ l / 2 < 1 + inp + nn))) ∧ Below w.heap.size w w' := by
  obtain ⟨hi1, hi2⟩ := hi
  go_enter Try.func89, Try.ntmps89
  go_wp2_with (go_at_call 88; refine (l1In_any _ _ _ _).mono ?_; rintro e w' ⟨rfl, rfl⟩)
  go_ret
  refine ⟨ret_bool (by rw [Bool.eq_iff_iff]; simp; omega), by go_grown⟩

end Go.Proofs.Ytddmgphlhfilnab
