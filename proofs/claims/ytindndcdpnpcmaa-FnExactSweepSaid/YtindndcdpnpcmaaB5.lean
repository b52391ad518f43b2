import Derived.Test.YtindndcdpnpcmaaB4
namespace Go.Proofs.Ytindndcdpnpcmaa
set_option linter.unusedVariables false
set_option linter.unusedSimpArgs false
open Go.RowKit

theorem bcell {W w1 : World} (hb : Below W.heap.size W w1) : (∀ b o, b < W.heap.size → w1.cell? ⟨b, o, none⟩ = W.cell? ⟨b, o, none⟩) ∧ (∀ b o, b < W.heap.size → w1.frozen? ⟨b, o, none⟩ = W.frozen? ⟨b, o, none⟩) :=
  ⟨fun b o h => hb.cell (p := ⟨b, o, none⟩) h, fun b o h => hb.frozen (p := ⟨b, o, none⟩) h⟩

def cirB (x y : Cir) : Bool := decide (x.inp = y.inp) && (decide (x.next = y.next) && (decide (x.gates = y.gates) && decide (x.outs = y.outs)))
theorem cirB_self (x : Cir) : cirB x x = true := by simp [cirB]
theorem cirB_iff (x y : Cir) : cirB x y = true ↔ x = y := by
  simp only [cirB, Bool.and_eq_true, decide_eq_true_eq]
  exact ⟨fun h => Cir.ext' h.1 h.2.1 h.2.2.1 h.2.2.2, fun h => by rw [h]; exact ⟨rfl, rfl, rfl, rfl⟩⟩

set_option maxHeartbeats 400000 in
theorem eqCircuit_any (u v : Value) (x y : Cir) (w : World) (hx : CirV w u x) (hy : CirV w v y) :
    Calls Try.prog 19 #[u, v] w fun e w' => e = .returned (.bool (cirB x y)) ∧ Below w.heap.size w w' := by
  obtain ⟨sn, cn, sg, cg, so, co, rfl, h1, h2, h3, hl1, hl2, hl3⟩ := hx
  obtain ⟨sn', cn', sg', cg', so', co', rfl, k1, k2, k3, ml1, ml2, ml3⟩ := hy
  have HS := Lib.hid (And.intro (And.intro h1 (And.intro h2 h3)) (And.intro k1 (And.intro k2 k3)))
  clear h1 h2 h3 k1 k2 k3
  have hL : Below w.heap.size w ((w.alloc (.cells #[.int .i64 x.inp, .slice sn x.next.length cn, .slice sg x.gates.length cg, .slice so x.outs.length co] 29)).alloc (.cells #[.int .i64 y.inp, .slice sn' y.next.length cn', .slice sg' y.gates.length cg', .slice so' y.outs.length co'] 29)) := by go_grown
  have HL := Lib.hid hL
  clear hL
  go_enter Try.func19, Try.ntmps19
  go_wp2_with (first
    | (go_at_call 61; ((with_reducible refine (eqIntS_any sn sn' _ _ _ _ _ (HS.out.1.1.mono HL.out) (HS.out.2.1.mono HL.out) hl1 ml1).mono ?_); rintro e w' ⟨rfl, n1, rfl⟩))
    | (go_at_call 62; ((with_reducible refine (eqGateS_any sg sg' _ _ _ _ _ (HS.out.1.2.1.mono (below_n HL.out _)) (HS.out.2.2.1.mono (below_n HL.out _)) hl2 ml2).mono ?_); rintro e w1 ⟨rfl, hq⟩; have HQ := Lib.hid hq; obtain ⟨hc, hf⟩ := bcell hq; clear hq))
    | (go_at_call 61; ((with_reducible refine (eqIntS_any so so' _ _ _ _ _ (HS.out.1.2.2.mono ((below_n HL.out _).trans (HQ.out.mono (by simp; omega)))) (HS.out.2.2.2.mono ((below_n HL.out _).trans (HQ.out.mono (by simp; omega)))) hl3 ml3).mono ?_); rintro e w' ⟨rfl, n2, rfl⟩)))
  all_goals go_ret
  all_goals refine ⟨ret_bool (by unfold cirB; simp at *; simp [*]), ?_⟩
  all_goals first
    | exact HL.out
    | exact below_n HL.out _
    | exact (below_n HL.out _).trans (HQ.out.mono (by simp; omega))
    | exact below_n ((below_n HL.out _).trans (HQ.out.mono (by simp; omega))) _

theorem Cir.small {c : Cir} (h : c.validB = true) : c.limits := (c.validB_iff.1 h).lim

def canScanB (c : Cir) : Bool := c.validB && decide ((1 : Int) ≤ c.next.length ∧ c.inp ≤ 2 ∧ c.outs.length < 3 ∧ c.gates.length + 3 * c.next.length ≤ 14)

theorem CirAt.drewN {w : World} {b : Nat} {inp : Int} {vn vg vo : Value} (h : CirAt w b inp vn vg vo) (n : Nat) : CirAt (w.drewN n) b inp vn vg vo := ⟨h.h0, h.h1, h.h2, h.h3⟩

end Go.Proofs.Ytindndcdpnpcmaa
