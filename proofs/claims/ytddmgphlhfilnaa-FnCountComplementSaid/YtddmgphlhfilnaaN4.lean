import Derived.Test.YtddmgphlhfilnaaN3
import Derived.Test.YtddmgphlhfilnaaA6
namespace Go.Proofs.Ytddmgphlhfilnaa
set_option linter.unusedVariables false
set_option linter.unusedSimpArgs false
open Go.RowKit

/-! EvalBdd, both. -/

def evalN (ns : List Nd) (x : Int) : Nat → Nat → Nat
  | 0, a => a
  | f + 1, a => if 1 < a then evalN ns x f (if x / 2 ^ ((ns.getD a default).v).toNat % 2 = 1 then (ns.getD a default).hi.toNat else (ns.getD a default).lo.toNat) else a
theorem evalN_end (ns : List Nd) (x : Int) (f a : Nat) (h : ¬ 1 < a) : evalN ns x f a = a := by
  cases f with
  | zero => rfl
  | succ f => unfold evalN; rw [if_neg h]
theorem evalN_hi {ns : List Nd} {x : Int} {f a : Nat} {g : Nd} (hg : ns[a]? = some g) (h : 1 < a) (hb : x / 2 ^ g.v.toNat % 2 = 1) : evalN ns x (f + 1) a = evalN ns x f g.hi.toNat := by
  show (if 1 < a then _ else _) = _
  rw [if_pos h, getD_of hg, if_pos hb]
theorem evalN_lo {ns : List Nd} {x : Int} {f a : Nat} {g : Nd} (hg : ns[a]? = some g) (h : 1 < a) (hb : ¬ x / 2 ^ g.v.toNat % 2 = 1) : evalN ns x (f + 1) a = evalN ns x f g.lo.toNat := by
  show (if 1 < a then _ else _) = _
  rw [if_pos h, getD_of hg, if_neg hb]
def Bd.evalB (d : Bd) (x : Int) : Bool := d.validB && (decide (0 ≤ x) && decide (evalN d.nodes x 1000 d.root.toNat = 1))
theorem evalB_inv {d : Bd} {x : Int} (h : d.validB = false) : d.evalB x = false := by simp [Bd.evalB, h]
theorem evalB_neg {d : Bd} {x : Int} (h : ¬ 0 ≤ x) : d.evalB x = false := by simp [Bd.evalB, h]
theorem evalB_eq {d : Bd} {x : Int} (h : d.validB = true) (hx : 0 ≤ x) : d.evalB x = decide (evalN d.nodes x 1000 d.root.toNat = 1) := by simp [Bd.evalB, h, hx]
theorem shr_bd (x v : Int) (h0 : 0 ≤ x) (h1 : x ≤ 9223372036854775807) : 0 ≤ x / 2 ^ v.toNat ∧ x / 2 ^ v.toNat ≤ 9223372036854775807 := by
  have hp : (0 : Int) < 2 ^ v.toNat := Int.pow_pos (by decide)
  exact ⟨Int.ediv_nonneg h0 (by omega), Int.le_trans (Int.ediv_le_self _ h0) h1⟩
theorem validB_at {d : Bd} (h : d.validB = true) {a : Nat} {g : Nd} (hg : d.nodes[a]? = some g) (ha : 2 ≤ a) : okAt d.nodes a g := by
  have := ((d.validB_iff).1 h).2 a (List.getElem?_eq_some_iff.1 hg).1 ha
  rwa [getD_of hg] at this

set_option maxHeartbeats 800000 in
theorem EvalBdd_s (v : Value) (d : Bd) (x : Int) (w : World) (h : BdV w v d) (hx : -9223372036854775808 ≤ x ∧ x ≤ 9223372036854775807) :
    Calls Try.prog 20 #[v, .int .i64 x] w fun e w' => e = .returned (.bool (d.evalB x)) ∧ Below w.heap.size w w' := by
  have HV := Lib.hid h
  obtain ⟨sn, cn, rfl, h1, hl, hcl, hc63⟩ := h
  have hL : Below w.heap.size w (w.alloc (.cells #[.slice sn d.nodes.length cn, .int .i64 d.root] 25)) := by go_grown
  have hN := blk_new w (.cells #[.slice sn d.nodes.length cn, .int .i64 d.root] 25)
  have HL := Lib.hid (And.intro hL (And.intro hN h1))
  clear hL hN h1
  obtain ⟨hx1, hx2⟩ := hx
  cases hv : d.validB
  · rw [evalB_inv hv]
    have HE := Lib.hid hv
    clear hv
    go_enter Try.func20, Try.ntmps20
    go_wp2_with (go_at_call 17; ((with_reducible refine (BddValid_s _ _ _ (HV.out.mono HL.out.1)).mono ?_); rintro e w1 ⟨rfl, hq⟩; have HQ := Lib.hid hq; clear hq; rw [HE.out]))
    go_ret
    exact ⟨rfl, HL.out.1.trans (HQ.out.mono (by simp))⟩
  · by_cases h0 : 0 ≤ x
    · rw [evalB_eq hv h0]
      have HE := Lib.hid hv
      obtain ⟨R, hR⟩ : ∃ R, R = evalN d.nodes x 1000 d.root.toNat := ⟨_, rfl⟩
      rw [← hR]
      have hd := (d.validB_iff.1 hv).1
      have r0 := hd.r0
      have r1 := hd.r1
      have r2 := hd.l1000
      have HR := Lib.hid hR
      clear hv hR hd
      go_enter Try.func20, Try.ntmps20
      go_wp2_with (go_at_call 17; ((with_reducible refine (BddValid_s _ _ _ (HV.out.mono HL.out.1)).mono ?_); rintro e w1 ⟨rfl, hq⟩; have W1 := Lib.hid (And.intro (blk_below hq (by simp) HL.out.2.1) (HL.out.1.trans (hq.mono (by simp)))); have ca := (blk_all W1.out.1).1; clear hq; rw [HE.out]))
      go_loop [5] (fun s => ∃ a f : Nat, s = .int .i64 a ∧ a < d.nodes.length ∧ a ≤ f ∧ evalN d.nodes x f a = R) (fun s => (intOf s).toNat)
      case atStart => exact ⟨d.root.toNat, 1000, by rw [Int.toNat_of_nonneg r0], by omega, by omega, HR.out.symm⟩
      case round =>
        obtain ⟨a, f, rfl, ha, hf, he⟩ := hrel
        have HF := Lib.hid he
        clear he
        by_cases h1 : 1 < a
        · obtain ⟨g, hg⟩ := get_of_lt ha
          obtain ⟨b, off, rfl, hbw, z1, z2, z3⟩ := HL.out.2.2.node W1.out.2 hg
          obtain ⟨⟨p1, p2, p3, p4, p5, p6, -⟩, -, -, -⟩ := validB_at HE.out hg h1
          obtain ⟨q1, q2⟩ := shr_bd x g.v h0 hx2
          have HG := Lib.hid hg
          clear hg
          obtain ⟨f, rfl⟩ : ∃ f', f = f' + 1 := ⟨f - 1, by omega⟩
          go_wp2
          all_goals
            go_round
            case rel =>
              first
                | exact ⟨g.hi.toNat, f, by rw [Int.toNat_of_nonneg p5], by omega, by omega, by rw [← HF.out]; exact (evalN_hi HG.out h1 (by simp at *; assumption)).symm⟩
                | exact ⟨g.lo.toNat, f, by rw [Int.toNat_of_nonneg p3], by omega, by omega, by rw [← HF.out]; exact (evalN_lo HG.out h1 (by simp at *; omega)).symm⟩
            case measure => simp [intOf]; omega
        · go_wp2
          go_ret
          refine ⟨ret_bool ?_, W1.out.2⟩
          rw [← HF.out, evalN_end _ _ _ _ h1, Bool.eq_iff_iff]
          simp
          omega
    · rw [evalB_neg h0]
      have HE := Lib.hid hv
      clear hv
      go_enter Try.func20, Try.ntmps20
      go_wp2_with (go_at_call 17; ((with_reducible refine (BddValid_s _ _ _ (HV.out.mono HL.out.1)).mono ?_); rintro e w1 ⟨rfl, hq⟩; have HQ := Lib.hid hq; clear hq; rw [HE.out]))
      go_ret
      exact ⟨rfl, HL.out.1.trans (HQ.out.mono (by simp))⟩

set_option maxHeartbeats 800000 in
theorem EvalBdd_i (v : Value) (d : Bd) (x : Int) (w : World) (h : BdV w v d) (hx : -9223372036854775808 ≤ x ∧ x ≤ 9223372036854775807) :
    Calls Try.prog 19 #[v, .int .i64 x] w fun e w' => e = .returned (.bool (d.evalB x)) ∧ Below w.heap.size w w' := by
  have HV := Lib.hid h
  obtain ⟨sn, cn, rfl, h1, hl, hcl, hc63⟩ := h
  have hL : Below w.heap.size w (w.alloc (.cells #[.slice sn d.nodes.length cn, .int .i64 d.root] 25)) := by go_grown
  have hN := blk_new w (.cells #[.slice sn d.nodes.length cn, .int .i64 d.root] 25)
  have HL := Lib.hid (And.intro hL (And.intro hN h1))
  clear hL hN h1
  obtain ⟨hx1, hx2⟩ := hx
  cases hv : d.validB
  · rw [evalB_inv hv]
    have HE := Lib.hid hv
    clear hv
    go_enter Try.func19, Try.ntmps19
    go_wp2_with (go_at_call 16; ((with_reducible refine (BddValid_i _ _ _ (HV.out.mono HL.out.1)).mono ?_); rintro e w1 ⟨rfl, hq⟩; have HQ := Lib.hid hq; clear hq; rw [HE.out]))
    go_ret
    exact ⟨rfl, HL.out.1.trans (HQ.out.mono (by simp))⟩
  · by_cases h0 : 0 ≤ x
    · rw [evalB_eq hv h0]
      have HE := Lib.hid hv
      obtain ⟨R, hR⟩ : ∃ R, R = evalN d.nodes x 1000 d.root.toNat := ⟨_, rfl⟩
      rw [← hR]
      have hd := (d.validB_iff.1 hv).1
      have r0 := hd.r0
      have r1 := hd.r1
      have r2 := hd.l1000
      have HR := Lib.hid hR
      clear hv hR hd
      go_enter Try.func19, Try.ntmps19
      go_wp2_with (go_at_call 16; ((with_reducible refine (BddValid_i _ _ _ (HV.out.mono HL.out.1)).mono ?_); rintro e w1 ⟨rfl, hq⟩; have W1 := Lib.hid (And.intro (blk_below hq (by simp) HL.out.2.1) (HL.out.1.trans (hq.mono (by simp)))); have ca := (blk_all W1.out.1).1; clear hq; rw [HE.out]))
      go_loopw [5] (fun s wr => (∃ a f : Nat, s = .int .i64 a ∧ a < d.nodes.length ∧ a ≤ f ∧ evalN d.nodes x f a = R) ∧ Below w1.heap.size w1 wr) (fun s _ => (intOf s).toNat)
      case atStart => exact ⟨⟨d.root.toNat, 1000, by rw [Int.toNat_of_nonneg r0], by omega, by omega, HR.out.symm⟩, Below.refl _ _⟩
      case round =>
        obtain ⟨⟨a, f, rfl, ha, hf, he⟩, hbl⟩ := hrel
        have HF := Lib.hid he
        have WR := Lib.hid (And.intro (blk_below hbl (blk_lt W1.out.1) W1.out.1) (And.intro (W1.out.2.trans (hbl.mono W1.out.2.size)) hbl))
        have ca2 := (blk_all WR.out.1).1
        have hsl := blk_lt WR.out.1
        clear he hbl
        by_cases h1 : 1 < a
        · obtain ⟨g, hg⟩ := get_of_lt ha
          obtain ⟨b, off, rfl, hbw, z1, z2, z3⟩ := HL.out.2.2.node WR.out.2.1 hg
          obtain ⟨⟨p1, p2, p3, p4, p5, p6, -⟩, -, -, -⟩ := validB_at HE.out hg h1
          obtain ⟨q1, q2⟩ := shr_bd x g.v h0 hx2
          have HG := Lib.hid hg
          clear hg
          have hand := i64_and1 (x / 2 ^ g.v.toNat)
          obtain ⟨f, rfl⟩ : ∃ f', f = f' + 1 := ⟨f - 1, by omega⟩
          go_wp2
          all_goals
            go_roundw
            case rel =>
              first
                | exact ⟨⟨g.hi.toNat, f, by rw [Int.toNat_of_nonneg p5], by omega, by omega, by rw [← HF.out]; exact (evalN_hi HG.out h1 (by simp at *; assumption)).symm⟩, WR.out.2.2.alloc WR.out.2.2.size _⟩
                | exact ⟨⟨g.lo.toNat, f, by rw [Int.toNat_of_nonneg p3], by omega, by omega, by rw [← HF.out]; exact (evalN_lo HG.out h1 (by simp at *; omega)).symm⟩, WR.out.2.2.alloc WR.out.2.2.size _⟩
            case measure => simp [intOf]; omega
        · go_wp2
          go_ret
          refine ⟨ret_bool ?_, WR.out.2.1⟩
          rw [← HF.out, evalN_end _ _ _ _ h1, Bool.eq_iff_iff]
          simp
          omega
    · rw [evalB_neg h0]
      have HE := Lib.hid hv
      clear hv
      go_enter Try.func19, Try.ntmps19
      go_wp2_with (go_at_call 16; ((with_reducible refine (BddValid_i _ _ _ (HV.out.mono HL.out.1)).mono ?_); rintro e w1 ⟨rfl, hq⟩; have HQ := Lib.hid hq; clear hq; rw [HE.out]))
      go_ret
      exact ⟨rfl, HL.out.1.trans (HQ.out.mono (by simp))⟩

end Go.Proofs.Ytddmgphlhfilnaa
