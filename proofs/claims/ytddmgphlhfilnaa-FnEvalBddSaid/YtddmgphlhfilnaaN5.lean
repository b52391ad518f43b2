import Derived.Test.YtddmgphlhfilnaaN3
import Derived.Test.YtddmgphlhfilnaaA6
namespace Go.Proofs.Ytddmgphlhfilnaa
set_option linter.unusedVariables false
set_option linter.unusedSimpArgs false
open Go.RowKit

/-! EvalBdd, both. -/

def evalN (ns : List Nd) (x : Int) : Nat → Nat → Nat
  | 0, a => a
  | f + 1, a => if 1 < a then evalN ns x f (if x / 2 ^ ((ns.getD a default).v).toNat % 2 = 1 then (ns.getD a default).hi.toNat else (ns.getD a default).lo.toNat) else a
theorem evalN_end (ns : List Nd) (x : Int) (f a : Nat) (h : ¬ 1 < a) : evalN ns x f a = a := by
  cases f with
  | zero => rfl
  | succ f => unfold evalN; rw [if_neg h]
theorem evalN_hi {ns : List Nd} {x : Int} {f a : Nat} {g : Nd} (hg : ns[a]? = some g) (h : 1 < a) (hb : x / 2 ^ g.v.toNat % 2 = 1) : evalN ns x (f + 1) a = evalN ns x f g.hi.toNat := by
  show (if 1 < a then _ else _) = _
  rw [if_pos h, getD_of hg, if_pos hb]
theorem evalN_lo {ns : List Nd} {x : Int} {f a : Nat} {g : Nd} (hg : ns[a]? = some g) (h : 1 < a) (hb : ¬ x / 2 ^ g.v.toNat % 2 = 1) : evalN ns x (f + 1) a = evalN ns x f g.lo.toNat := by
  show (if 1 < a then _ else _) = _
  rw [if_pos h, getD_of hg, if_neg hb]
def Bd.evalB (d : Bd) (x : Int) : Bool := d.validB && (decide (0 ≤ x) && decide (evalN d.nodes x 1000 d.root.toNat = 1))
theorem evalB_inv {d : Bd} {x : Int} (h : d.validB = false) : d.evalB x = false := by simp [Bd.evalB, h]
theorem evalB_neg {d : Bd} {x : Int} (h : ¬ 0 ≤ x) : d.evalB x = false := by simp [Bd.evalB, h]
theorem evalB_eq {d : Bd} {x : Int} (h : d.validB = true) (hx : 0 ≤ x) : d.evalB x = decide (evalN d.nodes x 1000 d.root.toNat = 1) := by simp [Bd.evalB, h, hx]
theorem shr_bd (x v : Int) (h0 : 0 ≤ x) (h1 : x ≤ 9223372036854775807) : 0 ≤ x / 2 ^ v.toNat ∧ x / 2 ^ v.toNat ≤ 9223372036854775807 := by
  have hp : (0 : Int) < 2 ^ v.toNat := Int.pow_pos (by decide)
  exact ⟨Int.ediv_nonneg h0 (by omega), Int.le_trans (Int.ediv_le_self _ h0) h1⟩
theorem validB_at {d : Bd} (h : d.validB = true) {a : Nat} {g : Nd} (hg : d.nodes[a]? = some g) (ha : 2 ≤ a) : okAt d.nodes a g := by
  have := ((d.validB_iff).1 h).2 a (List.getElem?_eq_some_iff.1 hg).1 ha
  rwa [getD_of hg] at this

set_option maxHeartbeats 800000 in
theorem EvalBdd_s (v : Value) (d : Bd) (x : Int) (w : World) (h : BdV w v d) (hx : -9223372036854775808 ≤ x ∧ x ≤ 9223372036854775807) :
    Calls Try.prog 20 #[v, .int .i64 x] w fun e w' => e = .returned (.bool (d.evalB x)) ∧ Below w.heap.size w w' := by
  have HV := Lib.hid h
  obtain ⟨sn, cn, rfl, h1, hl, hcl, hc63⟩ := h
  have hL : Below w.heap.size w (w.alloc (.cells #[.slice sn d.nodes.length cn, .int .i64 d.root] 25)) := by go_grown
  have hN := blk_new w (.cells #[.slice sn d.nodes.length cn, .int .i64 d.root] 25)
  have HL := Lib.hid (And.intro hL (And.intro hN h1))
  clear hL hN h1
  obtain ⟨hx1, hx2⟩ := hx
  cases hv : d.validB
  · rw [evalB_inv hv]
    have HE := Lib.hid hv
    clear hv
    go_enter Try.func20, Try.ntmps20
    go_wp2_with (go_at_call 17; ((with_reducible refine (BddValid_s _ _ _ (HV.out.mono HL.out.1)).mono ?_); rintro e w1 ⟨rfl, hq⟩; have HQ := Lib.hid hq; clear hq; rw [HE.out]))
    go_ret
    exact ⟨rfl, HL.out.1.trans (HQ.out.mono (by simp))⟩
  · by_cases h0 : 0 ≤ x
    · rw [evalB_eq hv h0]
      have HE := Lib.hid hv
      obtain ⟨R, hR⟩ : ∃ R, R = evalN d.nodes x 1000 d.root.toNat := ⟨_, rfl⟩
      rw [← hR]
      have hd := (d.validB_iff.1 hv).1
      have r0 := hd.r0
      have r1 := hd.r1
      have r2 := hd.l1000
      have HR := Lib.hid hR
      clear hv hR hd
      go_enter Try.func20, Try.ntmps20
      go_wp2_with (go_at_call 17; ((with_reducible refine (BddValid_s _ _ _ (HV.out.mono HL.out.1)).mono ?_); rintro e w1 ⟨rfl, hq⟩; have W1 := Lib.hid (And.intro (blk_below hq (by simp) HL.out.2.1) (HL.out.1.trans (hq.mono (by simp)))); have ca := (blk_all W1.out.1).1; clear hq; rw [HE.out]))
      go_loop [5] (fun s => ∃ a f : Nat, s = .int .i64 a ∧ a < d.nodes.length ∧ a ≤ f ∧ evalN d.nodes x f a = R) (fun s => (intOf s).toNat)
      case atStart => exact ⟨d.root.toNat, 1000, by rw [Int.toNat_of_nonneg r0], by omega, by omega, HR.out.symm⟩
      case round =>
        obtain ⟨a, f, rfl, ha, hf, he⟩ := hrel
        have HF := Lib.hid he
        clear he
        by_cases h1 : 1 < a
        · obtain ⟨g, hg⟩ := get_of_lt ha
          obtain ⟨b, off, rfl, hbw, z1, z2, z3⟩ := HL.out.2.2.node W1.out.2 hg
          obtain ⟨⟨p1, p2, p3, p4, p5, p6, -⟩, -, -, -⟩ := validB_at HE.out hg h1
          obtain ⟨q1, q2⟩ := shr_bd x g.v h0 hx2
          have HG := Lib.hid hg
          clear hg
          obtain ⟨f, rfl⟩ : ∃ f', f = f' + 1 := ⟨f - 1, by omega⟩
          go_wp2
          all_goals
            go_round
            case rel =>
              first
                | exact ⟨g.hi.toNat, f, by rw [Int.toNat_of_nonneg p5], by omega, by omega, by rw [← HF.out]; exact (evalN_hi HG.out h1 (by simp at *; assumption)).symm⟩
                | exact ⟨g.lo.toNat, f, by rw [Int.toNat_of_nonneg p3], by omega, by omega, by rw [← HF.out]; exact (evalN_lo HG.out h1 (by simp at *; omega)).symm⟩
            case measure => simp [intOf]; omega
        · go_wp2
          go_ret
          refine ⟨ret_bool ?_, W1.out.2⟩
          rw [← HF.out, evalN_end _ _ _ _ h1, Bool.eq_iff_iff]
          simp
          omega
    · rw [evalB_neg h0]
      have HE := Lib.hid hv
      clear hv
      go_enter Try.func20, Try.ntmps20
      go_wp2_with (go_at_call 17; ((with_reducible refine (BddValid_s _ _ _ (HV.out.mono HL.out.1)).mono ?_); rintro e w1 ⟨rfl, hq⟩; have HQ := Lib.hid hq; clear hq; rw [HE.out]))
      go_ret
      exact ⟨rfl, HL.out.1.trans (HQ.out.mono (by simp))⟩

set_option maxHeartbeats 800000 in
theorem EvalBdd_i (v : Value) (d : Bd) (x : Int) (w : World) (h : BdV w v d) (hx : -9223372036854775808 ≤ x ∧ x ≤ 9223372036854775807) :
    Calls Try.prog 19 #[v, .int .i64 x] w fun e w' => e = .returned (.bool (d.evalB x)) ∧ Below w.heap.size w w' := by
  have HV := Lib.hid h
  obtain ⟨sn, cn, rfl, h1, hl, hcl, hc63⟩ := h
  have hL : Below w.heap.size w (w.alloc (.cells #[.slice sn d.nodes.length cn, .int .i64 d.root] 25)) := by go_grown
  have hN := blk_new w (.cells #[.slice sn d.nodes.length cn, .int .i64 d.root] 25)
  have HL := Lib.hid (And.intro hL (And.intro hN h1))
  clear hL hN h1
  obtain ⟨hx1, hx2⟩ := hx
  cases hv : d.validB
  · rw [evalB_inv hv]
    have HE := Lib.hid hv
    clear hv
    go_enter Try.func19, Try.ntmps19
    go_wp2_with (go_at_call 16; ((with_reducible refine (BddValid_i _ _ _ (HV.out.mono HL.out.1)).mono ?_); rintro e w1 ⟨rfl, hq⟩; have HQ := Lib.hid hq; clear hq; rw [HE.out]))
    go_ret
    exact ⟨rfl, HL.out.1.trans (HQ.out.mono (by simp))⟩
  · by_cases h0 : 0 ≤ x
    · rw [evalB_eq hv h0]
      have HE := Lib.hid hv
      obtain ⟨R, hR⟩ : ∃ R, R = evalN d.nodes x 1000 d.root.toNat := ⟨_, rfl⟩
      rw [← hR]
      have hd := (d.validB_iff.1 hv).1
      have r0 := hd.r0
      have r1 := hd.r1
      have r2 := hd.l1000
      have HR := Lib.hid hR
      clear hv hR hd
      go_enter Try.func19, Try.ntmps19
      go_wp2_with (go_at_call 16; ((with_reducible refine (BddValid_i _ _ _ (HV.out.mono HL.out.1)).mono ?_); rintro e w1 ⟨rfl, hq⟩; have W1 := Lib.hid (And.intro (blk_below hq (by simp) HL.out.2.1) (HL.out.1.trans (hq.mono (by simp)))); have ca := (blk_all W1.out.1).1; clear hq; rw [HE.out]))
      go_loopw [5] (fun s wr => (∃ a f : Nat, s = .int .i64 a ∧ a < d.nodes.length ∧ a ≤ f ∧ evalN d.nodes x f a = R) ∧ Below w1.heap.size w1 wr) (fun s _ => (intOf s).toNat)
      case atStart => exact ⟨⟨d.root.toNat, 1000, by rw [Int.toNat_of_nonneg r0], by omega, by omega, HR.out.symm⟩, Below.refl _ _⟩
      case round =>
        obtain ⟨⟨a, f, rfl, ha, hf, he⟩, hbl⟩ := hrel
        have HF := Lib.hid he
        have WR := Lib.hid (And.intro (blk_below hbl (blk_lt W1.out.1) W1.out.1) (And.intro (W1.out.2.trans (hbl.mono W1.out.2.size)) hbl))
        have ca2 := (blk_all WR.out.1).1
        have hsl := blk_lt WR.out.1
        clear he hbl
        by_cases h1 : 1 < a
        · obtain ⟨g, hg⟩ := get_of_lt ha
          obtain ⟨b, off, rfl, hbw, z1, z2, z3⟩ := HL.out.2.2.node WR.out.2.1 hg
          obtain ⟨⟨p1, p2, p3, p4, p5, p6, -⟩, -, -, -⟩ := validB_at HE.out hg h1
          obtain ⟨q1, q2⟩ := shr_bd x g.v h0 hx2
          have HG := Lib.hid hg
          clear hg
          have hand := i64_and1 (x / 2 ^ g.v.toNat)
          obtain ⟨f, rfl⟩ : ∃ f', f = f' + 1 := ⟨f - 1, by omega⟩
          go_wp2
          all_goals
            go_roundw
            case rel =>
              first
                | exact ⟨⟨g.hi.toNat, f, by rw [Int.toNat_of_nonneg p5], by omega, by omega, by rw [← HF.out]; exact (evalN_hi HG.out h1 (by simp at *; assumption)).symm⟩, WR.out.2.2.alloc WR.out.2.2.size _⟩
                | exact ⟨⟨g.lo.toNat, f, by rw [Int.toNat_of_nonneg p3], by omega, by omega, by rw [← HF.out]; exact (evalN_lo HG.out h1 (by simp at *; omega)).symm⟩, WR.out.2.2.alloc WR.out.2.2.size _⟩
            case measure => simp [intOf]; omega
        · go_wp2
          go_ret
          refine ⟨ret_bool ?_, WR.out.2.1⟩
          rw [← HF.out, evalN_end _ _ _ _ h1, Bool.eq_iff_iff]
          simp
          omega
    · rw [evalB_neg h0]
      have HE := Lib.hid hv
      clear hv
      go_enter Try.func19, Try.ntmps19
      go_wp2_with (go_at_call 16; ((with_reducible refine (BddValid_i _ _ _ (HV.out.mono HL.out.1)).mono ?_); rintro e w1 ⟨rfl, hq⟩; have HQ := Lib.hid hq; clear hq; rw [HE.out]))
      go_ret
      exact ⟨rfl, HL.out.1.trans (HQ.out.mono (by simp))⟩

/-! CountBdd, both. -/

def Bd.under (d : Bd) (n : Int) (m : Nat) : Prop := ∀ i, i < m → 2 ≤ i → (d.nodes.getD i default).v < n
instance (d : Bd) (n : Int) (m : Nat) : Decidable (d.under n m) := inferInstanceAs (Decidable (∀ i, i < m → _))
theorem under_two (d : Bd) (n : Int) : d.under n 2 := by intro i h1 h2; omega
theorem under_snoc {d : Bd} {n : Int} {k : Nat} {x : Nd} (h : d.under n k) (hx : d.nodes[k]? = some x) (h1 : x.v < n) : d.under n (k + 1) := by
  intro i hi h2
  by_cases e : i = k
  · subst e; rw [getD_of hx]; exact h1
  · exact h i (by omega) h2
def cntB (d : Bd) (m : Nat) : Nat := ((List.range m).filter fun (x : Nat) => d.evalB (x : Int)).length
theorem cntB_zero (d : Bd) : cntB d 0 = 0 := rfl
theorem cntB_succ (d : Bd) (m : Nat) : cntB d (m + 1) = cntB d m + if d.evalB (m : Int) then 1 else 0 := by
  unfold cntB
  rw [List.range_succ, List.filter_append]
  by_cases h : d.evalB (m : Int) <;> simp [h]
theorem cntB_le (d : Bd) (m : Nat) : cntB d m ≤ m := by
  unfold cntB
  have := List.length_filter_le (fun (x : Nat) => d.evalB (x : Int)) (List.range m)
  simpa using this
def Bd.fine (d : Bd) (n : Int) : Prop := d.validB = true ∧ 0 ≤ n ∧ n ≤ 7 ∧ d.under n d.nodes.length
instance (d : Bd) (n : Int) : Decidable (d.fine n) := inferInstanceAs (Decidable (_ ∧ _))
def Bd.count (d : Bd) (n : Int) : Int := if d.fine n then (cntB d (2 ^ n.toNat) : Int) else -1
theorem count_no {d : Bd} {n : Int} (h : ¬ d.fine n) : d.count n = -1 := by unfold Bd.count; rw [if_neg h]
theorem count_yes {d : Bd} {n : Int} (h : d.fine n) : d.count n = cntB d (2 ^ n.toNat) := by unfold Bd.count; rw [if_pos h]
theorem pow_n {n : Int} (h0 : 0 ≤ n) (h7 : n ≤ 7) : ∃ P : Nat, 2 ^ n.toNat = P ∧ (2 : Int) ^ n.toNat = (P : Int) ∧ 1 ≤ P ∧ P ≤ 128 := by
  have : n.toNat ≤ 7 := by omega
  have hl : 2 ^ n.toNat ≤ 2 ^ 7 := Nat.pow_le_pow_right (by omega) this
  have hp : 0 < 2 ^ n.toNat := Nat.pow_pos (by omega)
  exact ⟨2 ^ n.toNat, rfl, by simp, by omega, by omega⟩

set_option maxHeartbeats 800000 in
theorem CountBdd_s (v : Value) (d : Bd) (n : Int) (w : World) (h : BdV w v d) (hx : -9223372036854775808 ≤ n ∧ n ≤ 9223372036854775807) :
    Calls Try.prog 24 #[v, .int .i64 n] w fun e w' => e = .returned (.int .i64 (d.count n)) ∧ Below w.heap.size w w' := by
  have HV := Lib.hid h
  obtain ⟨sn, cn, rfl, h1, hl, hcl, hc63⟩ := h
  have hL : Below w.heap.size w (w.alloc (.cells #[.slice sn d.nodes.length cn, .int .i64 d.root] 25)) := by go_grown
  have hN := blk_new w (.cells #[.slice sn d.nodes.length cn, .int .i64 d.root] 25)
  have HL := Lib.hid (And.intro hL (And.intro hN h1))
  clear hL hN h1
  obtain ⟨hx1, hx2⟩ := hx
  cases hv : d.validB
  · have e : d.count n = -1 := count_no fun h => by rw [h.1] at hv; cases hv
    rw [e]
    have HE := Lib.hid hv
    clear hv e
    go_enter Try.func24, Try.ntmps24
    go_wp2_with (go_at_call 17; ((with_reducible refine (BddValid_s _ _ _ (HV.out.mono HL.out.1)).mono ?_); rintro e w1 ⟨rfl, hq⟩; have HQ := Lib.hid hq; clear hq; rw [HE.out]))
    go_ret
    exact ⟨rfl, HL.out.1.trans (HQ.out.mono (by simp))⟩
  · by_cases hn : 0 ≤ n ∧ n ≤ 7
    · obtain ⟨h0, h7⟩ := hn
      have HE := Lib.hid hv
      have hd := (d.validB_iff.1 hv).1
      have r2 := hd.l1000
      have r3 := hd.l2
      obtain ⟨P, hP1, hP2, hP3, hP4⟩ := pow_n h0 h7
      have HP := Lib.hid hP1
      clear hv hd hP1
      go_enter Try.func24, Try.ntmps24
      go_wp2_with (first
        | (go_at_call 17; ((with_reducible refine (BddValid_s _ _ _ (HV.out.mono HL.out.1)).mono ?_); rintro e w1 ⟨rfl, hq⟩; have W1 := Lib.hid (And.intro (blk_below hq (by simp) HL.out.2.1) (HL.out.1.trans (hq.mono (by simp)))); have ca := (blk_all W1.out.1).1; clear hq; rw [HE.out]))
        | (go_at_call 57; refine (l1In_yes _ _ _ _ h0 h7).mono ?_; rintro e w' ⟨rfl, rfl⟩))
      go_loop [5] (fun s => ∃ k : Nat, 2 ≤ k ∧ k ≤ d.nodes.length ∧ s = .int .i64 k ∧ d.under n k) (fun s => d.nodes.length - (intOf s).toNat)
      case atStart => exact ⟨2, by omega, by omega, rfl, under_two _ _⟩
      case round =>
        obtain ⟨k, hk2, hk, rfl, hu⟩ := hrel
        have HU := Lib.hid hu
        clear hu
        by_cases hlt : k < d.nodes.length
        · obtain ⟨g, hg⟩ := get_of_lt hlt
          obtain ⟨b, off, rfl, hbw, z1, z2, z3⟩ := HL.out.2.2.node W1.out.2 hg
          have HG := Lib.hid hg
          clear hg
          go_wp2
          all_goals first
            | (go_round
               case rel => exact ⟨k + 1, by omega, by omega, by go_num, under_snoc HU.out HG.out (by omega)⟩
               case measure => simp [intOf]; omega)
            | (go_ret
               refine ⟨ret_int (count_no fun h => ?_).symm, W1.out.2⟩
               have := h.2.2.2 k hlt hk2
               rw [getD_of HG.out] at this
               omega)
        · obtain rfl : k = d.nodes.length := by omega
          have hf : d.fine n := ⟨HE.out, h0, h7, HU.out⟩
          have e := count_yes hf
          rw [HP.out] at e
          have HC := Lib.hid e
          clear e hf
          go_wp2
          go_loopw [6, 7] (fun cv xv wx => ∃ m : Nat, m ≤ P ∧ xv = .int .i64 m ∧ cv = .int .i64 (cntB d m : Int) ∧ Below w1.heap.size w1 wx) (fun _ xv _ => P - (intOf xv).toNat)
          case atStart => exact ⟨0, by omega, rfl, rfl, Below.refl _ _⟩
          case round =>
            obtain ⟨m, hm, rfl, rfl, hbl⟩ := hrel
            have hle := cntB_le d m
            have HB := Lib.hid (And.intro (blk_below hbl (blk_lt W1.out.1) W1.out.1) (And.intro (W1.out.2.trans (hbl.mono W1.out.2.size)) hbl))
            have ca2 := (blk_all HB.out.1).1
            clear hbl
            by_cases hlt2 : m < P
            · have hs := cntB_succ d m
              have HS := Lib.hid hs
              clear hs
              cases he : d.evalB (m : Int)
              all_goals
                have HEV := Lib.hid he
                clear he
                go_wp2_with (go_at_call 20; ((with_reducible refine (EvalBdd_s _ _ _ _ (HV.out.mono HB.out.2.1) (by omega)).mono ?_); rintro e w3 ⟨rfl, hq⟩; have HQ := Lib.hid hq; clear hq; rw [HEV.out]))
                go_roundw
                case rel => exact ⟨m + 1, by omega, by go_num, by rw [HS.out, HEV.out]; go_num, HB.out.2.2.trans (HQ.out.mono HB.out.2.2.size)⟩
                case measure => simp [intOf]; omega
            · obtain rfl : m = P := by omega
              go_wp2
              go_ret
              exact ⟨ret_int HC.out.symm, HB.out.2.1⟩
    · have e : d.count n = -1 := count_no fun h => hn ⟨h.2.1, h.2.2.1⟩
      rw [e]
      have HE := Lib.hid hv
      have HNN := Lib.hid hn
      clear hv e hn
      go_enter Try.func24, Try.ntmps24
      go_wp2_with (first
        | (go_at_call 17; ((with_reducible refine (BddValid_s _ _ _ (HV.out.mono HL.out.1)).mono ?_); rintro e w1 ⟨rfl, hq⟩; have HQ := Lib.hid hq; clear hq; rw [HE.out]))
        | (go_at_call 57; refine (l1In_any _ _ _ _).mono ?_; rintro e w' ⟨rfl, rfl⟩))
      all_goals first
        | (go_ret
           exact ⟨rfl, HL.out.1.trans (HQ.out.mono (by simp))⟩)
        | (exfalso; refine HNN.out ⟨?_, ?_⟩ <;> (simp at *; omega))

set_option maxHeartbeats 800000 in
theorem CountBdd_i1 (sn : Option Addr) (cn : Nat) (d : Bd) (n : Int) (w : World) (h : BdV w (.agg #[.slice sn d.nodes.length cn, .int .i64 d.root]) d) (h1 : Sl w sn (ncells d.nodes)) (hl : d.nodes.length ≤ 1048576) (hcl : d.nodes.length ≤ cn) (hc63 : cn ≤ 9223372036854775807) (hc2 : cn = 2) (hx : -9223372036854775808 ≤ n ∧ n ≤ 9223372036854775807) :
    Calls Try.prog 23 #[.agg #[.slice sn d.nodes.length cn, .int .i64 d.root], .int .i64 n] w fun e w' => e = .returned (.int .i64 (d.count n)) ∧ Below w.heap.size w w' := by
  subst hc2
  have HV := Lib.hid h
  clear h
  have hL : Below w.heap.size w (w.alloc (.cells #[.slice sn d.nodes.length 2, .int .i64 d.root] 25)) := by go_grown
  have hN := blk_new w (.cells #[.slice sn d.nodes.length 2, .int .i64 d.root] 25)
  have HL := Lib.hid (And.intro hL (And.intro hN h1))
  clear hL hN h1
  obtain ⟨hx1, hx2⟩ := hx
  cases hv : d.validB
  · have e : d.count n = -1 := count_no fun h => by rw [h.1] at hv; cases hv
    rw [e]
    have HE := Lib.hid hv
    clear hv e
    go_enter Try.func23, Try.ntmps23
    go_wp2_with (go_at_call 16; ((with_reducible refine (BddValid_i _ _ _ (HV.out.mono HL.out.1)).mono ?_); rintro e w1 ⟨rfl, hq⟩; have HQ := Lib.hid hq; clear hq; rw [HE.out]))
    go_ret
    exact ⟨rfl, HL.out.1.trans (HQ.out.mono (by simp))⟩
  · by_cases hn : 0 ≤ n ∧ n ≤ 7
    · obtain ⟨h0, h7⟩ := hn
      have HE := Lib.hid hv
      have hd := (d.validB_iff.1 hv).1
      have r2 := hd.l1000
      have r3 := hd.l2
      obtain ⟨P, hP1, hP2, hP3, hP4⟩ := pow_n h0 h7
      have HP := Lib.hid hP1
      clear hv hd hP1
      go_enter Try.func23, Try.ntmps23
      go_wp2_with (first
        | (go_at_call 16; ((with_reducible refine (BddValid_i _ _ _ (HV.out.mono HL.out.1)).mono ?_); rintro e w1 ⟨rfl, hq⟩; have W1 := Lib.hid (And.intro (blk_below hq (by simp) HL.out.2.1) (HL.out.1.trans (hq.mono (by simp)))); have ca := (blk_all W1.out.1).1; clear hq; rw [HE.out])))
      have e2 : d.nodes.length = 2 := by omega
      have hf : d.fine n := ⟨HE.out, h0, h7, by rw [e2]; exact under_two _ _⟩
      have e := count_yes hf
      rw [HP.out] at e
      have HC := Lib.hid e
      have HE2 := Lib.hid e2
      clear e hf e2
      have ez : (((d.nodes.length - 2 : Nat) : Int)) = 0 := by have := HE2.out; omega
      go_loopw [24] (fun s wr => s = .int .i64 0 ∧ wr = w1) (fun s _ => 0)
      case atStart => exact ⟨rfl, rfl⟩
      case round =>
          obtain ⟨rfl, rfl⟩ := hrel

          go_wp2
          go_loopw [7, 35] (fun cv xv wx => ∃ m : Nat, m ≤ P ∧ xv = .int .i64 m ∧ cv = .int .i64 (cntB d m : Int) ∧ Below wr.heap.size wr wx) (fun _ xv _ => P - (intOf xv).toNat)
          case atStart => exact ⟨0, by omega, rfl, rfl, Below.refl _ _⟩
          case round =>
            obtain ⟨m, hm, rfl, rfl, hbl⟩ := hrel
            have hle := cntB_le d m
            have HB := Lib.hid (And.intro (blk_below hbl (blk_lt W1.out.1) W1.out.1) (And.intro (W1.out.2.trans (hbl.mono W1.out.2.size)) hbl))
            have ca2 := (blk_all HB.out.1).1
            clear hbl
            by_cases hlt2 : m < P
            · have hs := cntB_succ d m
              have HS := Lib.hid hs
              clear hs
              cases he : d.evalB (m : Int)
              all_goals
                have HEV := Lib.hid he
                clear he
                go_wp2_with (go_at_call 19; ((with_reducible refine (EvalBdd_i _ _ _ _ (HV.out.mono HB.out.2.1) (by omega)).mono ?_); rintro e w3 ⟨rfl, hq⟩; have HQ := Lib.hid hq; clear hq; rw [HEV.out]))
                go_roundw
                case rel => exact ⟨m + 1, by omega, by go_num, by rw [HS.out, HEV.out]; go_num, HB.out.2.2.trans (HQ.out.mono HB.out.2.2.size)⟩
                case measure => simp [intOf]; omega
            · obtain rfl : m = P := by omega
              go_wp2
              go_ret
              exact ⟨ret_int HC.out.symm, HB.out.2.1⟩
    · have e : d.count n = -1 := count_no fun h => hn ⟨h.2.1, h.2.2.1⟩
      rw [e]
      have HE := Lib.hid hv
      have HNN := Lib.hid hn
      clear hv e hn
      go_enter Try.func23, Try.ntmps23
      go_wp2_with (first
        | (go_at_call 16; ((with_reducible refine (BddValid_i _ _ _ (HV.out.mono HL.out.1)).mono ?_); rintro e w1 ⟨rfl, hq⟩; have HQ := Lib.hid hq; clear hq; rw [HE.out]))
        | (go_at_call 57; refine (l1In_any _ _ _ _).mono ?_; rintro e w' ⟨rfl, rfl⟩))
      all_goals first
        | (go_ret
           exact ⟨rfl, HL.out.1.trans (HQ.out.mono (by simp))⟩)
        | (exfalso; refine HNN.out ⟨?_, ?_⟩ <;> (simp at *; omega))

set_option maxHeartbeats 800000 in
theorem CountBdd_i2 (sn : Option Addr) (cn : Nat) (d : Bd) (n : Int) (w : World) (h : BdV w (.agg #[.slice sn d.nodes.length cn, .int .i64 d.root]) d) (h1 : Sl w sn (ncells d.nodes)) (hl : d.nodes.length ≤ 1048576) (hcl : d.nodes.length ≤ cn) (hc63 : cn ≤ 9223372036854775807) (hc2 : ¬ cn = 2) (hx : -9223372036854775808 ≤ n ∧ n ≤ 9223372036854775807) :
    Calls Try.prog 23 #[.agg #[.slice sn d.nodes.length cn, .int .i64 d.root], .int .i64 n] w fun e w' => e = .returned (.int .i64 (d.count n)) ∧ Below w.heap.size w w' := by
  have HV := Lib.hid h
  clear h
  have hL : Below w.heap.size w (w.alloc (.cells #[.slice sn d.nodes.length cn, .int .i64 d.root] 25)) := by go_grown
  have hN := blk_new w (.cells #[.slice sn d.nodes.length cn, .int .i64 d.root] 25)
  have HL := Lib.hid (And.intro hL (And.intro hN h1))
  clear hL hN h1
  obtain ⟨hx1, hx2⟩ := hx
  cases hv : d.validB
  · have e : d.count n = -1 := count_no fun h => by rw [h.1] at hv; cases hv
    rw [e]
    have HE := Lib.hid hv
    clear hv e
    go_enter Try.func23, Try.ntmps23
    go_wp2_with (go_at_call 16; ((with_reducible refine (BddValid_i _ _ _ (HV.out.mono HL.out.1)).mono ?_); rintro e w1 ⟨rfl, hq⟩; have HQ := Lib.hid hq; clear hq; rw [HE.out]))
    go_ret
    exact ⟨rfl, HL.out.1.trans (HQ.out.mono (by simp))⟩
  · by_cases hn : 0 ≤ n ∧ n ≤ 7
    · obtain ⟨h0, h7⟩ := hn
      have HE := Lib.hid hv
      have hd := (d.validB_iff.1 hv).1
      have r2 := hd.l1000
      have r3 := hd.l2
      obtain ⟨P, hP1, hP2, hP3, hP4⟩ := pow_n h0 h7
      have HP := Lib.hid hP1
      clear hv hd hP1
      go_enter Try.func23, Try.ntmps23
      go_wp2_with (first
        | (go_at_call 16; ((with_reducible refine (BddValid_i _ _ _ (HV.out.mono HL.out.1)).mono ?_); rintro e w1 ⟨rfl, hq⟩; have W1 := Lib.hid (And.intro (blk_below hq (by simp) HL.out.2.1) (HL.out.1.trans (hq.mono (by simp)))); have ca := (blk_all W1.out.1).1; clear hq; rw [HE.out])))
      go_loopw [24] (fun s wr => ∃ k : Nat, k ≤ d.nodes.length - 2 ∧ s = .int .i64 k ∧ d.under n (k + 2) ∧ Below w1.heap.size w1 wr) (fun s _ => d.nodes.length - 2 - (intOf s).toNat)
      case atStart => exact ⟨0, by omega, rfl, under_two _ _, Below.refl _ _⟩
      case round =>
        obtain ⟨k, hk, rfl, hu, hbl⟩ := hrel
        have HU := Lib.hid hu
        have WR := Lib.hid (And.intro (blk_below hbl (blk_lt W1.out.1) W1.out.1) (And.intro (W1.out.2.trans (hbl.mono W1.out.2.size)) hbl))
        clear hu hbl
        by_cases hlt : k < d.nodes.length - 2
        · obtain ⟨g, hg⟩ := get_of_lt (l := d.nodes) (k := k + 2) (by omega)
          obtain ⟨b, off, rfl, hbw, z1, z2, z3⟩ := HL.out.2.2.node WR.out.2.1 hg
          have eo : off + (k + 2) * 3 = off + 6 + k * 3 := by omega
          rw [eo] at z1 z2 z3
          have HG := Lib.hid hg
          clear hg eo
          go_wp2
          all_goals first
            | (go_roundw
               case rel => exact ⟨k + 1, by omega, by go_num, by have := under_snoc HU.out HG.out (by omega); rwa [show k + 2 + 1 = k + 1 + 2 from by omega] at this, WR.out.2.2.alloc WR.out.2.2.size _⟩
               case measure => simp [intOf]; omega)
            | (go_ret
               refine ⟨ret_int (count_no fun h => ?_).symm, WR.out.2.1.alloc WR.out.2.1.size _⟩
               have := h.2.2.2 (k + 2) (by omega) (by omega)
               rw [getD_of HG.out] at this
               omega)
        · have hf : d.fine n := ⟨HE.out, h0, h7, by have := HU.out; rwa [show k + 2 = d.nodes.length from by omega] at this⟩
          have e := count_yes hf
          rw [HP.out] at e
          have HC := Lib.hid e
          have W1 := Lib.hid (And.intro WR.out.1 WR.out.2.1)
          have ca := (blk_all W1.out.1).1
          clear e hf
          go_wp2
          go_loopw [7, 35] (fun cv xv wx => ∃ m : Nat, m ≤ P ∧ xv = .int .i64 m ∧ cv = .int .i64 (cntB d m : Int) ∧ Below wr.heap.size wr wx) (fun _ xv _ => P - (intOf xv).toNat)
          case atStart => exact ⟨0, by omega, rfl, rfl, Below.refl _ _⟩
          case round =>
            obtain ⟨m, hm, rfl, rfl, hbl⟩ := hrel
            have hle := cntB_le d m
            have HB := Lib.hid (And.intro (blk_below hbl (blk_lt W1.out.1) W1.out.1) (And.intro (W1.out.2.trans (hbl.mono W1.out.2.size)) hbl))
            have ca2 := (blk_all HB.out.1).1
            clear hbl
            by_cases hlt2 : m < P
            · have hs := cntB_succ d m
              have HS := Lib.hid hs
              clear hs
              cases he : d.evalB (m : Int)
              all_goals
                have HEV := Lib.hid he
                clear he
                go_wp2_with (go_at_call 19; ((with_reducible refine (EvalBdd_i _ _ _ _ (HV.out.mono HB.out.2.1) (by omega)).mono ?_); rintro e w3 ⟨rfl, hq⟩; have HQ := Lib.hid hq; clear hq; rw [HEV.out]))
                go_roundw
                case rel => exact ⟨m + 1, by omega, by go_num, by rw [HS.out, HEV.out]; go_num, HB.out.2.2.trans (HQ.out.mono HB.out.2.2.size)⟩
                case measure => simp [intOf]; omega
            · obtain rfl : m = P := by omega
              go_wp2
              go_ret
              exact ⟨ret_int HC.out.symm, HB.out.2.1⟩
    · have e : d.count n = -1 := count_no fun h => hn ⟨h.2.1, h.2.2.1⟩
      rw [e]
      have HE := Lib.hid hv
      have HNN := Lib.hid hn
      clear hv e hn
      go_enter Try.func23, Try.ntmps23
      go_wp2_with (first
        | (go_at_call 16; ((with_reducible refine (BddValid_i _ _ _ (HV.out.mono HL.out.1)).mono ?_); rintro e w1 ⟨rfl, hq⟩; have HQ := Lib.hid hq; clear hq; rw [HE.out]))
        | (go_at_call 57; refine (l1In_any _ _ _ _).mono ?_; rintro e w' ⟨rfl, rfl⟩))
      all_goals first
        | (go_ret
           exact ⟨rfl, HL.out.1.trans (HQ.out.mono (by simp))⟩)
        | (exfalso; refine HNN.out ⟨?_, ?_⟩ <;> (simp at *; omega))

theorem CountBdd_i (v : Value) (d : Bd) (n : Int) (w : World) (h : BdV w v d) (hx : -9223372036854775808 ≤ n ∧ n ≤ 9223372036854775807) :
    Calls Try.prog 23 #[v, .int .i64 n] w fun e w' => e = .returned (.int .i64 (d.count n)) ∧ Below w.heap.size w w' := by
  obtain ⟨sn, cn, rfl, h1, hl, hcl, hc63⟩ := id h
  by_cases hc2 : cn = 2
  · exact CountBdd_i1 sn cn d n w h h1 hl hcl hc63 hc2 hx
  · exact CountBdd_i2 sn cn d n w h h1 hl hcl hc63 hc2 hx

end Go.Proofs.Ytddmgphlhfilnaa
