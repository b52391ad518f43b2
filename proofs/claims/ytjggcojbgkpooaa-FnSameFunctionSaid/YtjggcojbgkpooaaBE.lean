import Derived.Test.YtjggcojbgkpooaaV5
import Derived.Test.YtjggcojbgkpooaaV3
import Derived.Test.YtjggcojbgkpooaaL4
import Derived.Test.YtjggcojbgkpooaaBD
namespace Go.Proofs.Ytjggcojbgkpooaa
set_option linter.unusedVariables false
set_option linter.unusedSimpArgs false
open Go.RowKit

/-! The table of a literal. -/

def litF (c : Cir) (l : Int) (x : Nat) : Bool := litB (evalV c (x : Int) (-1) false) l
def tabF (f : Nat → Bool) (N : Nat) : List Bool := (List.range N).map f
theorem tabF_length (f : Nat → Bool) (N : Nat) : (tabF f N).length = N := by simp [tabF]
theorem tabF_succ (f : Nat → Bool) (N : Nat) : tabF f (N + 1) = tabF f N ++ [f N] := by simp [tabF, List.range_succ]
theorem tabF_getD (f : Nat → Bool) {N x : Nat} (h : x < N) : (tabF f N).getD x false = f x := by
  simp [tabF, List.getD_eq_getElem?_getD, h]

theorem litValueN_any (s : Option Addr) (vs : List Bool) (n cap : Nat) (l : Int) (w : World) (hn : vs.length = n) (h : Sl w s (bools vs)) (h0 : 0 ≤ l) (h1 : l ≤ 1000000) (h2 : l / 2 < n) :
    Calls Try.prog 92 #[.slice s n cap, .int .i64 l] w fun e w' => e = .returned (.bool (litB vs l)) ∧ w = w' := by
  subst hn; exact litValue_any s vs cap l w h h0 h1 h2

set_option maxRecDepth 100000 in
set_option maxHeartbeats 1600000 in
theorem litTable_any (b : Nat) (sn sg : Option Addr) (cn cg : Nat) (vo : Value) (c : Cir) (l : Int) (w : World)
    (h : CirAt w b c.inp (.slice sn c.next.length cn) (.slice sg c.gates.length cg) vo) (hg : Sl w sg (gcells c.gates)) (hv : c.valid) (l0 : 0 ≤ l) (l2 : l < 2 * c.vars) :
    Calls Try.prog 55 #[.pointer (some ⟨b, 0, none⟩), .int .i64 l] w fun e w' => ∃ s cap, e = .returned (.slice s (asgN c) cap) ∧ w'.ownsRow w.heap.size 4 1 (.slice s (asgN c) cap) (asgN c) (bools (tabF (litF c l) (asgN c))) ∧ Below w.heap.size w w' := by
  have HB : Hid (b < w.heap.size) := World.block_lt_of_cell? w _ h.h0
  obtain ⟨f1, f2, f3, f4⟩ := valid_first hv
  obtain ⟨q1, q2, q3, q4, q5⟩ := id hv.lim
  obtain ⟨n1, n2⟩ := asgN_le hv
  have eF : c.first = 1 + c.inp + c.next.length := rfl
  obtain ⟨ni, hni⟩ : ∃ ni : Nat, c.inp = ni := ⟨c.inp.toNat, by omega⟩
  obtain ⟨N, hN⟩ : ∃ N, N = asgN c := ⟨_, rfl⟩
  obtain ⟨V, hV⟩ : ∃ V : Nat, c.vars = V := ⟨c.vars.toNat, by omega⟩
  have n4 : ni ≤ 4 := by omega
  have v1 : 1 ≤ V := by omega
  have v2 : V ≤ 22 := by omega
  have l3 : l ≤ 100 := by omega
  have lV : l / 2 < V := by omega
  rw [← hN] at n1 n2 ⊢
  have hEl : ∀ x, (evalV c x (-1) false).length = V := fun x => by have := evalV_length c x (-1) false; omega
  have H := Lib.hid (And.intro h (And.intro hg (And.intro hv (And.intro hV (And.intro hni (And.intro hN hEl))))))
  have HM : Hid (∀ W, Below w.heap.size w W → CirAt W b c.inp (.slice sn c.next.length cn) (.slice sg c.gates.length cg) vo) := fun W hb => ⟨(hb.cell (p := ⟨b, 0, none⟩) HB.out).trans H.out.1.h0, (hb.cell (p := ⟨b, 1, none⟩) HB.out).trans H.out.1.h1, (hb.cell (p := ⟨b, 2, none⟩) HB.out).trans H.out.1.h2, (hb.cell (p := ⟨b, 3, none⟩) HB.out).trans H.out.1.h3⟩
  have e1 : ((2 ^ (c.inp.toNat + c.next.length) : Nat) : Int) = (N : Int) := by rw [hN]; rfl
  have E0 := Lib.hid e1
  clear h hg hv hV hni hN e1 f1 f2 f3 eF hEl l2
  go_enter Try.func55, Try.ntmps55
  go_wp2_with (go_at_call 86; ((refine (assignments_any _ _ _ _ _ _ _ _ H.out.1 (by omega) (by omega)).mono ?_); rintro e w2 ⟨rfl, hd⟩; rw [E0.out]; have HD2 := Lib.hid hd; clear hd))
  go_loopw [9, 5] (fun i v5 wr => ∃ (k : Nat) (s : Option Addr) (cc : Nat), k ≤ N ∧ i = .int .i64 k ∧ v5 = .slice s k cc ∧ wr.ownsRow w.heap.size 4 1 v5 k (bools (tabF (litF c l) k)) ∧ Below w.heap.size w wr) (fun i _ _ => N - (intOf i).toNat)
  case atStart => exact ⟨0, _, _, Nat.zero_le _, rfl, rfl, World.ownsRow_nil _ _ _ _, HD2.out.below _⟩
  case round =>
    obtain ⟨k, s5, c5, hk, rfl, rfl, ho, hbl⟩ := hrel
    have hbs := hbl.size
    by_cases hlt : k < N
    · have hkpw : (1 : Int) ≤ 2 ^ ni := by have : (0 : Int) < 2 ^ ni := Int.pow_pos (by decide); omega
      have HR := Lib.hid (And.intro ho (And.intro hbl hkpw))
      clear ho hbl hkpw
      obtain ⟨L, hL⟩ : ∃ L, L = evalV c k (-1) false := ⟨_, rfl⟩
      have hLe : valsV (-1) false (stuckB (-1) false (false :: (bitsV k ni ++ bitsV ((k : Int) / 2 ^ c.inp.toNat) c.next.length))) c.gates = L := by
        rw [hL, show evalV c (k : Int) (-1) false = valsV (-1) false (stuckB (-1) false (asgV c k)) c.gates from rfl]
        unfold asgV
        rw [H.out.2.2.2.2.1, Int.toNat_natCast]
      have HLe := Lib.hid (And.intro hLe hL)
      clear hLe hL
      go_wp2_with (first
        | (go_at_call 88; ((refine (latchBits_any _ _ _ _ _ _ _ _ _ (HM.out _ HR.out.2.1) ⟨by omega, by omega⟩ (by omega) (by omega) (by omega)).mono ?_); rintro e wa ⟨sa, rfl, ha, hqa⟩; have HL1 := Lib.hid (And.intro hqa ha); have hbs1 := hqa.size; clear ha hqa))
        | (go_at_call 89; ((refine (inputBits_any _ _ _ _ _ _ _ (HM.out _ (HR.out.2.1.trans (HL1.out.1.mono hbs))) ni H.out.2.2.2.2.1 (by omega) (by omega) (by omega)).mono ?_); rintro e wb ⟨sb, rfl, hb, hqb⟩; have HL2 := Lib.hid (And.intro (HL1.out.1.trans (hqb.mono hbs1)) (And.intro hb (HL1.out.2.mono hqb))); have hbs2 := hqb.size; clear hb hqb))
        | (go_at_call 87; ((refine (evaluate_any _ _ _ _ _ _ c sa sb _ _ (bitsV ((k : Int) / 2 ^ c.inp.toNat) c.next.length) (bitsV k ni) (-1) false _ (HM.out _ (HR.out.2.1.trans (HL2.out.1.mono hbs))) (H.out.2.1.mono (HR.out.2.1.trans (HL2.out.1.mono hbs))) H.out.2.2.1 HL2.out.2.2 HL2.out.2.1 (bitsV_length _ _) ni (bitsV_length _ _) H.out.2.2.2.2.1 V H.out.2.2.2.1 (by omega) (by omega)).mono ?_); rintro e we ⟨gv, rfl, hgv, hqe⟩; rw [HLe.out.1] at hgv; have HE := Lib.hid (And.intro (HL2.out.1.trans (hqe.mono (by omega))) hgv); have hbs3 := hqe.size; clear hgv hqe))
        | (go_at_call 92; ((with_reducible refine (litValueN_any _ L V V l _ (by rw [HLe.out.2]; exact H.out.2.2.2.2.2.2 _) (Sl.toB HE.out.2) l0 (by omega) lV).mono ?_); rintro e w3 ⟨rfl, rfl⟩))
        | (at_builtin; refine wpl_app rfl _ _ rfl elem_bool (own_below HR.out.1 (HE.out.1.alloc (by omega) _)) rfl rfl rfl (Sl.new _ _ _) (by simp [Value.oneCell']) (k + 1) rfl (bools (tabF (litF c l) (k + 1))) (by rw [tabF_succ, ← bools_append, HLe.out.2]; rfl) (by unfold maxLen; omega) (by omega) (by simp; omega) ?_; intro s6 c6 w6 h6 hb6 _ _; have HA := Lib.hid (And.intro h6 (HR.out.2.1.trans ((HE.out.1.mono hbs).alloc (by omega) _ |>.trans hb6))); clear h6 hb6))
      go_roundw
      case rel => exact ⟨k + 1, s6, c6, by omega, by go_num, rfl, HA.out.1, HA.out.2⟩
      case measure => simp [intOf]; omega
    · obtain rfl : N = k := by omega
      have HR := Lib.hid (And.intro ho hbl)
      clear ho hbl
      go_wp2_with fail
      go_ret
      exact ⟨s5, c5, rfl, HR.out.1, HR.out.2⟩

end Go.Proofs.Ytjggcojbgkpooaa
