import Derived.Test.YtdcjiclonjillaaZZ63OE
import Derived.Test.YtdcjiclonjillaaZZ63H2
import Derived.Test.YtdcjiclonjillaaZZ63L4
import Derived.Test.YtdcjiclonjillaaZZ63V6
import Derived.Test.YtdcjiclonjillaaZZ63CC
import Derived.Test.YtdcjiclonjillaaZZ63Q1
import Derived.Test.YtdcjiclonjillaaZZ63V8
import Derived.Test.YtdcjiclonjillaaZZ63OA
namespace Go.Proofs.Ytdcjiclonjillaa
set_option linter.unusedVariables false
set_option linter.unusedSimpArgs false
open Go.RowKit

/-! Part of the proof of one law. -/

theorem CirOwn.toV {w : World} {base : Nat} {c : Cir} {vn vg vo : Value} (h : CirOwn w base c vn vg vo) : CirV w (.agg #[.int .i64 c.inp, vn, vg, vo]) c := by
  obtain ⟨sn, cn, rfl⟩ := own_shape h.n
  obtain ⟨sg, cg, rfl⟩ := own_shape h.g
  obtain ⟨so, co, rfl⟩ := own_shape h.o
  exact ⟨_, _, _, _, _, _, rfl, own_sl h.n, own_sl h.g, own_sl h.o, h.l1, h.l2, h.l3⟩

set_option maxRecDepth 100000 in
set_option maxHeartbeats 1600000 in
theorem Optimize_s (v : Value) (c : Cir) (w : World) (h : CirV w v c) :
    Calls Try.prog 43 #[v] w fun e w' => ∃ vn vg vo, e = .returned (.agg #[.int .i64 (optR c).inp, vn, vg, vo]) ∧ CirOwn w' w.heap.size (optR c) vn vg vo ∧ Below w.heap.size w w' := by
  have HG := Lib.hid h
  obtain ⟨sn, cn, sg, cg, so, co, rfl, -, -, -, -, -, -⟩ := h
  obtain ⟨W0, hW0⟩ : ∃ W0, W0 = (w.alloc (.cells #[.int .i64 c.inp, .slice sn c.next.length cn, .slice sg c.gates.length cg, .slice so c.outs.length co] 28)).alloc (.cells #[.int .i64 0, .slice none 0 0, .slice none 0 0, .slice none 0 0] 28) := ⟨_, rfl⟩
  obtain ⟨A, hA⟩ : ∃ A, A = w.heap.size := ⟨_, rfl⟩
  have z1 : W0.heap.size = A + 2 := by rw [hW0, hA]; simp
  have z2 : W0.heap[A]? = some (.cells #[.int .i64 c.inp, .slice sn c.next.length cn, .slice sg c.gates.length cg, .slice so c.outs.length co] 28 (0, 0)) := by rw [hW0, hA]; exact blk_old (blk_new w _)
  have z3 : W0.heap[A + 1]? = some (.cells #[.int .i64 0, .slice none 0 0, .slice none 0 0, .slice none 0 0] 28 (0, 0)) := by rw [hW0, hA]; exact blk_at (by simp)
  have z4 : Below w.heap.size w W0 := by rw [hW0]; exact ((Below.refl _ _).alloc (Nat.le_refl _) _).alloc (by simp) _
  have HW := Lib.hid (And.intro hW0 (And.intro hA z1))
  have HB : Hid (∀ W, Below W0.heap.size W0 W → (∀ o, W.cell? ⟨A, o, none⟩ = #[Value.int .i64 c.inp, .slice sn c.next.length cn, .slice sg c.gates.length cg, .slice so c.outs.length co][o]?) ∧ W.heap[A + 1]? = some (.cells #[.int .i64 0, .slice none 0 0, .slice none 0 0, .slice none 0 0] 28 (0, 0)) ∧ CirV W (.agg #[.int .i64 c.inp, .slice sn c.next.length cn, .slice sg c.gates.length cg, .slice so c.outs.length co]) c ∧ Below w.heap.size w W) := fun W hW => ⟨(blk_all (blk_below hW (by omega) z2)).1, blk_below hW (by omega) z3, HG.out.mono (z4.trans (hW.mono z4.size)), z4.trans (hW.mono z4.size)⟩
  clear hW0 hA z1 z2 z3 z4
  cases hv : c.validB
  · rw [optR_no hv]
    have HV := Lib.hid hv
    clear hv
    go_enter Try.func43, Try.ntmps43
    go_upto_region 1 with fail
    rw [← HW.out.1, ← HW.out.2.1]
    have cb := (HB.out _ (Below.refl _ _)).1
    go_upto_region 2 with (go_at_call 20; ((with_reducible refine (CircuitValid_s _ c _ (HB.out _ (Below.refl _ _)).2.2.1).mono ?_); rintro e w1 ⟨rfl, hq⟩; rw [HV.out]; have H1 := Lib.hid hq; clear hq cb; obtain ⟨rc, rf⟩ := blk_all (HB.out _ H1.out).2.1))
    go_wp2_with fail
    have hZ : ((((w1.setCell ⟨A + 1, 0, none⟩ (.int .i64 0)).setCell ⟨A + 1, 1, none⟩ (.slice none 0 0)).setCell ⟨A + 1, 2, none⟩ (.slice none 0 0)).setCell ⟨A + 1, 3, none⟩ (.slice none 0 0)).heap[A + 1]? = some (.cells #[.int .i64 0, .slice none 0 0, .slice none 0 0, .slice none 0 0] 28 (0, 0)) := by
      simpa using blk_set (o := 3) (v := .slice none 0 0) (blk_set (o := 2) (v := .slice none 0 0) (blk_set (o := 1) (v := .slice none 0 0) (blk_set (o := 0) (v := .int .i64 0) (HB.out _ H1.out).2.1)))
    have hA2 := HW.out.2.1
    have hbz := ((((HB.out _ H1.out).2.2.2.setCell (p := ⟨A + 1, 0, none⟩) (by simp; omega) (.int .i64 0)).setCell (p := ⟨A + 1, 1, none⟩) (by simp; omega) (.slice none 0 0)).setCell (p := ⟨A + 1, 2, none⟩) (by simp; omega) (.slice none 0 0)).setCell (p := ⟨A + 1, 3, none⟩) (by simp; omega) (.slice none 0 0)
    clear rc rf
    revert hZ hbz
    generalize ((((w1.setCell ⟨A + 1, 0, none⟩ (.int .i64 0)).setCell ⟨A + 1, 1, none⟩ (.slice none 0 0)).setCell ⟨A + 1, 2, none⟩ (.slice none 0 0)).setCell ⟨A + 1, 3, none⟩ (.slice none 0 0)) = WZ
    intro hZ hbz
    have cr := (blk_all hZ).1
    exact bodyPost_ret (v := .agg #[.int .i64 0, .slice none 0 0, .slice none 0 0, .slice none 0 0]) (by simp [results, Try.results43, go_sem, cr]) rfl ⟨_, _, _, rfl, ⟨World.ownsRow_nil _ _ _ _, World.ownsRow_nil _ _ _ _, World.ownsRow_nil _ _ _ _, fun k h => by simp [Value.ownBlock] at h, by simp, by simp, by simp⟩, hbz⟩
  · rw [optR_yes hv]
    have HV := Lib.hid hv
    have hvv := c.validB_iff.1 hv
    have HVV := Lib.hid (And.intro hvv (buildC_valid hvv true))
    clear hv hvv
    go_enter Try.func43, Try.ntmps43
    go_upto_region 1 with fail
    rw [← HW.out.1, ← HW.out.2.1]
    have cb := (HB.out _ (Below.refl _ _)).1
    go_wp2_with (first
      | (go_at_call 20; ((with_reducible refine (CircuitValid_s _ c _ (HB.out _ (Below.refl _ _)).2.2.1).mono ?_); rintro e w1 ⟨rfl, hq⟩; rw [HV.out]; have H1 := Lib.hid hq; clear hq cb; have cb := (HB.out _ H1.out).1))
      | (go_at_call 48; ((with_reducible refine (l3Build_any _ c true _ (HB.out _ H1.out).2.2.1 HVV.out.1).mono ?_); rintro e w2 ⟨vn, vg, vo, rfl, ho, hq⟩; have H2 := Lib.hid (And.intro ho (H1.out.trans (hq.mono H1.out.size))); clear hq ho cb))
      | (go_at_call 48; ((with_reducible refine (l3Build_any _ (buildC true c) false _ (show CirV _ (.agg #[.int .i64 c.inp, vn, vg, vo]) (buildC true c) from H2.out.1.toV) HVV.out.2).mono ?_); rintro e w3 ⟨vn3, vg3, vo3, rfl, ho, hq⟩; rw [show (buildC true c).inp = c.inp from rfl]; obtain ⟨sn3, cn3, rfl⟩ := own_shape ho.n; obtain ⟨sg3, cg3, rfl⟩ := own_shape ho.g; obtain ⟨so3, co3, rfl⟩ := own_shape ho.o; have H3 := Lib.hid (And.intro ho (H2.out.2.trans (hq.mono H2.out.2.size))); obtain ⟨rc, rf⟩ := blk_all (HB.out _ H3.out.2).2.1; have HSZ := Lib.hid (show A + 2 ≤ w2.heap.size by have h1 := H2.out.2.size; have h2 := HW.out.2.2; omega); clear hq ho)))
    have hA2 := HW.out.2.1
    have hR := (HB.out _ H3.out.2).2.1
    have hO := (H3.out.1).sets4 (r := A + 1) (by have := HSZ.out; omega) (base := w.heap.size) (by have := HSZ.out; omega) (a := .int .i64 c.inp) (b' := .slice sn3 (buildC false (buildC true c)).next.length cn3) (c' := .slice sg3 (buildC false (buildC true c)).gates.length cg3) (d := .slice so3 (buildC false (buildC true c)).outs.length co3)
    have hZ : ((((w3.setCell ⟨A + 1, 0, none⟩ (.int .i64 c.inp)).setCell ⟨A + 1, 1, none⟩ (.slice sn3 (buildC false (buildC true c)).next.length cn3)).setCell ⟨A + 1, 2, none⟩ (.slice sg3 (buildC false (buildC true c)).gates.length cg3)).setCell ⟨A + 1, 3, none⟩ (.slice so3 (buildC false (buildC true c)).outs.length co3)).heap[A + 1]? = some (.cells #[.int .i64 c.inp, .slice sn3 (buildC false (buildC true c)).next.length cn3, .slice sg3 (buildC false (buildC true c)).gates.length cg3, .slice so3 (buildC false (buildC true c)).outs.length co3] 28 (0, 0)) := by
      simpa using blk_set (o := 3) (v := .slice so3 (buildC false (buildC true c)).outs.length co3) (blk_set (o := 2) (v := .slice sg3 (buildC false (buildC true c)).gates.length cg3) (blk_set (o := 1) (v := .slice sn3 (buildC false (buildC true c)).next.length cn3) (blk_set (o := 0) (v := .int .i64 c.inp) hR)))
    have hbz := ((((HB.out _ H3.out.2).2.2.2.setCell (p := ⟨A + 1, 0, none⟩) (by simp; omega) (.int .i64 c.inp)).setCell (p := ⟨A + 1, 1, none⟩) (by simp; omega) (.slice sn3 (buildC false (buildC true c)).next.length cn3)).setCell (p := ⟨A + 1, 2, none⟩) (by simp; omega) (.slice sg3 (buildC false (buildC true c)).gates.length cg3)).setCell (p := ⟨A + 1, 3, none⟩) (by simp; omega) (.slice so3 (buildC false (buildC true c)).outs.length co3)
    clear rc rf
    revert hZ hbz hO
    generalize ((((w3.setCell ⟨A + 1, 0, none⟩ (.int .i64 c.inp)).setCell ⟨A + 1, 1, none⟩ (.slice sn3 (buildC false (buildC true c)).next.length cn3)).setCell ⟨A + 1, 2, none⟩ (.slice sg3 (buildC false (buildC true c)).gates.length cg3)).setCell ⟨A + 1, 3, none⟩ (.slice so3 (buildC false (buildC true c)).outs.length co3)) = WZ
    intro hO hZ hbz
    have cr := (blk_all hZ).1
    exact bodyPost_ret (v := .agg #[.int .i64 c.inp, .slice sn3 (buildC false (buildC true c)).next.length cn3, .slice sg3 (buildC false (buildC true c)).gates.length cg3, .slice so3 (buildC false (buildC true c)).outs.length co3]) (by simp [results, Try.results43, go_sem, cr]) rfl ⟨_, _, _, rfl, hO, hbz⟩

/-! The first undetectable fault of a gate. -/

def undB (c : Cir) (p : Int) (val : Bool) : Bool := decide (findN (detV c p val) (asgN c) < 0)

/-- Among the first k gates. -/
def frstU (c : Cir) (F : Nat) : Nat → Option (Nat × Bool)
  | 0 => none
  | k + 1 => match frstU c F k with
    | some r => some r
    | none => if undB c ((F + k : Nat) : Int) false then some (k, false) else if undB c ((F + k : Nat) : Int) true then some (k, true) else none

theorem frstU_hit {c : Cir} {F k : Nat} {r : Nat × Bool} (h : frstU c F (k + 1) = some r) : ∀ n, k + 1 ≤ n → frstU c F n = some r
  | 0, hn => by omega
  | n + 1, hn => by
    by_cases e : n = k
    · subst e; exact h
    · have := frstU_hit h n (by omega)
      show (match frstU c F n with | some r => some r | none => _) = _
      rw [this]

theorem frstU_f {c : Cir} {F k : Nat} (h : frstU c F k = none) (h1 : undB c ((F + k : Nat) : Int) false = true) : frstU c F (k + 1) = some (k, false) := by
  show (match frstU c F k with | some r => some r | none => _) = _
  rw [h]
  show (if undB c ((F + k : Nat) : Int) false = true then _ else _) = _
  rw [if_pos h1]

theorem frstU_t {c : Cir} {F k : Nat} (h : frstU c F k = none) (h1 : undB c ((F + k : Nat) : Int) false = false) (h2 : undB c ((F + k : Nat) : Int) true = true) : frstU c F (k + 1) = some (k, true) := by
  show (match frstU c F k with | some r => some r | none => _) = _
  rw [h]
  show (if undB c ((F + k : Nat) : Int) false = true then _ else _) = _
  rw [if_neg (by rw [h1]; decide), if_pos h2]

theorem frstU_n {c : Cir} {F k : Nat} (h : frstU c F k = none) (h1 : undB c ((F + k : Nat) : Int) false = false) (h2 : undB c ((F + k : Nat) : Int) true = false) : frstU c F (k + 1) = none := by
  show (match frstU c F k with | some r => some r | none => _) = _
  rw [h]
  show (if undB c ((F + k : Nat) : Int) false = true then _ else _) = _
  rw [if_neg (by rw [h1]; decide), if_neg (by rw [h2]; decide)]

theorem frstU_lt {c : Cir} {F : Nat} : ∀ {n : Nat} {r : Nat × Bool}, frstU c F n = some r → r.1 < n
  | 0, _, h => by cases h
  | n + 1, r, h => by
    cases e : frstU c F n with
    | some r' =>
      have h2 := frstU_hit (k := n) (r := r) h (n + 1) (Nat.le_refl _)
      have h3 : frstU c F (n + 1) = some r' := by
        show (match frstU c F n with | some r => some r | none => _) = _
        rw [e]
      rw [h3] at h2; cases h2
      have := frstU_lt e
      omega
    | none =>
      cases e1 : undB c ((F + n : Nat) : Int) false
      · cases e2 : undB c ((F + n : Nat) : Int) true
        · rw [frstU_n e e1 e2] at h; cases h
        · rw [frstU_t e e1 e2] at h; cases h; simp
      · rw [frstU_f e e1] at h; cases h; simp

def fvU (F : Nat) : Option (Nat × Bool) → Int
  | some (k, _) => ((F + k : Nat) : Int)
  | none => 0

def fbU : Option (Nat × Bool) → Bool
  | some (_, b) => b
  | none => false

def fstU (c : Cir) : Option (Nat × Bool) := frstU c c.first.toNat c.gates.length

def irrB (c : Cir) : Bool := c.validB && !(fstU c).isSome

def stepR (c : Cir) : Cir := match fstU c with
  | some (k, val) => optR (c.mapC (forceL ((c.first.toNat + k : Nat) : Int) val))
  | none => c

theorem undB_neg {c : Cir} {p : Int} {val : Bool} (h : undB c p val = true) : findN (detV c p val) (asgN c) < 0 := by simpa [undB] using h

theorem findN_rangeO (p : Int → Bool) (N : Nat) : findN p N = -1 ∨ (0 ≤ findN p N ∧ findN p N < N) := by
  unfold findN
  cases h : (List.range N).find? (fun (x : Nat) => p (x : Int)) with
  | none => exact .inl rfl
  | some x =>
    have := List.mem_of_find?_eq_some h
    have := List.mem_range.1 this
    exact .inr ⟨by simp, by simp; omega⟩

theorem findN_bd (f : Int → Bool) {N : Nat} (h : N ≤ 1000) : -1 ≤ findN f N ∧ findN f N ≤ 1000 := by
  rcases findN_rangeO f N with e | e <;> omega

set_option maxRecDepth 100000 in
set_option maxHeartbeats 3200000 in
theorem redundant_any (b : Nat) (sn sg so : Option Addr) (cn cg co : Nat) (c : Cir) (w : World) (h : CirAt w b c.inp (.slice sn c.next.length cn) (.slice sg c.gates.length cg) (.slice so c.outs.length co)) (hn : Sl w sn (ints c.next)) (hg : Sl w sg (gcells c.gates)) (ho : Sl w so (ints c.outs)) (hv : c.valid) :
    Calls Try.prog 68 #[.pointer (some ⟨b, 0, none⟩)] w fun e w' => e = .returned (.tuple #[.agg #[.int .i64 (fvU c.first.toNat (fstU c)), .bool (fbU (fstU c))], .bool (fstU c).isSome]) ∧ Below w.heap.size w w' := by
  have HBl : Hid (b < w.heap.size) := World.block_lt_of_cell? w _ h.h0
  obtain ⟨q1, q2, q3, q4, q5⟩ := id hv.lim
  obtain ⟨n1, n2⟩ := asgN_le hv
  obtain ⟨W0, hW0⟩ : ∃ W0, W0 = w.alloc (.cells #[.int .i64 0, .bool false] 80) := ⟨_, rfl⟩
  obtain ⟨R, hR⟩ : ∃ R, R = w.heap.size := ⟨_, rfl⟩
  have z1 : W0.heap.size = R + 1 := by rw [hW0, hR]; simp
  have z2 : W0.heap[R]? = some (.cells #[.int .i64 0, .bool false] 80 (0, 0)) := by rw [hW0, hR]; exact blk_new w _
  have z4 : Below w.heap.size w W0 := by rw [hW0]; exact (Below.refl _ _).alloc (Nat.le_refl _) _
  have HW := Lib.hid (And.intro hW0 (And.intro hR z1))
  have HB : Hid (∀ W, Below W0.heap.size W0 W → CirAt W b c.inp (.slice sn c.next.length cn) (.slice sg c.gates.length cg) (.slice so c.outs.length co) ∧ W.heap[R]? = some (.cells #[.int .i64 0, .bool false] 80 (0, 0)) ∧ Below w.heap.size w W) := fun W hW => by
    have hb := z4.trans (hW.mono z4.size)
    exact ⟨⟨(hb.cell (p := ⟨b, 0, none⟩) HBl.out).trans h.h0, (hb.cell (p := ⟨b, 1, none⟩) HBl.out).trans h.h1, (hb.cell (p := ⟨b, 2, none⟩) HBl.out).trans h.h2, (hb.cell (p := ⟨b, 3, none⟩) HBl.out).trans h.h3⟩, blk_below hW (by omega) z2, hb⟩
  have HS := Lib.hid (And.intro hn (And.intro hg (And.intro ho hv)))
  clear h hn hg ho hv hW0 hR z1 z2 z4
  obtain ⟨F, hF⟩ : ∃ F : Nat, 1 + c.inp + (c.next.length : Int) = F := ⟨(1 + c.inp + (c.next.length : Int)).toNat, by omega⟩
  have hF8 : F ≤ 8 := by omega
  obtain ⟨n, hnn⟩ : ∃ n, n = c.gates.length := ⟨_, rfl⟩
  have hn14 : n ≤ 14 := by omega
  have hfst : fstU c = frstU c F n := by
    unfold fstU
    rw [show c.first = (F : Int) from hF, Int.toNat_natCast, hnn]
  have hfc : c.first.toNat = F := by rw [show c.first = (F : Int) from hF, Int.toNat_natCast]
  rw [hfst, hfc]
  have eV : c.vars = (F : Int) + n := by unfold Cir.vars; omega
  have HFT : Hid (∀ W (k : Nat) (val : Bool), Below W0.heap.size W0 W → k < n → Calls Try.prog 92 #[.pointer (some ⟨b, 0, none⟩), .agg #[.int .i64 ((F + k : Nat) : Int), .bool val]] W fun e w' => e = .returned (.int .i64 (findN (detV c ((F + k : Nat) : Int) val) (asgN c))) ∧ Below W.heap.size W w') := fun W k val hW hk =>
    findTest_any b sn sg so cn cg co c _ val W (HB.out W hW).1 (HS.out.1.mono (HB.out W hW).2.2) (HS.out.2.1.mono (HB.out W hW).2.2) (HS.out.2.2.1.mono (HB.out W hW).2.2) HS.out.2.2.2 (by omega) (by omega)
  rw [← hnn] at HB
  have HFF := Lib.hid (And.intro hF hnn)
  clear hF hnn hfst hfc eV HS q4
  obtain ⟨O, hO⟩ : ∃ O, O = frstU c F n := ⟨_, rfl⟩
  rw [← hO]
  have HO := Lib.hid hO
  clear hO
  go_enter Try.func68, Try.ntmps68
  go_upto_region 1 with fail
  rw [← HW.out.1, ← HW.out.2.1]
  go_upto_region 2 with (go_at_call 33; ((with_reducible refine (firstGate_any _ _ _ _ _ _ _ _ (HB.out _ (Below.refl _ _)).1 (by omega) (by omega)).mono ?_); rintro e w1 ⟨rfl, hq⟩; rw [HFF.out.1]; have H1 := Lib.hid (hq.below W0.heap.size); clear hq))
  go_loopw [4] (fun s4 wr => ∃ k : Nat, k ≤ n ∧ s4 = .int .i64 ((F + k : Nat) : Int) ∧ frstU c F k = none ∧ Below W0.heap.size W0 wr) (fun s4 _ => F + n - (intOf s4).toNat)
  case atStart => exact ⟨0, Nat.zero_le _, rfl, rfl, H1.out⟩
  case round =>
    obtain ⟨k, hk, rfl, hno, hb⟩ := hrel
    obtain ⟨wt, rfl⟩ : ∃ wt, wt = wr := ⟨_, rfl⟩
    have HK := Lib.hid (And.intro hno hb)
    clear hno hb
    obtain ⟨p, hp⟩ : ∃ p, F + k = p := ⟨_, rfl⟩
    have hp22 : p ≤ 22 := by omega
    by_cases hlt : k < n
    · have hdn : decide ((p : Int) < (F : Int) + (n : Int)) = true := by simp; omega
      rw [hp]
      have HP := Lib.hid hp
      clear hp
      go_upto_region 5 with (go_at_call 38; ((with_reducible refine (vars_any _ _ _ _ _ _ _ _ _ _ (HB.out _ HK.out.2).1 (by omega) (by omega) (by omega)).mono ?_); rintro e w2 ⟨rfl, hq⟩; rw [HFF.out.1]; have H2 := Lib.hid (HK.out.2.trans (hq.below _)); clear hq))
      have hkO := blk_new w2 (.cells #[.int .i64 p, .bool false, .int .i64 p, .bool true] 80)
      have hbO := H2.out.alloc H2.out.size (.cells #[.int .i64 p, .bool false, .int .i64 p, .bool true] 80)
      obtain ⟨Ob, hOb⟩ : ∃ Ob, Ob = w2.heap.size := ⟨_, rfl⟩
      rw [← hOb] at hkO
      rw [← hOb]
      clear hOb
      revert hbO hkO
      generalize w2.alloc (.cells #[.int .i64 p, .bool false, .int .i64 p, .bool true] 80) = W3
      intro hbO hkO
      have H3 := Lib.hid (And.intro hkO hbO)
      clear hkO hbO
      go_loopw [21] (fun s21 wz => ∃ j : Nat, j ≤ 2 ∧ s21 = .int .i64 j ∧ (1 ≤ j → undB c p false = false) ∧ (2 ≤ j → undB c p true = false) ∧ wz.heap[Ob]? = some (.cells #[.int .i64 p, .bool false, .int .i64 p, .bool true] 80 (0, 0)) ∧ Below W0.heap.size W0 wz) (fun s21 _ => 2 - (intOf s21).toNat)
      case atStart => exact ⟨0, by omega, rfl, fun h => by omega, fun h => by omega, H3.out.1, H3.out.2⟩
      case round =>
        obtain ⟨j, hj, rfl, hu0, hu1, hkO, hb⟩ := hrel
        have HJ := Lib.hid (And.intro hu0 (And.intro hu1 (And.intro hkO hb)))
        have cO := (blk_all hkO).1
        clear hu0 hu1 hkO hb
        rcases (show j = 0 ∨ j = 1 ∨ j = 2 by omega) with rfl | rfl | rfl
        · obtain ⟨X, hX⟩ : ∃ X, X = findN (detV c (p : Int) false) (asgN c) := ⟨_, rfl⟩
          have hXb := findN_bd (detV c (p : Int) false) (N := asgN c) (by omega)
          rw [← hX] at hXb
          obtain ⟨x1, x2⟩ := hXb
          have HX := Lib.hid hX
          clear hX
          go_upto_region 7 with fail
          have hb6 := HJ.out.2.2.2.alloc HJ.out.2.2.2.size (.cells #[.int .i64 p, .bool false] 80)
          have hk6 := blk_new wr (.cells #[.int .i64 p, .bool false] 80)
          have hO6 := blk_old (o := .cells #[.int .i64 p, .bool false] 80) HJ.out.2.2.1
          obtain ⟨Y, hY⟩ : ∃ Y, Y = wr.heap.size := ⟨_, rfl⟩
          rw [← hY] at hk6
          rw [← hY]
          clear hY cO
          revert hb6 hk6 hO6
          generalize wr.alloc (.cells #[.int .i64 p, .bool false] 80) = W6
          intro hb6 hO6 hk6
          have H6 := Lib.hid (And.intro hk6 (And.intro hO6 hb6))
          clear hk6 hO6 hb6
          have cY := (blk_all H6.out.1).1
          by_cases hX0 : X < 0
          · have hun : undB c (p : Int) false = true := by unfold undB; rw [← HX.out]; simpa using hX0
            have ho : O = some (k, false) := by
              rw [HO.out]
              refine frstU_hit (k := k) ?_ n (by omega)
              exact frstU_f HK.out.1 (by rw [HP.out]; exact hun)
            subst ho
            go_wp2_with (go_at_call 92; ((have hft := HFT.out _ k false H6.out.2.2 hlt); rw [HP.out] at hft; (refine hft.mono ?_); rintro e w7 ⟨rfl, hq⟩; rw [← HX.out]; have H7 := Lib.hid (H6.out.2.2.trans (hq.mono H6.out.2.2.size)); have hY7 := (blk_all (blk_below hq (blk_lt H6.out.1) H6.out.1)).1; obtain ⟨rc, rf⟩ := blk_all (HB.out _ H7.out).2.1; clear hq cY))
            have hZ : ((w7.setCell ⟨R, 0, none⟩ (.int .i64 (p : Int))).setCell ⟨R, 1, none⟩ (.bool false)).heap[R]? = some (.cells #[.int .i64 (p : Int), .bool false] 80 (0, 0)) := by
              simpa using blk_set (o := 1) (v := .bool false) (blk_set (o := 0) (v := .int .i64 (p : Int)) (HB.out _ H7.out).2.1)
            have hR2 := HW.out.2.1
            have hbz := ((HB.out _ H7.out).2.2.setCell (p := ⟨R, 0, none⟩) (by rw [hR2]; exact Nat.le_refl _) (.int .i64 (p : Int))).setCell (p := ⟨R, 1, none⟩) (by rw [hR2]; exact Nat.le_refl _) (.bool false)
            clear rc rf
            revert hZ hbz
            generalize ((w7.setCell ⟨R, 0, none⟩ (.int .i64 (p : Int))).setCell ⟨R, 1, none⟩ (.bool false)) = WZ
            intro hZ hbz
            have cr := (blk_all hZ).1
            exact bodyPost_ret (v := .tuple #[.agg #[.int .i64 (p : Int), .bool false], .bool true]) (by simp [results, Try.results68, go_sem, cr]) rfl ⟨by show _ = Ending.returned (.tuple #[.agg #[.int .i64 ((F + k : Nat) : Int), .bool false], .bool true]); rw [HP.out], hbz⟩
          · have hun : undB c (p : Int) false = false := by unfold undB; rw [← HX.out]; simpa using hX0
            have HUN := Lib.hid hun
            clear hun
            go_wp2_with (go_at_call 92; ((have hft := HFT.out _ k false H6.out.2.2 hlt); rw [HP.out] at hft; (refine hft.mono ?_); rintro e w7 ⟨rfl, hq⟩; rw [← HX.out]; have H7 := Lib.hid (And.intro (blk_below hq (blk_lt H6.out.2.1) H6.out.2.1) (H6.out.2.2.trans (hq.mono H6.out.2.2.size))); clear hq cY))
            go_roundw
            case rel => exact ⟨0 + 1, by omega, by first | rfl | go_num, fun _ => HUN.out, fun h => by omega, H7.out.1, H7.out.2⟩
            case measure => simp [intOf]
        · obtain ⟨X, hX⟩ : ∃ X, X = findN (detV c (p : Int) true) (asgN c) := ⟨_, rfl⟩
          have hXb := findN_bd (detV c (p : Int) true) (N := asgN c) (by omega)
          rw [← hX] at hXb
          obtain ⟨x1, x2⟩ := hXb
          have HX := Lib.hid hX
          clear hX
          go_upto_region 7 with fail
          have hb6 := HJ.out.2.2.2.alloc HJ.out.2.2.2.size (.cells #[.int .i64 p, .bool true] 80)
          have hk6 := blk_new wr (.cells #[.int .i64 p, .bool true] 80)
          have hO6 := blk_old (o := .cells #[.int .i64 p, .bool true] 80) HJ.out.2.2.1
          obtain ⟨Y, hY⟩ : ∃ Y, Y = wr.heap.size := ⟨_, rfl⟩
          rw [← hY] at hk6
          rw [← hY]
          clear hY cO
          revert hb6 hk6 hO6
          generalize wr.alloc (.cells #[.int .i64 p, .bool true] 80) = W6
          intro hb6 hO6 hk6
          have H6 := Lib.hid (And.intro hk6 (And.intro hO6 hb6))
          clear hk6 hO6 hb6
          have cY := (blk_all H6.out.1).1
          by_cases hX0 : X < 0
          · have hun : undB c (p : Int) true = true := by unfold undB; rw [← HX.out]; simpa using hX0
            have ho : O = some (k, true) := by
              rw [HO.out]
              refine frstU_hit (k := k) ?_ n (by omega)
              exact frstU_t HK.out.1 (by rw [HP.out]; exact HJ.out.1 (by omega)) (by rw [HP.out]; exact hun)
            subst ho
            go_wp2_with (go_at_call 92; ((have hft := HFT.out _ k true H6.out.2.2 hlt); rw [HP.out] at hft; (refine hft.mono ?_); rintro e w7 ⟨rfl, hq⟩; rw [← HX.out]; have H7 := Lib.hid (H6.out.2.2.trans (hq.mono H6.out.2.2.size)); have hY7 := (blk_all (blk_below hq (blk_lt H6.out.1) H6.out.1)).1; obtain ⟨rc, rf⟩ := blk_all (HB.out _ H7.out).2.1; clear hq cY))
            have hZ : ((w7.setCell ⟨R, 0, none⟩ (.int .i64 (p : Int))).setCell ⟨R, 1, none⟩ (.bool true)).heap[R]? = some (.cells #[.int .i64 (p : Int), .bool true] 80 (0, 0)) := by
              simpa using blk_set (o := 1) (v := .bool true) (blk_set (o := 0) (v := .int .i64 (p : Int)) (HB.out _ H7.out).2.1)
            have hR2 := HW.out.2.1
            have hbz := ((HB.out _ H7.out).2.2.setCell (p := ⟨R, 0, none⟩) (by rw [hR2]; exact Nat.le_refl _) (.int .i64 (p : Int))).setCell (p := ⟨R, 1, none⟩) (by rw [hR2]; exact Nat.le_refl _) (.bool true)
            clear rc rf
            revert hZ hbz
            generalize ((w7.setCell ⟨R, 0, none⟩ (.int .i64 (p : Int))).setCell ⟨R, 1, none⟩ (.bool true)) = WZ
            intro hZ hbz
            have cr := (blk_all hZ).1
            exact bodyPost_ret (v := .tuple #[.agg #[.int .i64 (p : Int), .bool true], .bool true]) (by simp [results, Try.results68, go_sem, cr]) rfl ⟨by show _ = Ending.returned (.tuple #[.agg #[.int .i64 ((F + k : Nat) : Int), .bool true], .bool true]); rw [HP.out], hbz⟩
          · have hun : undB c (p : Int) true = false := by unfold undB; rw [← HX.out]; simpa using hX0
            have HUN := Lib.hid hun
            clear hun
            go_wp2_with (go_at_call 92; ((have hft := HFT.out _ k true H6.out.2.2 hlt); rw [HP.out] at hft; (refine hft.mono ?_); rintro e w7 ⟨rfl, hq⟩; rw [← HX.out]; have H7 := Lib.hid (And.intro (blk_below hq (blk_lt H6.out.2.1) H6.out.2.1) (H6.out.2.2.trans (hq.mono H6.out.2.2.size))); clear hq cY))
            go_roundw
            case rel => exact ⟨1 + 1, by omega, by first | rfl | go_num, fun _ => HJ.out.1 (by omega), fun _ => HUN.out, H7.out.1, H7.out.2⟩
            case measure => simp [intOf]
        · go_wp2_with fail
          go_roundw
          case rel => exact ⟨k + 1, by omega, by have := HP.out; first | go_num | (congr 1; omega), frstU_n HK.out.1 (by rw [HP.out]; exact HJ.out.1 (by omega)) (by rw [HP.out]; exact HJ.out.2.1 (by omega)), HJ.out.2.2.2⟩
          case measure => have := HP.out; simp [intOf]; try omega
    · obtain rfl : n = k := by omega
      have hdn : decide ((p : Int) < (F : Int) + (n : Int)) = false := by simp; omega
      rw [hp]
      clear hp
      have ho : O = none := by rw [HO.out]; exact HK.out.1
      subst ho
      go_upto_region 10 with (go_at_call 38; ((with_reducible refine (vars_any _ _ _ _ _ _ _ _ _ _ (HB.out _ HK.out.2).1 (by omega) (by omega) (by omega)).mono ?_); rintro e w2 ⟨rfl, hq⟩; rw [HFF.out.1]; have H2 := Lib.hid (HK.out.2.trans (hq.below _)); clear hq; obtain ⟨rc, rf⟩ := blk_all (HB.out _ H2.out).2.1))
      go_wp2_with fail
      have hZ : ((w2.setCell ⟨R, 0, none⟩ (.int .i64 0)).setCell ⟨R, 1, none⟩ (.bool false)).heap[R]? = some (.cells #[.int .i64 0, .bool false] 80 (0, 0)) := by
        simpa using blk_set (o := 1) (v := .bool false) (blk_set (o := 0) (v := .int .i64 0) (HB.out _ H2.out).2.1)
      have hR2 := HW.out.2.1
      have hbz := ((HB.out _ H2.out).2.2.setCell (p := ⟨R, 0, none⟩) (by rw [hR2]; exact Nat.le_refl _) (.int .i64 0)).setCell (p := ⟨R, 1, none⟩) (by rw [hR2]; exact Nat.le_refl _) (.bool false)
      clear rc rf
      revert hZ hbz
      generalize ((w2.setCell ⟨R, 0, none⟩ (.int .i64 0)).setCell ⟨R, 1, none⟩ (.bool false)) = WZ
      intro hZ hbz
      have cr := (blk_all hZ).1
      exact bodyPost_ret (v := .tuple #[.agg #[.int .i64 0, .bool false], .bool false]) (by simp [results, Try.results68, go_sem, cr]) rfl ⟨by rfl, hbz⟩

end Go.Proofs.Ytdcjiclonjillaa
