import Derived.Test.YtindndcdpnpcmaaOE
import Derived.Test.YtindndcdpnpcmaaH2
import Derived.Test.YtindndcdpnpcmaaH6
import Derived.Test.YtindndcdpnpcmaaG4
namespace Go.Proofs.Ytindndcdpnpcmaa
set_option linter.unusedVariables false
set_option linter.unusedSimpArgs false
open Go.RowKit

/-! Optimize of the reference. -/

theorem CirOwn.toV {w : World} {base : Nat} {c : Cir} {vn vg vo : Value} (h : CirOwn w base c vn vg vo) : CirV w (.agg #[.int .i64 c.inp, vn, vg, vo]) c := by
  obtain ⟨sn, cn, rfl⟩ := own_shape h.n
  obtain ⟨sg, cg, rfl⟩ := own_shape h.g
  obtain ⟨so, co, rfl⟩ := own_shape h.o
  exact ⟨_, _, _, _, _, _, rfl, own_sl h.n, own_sl h.g, own_sl h.o, h.l1, h.l2, h.l3⟩

set_option maxRecDepth 100000 in
set_option maxHeartbeats 1600000 in
theorem Optimize_s (v : Value) (c : Cir) (w : World) (h : CirV w v c) :
    Calls Try.prog 52 #[v] w fun e w' => ∃ vn vg vo, e = .returned (.agg #[.int .i64 (optR c).inp, vn, vg, vo]) ∧ CirOwn w' w.heap.size (optR c) vn vg vo ∧ Below w.heap.size w w' := by
  have HG := Lib.hid h
  obtain ⟨sn, cn, sg, cg, so, co, rfl, -, -, -, -, -, -⟩ := h
  obtain ⟨W0, hW0⟩ : ∃ W0, W0 = (w.alloc (.cells #[.int .i64 c.inp, .slice sn c.next.length cn, .slice sg c.gates.length cg, .slice so c.outs.length co] 29)).alloc (.cells #[.int .i64 0, .slice none 0 0, .slice none 0 0, .slice none 0 0] 29) := ⟨_, rfl⟩
  obtain ⟨A, hA⟩ : ∃ A, A = w.heap.size := ⟨_, rfl⟩
  have z1 : W0.heap.size = A + 2 := by rw [hW0, hA]; simp
  have z2 : W0.heap[A]? = some (.cells #[.int .i64 c.inp, .slice sn c.next.length cn, .slice sg c.gates.length cg, .slice so c.outs.length co] 29 (0, 0)) := by rw [hW0, hA]; exact blk_old (blk_new w _)
  have z3 : W0.heap[A + 1]? = some (.cells #[.int .i64 0, .slice none 0 0, .slice none 0 0, .slice none 0 0] 29 (0, 0)) := by rw [hW0, hA]; exact blk_at (by simp)
  have z4 : Below w.heap.size w W0 := by rw [hW0]; exact ((Below.refl _ _).alloc (Nat.le_refl _) _).alloc (by simp) _
  have HW := Lib.hid (And.intro hW0 (And.intro hA z1))
  have HB : Hid (∀ W, Below W0.heap.size W0 W → (∀ o, W.cell? ⟨A, o, none⟩ = #[Value.int .i64 c.inp, .slice sn c.next.length cn, .slice sg c.gates.length cg, .slice so c.outs.length co][o]?) ∧ W.heap[A + 1]? = some (.cells #[.int .i64 0, .slice none 0 0, .slice none 0 0, .slice none 0 0] 29 (0, 0)) ∧ CirV W (.agg #[.int .i64 c.inp, .slice sn c.next.length cn, .slice sg c.gates.length cg, .slice so c.outs.length co]) c ∧ Below w.heap.size w W) := fun W hW => ⟨(blk_all (blk_below hW (by omega) z2)).1, blk_below hW (by omega) z3, HG.out.mono (z4.trans (hW.mono z4.size)), z4.trans (hW.mono z4.size)⟩
  clear hW0 hA z1 z2 z3 z4
  cases hv : c.validB
  · rw [optR_no hv]
    have HV := Lib.hid hv
    clear hv
    go_enter Try.func52, Try.ntmps52
    go_upto_region 1 with fail
    rw [← HW.out.1, ← HW.out.2.1]
    have cb := (HB.out _ (Below.refl _ _)).1
    go_upto_region 2 with (go_at_call 26; ((with_reducible refine (CircuitValid_s _ c _ (HB.out _ (Below.refl _ _)).2.2.1).mono ?_); rintro e w1 ⟨rfl, hq⟩; rw [HV.out]; have H1 := Lib.hid hq; clear hq cb; obtain ⟨rc, rf⟩ := blk_all (HB.out _ H1.out).2.1))
    go_wp2_with fail
    have hZ : ((((w1.setCell ⟨A + 1, 0, none⟩ (.int .i64 0)).setCell ⟨A + 1, 1, none⟩ (.slice none 0 0)).setCell ⟨A + 1, 2, none⟩ (.slice none 0 0)).setCell ⟨A + 1, 3, none⟩ (.slice none 0 0)).heap[A + 1]? = some (.cells #[.int .i64 0, .slice none 0 0, .slice none 0 0, .slice none 0 0] 29 (0, 0)) := by
      simpa using blk_set (o := 3) (v := .slice none 0 0) (blk_set (o := 2) (v := .slice none 0 0) (blk_set (o := 1) (v := .slice none 0 0) (blk_set (o := 0) (v := .int .i64 0) (HB.out _ H1.out).2.1)))
    have hA2 := HW.out.2.1
    have hbz := ((((HB.out _ H1.out).2.2.2.setCell (p := ⟨A + 1, 0, none⟩) (by simp; omega) (.int .i64 0)).setCell (p := ⟨A + 1, 1, none⟩) (by simp; omega) (.slice none 0 0)).setCell (p := ⟨A + 1, 2, none⟩) (by simp; omega) (.slice none 0 0)).setCell (p := ⟨A + 1, 3, none⟩) (by simp; omega) (.slice none 0 0)
    clear rc rf
    revert hZ hbz
    generalize ((((w1.setCell ⟨A + 1, 0, none⟩ (.int .i64 0)).setCell ⟨A + 1, 1, none⟩ (.slice none 0 0)).setCell ⟨A + 1, 2, none⟩ (.slice none 0 0)).setCell ⟨A + 1, 3, none⟩ (.slice none 0 0)) = WZ
    intro hZ hbz
    have cr := (blk_all hZ).1
    exact bodyPost_ret (v := .agg #[.int .i64 0, .slice none 0 0, .slice none 0 0, .slice none 0 0]) (by simp [results, Try.results52, go_sem, cr]) rfl ⟨_, _, _, rfl, ⟨World.ownsRow_nil _ _ _ _, World.ownsRow_nil _ _ _ _, World.ownsRow_nil _ _ _ _, fun k h => by simp [Value.ownBlock] at h, by simp, by simp, by simp⟩, hbz⟩
  · rw [optR_yes hv]
    have HV := Lib.hid hv
    have hvv := c.validB_iff.1 hv
    have HVV := Lib.hid (And.intro hvv (buildC_valid hvv true))
    clear hv hvv
    go_enter Try.func52, Try.ntmps52
    go_upto_region 1 with fail
    rw [← HW.out.1, ← HW.out.2.1]
    have cb := (HB.out _ (Below.refl _ _)).1
    go_wp2_with (first
      | (go_at_call 26; ((with_reducible refine (CircuitValid_s _ c _ (HB.out _ (Below.refl _ _)).2.2.1).mono ?_); rintro e w1 ⟨rfl, hq⟩; rw [HV.out]; have H1 := Lib.hid hq; clear hq cb; have cb := (HB.out _ H1.out).1))
      | (go_at_call 94; ((with_reducible refine (l3Build_any _ c true _ (HB.out _ H1.out).2.2.1 HVV.out.1).mono ?_); rintro e w2 ⟨vn, vg, vo, rfl, ho, hq⟩; have H2 := Lib.hid (And.intro ho (H1.out.trans (hq.mono H1.out.size))); clear hq ho cb))
      | (go_at_call 94; ((with_reducible refine (l3Build_any _ (buildC true c) false _ (show CirV _ (.agg #[.int .i64 c.inp, vn, vg, vo]) (buildC true c) from H2.out.1.toV) HVV.out.2).mono ?_); rintro e w3 ⟨vn3, vg3, vo3, rfl, ho, hq⟩; rw [show (buildC true c).inp = c.inp from rfl]; obtain ⟨sn3, cn3, rfl⟩ := own_shape ho.n; obtain ⟨sg3, cg3, rfl⟩ := own_shape ho.g; obtain ⟨so3, co3, rfl⟩ := own_shape ho.o; have H3 := Lib.hid (And.intro ho (H2.out.2.trans (hq.mono H2.out.2.size))); obtain ⟨rc, rf⟩ := blk_all (HB.out _ H3.out.2).2.1; have HSZ := Lib.hid (show A + 2 ≤ w2.heap.size by have h1 := H2.out.2.size; have h2 := HW.out.2.2; omega); clear hq ho)))
    have hA2 := HW.out.2.1
    have hR := (HB.out _ H3.out.2).2.1
    have hO := (H3.out.1).sets4 (r := A + 1) (by have := HSZ.out; omega) (base := w.heap.size) (by have := HSZ.out; omega) (a := .int .i64 c.inp) (b' := .slice sn3 (buildC false (buildC true c)).next.length cn3) (c' := .slice sg3 (buildC false (buildC true c)).gates.length cg3) (d := .slice so3 (buildC false (buildC true c)).outs.length co3)
    have hZ : ((((w3.setCell ⟨A + 1, 0, none⟩ (.int .i64 c.inp)).setCell ⟨A + 1, 1, none⟩ (.slice sn3 (buildC false (buildC true c)).next.length cn3)).setCell ⟨A + 1, 2, none⟩ (.slice sg3 (buildC false (buildC true c)).gates.length cg3)).setCell ⟨A + 1, 3, none⟩ (.slice so3 (buildC false (buildC true c)).outs.length co3)).heap[A + 1]? = some (.cells #[.int .i64 c.inp, .slice sn3 (buildC false (buildC true c)).next.length cn3, .slice sg3 (buildC false (buildC true c)).gates.length cg3, .slice so3 (buildC false (buildC true c)).outs.length co3] 29 (0, 0)) := by
      simpa using blk_set (o := 3) (v := .slice so3 (buildC false (buildC true c)).outs.length co3) (blk_set (o := 2) (v := .slice sg3 (buildC false (buildC true c)).gates.length cg3) (blk_set (o := 1) (v := .slice sn3 (buildC false (buildC true c)).next.length cn3) (blk_set (o := 0) (v := .int .i64 c.inp) hR)))
    have hbz := ((((HB.out _ H3.out.2).2.2.2.setCell (p := ⟨A + 1, 0, none⟩) (by simp; omega) (.int .i64 c.inp)).setCell (p := ⟨A + 1, 1, none⟩) (by simp; omega) (.slice sn3 (buildC false (buildC true c)).next.length cn3)).setCell (p := ⟨A + 1, 2, none⟩) (by simp; omega) (.slice sg3 (buildC false (buildC true c)).gates.length cg3)).setCell (p := ⟨A + 1, 3, none⟩) (by simp; omega) (.slice so3 (buildC false (buildC true c)).outs.length co3)
    clear rc rf
    revert hZ hbz hO
    generalize ((((w3.setCell ⟨A + 1, 0, none⟩ (.int .i64 c.inp)).setCell ⟨A + 1, 1, none⟩ (.slice sn3 (buildC false (buildC true c)).next.length cn3)).setCell ⟨A + 1, 2, none⟩ (.slice sg3 (buildC false (buildC true c)).gates.length cg3)).setCell ⟨A + 1, 3, none⟩ (.slice so3 (buildC false (buildC true c)).outs.length co3)) = WZ
    intro hO hZ hbz
    have cr := (blk_all hZ).1
    exact bodyPost_ret (v := .agg #[.int .i64 c.inp, .slice sn3 (buildC false (buildC true c)).next.length cn3, .slice sg3 (buildC false (buildC true c)).gates.length cg3, .slice so3 (buildC false (buildC true c)).outs.length co3]) (by simp [results, Try.results52, go_sem, cr]) rfl ⟨_, _, _, rfl, hO, hbz⟩

/-! The first undetectable fault of a gate. -/

def undB (c : Cir) (p : Int) (val : Bool) : Bool := decide (findN (detV c p val) (asgN c) < 0)
/-- Among the first k gates. -/
def frstU (c : Cir) (F : Nat) : Nat → Option (Nat × Bool)
  | 0 => none
  | k + 1 => match frstU c F k with
    | some r => some r
    | none => if undB c ((F + k : Nat) : Int) false then some (k, false) else if undB c ((F + k : Nat) : Int) true then some (k, true) else none
theorem frstU_hit {c : Cir} {F k : Nat} {r : Nat × Bool} (h : frstU c F (k + 1) = some r) : ∀ n, k + 1 ≤ n → frstU c F n = some r
  | 0, hn => by omega
  | n + 1, hn => by
    by_cases e : n = k
    · subst e; exact h
    · have := frstU_hit h n (by omega)
      show (match frstU c F n with | some r => some r | none => _) = _
      rw [this]
theorem frstU_f {c : Cir} {F k : Nat} (h : frstU c F k = none) (h1 : undB c ((F + k : Nat) : Int) false = true) : frstU c F (k + 1) = some (k, false) := by
  show (match frstU c F k with | some r => some r | none => _) = _
  rw [h]
  show (if undB c ((F + k : Nat) : Int) false = true then _ else _) = _
  rw [if_pos h1]
theorem frstU_t {c : Cir} {F k : Nat} (h : frstU c F k = none) (h1 : undB c ((F + k : Nat) : Int) false = false) (h2 : undB c ((F + k : Nat) : Int) true = true) : frstU c F (k + 1) = some (k, true) := by
  show (match frstU c F k with | some r => some r | none => _) = _
  rw [h]
  show (if undB c ((F + k : Nat) : Int) false = true then _ else _) = _
  rw [if_neg (by rw [h1]; decide), if_pos h2]
theorem frstU_n {c : Cir} {F k : Nat} (h : frstU c F k = none) (h1 : undB c ((F + k : Nat) : Int) false = false) (h2 : undB c ((F + k : Nat) : Int) true = false) : frstU c F (k + 1) = none := by
  show (match frstU c F k with | some r => some r | none => _) = _
  rw [h]
  show (if undB c ((F + k : Nat) : Int) false = true then _ else _) = _
  rw [if_neg (by rw [h1]; decide), if_neg (by rw [h2]; decide)]
theorem frstU_lt {c : Cir} {F : Nat} : ∀ {n : Nat} {r : Nat × Bool}, frstU c F n = some r → r.1 < n
  | 0, _, h => by cases h
  | n + 1, r, h => by
    cases e : frstU c F n with
    | some r' =>
      have h2 := frstU_hit (k := n) (r := r) h (n + 1) (Nat.le_refl _)
      have h3 : frstU c F (n + 1) = some r' := by
        show (match frstU c F n with | some r => some r | none => _) = _
        rw [e]
      rw [h3] at h2; cases h2
      have := frstU_lt e
      omega
    | none =>
      cases e1 : undB c ((F + n : Nat) : Int) false
      · cases e2 : undB c ((F + n : Nat) : Int) true
        · rw [frstU_n e e1 e2] at h; cases h
        · rw [frstU_t e e1 e2] at h; cases h; simp
      · rw [frstU_f e e1] at h; cases h; simp
def fvU (F : Nat) : Option (Nat × Bool) → Int
  | some (k, _) => ((F + k : Nat) : Int)
  | none => 0
def fbU : Option (Nat × Bool) → Bool
  | some (_, b) => b
  | none => false
def fstU (c : Cir) : Option (Nat × Bool) := frstU c c.first.toNat c.gates.length
def irrB (c : Cir) : Bool := c.validB && !(fstU c).isSome
def stepR (c : Cir) : Cir := match fstU c with
  | some (k, val) => optR (c.mapC (forceL ((c.first.toNat + k : Nat) : Int) val))
  | none => c
theorem undB_neg {c : Cir} {p : Int} {val : Bool} (h : undB c p val = true) : findN (detV c p val) (asgN c) < 0 := by simpa [undB] using h
theorem undB_pos {c : Cir} {p : Int} {val : Bool} (h : undB c p val = false) : ¬ findN (detV c p val) (asgN c) < 0 := by simpa [undB] using h
theorem findN_rangeO (p : Int → Bool) (N : Nat) : findN p N = -1 ∨ (0 ≤ findN p N ∧ findN p N < N) := by
  unfold findN
  cases h : (List.range N).find? (fun (x : Nat) => p (x : Int)) with
  | none => exact .inl rfl
  | some x =>
    have := List.mem_of_find?_eq_some h
    have := List.mem_range.1 this
    exact .inr ⟨by simp, by simp; omega⟩
theorem findN_bd (f : Int → Bool) {N : Nat} (h : N ≤ 1000) : -1 ≤ findN f N ∧ findN f N ≤ 1000 := by
  rcases findN_rangeO f N with e | e <;> omega

set_option maxRecDepth 100000 in
set_option maxHeartbeats 3200000 in
theorem redundant_any (b : Nat) (sn sg so : Option Addr) (cn cg co : Nat) (c : Cir) (w : World) (h : CirAt w b c.inp (.slice sn c.next.length cn) (.slice sg c.gates.length cg) (.slice so c.outs.length co)) (hn : Sl w sn (ints c.next)) (hg : Sl w sg (gcells c.gates)) (ho : Sl w so (ints c.outs)) (hv : c.valid) :
    Calls Try.prog 58 #[.pointer (some ⟨b, 0, none⟩)] w fun e w' => e = .returned (.tuple #[.agg #[.int .i64 (fvU c.first.toNat (fstU c)), .bool (fbU (fstU c))], .bool (fstU c).isSome]) ∧ Below w.heap.size w w' := by
  have HBl : Hid (b < w.heap.size) := World.block_lt_of_cell? w _ h.h0
  obtain ⟨q1, q2, q3, q4, q5⟩ := id hv.lim
  obtain ⟨n1, n2⟩ := asgN_le hv
  obtain ⟨W0, hW0⟩ : ∃ W0, W0 = w.alloc (.cells #[.int .i64 0, .bool false] 51) := ⟨_, rfl⟩
  obtain ⟨R, hR⟩ : ∃ R, R = w.heap.size := ⟨_, rfl⟩
  have z1 : W0.heap.size = R + 1 := by rw [hW0, hR]; simp
  have z2 : W0.heap[R]? = some (.cells #[.int .i64 0, .bool false] 51 (0, 0)) := by rw [hW0, hR]; exact blk_new w _
  have z4 : Below w.heap.size w W0 := by rw [hW0]; exact (Below.refl _ _).alloc (Nat.le_refl _) _
  have HW := Lib.hid (And.intro hW0 (And.intro hR z1))
  have HB : Hid (∀ W, Below W0.heap.size W0 W → CirAt W b c.inp (.slice sn c.next.length cn) (.slice sg c.gates.length cg) (.slice so c.outs.length co) ∧ W.heap[R]? = some (.cells #[.int .i64 0, .bool false] 51 (0, 0)) ∧ Below w.heap.size w W) := fun W hW => by
    have hb := z4.trans (hW.mono z4.size)
    exact ⟨⟨(hb.cell (p := ⟨b, 0, none⟩) HBl.out).trans h.h0, (hb.cell (p := ⟨b, 1, none⟩) HBl.out).trans h.h1, (hb.cell (p := ⟨b, 2, none⟩) HBl.out).trans h.h2, (hb.cell (p := ⟨b, 3, none⟩) HBl.out).trans h.h3⟩, blk_below hW (by omega) z2, hb⟩
  have HS := Lib.hid (And.intro hn (And.intro hg (And.intro ho hv)))
  clear h hn hg ho hv hW0 hR z1 z2 z4
  obtain ⟨F, hF⟩ : ∃ F : Nat, 1 + c.inp + (c.next.length : Int) = F := ⟨(1 + c.inp + (c.next.length : Int)).toNat, by omega⟩
  have hF8 : F ≤ 8 := by omega
  obtain ⟨n, hnn⟩ : ∃ n, n = c.gates.length := ⟨_, rfl⟩
  have hn14 : n ≤ 14 := by omega
  have hfst : fstU c = frstU c F n := by
    unfold fstU
    rw [show c.first = (F : Int) from hF, Int.toNat_natCast, hnn]
  have hfc : c.first.toNat = F := by rw [show c.first = (F : Int) from hF, Int.toNat_natCast]
  rw [hfst, hfc]
  have eV : c.vars = (F : Int) + n := by unfold Cir.vars; omega
  have HFT : Hid (∀ W (k : Nat) (val : Bool), Below W0.heap.size W0 W → k < n → Calls Try.prog 87 #[.pointer (some ⟨b, 0, none⟩), .agg #[.int .i64 ((F + k : Nat) : Int), .bool val]] W fun e w' => e = .returned (.int .i64 (findN (detV c ((F + k : Nat) : Int) val) (asgN c))) ∧ Below W.heap.size W w') := fun W k val hW hk =>
    findTest_any b sn sg so cn cg co c _ val W (HB.out W hW).1 (HS.out.1.mono (HB.out W hW).2.2) (HS.out.2.1.mono (HB.out W hW).2.2) (HS.out.2.2.1.mono (HB.out W hW).2.2) HS.out.2.2.2 (by omega) (by omega)
  rw [← hnn] at HB
  have HFF := Lib.hid (And.intro hF hnn)
  clear hF hnn hfst hfc eV HS q4
  obtain ⟨O, hO⟩ : ∃ O, O = frstU c F n := ⟨_, rfl⟩
  rw [← hO]
  have HO := Lib.hid hO
  clear hO
  go_enter Try.func58, Try.ntmps58
  go_upto_region 1 with fail
  rw [← HW.out.1, ← HW.out.2.1]
  go_upto_region 2 with (go_at_call 100; ((with_reducible refine (firstGate_any _ _ _ _ _ _ _ _ (HB.out _ (Below.refl _ _)).1 (by omega) (by omega)).mono ?_); rintro e w1 ⟨rfl, hq⟩; rw [HFF.out.1]; have H1 := Lib.hid (hq.below W0.heap.size); clear hq))
  go_loopw [4] (fun s4 wr => ∃ k : Nat, k ≤ n ∧ s4 = .int .i64 ((F + k : Nat) : Int) ∧ frstU c F k = none ∧ Below W0.heap.size W0 wr) (fun s4 _ => F + n - (intOf s4).toNat)
  case atStart => exact ⟨0, Nat.zero_le _, rfl, rfl, H1.out⟩
  case round =>
    obtain ⟨k, hk, rfl, hno, hb⟩ := hrel
    obtain ⟨wt, rfl⟩ : ∃ wt, wt = wr := ⟨_, rfl⟩
    have HK := Lib.hid (And.intro hno hb)
    clear hno hb
    obtain ⟨p, hp⟩ : ∃ p, F + k = p := ⟨_, rfl⟩
    have hp22 : p ≤ 22 := by omega
    by_cases hlt : k < n
    · have hdn : decide ((p : Int) < (F : Int) + (n : Int)) = true := by simp; omega
      rw [hp]
      have HP := Lib.hid hp
      clear hp
      go_upto_region 5 with (go_at_call 78; ((with_reducible refine (vars_any _ _ _ _ _ _ _ _ _ _ (HB.out _ HK.out.2).1 (by omega) (by omega) (by omega)).mono ?_); rintro e w2 ⟨rfl, hq⟩; rw [HFF.out.1]; have H2 := Lib.hid (HK.out.2.trans (hq.below _)); clear hq))
      have hkO := blk_new w2 (.cells #[.int .i64 p, .bool false, .int .i64 p, .bool true] 51)
      have hbO := H2.out.alloc H2.out.size (.cells #[.int .i64 p, .bool false, .int .i64 p, .bool true] 51)
      obtain ⟨Ob, hOb⟩ : ∃ Ob, Ob = w2.heap.size := ⟨_, rfl⟩
      rw [← hOb] at hkO
      rw [← hOb]
      clear hOb
      revert hbO hkO
      generalize w2.alloc (.cells #[.int .i64 p, .bool false, .int .i64 p, .bool true] 51) = W3
      intro hbO hkO
      have H3 := Lib.hid (And.intro hkO hbO)
      clear hkO hbO
      go_loopw [21] (fun s21 wz => ∃ j : Nat, j ≤ 2 ∧ s21 = .int .i64 j ∧ (1 ≤ j → undB c p false = false) ∧ (2 ≤ j → undB c p true = false) ∧ wz.heap[Ob]? = some (.cells #[.int .i64 p, .bool false, .int .i64 p, .bool true] 51 (0, 0)) ∧ Below W0.heap.size W0 wz) (fun s21 _ => 2 - (intOf s21).toNat)
      case atStart => exact ⟨0, by omega, rfl, fun h => by omega, fun h => by omega, H3.out.1, H3.out.2⟩
      case round =>
        obtain ⟨j, hj, rfl, hu0, hu1, hkO, hb⟩ := hrel
        have HJ := Lib.hid (And.intro hu0 (And.intro hu1 (And.intro hkO hb)))
        have cO := (blk_all hkO).1
        clear hu0 hu1 hkO hb
        rcases (show j = 0 ∨ j = 1 ∨ j = 2 by omega) with rfl | rfl | rfl
        · obtain ⟨X, hX⟩ : ∃ X, X = findN (detV c (p : Int) false) (asgN c) := ⟨_, rfl⟩
          have hXb := findN_bd (detV c (p : Int) false) (N := asgN c) (by omega)
          rw [← hX] at hXb
          obtain ⟨x1, x2⟩ := hXb
          have HX := Lib.hid hX
          clear hX
          go_upto_region 7 with fail
          have hb6 := HJ.out.2.2.2.alloc HJ.out.2.2.2.size (.cells #[.int .i64 p, .bool false] 51)
          have hk6 := blk_new wr (.cells #[.int .i64 p, .bool false] 51)
          have hO6 := blk_old (o := .cells #[.int .i64 p, .bool false] 51) HJ.out.2.2.1
          obtain ⟨Y, hY⟩ : ∃ Y, Y = wr.heap.size := ⟨_, rfl⟩
          rw [← hY] at hk6
          rw [← hY]
          clear hY cO
          revert hb6 hk6 hO6
          generalize wr.alloc (.cells #[.int .i64 p, .bool false] 51) = W6
          intro hb6 hO6 hk6
          have H6 := Lib.hid (And.intro hk6 (And.intro hO6 hb6))
          clear hk6 hO6 hb6
          have cY := (blk_all H6.out.1).1
          by_cases hX0 : X < 0
          · have hun : undB c (p : Int) false = true := by unfold undB; rw [← HX.out]; simpa using hX0
            have ho : O = some (k, false) := by
              rw [HO.out]
              refine frstU_hit (k := k) ?_ n (by omega)
              exact frstU_f HK.out.1 (by rw [HP.out]; exact hun)
            subst ho
            go_wp2_with (go_at_call 87; ((have hft := HFT.out _ k false H6.out.2.2 hlt); rw [HP.out] at hft; (refine hft.mono ?_); rintro e w7 ⟨rfl, hq⟩; rw [← HX.out]; have H7 := Lib.hid (H6.out.2.2.trans (hq.mono H6.out.2.2.size)); have hY7 := (blk_all (blk_below hq (blk_lt H6.out.1) H6.out.1)).1; obtain ⟨rc, rf⟩ := blk_all (HB.out _ H7.out).2.1; clear hq cY))
            have hZ : ((w7.setCell ⟨R, 0, none⟩ (.int .i64 (p : Int))).setCell ⟨R, 1, none⟩ (.bool false)).heap[R]? = some (.cells #[.int .i64 (p : Int), .bool false] 51 (0, 0)) := by
              simpa using blk_set (o := 1) (v := .bool false) (blk_set (o := 0) (v := .int .i64 (p : Int)) (HB.out _ H7.out).2.1)
            have hR2 := HW.out.2.1
            have hbz := ((HB.out _ H7.out).2.2.setCell (p := ⟨R, 0, none⟩) (by rw [hR2]; exact Nat.le_refl _) (.int .i64 (p : Int))).setCell (p := ⟨R, 1, none⟩) (by rw [hR2]; exact Nat.le_refl _) (.bool false)
            clear rc rf
            revert hZ hbz
            generalize ((w7.setCell ⟨R, 0, none⟩ (.int .i64 (p : Int))).setCell ⟨R, 1, none⟩ (.bool false)) = WZ
            intro hZ hbz
            have cr := (blk_all hZ).1
            exact bodyPost_ret (v := .tuple #[.agg #[.int .i64 (p : Int), .bool false], .bool true]) (by simp [results, Try.results58, go_sem, cr]) rfl ⟨by show _ = Ending.returned (.tuple #[.agg #[.int .i64 ((F + k : Nat) : Int), .bool false], .bool true]); rw [HP.out], hbz⟩
          · have hun : undB c (p : Int) false = false := by unfold undB; rw [← HX.out]; simpa using hX0
            have HUN := Lib.hid hun
            clear hun
            go_wp2_with (go_at_call 87; ((have hft := HFT.out _ k false H6.out.2.2 hlt); rw [HP.out] at hft; (refine hft.mono ?_); rintro e w7 ⟨rfl, hq⟩; rw [← HX.out]; have H7 := Lib.hid (And.intro (blk_below hq (blk_lt H6.out.2.1) H6.out.2.1) (H6.out.2.2.trans (hq.mono H6.out.2.2.size))); clear hq cY))
            go_roundw
            case rel => exact ⟨0 + 1, by omega, by first | rfl | go_num, fun _ => HUN.out, fun h => by omega, H7.out.1, H7.out.2⟩
            case measure => simp [intOf]
        · obtain ⟨X, hX⟩ : ∃ X, X = findN (detV c (p : Int) true) (asgN c) := ⟨_, rfl⟩
          have hXb := findN_bd (detV c (p : Int) true) (N := asgN c) (by omega)
          rw [← hX] at hXb
          obtain ⟨x1, x2⟩ := hXb
          have HX := Lib.hid hX
          clear hX
          go_upto_region 7 with fail
          have hb6 := HJ.out.2.2.2.alloc HJ.out.2.2.2.size (.cells #[.int .i64 p, .bool true] 51)
          have hk6 := blk_new wr (.cells #[.int .i64 p, .bool true] 51)
          have hO6 := blk_old (o := .cells #[.int .i64 p, .bool true] 51) HJ.out.2.2.1
          obtain ⟨Y, hY⟩ : ∃ Y, Y = wr.heap.size := ⟨_, rfl⟩
          rw [← hY] at hk6
          rw [← hY]
          clear hY cO
          revert hb6 hk6 hO6
          generalize wr.alloc (.cells #[.int .i64 p, .bool true] 51) = W6
          intro hb6 hO6 hk6
          have H6 := Lib.hid (And.intro hk6 (And.intro hO6 hb6))
          clear hk6 hO6 hb6
          have cY := (blk_all H6.out.1).1
          by_cases hX0 : X < 0
          · have hun : undB c (p : Int) true = true := by unfold undB; rw [← HX.out]; simpa using hX0
            have ho : O = some (k, true) := by
              rw [HO.out]
              refine frstU_hit (k := k) ?_ n (by omega)
              exact frstU_t HK.out.1 (by rw [HP.out]; exact HJ.out.1 (by omega)) (by rw [HP.out]; exact hun)
            subst ho
            go_wp2_with (go_at_call 87; ((have hft := HFT.out _ k true H6.out.2.2 hlt); rw [HP.out] at hft; (refine hft.mono ?_); rintro e w7 ⟨rfl, hq⟩; rw [← HX.out]; have H7 := Lib.hid (H6.out.2.2.trans (hq.mono H6.out.2.2.size)); have hY7 := (blk_all (blk_below hq (blk_lt H6.out.1) H6.out.1)).1; obtain ⟨rc, rf⟩ := blk_all (HB.out _ H7.out).2.1; clear hq cY))
            have hZ : ((w7.setCell ⟨R, 0, none⟩ (.int .i64 (p : Int))).setCell ⟨R, 1, none⟩ (.bool true)).heap[R]? = some (.cells #[.int .i64 (p : Int), .bool true] 51 (0, 0)) := by
              simpa using blk_set (o := 1) (v := .bool true) (blk_set (o := 0) (v := .int .i64 (p : Int)) (HB.out _ H7.out).2.1)
            have hR2 := HW.out.2.1
            have hbz := ((HB.out _ H7.out).2.2.setCell (p := ⟨R, 0, none⟩) (by rw [hR2]; exact Nat.le_refl _) (.int .i64 (p : Int))).setCell (p := ⟨R, 1, none⟩) (by rw [hR2]; exact Nat.le_refl _) (.bool true)
            clear rc rf
            revert hZ hbz
            generalize ((w7.setCell ⟨R, 0, none⟩ (.int .i64 (p : Int))).setCell ⟨R, 1, none⟩ (.bool true)) = WZ
            intro hZ hbz
            have cr := (blk_all hZ).1
            exact bodyPost_ret (v := .tuple #[.agg #[.int .i64 (p : Int), .bool true], .bool true]) (by simp [results, Try.results58, go_sem, cr]) rfl ⟨by show _ = Ending.returned (.tuple #[.agg #[.int .i64 ((F + k : Nat) : Int), .bool true], .bool true]); rw [HP.out], hbz⟩
          · have hun : undB c (p : Int) true = false := by unfold undB; rw [← HX.out]; simpa using hX0
            have HUN := Lib.hid hun
            clear hun
            go_wp2_with (go_at_call 87; ((have hft := HFT.out _ k true H6.out.2.2 hlt); rw [HP.out] at hft; (refine hft.mono ?_); rintro e w7 ⟨rfl, hq⟩; rw [← HX.out]; have H7 := Lib.hid (And.intro (blk_below hq (blk_lt H6.out.2.1) H6.out.2.1) (H6.out.2.2.trans (hq.mono H6.out.2.2.size))); clear hq cY))
            go_roundw
            case rel => exact ⟨1 + 1, by omega, by first | rfl | go_num, fun _ => HJ.out.1 (by omega), fun _ => HUN.out, H7.out.1, H7.out.2⟩
            case measure => simp [intOf]
        · go_wp2_with fail
          go_roundw
          case rel => exact ⟨k + 1, by omega, by have := HP.out; first | go_num | (congr 1; omega), frstU_n HK.out.1 (by rw [HP.out]; exact HJ.out.1 (by omega)) (by rw [HP.out]; exact HJ.out.2.1 (by omega)), HJ.out.2.2.2⟩
          case measure => have := HP.out; simp [intOf]; try omega
    · obtain rfl : n = k := by omega
      have hdn : decide ((p : Int) < (F : Int) + (n : Int)) = false := by simp; omega
      rw [hp]
      clear hp
      have ho : O = none := by rw [HO.out]; exact HK.out.1
      subst ho
      go_upto_region 10 with (go_at_call 78; ((with_reducible refine (vars_any _ _ _ _ _ _ _ _ _ _ (HB.out _ HK.out.2).1 (by omega) (by omega) (by omega)).mono ?_); rintro e w2 ⟨rfl, hq⟩; rw [HFF.out.1]; have H2 := Lib.hid (HK.out.2.trans (hq.below _)); clear hq; obtain ⟨rc, rf⟩ := blk_all (HB.out _ H2.out).2.1))
      go_wp2_with fail
      have hZ : ((w2.setCell ⟨R, 0, none⟩ (.int .i64 0)).setCell ⟨R, 1, none⟩ (.bool false)).heap[R]? = some (.cells #[.int .i64 0, .bool false] 51 (0, 0)) := by
        simpa using blk_set (o := 1) (v := .bool false) (blk_set (o := 0) (v := .int .i64 0) (HB.out _ H2.out).2.1)
      have hR2 := HW.out.2.1
      have hbz := ((HB.out _ H2.out).2.2.setCell (p := ⟨R, 0, none⟩) (by rw [hR2]; exact Nat.le_refl _) (.int .i64 0)).setCell (p := ⟨R, 1, none⟩) (by rw [hR2]; exact Nat.le_refl _) (.bool false)
      clear rc rf
      revert hZ hbz
      generalize ((w2.setCell ⟨R, 0, none⟩ (.int .i64 0)).setCell ⟨R, 1, none⟩ (.bool false)) = WZ
      intro hZ hbz
      have cr := (blk_all hZ).1
      exact bodyPost_ret (v := .tuple #[.agg #[.int .i64 0, .bool false], .bool false]) (by simp [results, Try.results58, go_sem, cr]) rfl ⟨by rfl, hbz⟩

set_option maxRecDepth 100000 in
set_option maxHeartbeats 1600000 in
theorem Irredundant_i (v : Value) (c : Cir) (w : World) (h : CirV w v c) :
    Calls Try.prog 38 #[v] w fun e w' => e = .returned (.bool (irrB c)) ∧ Below w.heap.size w w' := by
  have HG := Lib.hid h
  obtain ⟨sn, cn, sg, cg, so, co, rfl, h1, h2, h3, -, -, -⟩ := h
  have HS := Lib.hid (And.intro h1 (And.intro h2 h3))
  clear h1 h2 h3
  have hk := blk_new w (.cells #[.int .i64 c.inp, .slice sn c.next.length cn, .slice sg c.gates.length cg, .slice so c.outs.length co] 29)
  have hb := (Below.refl w.heap.size w).alloc (Nat.le_refl _) (.cells #[.int .i64 c.inp, .slice sn c.next.length cn, .slice sg c.gates.length cg, .slice so c.outs.length co] 29)
  have HL := Lib.hid (And.intro hk hb)
  clear hk hb
  cases hv : c.validB
  · have e : irrB c = false := by unfold irrB; rw [hv]; rfl
    rw [e]
    have HV := Lib.hid hv
    clear hv e
    go_enter Try.func38, Try.ntmps38
    go_wp2_with (go_at_call 56; ((with_reducible refine (CircuitValid_i _ c _ (HG.out.mono HL.out.2)).mono ?_); rintro e w1 ⟨rfl, hq⟩; rw [HV.out]; have HQ := Lib.hid (HL.out.2.trans (hq.mono HL.out.2.size)); clear hq))
    go_ret
    exact ⟨rfl, HQ.out⟩
  · have e : irrB c = !(fstU c).isSome := by unfold irrB; rw [hv]; rfl
    rw [e]
    have HV := Lib.hid (And.intro hv (c.validB_iff.1 hv))
    clear hv e
    obtain ⟨B, hB⟩ : ∃ B, B = (fstU c).isSome := ⟨_, rfl⟩
    rw [← hB]
    have HBB := Lib.hid hB
    clear hB
    go_enter Try.func38, Try.ntmps38
    go_wp2_with (first
      | (go_at_call 56; ((with_reducible refine (CircuitValid_i _ c _ (HG.out.mono HL.out.2)).mono ?_); rintro e w1 ⟨rfl, hq⟩; rw [HV.out.1]; have H1 := Lib.hid (And.intro (blk_below hq (blk_lt HL.out.1) HL.out.1) (HL.out.2.trans (hq.mono HL.out.2.size))); clear hq))
      | (go_at_call 58; ((refine (redundant_any _ _ _ _ _ _ _ c _ (CirAt.of_blk H1.out.1) (HS.out.1.mono H1.out.2) (HS.out.2.1.mono H1.out.2) (HS.out.2.2.mono H1.out.2) HV.out.2).mono ?_); rintro e w2 ⟨rfl, hq⟩; rw [← HBB.out]; have H2 := Lib.hid (H1.out.2.trans (hq.mono H1.out.2.size)); clear hq)))
    go_ret
    exact ⟨rfl, by first | exact H2.out | exact H2.out.alloc H2.out.size _⟩

/-! l18Step: the first redundant gate is replaced. -/

theorem CirV.shape {w : World} {v : Value} {c : Cir} {i : Int} {vn vg vo : Value} (hv : v = .agg #[.int .i64 i, vn, vg, vo]) (h : CirV w v c) : ∃ sn cn sg cg so co, vn = .slice sn c.next.length cn ∧ vg = .slice sg c.gates.length cg ∧ vo = .slice so c.outs.length co := by
  obtain ⟨sn, cn, sg, cg, so, co, e, -⟩ := h
  rw [hv] at e
  simp only [Value.agg.injEq, Array.mk.injEq, List.cons.injEq, and_true] at e
  exact ⟨sn, cn, sg, cg, so, co, e.2.1, e.2.2.1, e.2.2.2⟩
def StPost (c : Cir) (b : Bool) (w : World) (e : Ending) (w' : World) : Prop :=
  ∃ vn vg vo, e = .returned (.tuple #[.agg #[.int .i64 c.inp, vn, vg, vo], .bool b]) ∧ CirV w' (.agg #[.int .i64 c.inp, vn, vg, vo]) c ∧ Below w.heap.size w w'

set_option maxRecDepth 100000 in
set_option maxHeartbeats 6400000 in
theorem l18Step_any (v : Value) (c : Cir) (w : World) (h : CirV w v c) (hv : c.valid) :
    Calls Try.prog 53 #[v] w (StPost (stepR c) (fstU c).isSome w) := by
  have HG := Lib.hid h
  obtain ⟨sn, cn, sg, cg, so, co, rfl, -, -, -, -, -, -⟩ := h
  obtain ⟨i0, i1, q3, q4, q5⟩ := id hv.lim
  obtain ⟨n1, n2⟩ := asgN_le hv
  obtain ⟨W0, hW0⟩ : ∃ W0, W0 = (w.alloc (.cells #[.int .i64 c.inp, .slice sn c.next.length cn, .slice sg c.gates.length cg, .slice so c.outs.length co] 29)).alloc (.cells #[.int .i64 0, .slice none 0 0, .slice none 0 0, .slice none 0 0] 29) := ⟨_, rfl⟩
  obtain ⟨A, hA⟩ : ∃ A, A = w.heap.size := ⟨_, rfl⟩
  have z1 : W0.heap.size = A + 2 := by rw [hW0, hA]; simp
  have z2 : W0.heap[A]? = some (.cells #[.int .i64 c.inp, .slice sn c.next.length cn, .slice sg c.gates.length cg, .slice so c.outs.length co] 29 (0, 0)) := by rw [hW0, hA]; exact blk_old (blk_new w _)
  have z3 : W0.heap[A + 1]? = some (.cells #[.int .i64 0, .slice none 0 0, .slice none 0 0, .slice none 0 0] 29 (0, 0)) := by rw [hW0, hA]; exact blk_at (by simp)
  have z4 : Below w.heap.size w W0 := by rw [hW0]; exact ((Below.refl _ _).alloc (Nat.le_refl _) _).alloc (by simp) _
  have HW := Lib.hid (And.intro hW0 (And.intro hA z1))
  have HB : Hid (∀ W, Below W0.heap.size W0 W → (∀ o, W.cell? ⟨A, o, none⟩ = #[Value.int .i64 c.inp, .slice sn c.next.length cn, .slice sg c.gates.length cg, .slice so c.outs.length co][o]?) ∧ W.heap[A + 1]? = some (.cells #[.int .i64 0, .slice none 0 0, .slice none 0 0, .slice none 0 0] 29 (0, 0)) ∧ CirV W (.agg #[.int .i64 c.inp, .slice sn c.next.length cn, .slice sg c.gates.length cg, .slice so c.outs.length co]) c ∧ Below w.heap.size w W) := fun W hW => ⟨(blk_all (blk_below hW (by omega) z2)).1, blk_below hW (by omega) z3, HG.out.mono (z4.trans (hW.mono z4.size)), z4.trans (hW.mono z4.size)⟩
  have HV := Lib.hid hv
  clear hv hW0 hA z1 z2 z3 z4
  obtain ⟨F, hF⟩ : ∃ F : Nat, 1 + c.inp + (c.next.length : Int) = F := ⟨(1 + c.inp + (c.next.length : Int)).toNat, by omega⟩
  have hF8 : F ≤ 8 := by omega
  obtain ⟨n, hnn⟩ : ∃ n, n = c.gates.length := ⟨_, rfl⟩
  have hn14 : n ≤ 14 := by omega
  have hfst : fstU c = frstU c F n := by
    unfold fstU
    rw [show c.first = (F : Int) from hF, Int.toNat_natCast, hnn]
  have hfc : c.first.toNat = F := by rw [show c.first = (F : Int) from hF, Int.toNat_natCast]
  have eV : c.vars = (F : Int) + n := by unfold Cir.vars; omega
  have HFT : Hid (∀ W (k : Nat) (val : Bool), Below W0.heap.size W0 W → k < n → Calls Try.prog 104 #[.agg #[.int .i64 c.inp, .slice sn c.next.length cn, .slice sg c.gates.length cg, .slice so c.outs.length co], .agg #[.int .i64 ((F + k : Nat) : Int), .bool val]] W fun e w' => e = .returned (.int .i64 (findN (detV c ((F + k : Nat) : Int) val) (asgN c))) ∧ Below W.heap.size W w') := fun W k val hW hk =>
    l12Find_any _ c _ val W (HB.out W hW).2.2.1 HV.out (by omega) (by omega)
  have HLF : Hid (∀ W (k : Nat) (val : Bool), Below W0.heap.size W0 W → k < n → Calls Try.prog 105 #[.agg #[.int .i64 c.inp, .slice sn c.next.length cn, .slice sg c.gates.length cg, .slice so c.outs.length co], .int .i64 ((F + k : Nat) : Int), .bool val] W fun e w' => ∃ vn vg vo, e = .returned (.agg #[.int .i64 c.inp, vn, vg, vo]) ∧ CirOwn w' W.heap.size (c.mapC (forceL ((F + k : Nat) : Int) val)) vn vg vo ∧ Below W.heap.size W w') := fun W k val hW hk =>
    l18Force_any _ c (F + k) val W (HB.out W hW).2.2.1 HV.out (by omega)
  have HST : Hid (∀ (k : Nat) (val : Bool), frstU c F n = some (k, val) → stepR c = optR (c.mapC (forceL ((F + k : Nat) : Int) val)) ∧ (fstU c).isSome = true) := fun k val hh => by
    rw [← hfst] at hh
    unfold stepR
    rw [hh, hfc]
    exact ⟨rfl, rfl⟩
  have HSN : Hid (frstU c F n = none → stepR c = c ∧ (fstU c).isSome = false) := fun hh => by
    rw [← hfst] at hh
    unfold stepR
    rw [hh]
    exact ⟨rfl, rfl⟩
  rw [← hnn] at HB HW HFT HLF ⊢
  have HFF := Lib.hid (And.intro hF hnn)
  have wf : IntKind.i64.wrap ((F : Int) + (n : Int)) = (F : Int) + n := IntWalk.i64_in _ ⟨by omega, by omega⟩
  clear hF hnn hfst hfc eV q4
  obtain ⟨O, hO⟩ : ∃ O, O = frstU c F n := ⟨_, rfl⟩
  rw [← hO] at HST HSN
  have HO := Lib.hid hO
  clear hO
  obtain ⟨S, hS⟩ : ∃ S, S = stepR c := ⟨_, rfl⟩
  obtain ⟨Ob, hOb⟩ : ∃ Ob, Ob = (fstU c).isSome := ⟨_, rfl⟩
  rw [← hS, ← hOb] at HST HSN ⊢
  clear hS hOb
  go_enter Try.func53, Try.ntmps53
  go_upto_region 1 with fail
  rw [← HW.out.1, ← HW.out.2.1]
  have cb := (HB.out _ (Below.refl _ _)).1
  go_upto_region 2 with (go_at_call 67; ((with_reducible refine (l1First_any _ _ _ _ _ _ _ (by omega) (by omega)).mono ?_); rintro e w1 ⟨rfl, hq⟩; rw [HFF.out.1]; have H1 := Lib.hid hq; clear hq cb))
  go_loopw [4] (fun s4 wr => ∃ k : Nat, k ≤ n ∧ s4 = .int .i64 ((F + k : Nat) : Int) ∧ frstU c F k = none ∧ Below W0.heap.size W0 wr) (fun s4 _ => F + n - (intOf s4).toNat)
  case atStart => exact ⟨0, Nat.zero_le _, rfl, rfl, H1.out⟩
  case round =>
    obtain ⟨k, hk, rfl, hno, hb⟩ := hrel
    obtain ⟨wt, rfl⟩ : ∃ wt, wt = wr := ⟨_, rfl⟩
    have HK := Lib.hid (And.intro hno hb)
    clear hno hb
    obtain ⟨p, hp⟩ : ∃ p, F + k = p := ⟨_, rfl⟩
    have hp22 : p ≤ 22 := by omega
    rw [hp]
    have HP := Lib.hid hp
    clear hp
    go_upto_region 2 with fail
    go_cut [15] from 8 to 15 (fun s15 wx => s15 = .bool (decide ((p : Int) < (F : Int) + (n : Int))) ∧ Below W0.heap.size W0 wx)
    case first =>
      have hd := HK.out.2.drew
      refine wp_region_T (fun w' => ∀ o, w'.cell? ⟨A, o, none⟩ = #[Value.int .i64 c.inp, .slice sn c.next.length cn, .slice sg n cg, .slice so c.outs.length co][o]?) (.q 0 (.q 1 (.q 3 (.q 4 (.q 5 (.e 2 (.q 6 (.q 7 .nil)))))))) (by kernel_rfl) (by kernel_rfl) (by kernel_rfl) (HB.out _ hd).1 ?_
      repeat (first | (refine ordt_s (o := ?_) ?_ ?_ ?_; rotate_left 1; (focus ((simp only [List.getElem?_toArray, List.getElem?_cons_succ, List.getElem?_cons_zero]) <;> rfl)); (focus rfl); simp only [Act.put, List.setIfInBounds_toArray, List.set_cons_zero, List.set_cons_succ]) | (refine ordt_q (o := ?_) (v := ?_) ?_ ?_ ?_ ?_; rotate_left 2; (focus ((simp only [List.getElem?_toArray, List.getElem?_cons_succ, List.getElem?_cons_zero]) <;> rfl)); (focus rfl); (focus (intro w' hS; (try dsimp only at hS); go_split_ands; go_simp; (try (with_reducible rfl)))); simp only [Act.put, List.setIfInBounds_toArray, List.set_cons_zero, List.set_cons_succ]))
      refine ordt_e ?_
      (refine op_e (o := ?_) ?_ ?_ (fun K hK => ?_); rotate_left 1; (focus ((simp only [List.getElem?_toArray, List.getElem?_cons_succ, List.getElem?_cons_zero]) <;> rfl)); (focus rfl); go_simp)
      refine (l1First_any _ _ _ _ _ _ _ (by omega) (by omega)).mono ?_
      rintro e w9 ⟨rfl, hq⟩
      rw [HFF.out.1]
      have hb9 := hd.trans (hq.mono hd.size)
      refine hK.out _ _ (HB.out _ hb9).1 ?_
      clear hK K hq
      have H9 := Lib.hid hb9
      clear hb9 hd
      (try simp only [Act.put, List.setIfInBounds_toArray, List.set_cons_zero, List.set_cons_succ])
      repeat (first | (refine ordt_s (o := ?_) ?_ ?_ ?_; rotate_left 1; (focus ((simp only [List.getElem?_toArray, List.getElem?_cons_succ, List.getElem?_cons_zero]) <;> rfl)); (focus rfl); simp only [Act.put, List.setIfInBounds_toArray, List.set_cons_zero, List.set_cons_succ]) | (refine ordt_q (o := ?_) (v := ?_) ?_ ?_ ?_ ?_; rotate_left 2; (focus ((simp only [List.getElem?_toArray, List.getElem?_cons_succ, List.getElem?_cons_zero]) <;> rfl)); (focus rfl); (focus (intro w' hS; (try dsimp only at hS); go_split_ands; go_simp; (try (with_reducible rfl)))); simp only [Act.put, List.setIfInBounds_toArray, List.set_cons_zero, List.set_cons_succ]))
      refine ordt_nil ?_
      go_wp2_with fail
      go_meet
      exact ⟨rfl, H9.out⟩
    case rest =>
      obtain ⟨rfl, hb3⟩ := hcut
      have H3 := Lib.hid hb3
      clear hb3
      by_cases hlt : k < n
      · rw [decide_eq_true (show (p : Int) < (F : Int) + (n : Int) by have := HP.out; omega)]
        go_upto_region 5 with fail
        go_loopw [5] (fun s5 wz => ∃ j : Nat, j ≤ 2 ∧ s5 = .int .i64 j ∧ (1 ≤ j → undB c p false = false) ∧ (2 ≤ j → undB c p true = false) ∧ Below W0.heap.size W0 wz) (fun s5 _ => 2 - (intOf s5).toNat)
        case atStart => exact ⟨0, by omega, rfl, fun h => by omega, fun h => by omega, H3.out⟩
        case round =>
          obtain ⟨j, hj, rfl, hu0, hu1, hb⟩ := hrel
          have HJ := Lib.hid (And.intro hu0 (And.intro hu1 hb))
          have cA := (HB.out _ hb).1
          clear hu0 hu1 hb
          rcases (show j = 0 ∨ j = 1 ∨ j = 2 by omega) with rfl | rfl | rfl
          · obtain ⟨X, hX⟩ : ∃ X, X = findN (detV c (p : Int) false) (asgN c) := ⟨_, rfl⟩
            have hXb := findN_bd (detV c (p : Int) false) (N := asgN c) (by omega)
            rw [← hX] at hXb
            obtain ⟨x1, x2⟩ := hXb
            have HX := Lib.hid hX
            clear hX
            by_cases hX0 : X < 0
            · have hun : undB c (p : Int) false = true := by unfold undB; rw [← HX.out]; simpa using hX0
              have ho : O = some (k, false) := by
                rw [HO.out]
                refine frstU_hit (k := k) ?_ n (by omega)
                exact frstU_f HK.out.1 (by rw [HP.out]; exact hun)
              obtain ⟨hS, hOb⟩ := HST.out k false ho
              rw [HP.out] at hS
              subst hOb
              have HSS := Lib.hid hS
              clear ho hun hS
              go_wp2_with (first
                | (go_at_call 104; ((have hft := HFT.out _ k false HJ.out.2.2 hlt); rw [HP.out] at hft; (refine hft.mono ?_); rintro e w7 ⟨rfl, hq⟩; rw [← HX.out]; have H7 := Lib.hid (HJ.out.2.2.trans (hq.mono HJ.out.2.2.size)); clear hq cA; have cA := (HB.out _ H7.out).1))
                | (go_at_call 105; ((have hft := HLF.out _ k false H7.out hlt); rw [HP.out] at hft; (refine hft.mono ?_); rintro e w8 ⟨vn, vg, vo, rfl, ho, hq⟩; have H8 := Lib.hid (And.intro ho (H7.out.trans (hq.mono H7.out.size))); clear hq ho cA))
                | (go_at_call 52; ((with_reducible refine (Optimize_s _ (c.mapC (forceL (p : Int) false)) _ (show CirV _ (.agg #[.int .i64 c.inp, vn, vg, vo]) (c.mapC (forceL (p : Int) false)) from H8.out.1.toV)).mono ?_); rintro e w9 ⟨vn9, vg9, vo9, rfl, ho, hq⟩; rw [← HSS.out] at ho; rw [← HSS.out]; obtain ⟨sn9, cn9, rfl⟩ := own_shape ho.n; obtain ⟨sg9, cg9, rfl⟩ := own_shape ho.g; obtain ⟨so9, co9, rfl⟩ := own_shape ho.o; have H9 := Lib.hid (And.intro ho (H8.out.2.trans (hq.mono H8.out.2.size))); have HZ9 := Lib.hid (show W0.heap.size ≤ w8.heap.size from H8.out.2.size); obtain ⟨rc, rf⟩ := blk_all (HB.out _ H9.out.2).2.1; clear hq ho)))
              have hZ : ((((w9.setCell ⟨A + 1, 0, none⟩ (.int .i64 S.inp)).setCell ⟨A + 1, 1, none⟩ (.slice sn9 S.next.length cn9)).setCell ⟨A + 1, 2, none⟩ (.slice sg9 S.gates.length cg9)).setCell ⟨A + 1, 3, none⟩ (.slice so9 S.outs.length co9)).heap[A + 1]? = some (.cells #[.int .i64 S.inp, .slice sn9 S.next.length cn9, .slice sg9 S.gates.length cg9, .slice so9 S.outs.length co9] 29 (0, 0)) := by
                simpa using blk_set (o := 3) (v := .slice so9 S.outs.length co9) (blk_set (o := 2) (v := .slice sg9 S.gates.length cg9) (blk_set (o := 1) (v := .slice sn9 S.next.length cn9) (blk_set (o := 0) (v := .int .i64 S.inp) (HB.out _ H9.out.2).2.1)))
              have hA2 := HW.out.2.1
              have hbz := ((((HB.out _ H9.out.2).2.2.2.setCell (p := ⟨A + 1, 0, none⟩) (by simp; omega) (.int .i64 S.inp)).setCell (p := ⟨A + 1, 1, none⟩) (by simp; omega) (.slice sn9 S.next.length cn9)).setCell (p := ⟨A + 1, 2, none⟩) (by simp; omega) (.slice sg9 S.gates.length cg9)).setCell (p := ⟨A + 1, 3, none⟩) (by simp; omega) (.slice so9 S.outs.length co9)
              have hO9 := H9.out.1.sets4 (r := A + 1) (by have h1 := HZ9.out; have h2 := HW.out.2.2; omega) (base := w.heap.size) (by have h1 := HZ9.out; have h2 := HW.out.2.2; omega) (a := .int .i64 S.inp) (b' := .slice sn9 S.next.length cn9) (c' := .slice sg9 S.gates.length cg9) (d := .slice so9 S.outs.length co9)
              clear rc rf
              revert hZ hbz hO9
              generalize ((((w9.setCell ⟨A + 1, 0, none⟩ (.int .i64 S.inp)).setCell ⟨A + 1, 1, none⟩ (.slice sn9 S.next.length cn9)).setCell ⟨A + 1, 2, none⟩ (.slice sg9 S.gates.length cg9)).setCell ⟨A + 1, 3, none⟩ (.slice so9 S.outs.length co9)) = WZ
              intro hZ hbz hO9
              have hV9 : CirV WZ (.agg #[.int .i64 S.inp, .slice sn9 S.next.length cn9, .slice sg9 S.gates.length cg9, .slice so9 S.outs.length co9]) S := hO9.toV
              have cr := (blk_all hZ).1
              exact bodyPost_ret (v := .tuple #[.agg #[.int .i64 S.inp, .slice sn9 S.next.length cn9, .slice sg9 S.gates.length cg9, .slice so9 S.outs.length co9], .bool true]) (by simp [results, Try.results53, go_sem, cr]) rfl (⟨_, _, _, rfl, hV9, hbz⟩)
            · have hun : undB c (p : Int) false = false := by unfold undB; rw [← HX.out]; simpa using hX0
              have HUN := Lib.hid hun
              clear hun
              go_wp2_with (go_at_call 104; ((have hft := HFT.out _ k false HJ.out.2.2 hlt); rw [HP.out] at hft; (refine hft.mono ?_); rintro e w7 ⟨rfl, hq⟩; rw [← HX.out]; have H7 := Lib.hid (HJ.out.2.2.trans (hq.mono HJ.out.2.2.size)); clear hq cA))
              go_roundw
              case rel => exact ⟨0 + 1, by omega, by first | rfl | go_num, fun _ => HUN.out, fun h => by omega, H7.out⟩
              case measure => simp [intOf]
          · obtain ⟨X, hX⟩ : ∃ X, X = findN (detV c (p : Int) true) (asgN c) := ⟨_, rfl⟩
            have hXb := findN_bd (detV c (p : Int) true) (N := asgN c) (by omega)
            rw [← hX] at hXb
            obtain ⟨x1, x2⟩ := hXb
            have HX := Lib.hid hX
            clear hX
            by_cases hX0 : X < 0
            · have hun : undB c (p : Int) true = true := by unfold undB; rw [← HX.out]; simpa using hX0
              have ho : O = some (k, true) := by
                rw [HO.out]
                refine frstU_hit (k := k) ?_ n (by omega)
                exact frstU_t HK.out.1 (by rw [HP.out]; exact HJ.out.1 (by omega)) (by rw [HP.out]; exact hun)
              obtain ⟨hS, hOb⟩ := HST.out k true ho
              rw [HP.out] at hS
              subst hOb
              have HSS := Lib.hid hS
              clear ho hun hS
              go_wp2_with (first
                | (go_at_call 104; ((have hft := HFT.out _ k true HJ.out.2.2 hlt); rw [HP.out] at hft; (refine hft.mono ?_); rintro e w7 ⟨rfl, hq⟩; rw [← HX.out]; have H7 := Lib.hid (HJ.out.2.2.trans (hq.mono HJ.out.2.2.size)); clear hq cA; have cA := (HB.out _ H7.out).1))
                | (go_at_call 105; ((have hft := HLF.out _ k true H7.out hlt); rw [HP.out] at hft; (refine hft.mono ?_); rintro e w8 ⟨vn, vg, vo, rfl, ho, hq⟩; have H8 := Lib.hid (And.intro ho (H7.out.trans (hq.mono H7.out.size))); clear hq ho cA))
                | (go_at_call 52; ((with_reducible refine (Optimize_s _ (c.mapC (forceL (p : Int) true)) _ (show CirV _ (.agg #[.int .i64 c.inp, vn, vg, vo]) (c.mapC (forceL (p : Int) true)) from H8.out.1.toV)).mono ?_); rintro e w9 ⟨vn9, vg9, vo9, rfl, ho, hq⟩; rw [← HSS.out] at ho; rw [← HSS.out]; obtain ⟨sn9, cn9, rfl⟩ := own_shape ho.n; obtain ⟨sg9, cg9, rfl⟩ := own_shape ho.g; obtain ⟨so9, co9, rfl⟩ := own_shape ho.o; have H9 := Lib.hid (And.intro ho (H8.out.2.trans (hq.mono H8.out.2.size))); have HZ9 := Lib.hid (show W0.heap.size ≤ w8.heap.size from H8.out.2.size); obtain ⟨rc, rf⟩ := blk_all (HB.out _ H9.out.2).2.1; clear hq ho)))
              have hZ : ((((w9.setCell ⟨A + 1, 0, none⟩ (.int .i64 S.inp)).setCell ⟨A + 1, 1, none⟩ (.slice sn9 S.next.length cn9)).setCell ⟨A + 1, 2, none⟩ (.slice sg9 S.gates.length cg9)).setCell ⟨A + 1, 3, none⟩ (.slice so9 S.outs.length co9)).heap[A + 1]? = some (.cells #[.int .i64 S.inp, .slice sn9 S.next.length cn9, .slice sg9 S.gates.length cg9, .slice so9 S.outs.length co9] 29 (0, 0)) := by
                simpa using blk_set (o := 3) (v := .slice so9 S.outs.length co9) (blk_set (o := 2) (v := .slice sg9 S.gates.length cg9) (blk_set (o := 1) (v := .slice sn9 S.next.length cn9) (blk_set (o := 0) (v := .int .i64 S.inp) (HB.out _ H9.out.2).2.1)))
              have hA2 := HW.out.2.1
              have hbz := ((((HB.out _ H9.out.2).2.2.2.setCell (p := ⟨A + 1, 0, none⟩) (by simp; omega) (.int .i64 S.inp)).setCell (p := ⟨A + 1, 1, none⟩) (by simp; omega) (.slice sn9 S.next.length cn9)).setCell (p := ⟨A + 1, 2, none⟩) (by simp; omega) (.slice sg9 S.gates.length cg9)).setCell (p := ⟨A + 1, 3, none⟩) (by simp; omega) (.slice so9 S.outs.length co9)
              have hO9 := H9.out.1.sets4 (r := A + 1) (by have h1 := HZ9.out; have h2 := HW.out.2.2; omega) (base := w.heap.size) (by have h1 := HZ9.out; have h2 := HW.out.2.2; omega) (a := .int .i64 S.inp) (b' := .slice sn9 S.next.length cn9) (c' := .slice sg9 S.gates.length cg9) (d := .slice so9 S.outs.length co9)
              clear rc rf
              revert hZ hbz hO9
              generalize ((((w9.setCell ⟨A + 1, 0, none⟩ (.int .i64 S.inp)).setCell ⟨A + 1, 1, none⟩ (.slice sn9 S.next.length cn9)).setCell ⟨A + 1, 2, none⟩ (.slice sg9 S.gates.length cg9)).setCell ⟨A + 1, 3, none⟩ (.slice so9 S.outs.length co9)) = WZ
              intro hZ hbz hO9
              have hV9 : CirV WZ (.agg #[.int .i64 S.inp, .slice sn9 S.next.length cn9, .slice sg9 S.gates.length cg9, .slice so9 S.outs.length co9]) S := hO9.toV
              have cr := (blk_all hZ).1
              exact bodyPost_ret (v := .tuple #[.agg #[.int .i64 S.inp, .slice sn9 S.next.length cn9, .slice sg9 S.gates.length cg9, .slice so9 S.outs.length co9], .bool true]) (by simp [results, Try.results53, go_sem, cr]) rfl (⟨_, _, _, rfl, hV9, hbz⟩)
            · have hun : undB c (p : Int) true = false := by unfold undB; rw [← HX.out]; simpa using hX0
              have HUN := Lib.hid hun
              clear hun
              go_wp2_with (go_at_call 104; ((have hft := HFT.out _ k true HJ.out.2.2 hlt); rw [HP.out] at hft; (refine hft.mono ?_); rintro e w7 ⟨rfl, hq⟩; rw [← HX.out]; have H7 := Lib.hid (HJ.out.2.2.trans (hq.mono HJ.out.2.2.size)); clear hq cA))
              go_roundw
              case rel => exact ⟨1 + 1, by omega, by first | rfl | go_num, fun _ => HJ.out.1 (by omega), fun _ => HUN.out, H7.out⟩
              case measure => simp [intOf]
          · go_wp2_with fail
            go_roundw
            case rel => exact ⟨k + 1, by omega, by have := HP.out; first | go_num | (congr 1; omega), frstU_n HK.out.1 (by rw [HP.out]; exact HJ.out.1 (by omega)) (by rw [HP.out]; exact HJ.out.2.1 (by omega)), HJ.out.2.2⟩
            case measure => have := HP.out; simp [intOf]; try omega
      · obtain rfl : n = k := by omega
        rw [decide_eq_false (show ¬ (p : Int) < (F : Int) + (n : Int) by have := HP.out; omega)]
        obtain ⟨hS, hOb⟩ := HSN.out (by rw [HO.out]; exact HK.out.1)
        subst hOb
        have HSS := Lib.hid hS
        clear hS
        have cA := (HB.out _ H3.out).1
        obtain ⟨rc, rf⟩ := blk_all (HB.out _ H3.out).2.1
        go_wp2_with fail
        have hZ : ((((wc.setCell ⟨A + 1, 0, none⟩ (.int .i64 c.inp)).setCell ⟨A + 1, 1, none⟩ (.slice sn c.next.length cn)).setCell ⟨A + 1, 2, none⟩ (.slice sg n cg)).setCell ⟨A + 1, 3, none⟩ (.slice so c.outs.length co)).heap[A + 1]? = some (.cells #[.int .i64 c.inp, .slice sn c.next.length cn, .slice sg n cg, .slice so c.outs.length co] 29 (0, 0)) := by
          simpa using blk_set (o := 3) (v := .slice so c.outs.length co) (blk_set (o := 2) (v := .slice sg n cg) (blk_set (o := 1) (v := .slice sn c.next.length cn) (blk_set (o := 0) (v := .int .i64 c.inp) (HB.out _ H3.out).2.1)))
        have hA2 := HW.out.2.1
        have hbz := ((((HB.out _ H3.out).2.2.2.setCell (p := ⟨A + 1, 0, none⟩) (by simp; omega) (.int .i64 c.inp)).setCell (p := ⟨A + 1, 1, none⟩) (by simp; omega) (.slice sn c.next.length cn)).setCell (p := ⟨A + 1, 2, none⟩) (by simp; omega) (.slice sg n cg)).setCell (p := ⟨A + 1, 3, none⟩) (by simp; omega) (.slice so c.outs.length co)
        clear rc rf
        revert hZ hbz
        generalize ((((wc.setCell ⟨A + 1, 0, none⟩ (.int .i64 c.inp)).setCell ⟨A + 1, 1, none⟩ (.slice sn c.next.length cn)).setCell ⟨A + 1, 2, none⟩ (.slice sg n cg)).setCell ⟨A + 1, 3, none⟩ (.slice so c.outs.length co)) = WZ
        intro hZ hbz
        have hV9 : CirV WZ (.agg #[.int .i64 c.inp, .slice sn c.next.length cn, .slice sg n cg, .slice so c.outs.length co]) c := by have := HG.out.mono hbz; rw [← HFF.out.2] at this; exact this
        have cr := (blk_all hZ).1
        exact bodyPost_ret (v := .tuple #[.agg #[.int .i64 c.inp, .slice sn c.next.length cn, .slice sg n cg, .slice so c.outs.length co], .bool false]) (by simp [results, Try.results53, go_sem, cr]) rfl (by rw [HSS.out]; exact ⟨_, _, _, rfl, hV9, hbz⟩)

set_option maxRecDepth 100000 in
set_option maxHeartbeats 1600000 in
theorem Irredundant_s (v : Value) (c : Cir) (w : World) (h : CirV w v c) :
    Calls Try.prog 40 #[v] w fun e w' => e = .returned (.bool (irrB c)) ∧ Below w.heap.size w w' := by
  have HG := Lib.hid h
  obtain ⟨sn, cn, sg, cg, so, co, rfl, -, -, -, -, -, -⟩ := h
  have hk := blk_new w (.cells #[.int .i64 c.inp, .slice sn c.next.length cn, .slice sg c.gates.length cg, .slice so c.outs.length co] 29)
  have hb := (Below.refl w.heap.size w).alloc (Nat.le_refl _) (.cells #[.int .i64 c.inp, .slice sn c.next.length cn, .slice sg c.gates.length cg, .slice so c.outs.length co] 29)
  have HL := Lib.hid (And.intro hk hb)
  clear hk hb
  cases hv : c.validB
  · have e : irrB c = false := by unfold irrB; rw [hv]; rfl
    rw [e]
    have HV := Lib.hid hv
    clear hv e
    go_enter Try.func40, Try.ntmps40
    go_wp2_with (go_at_call 26; ((with_reducible refine (CircuitValid_s _ c _ (HG.out.mono HL.out.2)).mono ?_); rintro e w1 ⟨rfl, hq⟩; rw [HV.out]; have HQ := Lib.hid (HL.out.2.trans (hq.mono HL.out.2.size)); clear hq))
    go_ret
    exact ⟨rfl, HQ.out⟩
  · have e : irrB c = !(fstU c).isSome := by unfold irrB; rw [hv]; rfl
    rw [e]
    have HV := Lib.hid (And.intro hv (c.validB_iff.1 hv))
    clear hv e
    obtain ⟨B, hB⟩ : ∃ B, B = (fstU c).isSome := ⟨_, rfl⟩
    rw [← hB]
    have HBB := Lib.hid hB
    clear hB
    go_enter Try.func40, Try.ntmps40
    go_wp2_with (first
      | (go_at_call 26; ((with_reducible refine (CircuitValid_s _ c _ (HG.out.mono HL.out.2)).mono ?_); rintro e w1 ⟨rfl, hq⟩; rw [HV.out.1]; have H1 := Lib.hid (HL.out.2.trans (hq.mono HL.out.2.size)); have ca := (blk_all (blk_below hq (blk_lt HL.out.1) HL.out.1)).1; clear hq))
      | (go_at_call 53; ((with_reducible refine (l18Step_any _ c _ (HG.out.mono H1.out) HV.out.2).mono ?_); rintro e w2 ⟨vn, vg, vo, rfl, hx, hq⟩; obtain ⟨sn2, cn2, sg2, cg2, so2, co2, rfl, rfl, rfl⟩ := CirV.shape rfl hx; rw [← HBB.out]; have H2 := Lib.hid (H1.out.trans (hq.mono H1.out.size)); clear hq hx ca)))
    go_ret
    exact ⟨rfl, by first | exact H2.out | exact H2.out.alloc H2.out.size _⟩

end Go.Proofs.Ytindndcdpnpcmaa
