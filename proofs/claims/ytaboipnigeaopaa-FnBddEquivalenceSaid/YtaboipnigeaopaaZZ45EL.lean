import Derived.Test.YtaboipnigeaopaaZZ45OH
import Derived.Test.YtaboipnigeaopaaZZ45Y0
import Derived.Test.YtaboipnigeaopaaZZ45L4
import Derived.Test.YtaboipnigeaopaaZZ45V2
import Derived.Test.YtaboipnigeaopaaZZ45OA
import Derived.Test.YtaboipnigeaopaaZZ45Y1
import Derived.Lib.SliceRun
import Derived.Deep.DeepCutAuto
import Derived.Deep.RegionHeld3
import Derived.Test.YtaboipnigeaopaaProg
import Derived.Laws.StructEq
import Derived.Deep.RegionWith
namespace Go.Proofs.Ytaboipnigeaopaa
set_option linter.unusedVariables false
set_option linter.unusedSimpArgs false
open Go.RowKit

/-! Part of the proof of one law. -/

theorem aliveR_any (w : World) : Calls Try.prog 12 #[] w fun e w' => e = .returned (.bool true) ∧ Below w.heap.size w w' := by
  go_enter Try.func12, Try.ntmps12
  go_wp2_with (go_at_call 10; (refine (CircuitValid_i _ ⟨0, [], [], []⟩ _ ⟨none, 0, none, 0, none, 0, rfl, .inl rfl, .inl rfl, .inl rfl, by simp, by simp, by simp⟩).mono ?_); rintro e w' ⟨rfl, hq⟩; have HQ := Lib.hid hq; clear hq)
  go_ret
  exact ⟨by congr 1, HQ.out⟩

theorem gcells_set1 : ∀ (gs : List Gt) (k : Nat) (g : Gt) (a : Int), gs[k]? = some g → (gcells gs).set (k * 2) (.int .i64 a) = gcells (gs.set k ⟨a, g.b⟩)
  | [], k, g, a, h => by simp at h
  | x :: gs, 0, g, a, h => by simp at h; subst h; simp [gcells, Gt.cells]
  | x :: gs, k + 1, g, a, h => by
    have := gcells_set1 gs k g a (by simpa using h)
    show ([Value.int .i64 x.a, .int .i64 x.b] ++ gcells gs).set ((k + 1) * 2) _ = [Value.int .i64 x.a, .int .i64 x.b] ++ gcells (gs.set k ⟨a, g.b⟩)
    rw [← this, show (k + 1) * 2 = k * 2 + 1 + 1 by omega]; rfl

theorem gcells_set2 : ∀ (gs : List Gt) (k : Nat) (g : Gt) (b : Int), gs[k]? = some g → (gcells gs).set (k * 2 + 1) (.int .i64 b) = gcells (gs.set k ⟨g.a, b⟩)
  | [], k, g, a, h => by simp at h
  | x :: gs, 0, g, a, h => by simp at h; subst h; simp [gcells, Gt.cells]
  | x :: gs, k + 1, g, a, h => by
    have := gcells_set2 gs k g a (by simpa using h)
    show ([Value.int .i64 x.a, .int .i64 x.b] ++ gcells gs).set ((k + 1) * 2 + 1) _ = [Value.int .i64 x.a, .int .i64 x.b] ++ gcells (gs.set k ⟨g.a, a⟩)
    rw [← this, show (k + 1) * 2 + 1 = k * 2 + 1 + 1 + 1 by omega]; rfl

theorem gcells_set12 (gs : List Gt) (k : Nat) (g : Gt) (a b : Int) (h : gs[k]? = some g) : ((gcells gs).set (k * 2) (.int .i64 a)).set (k * 2 + 1) (.int .i64 b) = gcells (gs.set k ⟨a, b⟩) := by
  rw [gcells_set1 gs k g a h, gcells_set2 (gs.set k ⟨a, g.b⟩) k ⟨a, g.b⟩ b (by
    have := (List.getElem?_eq_some_iff.1 h).1
    simp [this])]
  simp

theorem Kp.chg {R b : Nat} {w w' : World} (h : Kp R b w w') (hb : w.heap.size ≤ b) : Chg (fun k => k = R) w w' := ⟨h.os, h.tape, h.output, h.size, fun k hk hn => h.block k (by omega) hn⟩

theorem Upd.chg {R : Nat} {w w' : World} (h : Upd R w w') : Chg (fun k => k = R) w w' := (Chg.of_grown h).mono fun k e => by simp at e; exact e.symm

theorem Chg.kp {R : Nat} {w w' : World} (h : Chg (fun k => k = R) w w') : Kp R w.heap.size w w' := ⟨h.os, h.tape, h.output, h.size, fun k hk hn => h.block k hk hn⟩

theorem CirOwn.chgs {S : Nat → Prop} {w w' : World} {base : Nat} {r : Cir} {vn vg vo : Value} (h : CirOwn w base r vn vg vo) (hc : Chg S w w') (hs : ∀ k, base ≤ k → k < w.heap.size → ¬ S k) : CirOwn w' base r vn vg vo :=
  ⟨hc.own h.n fun k hk => hs k (own_blk h.n hk).1 (own_blk h.n hk).2, hc.own h.g fun k hk => hs k (own_blk h.g hk).1 (own_blk h.g hk).2, hc.own h.o fun k hk => hs k (own_blk h.o hk).1 (own_blk h.o hk).2, h.ne, h.l1, h.l2, h.l3⟩

theorem CirOwn.low {w : World} {base b2 : Nat} {r : Cir} {vn vg vo : Value} (h : CirOwn w base r vn vg vo) (hb : b2 ≤ base) : CirOwn w b2 r vn vg vo :=
  ⟨own_base h.n hb, own_base h.g hb, own_base h.o hb, h.ne, h.l1, h.l2, h.l3⟩

theorem Chg.tail {S T : Nat → Prop} {a b c : World} (h : Chg S a b) (k : Chg T b c) (hT : ∀ i, T i → a.heap.size ≤ i) : Chg S a c :=
  ⟨k.os.trans h.os, k.tape.trans h.tape, k.output.trans h.output, Nat.le_trans h.size k.size, fun i hi hn => (k.block i (by have := h.size; omega) (fun t => by have := hT i t; omega)).trans (h.block i hi hn)⟩

theorem chgS {S : Nat → Prop} (w : World) {b : Nat} (o : Nat) (v : Value) (h : S b) : Chg S w (w.setCell ⟨b, o, none⟩ v) :=
  ⟨rfl, rfl, rfl, by simp, fun k _ hn => blk_set_ne (fun e => hn (e ▸ h)) rfl⟩

def PairPost (R : Nat) (w : World) (e : Ending) (w' : World) : Prop :=
  ∃ (A B : Cir) (vn vg vo un ug uo : Value), e = .returned (.tuple #[.agg #[.int .i64 A.inp, vn, vg, vo], .agg #[.int .i64 B.inp, un, ug, uo]]) ∧ CirOwn w' w.heap.size A vn vg vo ∧ CirOwn w' w.heap.size B un ug uo ∧ Chg (fun k => k = R) w w'

set_option maxRecDepth 100000 in
set_option maxHeartbeats 3200000 in
theorem l20Pair_any (R : Nat) (s : Option Addr) (c : Nat) (xs : List Int) (p : Nat) (w : World) (h : Rd w R s c xs p) (hp : p ≤ 100000) :
    Calls Try.prog 53 #[.pointer (some ⟨R, 0, none⟩)] w (PairPost R w) := by
  have hR : R < w.heap.size := blk_lt h.blk
  obtain ⟨Z, hZ⟩ : ∃ Z, Z = w.heap.size := ⟨_, rfl⟩
  obtain ⟨W0, hW0⟩ : ∃ W0, W0 = (w.alloc (.cells #[.int .i64 0, .slice none 0 0, .slice none 0 0, .slice none 0 0] 26)).alloc (.cells #[.int .i64 0, .slice none 0 0, .slice none 0 0, .slice none 0 0] 26) := ⟨_, rfl⟩
  have z1 : W0.heap.size = Z + 2 := by rw [hW0, hZ]; simp
  have z2 : W0.heap[Z]? = some (.cells #[.int .i64 0, .slice none 0 0, .slice none 0 0, .slice none 0 0] 26 (0, 0)) := by rw [hW0, hZ]; exact blk_old (blk_new w _)
  have z3 : W0.heap[Z + 1]? = some (.cells #[.int .i64 0, .slice none 0 0, .slice none 0 0, .slice none 0 0] 26 (0, 0)) := by rw [hW0, hZ]; exact blk_at (by simp)
  have z4 : Below w.heap.size w W0 := by rw [hW0]; go_grown
  have HRD0 := Lib.hid (h.mono z4)
  rw [← hZ] at hR
  have H0 : Hid (∀ W, Chg (fun k => k = R) W0 W → (W.heap[Z]? = some (.cells #[.int .i64 0, .slice none 0 0, .slice none 0 0, .slice none 0 0] 26 (0, 0)) ∧ W.heap[Z + 1]? = some (.cells #[.int .i64 0, .slice none 0 0, .slice none 0 0, .slice none 0 0] 26 (0, 0))) ∧ Chg (fun k => k = R) w W ∧ Z + 2 ≤ W.heap.size) := fun W hW =>
    ⟨⟨hW.blk z2 (by omega), hW.blk z3 (by omega)⟩, (Chg.of_below z4).trans hW, by have := hW.size; omega⟩
  have HW := Lib.hid (And.intro hW0 (And.intro hZ z1))
  clear h hW0 z1 z2 z3 z4 hZ
  go_enter Try.func53, Try.ntmps53
  go_upto_region 1 with fail
  rw [← HW.out.1, ← HW.out.2.1]
  go_upto_region 2 with (go_at_call 42; (with_reducible refine (l20Circuit_any R s c xs p 16 W0 HRD0.out (by omega) (by omega) (by omega)).mono ?_); rintro e w1 ⟨A, vn, vg, vo, p1, rfl, h1, h2, h3, h4, h5⟩; obtain ⟨sn, cn, rfl⟩ := own_shape h1.n; obtain ⟨sg, cg, rfl⟩ := own_shape h1.g; obtain ⟨so, co, rfl⟩ := own_shape h1.o; have HI := Lib.hid (And.intro h1 (And.intro h3 h5)); have HP1 := Lib.hid h4; obtain ⟨l1, l2, l3, l4, l5⟩ := h2; clear h1 h3 h4 h5)
  obtain ⟨BA, hBA⟩ : ∃ BA, BA = w1.heap.size := ⟨_, rfl⟩
  obtain ⟨W1, hW1⟩ : ∃ W1, W1 = w1.alloc (.cells #[.int .i64 A.inp, .slice sn A.next.length cn, .slice sg A.gates.length cg, .slice so A.outs.length co] 26) := ⟨_, rfl⟩
  have y1 : Chg (fun k => k = R) W0 W1 := by rw [hW1]; exact (HI.out.2.2.chg (Nat.le_refl _)).trans (Chg.of_below (below_al _ _))
  have y2 : CirOwn W1 (Z + 2) A (.slice sn A.next.length cn) (.slice sg A.gates.length cg) (.slice so A.outs.length co) := by
    rw [hW1]; have e := HW.out.2.2; rw [← e]; exact own_cbelow HI.out.1 (below_al _ _)
  have y3 : W1.heap[BA]? = some (.cells #[.int .i64 A.inp, .slice sn A.next.length cn, .slice sg A.gates.length cg, .slice so A.outs.length co] 26 (0, 0)) := by rw [hW1, hBA]; exact blk_new _ _
  have y4 : Rd W1 R s c xs p1 := by rw [hW1]; exact HI.out.2.1.mono (below_al _ _)
  have y5 : BA < W1.heap.size ∧ Z + 2 ≤ BA := by
    have e := HW.out.2.2; have e2 := HI.out.2.2.size
    rw [hW1, hBA]; simp; omega
  rw [← hW1, ← hBA]
  have HA : Hid (∀ W, Chg (fun k => k = R) W1 W → CirOwn W (Z + 2) A (.slice sn A.next.length cn) (.slice sg A.gates.length cg) (.slice so A.outs.length co) ∧ W.heap[BA]? = some (.cells #[.int .i64 A.inp, .slice sn A.next.length cn, .slice sg A.gates.length cg, .slice so A.outs.length co] 26 (0, 0)) ∧ (W.heap[Z]? = some (.cells #[.int .i64 0, .slice none 0 0, .slice none 0 0, .slice none 0 0] 26 (0, 0)) ∧ W.heap[Z + 1]? = some (.cells #[.int .i64 0, .slice none 0 0, .slice none 0 0, .slice none 0 0] 26 (0, 0))) ∧ Chg (fun k => k = R) w W ∧ W1.heap.size ≤ W.heap.size) := fun W hW =>
    ⟨y2.chgs hW (fun k hk _ e => by omega), hW.blk y3 (by omega), (H0.out W (y1.trans hW)).1, (H0.out W (y1.trans hW)).2.1, hW.size⟩
  have HY := Lib.hid (And.intro y4 y5)
  clear y1 y2 y3 y4 y5 hBA hW1 HI HRD0
  have ca := (blk_all (HA.out _ (Chg.refl _ _)).2.1).1
  go_upto_region 3 with fail
  clear ca
  obtain ⟨BB, hBB⟩ : ∃ BB, BB = W1.heap.size := ⟨_, rfl⟩
  obtain ⟨W2, hW2⟩ : ∃ W2, W2 = W1.alloc (.cells #[.int .i64 A.inp, .slice sn A.next.length cn, .slice sg A.gates.length cg, .slice so A.outs.length co] 26) := ⟨_, rfl⟩
  have y1 : Chg (fun k => k = R) W1 W2 := by rw [hW2]; exact Chg.of_below (below_al _ _)
  have y3 : W2.heap[BB]? = some (.cells #[.int .i64 A.inp, .slice sn A.next.length cn, .slice sg A.gates.length cg, .slice so A.outs.length co] 26 (0, 0)) := by rw [hW2, hBB]; exact blk_new _ _
  have y4 : Rd W2 R s c xs p1 := by rw [hW2]; exact HY.out.1.mono (below_al _ _)
  have y5 : R < BB := by have := HY.out.2; omega
  rw [← hW2, ← hBB]
  have HB : Hid (∀ W, Chg (fun k => k = R) W2 W → Chg (fun k => k = R) W1 W ∧ W.heap[BB]? = some (.cells #[.int .i64 A.inp, .slice sn A.next.length cn, .slice sg A.gates.length cg, .slice so A.outs.length co] 26 (0, 0))) := fun W hW => ⟨y1.trans hW, hW.blk y3 (by omega)⟩
  have HB2 := Lib.hid (And.intro y4 (And.intro y5 hBB))
  clear y1 y3 y4 y5 hBB hW2
  go_upto_region 10 with (go_at_call 66; ((with_reducible refine (pick_any R s c xs p1 4 _ HB2.out.1 (by have := HP1.out; omega) (by omega)).mono ?_); rintro e w3 ⟨q, rfl, hq1, hq2, hq3, hq4⟩; have H3 := Lib.hid (And.intro hq2 hq3.chg); have HQ := Lib.hid hq1; clear hq1 hq2 hq3 hq4))
  cases e0 : ((q : Int) == 0)
  case' true =>
    obtain rfl : q = 0 := by simpa using e0
    go_upto_region 14 with (go_at_call 42; (with_reducible refine (l20Circuit_any R s c xs (p1 + 1) 16 _ H3.out.1 (by have := HP1.out; omega) (by omega) (by omega)).mono ?_); rintro e w4 ⟨B, un, ug, uo, p2, rfl, h1, h2, h3, h4, h5⟩; obtain ⟨tn, dn, rfl⟩ := own_shape h1.n; obtain ⟨tg, dg, rfl⟩ := own_shape h1.g; obtain ⟨to_, do_, rfl⟩ := own_shape h1.o; have H4 := Lib.hid (And.intro h1 (H3.out.2.trans (h5.chg (Nat.le_refl _)))); clear h1 h2 h3 h4 h5; obtain ⟨rc, rf⟩ := blk_all (HB.out _ H4.out.2).2)
    clear rc rf
    obtain ⟨W4, hW4⟩ : ∃ W4, W4 = ((((w4.setCell ⟨BB, 0, none⟩ (.int .i64 B.inp)).setCell ⟨BB, 1, none⟩ (.slice tn B.next.length dn)).setCell ⟨BB, 2, none⟩ (.slice tg B.gates.length dg)).setCell ⟨BB, 3, none⟩ (.slice to_ B.outs.length do_)) := ⟨_, rfl⟩
    have x1 : Chg (fun k => k = BB) w4 W4 := by rw [hW4]; exact (((chgS (S := fun k => k = BB) _ 0 _ rfl).trans (chgS _ 1 _ rfl)).trans (chgS _ 2 _ rfl)).trans (chgS _ 3 _ rfl)
    have x2 : W4.heap[BB]? = some (.cells #[.int .i64 B.inp, .slice tn B.next.length dn, .slice tg B.gates.length dg, .slice to_ B.outs.length do_] 26 (0, 0)) := by
      rw [hW4]; simpa using blk_set (o := 3) (v := .slice to_ B.outs.length do_) (blk_set (o := 2) (v := .slice tg B.gates.length dg) (blk_set (o := 1) (v := .slice tn B.next.length dn) (blk_set (o := 0) (v := .int .i64 B.inp) ((HB.out _ (H4.out.2)).2))))
    have x3 : BB < W2.heap.size := blk_lt (HB.out _ (Chg.refl _ _)).2
    have x4 : Z + 2 ≤ W1.heap.size := by have := HY.out.2; omega
    have x5 := H3.out.2.size
    have x6 : W1.heap.size = BB := HB2.out.2.2.symm
    have HE : Hid (CirOwn W4 (Z + 2) B (.slice tn B.next.length dn) (.slice tg B.gates.length dg) (.slice to_ B.outs.length do_) ∧ W4.heap[BB]? = some (.cells #[.int .i64 B.inp, .slice tn B.next.length dn, .slice tg B.gates.length dg, .slice to_ B.outs.length do_] 26 (0, 0)) ∧ Chg (fun k => k = R) W1 W4) :=
      ⟨((H4.out.1).chgs x1 (fun k hk _ e => by omega)).low (by omega), x2, ((HB.out _ (H4.out.2)).1).tail x1 (fun k e => by omega)⟩
    rw [← hW4]
    clear hW4 x1 x2 x3 x4 x5 x6
  case' false =>
    cases e1 : ((q : Int) == 1)
    case' true =>
      obtain rfl : q = 1 := by simpa using e1
      have ca := (blk_all (HA.out _ (HB.out _ H3.out.2).1).2.1).1
      go_upto_region 14 with (go_at_call 78; (with_reducible refine (Optimize_s _ A _ (own_cv (HA.out _ (HB.out _ H3.out.2).1).1)).mono ?_); rintro e w4 ⟨un, ug, uo, rfl, h1, h5⟩; obtain ⟨B, hB⟩ : ∃ B, B = optR A := ⟨_, rfl⟩; rw [← hB] at h1 ⊢; obtain ⟨tn, dn, rfl⟩ := own_shape h1.n; obtain ⟨tg, dg, rfl⟩ := own_shape h1.g; obtain ⟨to_, do_, rfl⟩ := own_shape h1.o; have H4 := Lib.hid (And.intro h1 (H3.out.2.trans (Chg.of_below h5))); clear h1 h5 hB; obtain ⟨rc, rf⟩ := blk_all (HB.out _ H4.out.2).2; clear ca)
      clear rc rf
      obtain ⟨W4, hW4⟩ : ∃ W4, W4 = ((((w4.setCell ⟨BB, 0, none⟩ (.int .i64 B.inp)).setCell ⟨BB, 1, none⟩ (.slice tn B.next.length dn)).setCell ⟨BB, 2, none⟩ (.slice tg B.gates.length dg)).setCell ⟨BB, 3, none⟩ (.slice to_ B.outs.length do_)) := ⟨_, rfl⟩
      have x1 : Chg (fun k => k = BB) w4 W4 := by rw [hW4]; exact (((chgS (S := fun k => k = BB) _ 0 _ rfl).trans (chgS _ 1 _ rfl)).trans (chgS _ 2 _ rfl)).trans (chgS _ 3 _ rfl)
      have x2 : W4.heap[BB]? = some (.cells #[.int .i64 B.inp, .slice tn B.next.length dn, .slice tg B.gates.length dg, .slice to_ B.outs.length do_] 26 (0, 0)) := by
        rw [hW4]; simpa using blk_set (o := 3) (v := .slice to_ B.outs.length do_) (blk_set (o := 2) (v := .slice tg B.gates.length dg) (blk_set (o := 1) (v := .slice tn B.next.length dn) (blk_set (o := 0) (v := .int .i64 B.inp) ((HB.out _ (H4.out.2)).2))))
      have x3 : BB < W2.heap.size := blk_lt (HB.out _ (Chg.refl _ _)).2
      have x4 : Z + 2 ≤ W1.heap.size := by have := HY.out.2; omega
      have x5 := H3.out.2.size
      have x6 : W1.heap.size = BB := HB2.out.2.2.symm
      have HE : Hid (CirOwn W4 (Z + 2) B (.slice tn B.next.length dn) (.slice tg B.gates.length dg) (.slice to_ B.outs.length do_) ∧ W4.heap[BB]? = some (.cells #[.int .i64 B.inp, .slice tn B.next.length dn, .slice tg B.gates.length dg, .slice to_ B.outs.length do_] 26 (0, 0)) ∧ Chg (fun k => k = R) W1 W4) :=
        ⟨((H4.out.1).chgs x1 (fun k hk _ e => by omega)).low (by omega), x2, ((HB.out _ (H4.out.2)).1).tail x1 (fun k e => by omega)⟩
      rw [← hW4]
      clear hW4 x1 x2 x3 x4 x5 x6
    case' false =>
      have ca := (blk_all (HA.out _ (HB.out _ H3.out.2).1).2.1).1
      obtain ⟨rc, rf⟩ := blk_all (HB.out _ H3.out.2).2
      have hBA3 : BA < w3.heap.size := blk_lt (HA.out _ (HB.out _ H3.out.2).1).2.1
      go_upto_region 5 with (at_builtin; refine wpl_app rfl _ _ rfl elem_gate (own_of_blk (base := w3.heap.size) (size := 2) (n := 0) (cur := #[]) (blk_new _ _) (Nat.le_refl _) (by simp) (by unfold maxLen; omega)) rfl rfl (by rw [gcells_length]; omega) (own_sl (own_below (HA.out _ (HB.out _ H3.out.2).1).1.g (below_al _ _))) (gcells_one _) A.gates.length (by omega) (gcells A.gates) (by simp) (by unfold maxLen; omega) (by omega) (by simp) ?_; intro s6 c6 w6 h6 hb6 hg6 hob6; have H6 := Lib.hid (And.intro h6 hb6); clear h6 hb6 hg6 hob6; clear ca; obtain ⟨rc, rf⟩ := blk_all (HB.out _ (H3.out.2.trans (Chg.of_below ((below_al _ _).trans H6.out.2)))).2)
      clear rc rf
      obtain ⟨W5, hW5⟩ : ∃ W5, W5 = w6.setCell ⟨BB, 2, none⟩ (.slice s6 A.gates.length c6) := ⟨_, rfl⟩
      have HG : Hid (W5.ownsRow w3.heap.size 61 2 (.slice s6 A.gates.length c6) A.gates.length (gcells A.gates) ∧ W5.heap[BB]? = some (.cells #[.int .i64 A.inp, .slice sn A.next.length cn, .slice s6 A.gates.length c6, .slice so A.outs.length co] 26 (0, 0)) ∧ Chg (fun k => k = R) W1 W5 ∧ Rd W5 R s c xs (p1 + 1) ∧ BB < w3.heap.size ∧ w3.heap.size ≤ W5.heap.size) := by
        have x0 : Chg (fun k => k = R) w3 w6 := Chg.of_below ((below_al _ _).trans H6.out.2)
        have x1 : Chg (fun k => k = BB) w6 W5 := by rw [hW5]; exact chgS (S := fun k => k = BB) _ 2 _ rfl
        have x2 : BB < w3.heap.size := blk_lt (HB.out _ H3.out.2).2
        have x3 : Chg (fun k => k = BB) w3 W5 := (Chg.of_below ((below_al _ _).trans H6.out.2)).trans x1
        have x4 : W1.heap.size = BB := HB2.out.2.2.symm
        refine ⟨by rw [hW5]; exact own_set_ne H6.out.1 (fun e => by have := (own_blk H6.out.1 e).1; omega) _, ?_, (HB.out _ (H3.out.2.trans x0)).1.tail x1 (fun k e => by omega), H3.out.1.grown (x3.below (b := BB) (by omega) (fun k hk e => by omega)) HB2.out.2.1, x2, x3.size⟩
        rw [hW5]; simpa using blk_set (o := 2) (v := .slice s6 A.gates.length c6) (HB.out _ (H3.out.2.trans x0)).2
      rw [← hW5]
      clear hW5 H6 hBA3
      by_cases hlt : 0 < A.gates.length
      case' neg =>
        have HE : Hid (CirOwn W5 (Z + 2) A (.slice sn A.next.length cn) (.slice s6 A.gates.length c6) (.slice so A.outs.length co) ∧ W5.heap[BB]? = some (.cells #[.int .i64 A.inp, .slice sn A.next.length cn, .slice s6 A.gates.length c6, .slice so A.outs.length co] 26 (0, 0)) ∧ Chg (fun k => k = R) W1 W5) := by
          obtain ⟨h1, h2, h3, h4⟩ := HA.out _ HG.out.2.2.1
          obtain ⟨q1, q2⟩ := HY.out.2
          have q3 := HB2.out.2.2
          have q4 := HG.out.2.2.2.2.1
          exact ⟨⟨h1.n, own_base HG.out.1 (by omega), h1.o, h1.ne, h1.l1, h1.l2, h1.l3⟩, HG.out.2.1, HG.out.2.2.1⟩
        clear HG
        have cb := (blk_all HE.out.2.1).1
        go_upto_region 14 with fail
        clear cb
        obtain ⟨B, tn, dn, tg, dg, to_, do_, W4, hW4, HE⟩ : ∃ (B : Cir) (tn : Option Addr) (dn : Nat) (tg : Option Addr) (dg : Nat) (to_ : Option Addr) (do_ : Nat) (W4 : World), W4 = W5 ∧ Hid (CirOwn W4 (Z + 2) B (.slice tn B.next.length dn) (.slice tg B.gates.length dg) (.slice to_ B.outs.length do_) ∧ W4.heap[BB]? = some (.cells #[.int .i64 B.inp, .slice tn B.next.length dn, .slice tg B.gates.length dg, .slice to_ B.outs.length do_] 26 (0, 0)) ∧ Chg (fun k => k = R) W1 W4) := ⟨A, sn, cn, s6, c6, so, co, W5, rfl, HE⟩
        rw [← hW4]
        clear hW4
      case' pos =>
        obtain ⟨G, cq6, e, gb, gl⟩ := HG.out.1.form hlt
        cases e
        have cb := (blk_all HG.out.2.1).1
        go_upto_region 7 with (go_at_call 66; ((with_reducible refine (pick_any R s c xs (p1 + 1) A.gates.length _ HG.out.2.2.2.1 (by have := HP1.out; omega) (by omega)).mono ?_); rintro e w7 ⟨q2, rfl, hq1, hq2, hq3, hq4⟩; obtain ⟨k, rfl, hk⟩ : ∃ k : Nat, q2 = k ∧ k < A.gates.length := ⟨q2.toNat, by have := hq1.1; omega, by have := hq1.1; have := hq1.2; omega⟩; have H7 := Lib.hid (And.intro hq2 hq3.chg); clear hq1 hq2 hq3 hq4 cb))
        go_wp2_with (go_at_call 66; ((with_reducible refine (pick_any R s c xs (p1 + 1 + 1) 2 _ H7.out.1 (by have := HP1.out; omega) (by omega)).mono ?_); rintro e w8 ⟨q3, rfl, hq1, hq2, hq3, hq4⟩; have H8 := Lib.hid (H7.out.2.trans hq3.chg); clear hq1 hq2 hq3 hq4; cases e3 : ((q3 : Int) == 0)))
        all_goals
          first
          | have e4 : ((q3 : Int) == 0) = false := e3
            obtain ⟨g, hg⟩ := get_of_lt (l := A.gates) (k := k) hk
            have HO : Hid (∀ W, Chg (fun k => k = R) W5 W → W.ownsRow w3.heap.size 61 2 (.slice (some ⟨G, 0, none⟩) A.gates.length c6) A.gates.length (gcells A.gates) ∧ W.heap[BB]? = some (.cells #[.int .i64 A.inp, .slice sn A.next.length cn, .slice (some ⟨G, 0, none⟩) A.gates.length c6, .slice so A.outs.length co] 26 (0, 0)) ∧ w3.heap.size ≤ G ∧ BB < w3.heap.size ∧ Chg (fun k => k = R) W1 W) := fun W hW =>
              ⟨hW.own HG.out.1 (fun i hi e => by have h1 := (own_blk HG.out.1 hi).1; have h2 := HB2.out.2.1; have h3 := HG.out.2.2.2.2.1; omega), hW.blk HG.out.2.1 (by have h2 := HB2.out.2.1; omega), gb, HG.out.2.2.2.2.1, HG.out.2.2.1.trans hW⟩
            have HC : Hid (∀ W, Chg (fun k => k = R) W5 W → (∀ o, W.cell? ⟨BB, o, none⟩ = #[Value.int .i64 A.inp, .slice sn A.next.length cn, .slice (some ⟨G, 0, none⟩) A.gates.length c6, .slice so A.outs.length co][o]?) ∧ W.cell? ⟨G, k * 2, none⟩ = some (.int .i64 g.a) ∧ W.cell? ⟨G, k * 2 + 1, none⟩ = some (.int .i64 g.b)) := fun W hW => by
              have e := gcells_get hg
              have h1 := (HO.out W hW).1.cellAt (k * 2) (by omega)
              have h2 := (HO.out W hW).1.cellAt (k * 2 + 1) (by omega)
              rw [show k * 2 = 2 * k by omega] at h1 h2 ⊢
              exact ⟨(blk_all (HO.out W hW).2.1).1, h1.trans e.1, h2.trans e.2⟩
            have HG2 := Lib.hid hg
            clear hg
            refine wp_region_E (fun w' => (∀ o, w'.cell? ⟨BB, o, none⟩ = #[Value.int .i64 A.inp, .slice sn A.next.length cn, .slice (some ⟨G, 0, none⟩) A.gates.length c6, .slice so A.outs.length co][o]?) ∧ w'.cell? ⟨G, k * 2, none⟩ = some (.int .i64 g.a) ∧ w'.cell? ⟨G, k * 2 + 1, none⟩ = some (.int .i64 g.b)) 17 (.q 0 (.q 1 (.q 2 (.q 3 (.q 4 (.q 5 (.q 6 (.q 7 (.q 8 (.q 9 (.q 10 (.q 11 (.q 12 (.q 13 (.q 14 (.q 15 (.q 16 (.z 17)))))))))))))))))) (by kernel_rfl) (by kernel_rfl) (by kernel_rfl) (by kernel_rfl) (by kernel_rfl) (by kernel_rfl) (HC.out _ (H8.out.trans (Chg.of_below (Below.refl _ _).drew))) ?_
            have hd := H8.out.trans (Chg.of_below (Below.refl w8.heap.size w8).drew)
            revert hd
            generalize w8.drew = Wd
            intro hd
            obtain ⟨cb, z1, z2⟩ := HC.out _ hd
            have rf := fun j => ((HO.out _ hd).1.frozenAt j)
            have H9 := Lib.hid hd
            clear hd
            repeat (first | (refine orde_s (o := ?_) ?_ ?_ ?_; rotate_left 1; (focus ((simp only [zD, zE, zF]) <;> rfl)); (focus rfl); simp only [Act.put, zA, zB, zC]) | (refine orde_q (o := ?_) (v := ?_) ?_ ?_ ?_ ?_; rotate_left 2; (focus ((simp only [zD, zE, zF]) <;> rfl)); (focus rfl); (focus (intro w' hS; (try dsimp only at hS); go_split_ands; go_simp; (try (with_reducible rfl)))); simp only [Act.put, zA, zB, zC]))
            (refine orde_z (o := ?_) ?_ ?_ (fun K hK => ?_); rotate_left 1; (focus ((simp only [zD, zE, zF]) <;> rfl)); (focus rfl); go_simp)
            refine hK.out _ _ ?_
            clear hK K cb z1 z2 rf
            go_upto_region 14 with fail
            obtain ⟨W8, hW8⟩ : ∃ W8, W8 = (Wd.setCell ⟨G, k * 2, none⟩ (.int .i64 g.b)).setCell ⟨G, k * 2 + 1, none⟩ (.int .i64 g.a) := ⟨_, rfl⟩
            have HE : Hid (CirOwn W8 (Z + 2) ⟨A.inp, A.next, A.gates.set k ⟨g.b, g.a⟩, A.outs⟩ (.slice sn A.next.length cn) (.slice (some ⟨G, 0, none⟩) (A.gates.set k ⟨g.b, g.a⟩).length c6) (.slice so A.outs.length co) ∧ W8.heap[BB]? = some (.cells #[.int .i64 A.inp, .slice sn A.next.length cn, .slice (some ⟨G, 0, none⟩) (A.gates.set k ⟨g.b, g.a⟩).length c6, .slice so A.outs.length co] 26 (0, 0)) ∧ Chg (fun k => k = R) W1 W8) := by
              obtain ⟨o1, o2, o3, o4, o5⟩ := HO.out _ H9.out
              have x1 : Chg (fun k => k = G) Wd W8 := by rw [hW8]; exact (chgS (S := fun k => k = G) _ _ _ rfl).trans (chgS _ _ _ rfl)
              obtain ⟨q1, q2⟩ := HY.out.2
              have q3 := HB2.out.2.2
              have hc1 : Chg (fun k => k = R) W1 W8 := o5.tail x1 (fun k e => by omega)
              obtain ⟨h1, h2, h3, h4⟩ := HA.out _ hc1
              have ho : W8.ownsRow w3.heap.size 61 2 (.slice (some ⟨G, 0, none⟩) A.gates.length c6) A.gates.length (gcells (A.gates.set k ⟨g.b, g.a⟩)) := by
                rw [hW8, ← gcells_set12 A.gates k g _ _ HG2.out]
                exact ((o1.stored (k * 2) _).1.stored (k * 2 + 1) _).1
              rw [List.length_set]
              exact ⟨⟨h1.n, by rw [List.length_set]; exact own_base ho (by omega), h1.o, h1.ne, h1.l1, by rw [List.length_set]; exact h1.l2, h1.l3⟩, x1.blk o2 (by omega), hc1⟩
            rw [← hW8]
            clear hW8 HO HC HG H9 H8 H7
            obtain ⟨B, tn, dn, tg, dg, to_, do_, W4, hW4, HE⟩ : ∃ (B : Cir) (tn : Option Addr) (dn : Nat) (tg : Option Addr) (dg : Nat) (to_ : Option Addr) (do_ : Nat) (W4 : World), W4 = W8 ∧ Hid (CirOwn W4 (Z + 2) B (.slice tn B.next.length dn) (.slice tg B.gates.length dg) (.slice to_ B.outs.length do_) ∧ W4.heap[BB]? = some (.cells #[.int .i64 B.inp, .slice tn B.next.length dn, .slice tg B.gates.length dg, .slice to_ B.outs.length do_] 26 (0, 0)) ∧ Chg (fun k => k = R) W1 W4) := ⟨⟨A.inp, A.next, A.gates.set k ⟨g.b, g.a⟩, A.outs⟩, sn, cn, some ⟨G, 0, none⟩, c6, so, co, W8, rfl, HE⟩
            rw [← hW4]
            clear hW4
          | have e4 : ((q3 : Int) == 0) = true := e3
            obtain ⟨g, hg⟩ := get_of_lt (l := A.gates) (k := k) hk
            have HO : Hid (∀ W, Chg (fun k => k = R) W5 W → W.ownsRow w3.heap.size 61 2 (.slice (some ⟨G, 0, none⟩) A.gates.length c6) A.gates.length (gcells A.gates) ∧ W.heap[BB]? = some (.cells #[.int .i64 A.inp, .slice sn A.next.length cn, .slice (some ⟨G, 0, none⟩) A.gates.length c6, .slice so A.outs.length co] 26 (0, 0)) ∧ w3.heap.size ≤ G ∧ BB < w3.heap.size ∧ Chg (fun k => k = R) W1 W) := fun W hW =>
              ⟨hW.own HG.out.1 (fun i hi e => by have h1 := (own_blk HG.out.1 hi).1; have h2 := HB2.out.2.1; have h3 := HG.out.2.2.2.2.1; omega), hW.blk HG.out.2.1 (by have h2 := HB2.out.2.1; omega), gb, HG.out.2.2.2.2.1, HG.out.2.2.1.trans hW⟩
            have HC : Hid (∀ W, Chg (fun k => k = R) W5 W → (∀ o, W.cell? ⟨BB, o, none⟩ = #[Value.int .i64 A.inp, .slice sn A.next.length cn, .slice (some ⟨G, 0, none⟩) A.gates.length c6, .slice so A.outs.length co][o]?) ∧ W.cell? ⟨G, k * 2, none⟩ = some (.int .i64 g.a) ∧ W.cell? ⟨G, k * 2 + 1, none⟩ = some (.int .i64 g.b)) := fun W hW => by
              have e := gcells_get hg
              have h1 := (HO.out W hW).1.cellAt (k * 2) (by omega)
              have h2 := (HO.out W hW).1.cellAt (k * 2 + 1) (by omega)
              rw [show k * 2 = 2 * k by omega] at h1 h2 ⊢
              exact ⟨(blk_all (HO.out W hW).2.1).1, h1.trans e.1, h2.trans e.2⟩
            have HG2 := Lib.hid hg
            clear hg
            refine wp_region_E (fun w' => (∀ o, w'.cell? ⟨BB, o, none⟩ = #[Value.int .i64 A.inp, .slice sn A.next.length cn, .slice (some ⟨G, 0, none⟩) A.gates.length c6, .slice so A.outs.length co][o]?) ∧ w'.cell? ⟨G, k * 2, none⟩ = some (.int .i64 g.a) ∧ w'.cell? ⟨G, k * 2 + 1, none⟩ = some (.int .i64 g.b)) 12 (.q 0 (.q 1 (.q 2 (.q 3 (.q 4 (.q 5 (.q 6 (.q 7 (.q 8 (.q 9 (.q 10 (.q 11 (.z 12))))))))))))) (by kernel_rfl) (by kernel_rfl) (by kernel_rfl) (by kernel_rfl) (by kernel_rfl) (by kernel_rfl) (HC.out _ (H8.out.trans (Chg.of_below (Below.refl _ _).drew))) ?_
            have hd := H8.out.trans (Chg.of_below (Below.refl w8.heap.size w8).drew)
            revert hd
            generalize w8.drew = Wd
            intro hd
            obtain ⟨cb, z1, z2⟩ := HC.out _ hd
            have rf := fun j => ((HO.out _ hd).1.frozenAt j)
            have H9 := Lib.hid hd
            clear hd
            repeat (first | (refine orde_s (o := ?_) ?_ ?_ ?_; rotate_left 1; (focus ((simp only [zD, zE, zF]) <;> rfl)); (focus rfl); simp only [Act.put, zA, zB, zC]) | (refine orde_q (o := ?_) (v := ?_) ?_ ?_ ?_ ?_; rotate_left 2; (focus ((simp only [zD, zE, zF]) <;> rfl)); (focus rfl); (focus (intro w' hS; (try dsimp only at hS); go_split_ands; go_simp; (try (with_reducible rfl)))); simp only [Act.put, zA, zB, zC]))
            (refine orde_z (o := ?_) ?_ ?_ (fun K hK => ?_); rotate_left 1; (focus ((simp only [zD, zE, zF]) <;> rfl)); (focus rfl); go_simp)
            refine hK.out _ _ ?_
            clear hK K cb z1 z2 rf
            go_upto_region 14 with fail
            obtain ⟨W8, hW8⟩ : ∃ W8, W8 = Wd.setCell ⟨G, k * 2, none⟩ (.int .i64 (bits .xor .i64 g.a 1)) := ⟨_, rfl⟩
            have HE : Hid (CirOwn W8 (Z + 2) ⟨A.inp, A.next, A.gates.set k ⟨bits .xor .i64 g.a 1, g.b⟩, A.outs⟩ (.slice sn A.next.length cn) (.slice (some ⟨G, 0, none⟩) (A.gates.set k ⟨bits .xor .i64 g.a 1, g.b⟩).length c6) (.slice so A.outs.length co) ∧ W8.heap[BB]? = some (.cells #[.int .i64 A.inp, .slice sn A.next.length cn, .slice (some ⟨G, 0, none⟩) (A.gates.set k ⟨bits .xor .i64 g.a 1, g.b⟩).length c6, .slice so A.outs.length co] 26 (0, 0)) ∧ Chg (fun k => k = R) W1 W8) := by
              obtain ⟨o1, o2, o3, o4, o5⟩ := HO.out _ H9.out
              have x1 : Chg (fun k => k = G) Wd W8 := by rw [hW8]; exact chgS (S := fun k => k = G) _ _ _ rfl
              obtain ⟨q1, q2⟩ := HY.out.2
              have q3 := HB2.out.2.2
              have hc1 : Chg (fun k => k = R) W1 W8 := o5.tail x1 (fun k e => by omega)
              obtain ⟨h1, h2, h3, h4⟩ := HA.out _ hc1
              have ho : W8.ownsRow w3.heap.size 61 2 (.slice (some ⟨G, 0, none⟩) A.gates.length c6) A.gates.length (gcells (A.gates.set k ⟨bits .xor .i64 g.a 1, g.b⟩)) := by
                rw [hW8, ← gcells_set1 A.gates k g _ HG2.out]
                exact (o1.stored (k * 2) _).1
              rw [List.length_set]
              exact ⟨⟨h1.n, by rw [List.length_set]; exact own_base ho (by omega), h1.o, h1.ne, h1.l1, by rw [List.length_set]; exact h1.l2, h1.l3⟩, x1.blk o2 (by omega), hc1⟩
            rw [← hW8]
            clear hW8 HO HC HG H9 H8 H7
            obtain ⟨B, tn, dn, tg, dg, to_, do_, W4, hW4, HE⟩ : ∃ (B : Cir) (tn : Option Addr) (dn : Nat) (tg : Option Addr) (dg : Nat) (to_ : Option Addr) (do_ : Nat) (W4 : World), W4 = W8 ∧ Hid (CirOwn W4 (Z + 2) B (.slice tn B.next.length dn) (.slice tg B.gates.length dg) (.slice to_ B.outs.length do_) ∧ W4.heap[BB]? = some (.cells #[.int .i64 B.inp, .slice tn B.next.length dn, .slice tg B.gates.length dg, .slice to_ B.outs.length do_] 26 (0, 0)) ∧ Chg (fun k => k = R) W1 W4) := ⟨⟨A.inp, A.next, A.gates.set k ⟨bits .xor .i64 g.a 1, g.b⟩, A.outs⟩, sn, cn, some ⟨G, 0, none⟩, c6, so, co, W8, rfl, HE⟩
            rw [← hW4]
            clear hW4
  all_goals
    have ca := (blk_all (HA.out _ HE.out.2.2).2.1).1
    have cb := (blk_all HE.out.2.1).1
    obtain ⟨rc, rf⟩ := blk_all (HA.out _ HE.out.2.2).2.2.1.1
    have HZR : Hid (Z + 2 ≤ BA ∧ BA < W1.heap.size ∧ BB = W1.heap.size ∧ BB < W4.heap.size ∧ R < Z) := ⟨HY.out.2.2, HY.out.2.1, HB2.out.2.2, blk_lt HE.out.2.1, hR⟩
    refine wp_region_T (fun w' => (∀ o, w'.cell? ⟨BA, o, none⟩ = #[Value.int .i64 A.inp, .slice sn A.next.length cn, .slice sg A.gates.length cg, .slice so A.outs.length co][o]?) ∧ (∀ o, w'.cell? ⟨BB, o, none⟩ = #[Value.int .i64 B.inp, .slice tn B.next.length dn, .slice tg B.gates.length dg, .slice to_ B.outs.length do_][o]?)) (.q 0 (.q 1 (.e 2 (.e 3 .nil)))) (by kernel_rfl) (by kernel_rfl) (by kernel_rfl) ⟨ca, cb⟩ ?_
    obtain ⟨Wd, hWd⟩ : ∃ Wd, Wd = W4.drew := ⟨_, rfl⟩
    have HE : Hid (CirOwn Wd (Z + 2) A (.slice sn A.next.length cn) (.slice sg A.gates.length cg) (.slice so A.outs.length co) ∧ CirOwn Wd (Z + 2) B (.slice tn B.next.length dn) (.slice tg B.gates.length dg) (.slice to_ B.outs.length do_) ∧ Wd.heap[BA]? = some (.cells #[.int .i64 A.inp, .slice sn A.next.length cn, .slice sg A.gates.length cg, .slice so A.outs.length co] 26 (0, 0)) ∧ Wd.heap[BB]? = some (.cells #[.int .i64 B.inp, .slice tn B.next.length dn, .slice tg B.gates.length dg, .slice to_ B.outs.length do_] 26 (0, 0)) ∧ Wd.heap[Z]? = some (.cells #[.int .i64 0, .slice none 0 0, .slice none 0 0, .slice none 0 0] 26 (0, 0)) ∧ Wd.heap[Z + 1]? = some (.cells #[.int .i64 0, .slice none 0 0, .slice none 0 0, .slice none 0 0] 26 (0, 0)) ∧ Chg (fun k => k = R) w Wd) := by
      have hd := (Below.refl W4.heap.size W4).drew
      rw [← hWd] at hd
      have hh := HA.out _ (HE.out.2.2.trans (Chg.of_below hd))
      exact ⟨hh.1, own_cbelow HE.out.1 hd, hh.2.1, blk_below hd (blk_lt HE.out.2.1) HE.out.2.1, hh.2.2.1.1, hh.2.2.1.2, hh.2.2.2.1⟩
    rw [← hWd]
    clear hWd ca cb rc rf
    obtain ⟨rc, rf⟩ := blk_all HE.out.2.2.2.2.1
    have ca := (blk_all HE.out.2.2.1).1
    have cb := (blk_all HE.out.2.2.2.1).1
    repeat (first | (refine ordt_s (o := ?_) ?_ ?_ ?_; rotate_left 1; (focus ((simp only [zD, zE, zF]) <;> rfl)); (focus rfl); simp only [Act.put, zA, zB, zC]) | (refine ordt_q (o := ?_) (v := ?_) ?_ ?_ ?_ ?_; rotate_left 2; (focus ((simp only [zD, zE, zF]) <;> rfl)); (focus rfl); (focus (intro w' hS; (try dsimp only at hS); go_split_ands; go_simp; (try (with_reducible rfl)))); simp only [Act.put, zA, zB, zC]))
    refine ordt_e ?_
    (refine op_e (o := ?_) ?_ ?_ (fun K hK => ?_); rotate_left 1; (focus ((simp only [zD, zE, zF]) <;> rfl)); (focus rfl); go_simp)
    obtain ⟨W5, hW5⟩ : ∃ W5, W5 = ((((Wd.setCell ⟨Z, 0, none⟩ (.int .i64 A.inp)).setCell ⟨Z, 1, none⟩ (.slice sn A.next.length cn)).setCell ⟨Z, 2, none⟩ (.slice sg A.gates.length cg)).setCell ⟨Z, 3, none⟩ (.slice so A.outs.length co)) := ⟨_, rfl⟩
    have HE5 : Hid (CirOwn W5 (Z + 2) A (.slice sn A.next.length cn) (.slice sg A.gates.length cg) (.slice so A.outs.length co) ∧ CirOwn W5 (Z + 2) B (.slice tn B.next.length dn) (.slice tg B.gates.length dg) (.slice to_ B.outs.length do_) ∧ W5.heap[BA]? = some (.cells #[.int .i64 A.inp, .slice sn A.next.length cn, .slice sg A.gates.length cg, .slice so A.outs.length co] 26 (0, 0)) ∧ W5.heap[BB]? = some (.cells #[.int .i64 B.inp, .slice tn B.next.length dn, .slice tg B.gates.length dg, .slice to_ B.outs.length do_] 26 (0, 0)) ∧ W5.heap[Z]? = some (.cells #[.int .i64 A.inp, .slice sn A.next.length cn, .slice sg A.gates.length cg, .slice so A.outs.length co] 26 (0, 0)) ∧ W5.heap[Z + 1]? = some (.cells #[.int .i64 0, .slice none 0 0, .slice none 0 0, .slice none 0 0] 26 (0, 0)) ∧ Chg (fun k => k = R) w W5) := by
      have x1 : Chg (fun k => k = Z) Wd W5 := by rw [hW5]; exact (((chgS (S := fun k => k = Z) _ 0 _ rfl).trans (chgS _ 1 _ rfl)).trans (chgS _ 2 _ rfl)).trans (chgS _ 3 _ rfl)
      obtain ⟨q1, q2, q3, q4, q5⟩ := HZR.out
      refine ⟨HE.out.1.chgs x1 (fun k hk _ e => by omega), HE.out.2.1.chgs x1 (fun k hk _ e => by omega), x1.blk HE.out.2.2.1 (by omega), x1.blk HE.out.2.2.2.1 (by omega), ?_, x1.blk HE.out.2.2.2.2.2.1 (by omega), HE.out.2.2.2.2.2.2.tail x1 (fun k e => by have := HW.out.2.1; omega)⟩
      rw [hW5]; simpa using blk_set (o := 3) (v := .slice so A.outs.length co) (blk_set (o := 2) (v := .slice sg A.gates.length cg) (blk_set (o := 1) (v := .slice sn A.next.length cn) (blk_set (o := 0) (v := .int .i64 A.inp) (HE.out.2.2.2.2.1))))
    rw [← hW5]
    clear hW5 ca cb rc rf
    refine hK.out _ _ ⟨(blk_all HE5.out.2.2.1).1, (blk_all HE5.out.2.2.2.1).1⟩ ?_
    clear hK K
    obtain ⟨rc, rf⟩ := blk_all HE5.out.2.2.2.2.2.1
    have ca := (blk_all HE5.out.2.2.1).1
    have cb := (blk_all HE5.out.2.2.2.1).1
    (try simp only [Act.put, zA, zB, zC])
    repeat (first | (refine ordt_s (o := ?_) ?_ ?_ ?_; rotate_left 1; (focus ((simp only [zD, zE, zF]) <;> rfl)); (focus rfl); simp only [Act.put, zA, zB, zC]) | (refine ordt_q (o := ?_) (v := ?_) ?_ ?_ ?_ ?_; rotate_left 2; (focus ((simp only [zD, zE, zF]) <;> rfl)); (focus rfl); (focus (intro w' hS; (try dsimp only at hS); go_split_ands; go_simp; (try (with_reducible rfl)))); simp only [Act.put, zA, zB, zC]))
    refine ordt_e ?_
    (refine op_e (o := ?_) ?_ ?_ (fun K hK => ?_); rotate_left 1; (focus ((simp only [zD, zE, zF]) <;> rfl)); (focus rfl); go_simp)
    obtain ⟨W6, hW6⟩ : ∃ W6, W6 = ((((W5.setCell ⟨Z + 1, 0, none⟩ (.int .i64 B.inp)).setCell ⟨Z + 1, 1, none⟩ (.slice tn B.next.length dn)).setCell ⟨Z + 1, 2, none⟩ (.slice tg B.gates.length dg)).setCell ⟨Z + 1, 3, none⟩ (.slice to_ B.outs.length do_)) := ⟨_, rfl⟩
    have HE6 : Hid (CirOwn W6 (Z + 2) A (.slice sn A.next.length cn) (.slice sg A.gates.length cg) (.slice so A.outs.length co) ∧ CirOwn W6 (Z + 2) B (.slice tn B.next.length dn) (.slice tg B.gates.length dg) (.slice to_ B.outs.length do_) ∧ W6.heap[BA]? = some (.cells #[.int .i64 A.inp, .slice sn A.next.length cn, .slice sg A.gates.length cg, .slice so A.outs.length co] 26 (0, 0)) ∧ W6.heap[BB]? = some (.cells #[.int .i64 B.inp, .slice tn B.next.length dn, .slice tg B.gates.length dg, .slice to_ B.outs.length do_] 26 (0, 0)) ∧ W6.heap[Z]? = some (.cells #[.int .i64 A.inp, .slice sn A.next.length cn, .slice sg A.gates.length cg, .slice so A.outs.length co] 26 (0, 0)) ∧ W6.heap[Z + 1]? = some (.cells #[.int .i64 B.inp, .slice tn B.next.length dn, .slice tg B.gates.length dg, .slice to_ B.outs.length do_] 26 (0, 0)) ∧ Chg (fun k => k = R) w W6) := by
      have x1 : Chg (fun k => k = Z + 1) W5 W6 := by rw [hW6]; exact (((chgS (S := fun k => k = Z + 1) _ 0 _ rfl).trans (chgS _ 1 _ rfl)).trans (chgS _ 2 _ rfl)).trans (chgS _ 3 _ rfl)
      obtain ⟨q1, q2, q3, q4, q5⟩ := HZR.out
      refine ⟨HE5.out.1.chgs x1 (fun k hk _ e => by omega), HE5.out.2.1.chgs x1 (fun k hk _ e => by omega), x1.blk HE5.out.2.2.1 (by omega), x1.blk HE5.out.2.2.2.1 (by omega), x1.blk HE5.out.2.2.2.2.1 (by omega), ?_, HE5.out.2.2.2.2.2.2.tail x1 (fun k e => by have := HW.out.2.1; omega)⟩
      rw [hW6]; simpa using blk_set (o := 3) (v := .slice to_ B.outs.length do_) (blk_set (o := 2) (v := .slice tg B.gates.length dg) (blk_set (o := 1) (v := .slice tn B.next.length dn) (blk_set (o := 0) (v := .int .i64 B.inp) (HE5.out.2.2.2.2.2.1))))
    rw [← hW6]
    clear hW6 ca cb rc rf
    refine hK.out _ _ ⟨(blk_all HE6.out.2.2.1).1, (blk_all HE6.out.2.2.2.1).1⟩ ?_
    clear hK K
    (try simp only [Act.put, zA, zB, zC])
    refine ordt_nil ?_
    have cr := (blk_all HE6.out.2.2.2.2.1).1
    have cr2 := (blk_all HE6.out.2.2.2.2.2.1).1
    go_wp2_with fail
    exact bodyPost_ret (v := .tuple #[.agg #[.int .i64 A.inp, .slice sn A.next.length cn, .slice sg A.gates.length cg, .slice so A.outs.length co], .agg #[.int .i64 B.inp, .slice tn B.next.length dn, .slice tg B.gates.length dg, .slice to_ B.outs.length do_]]) (by simp [results, Try.results53, go_sem, cr, cr2]) rfl ⟨A, B, _, _, _, _, _, _, rfl, HE6.out.1.low (by have := HW.out.2.1; omega), HE6.out.2.1.low (by have := HW.out.2.1; omega), HE6.out.2.2.2.2.2.2⟩

theorem Sl.sets {w w' : World} {s : Option Addr} {cs : List Value} (h : Sl w s cs) {r : Nat} (hr : ∀ v ∈ cs, ∀ o, w.cell? ⟨r, o, none⟩ ≠ some v) (hw : ∀ b, b ≠ r → w'.heap[b]? = w.heap[b]?) : Sl w' s cs := by
  rcases h with h | ⟨b, off, rfl, h⟩
  · exact .inl h
  · refine .inr ⟨b, off, rfl, fun j v hv => ?_⟩
    have hne : b ≠ r := fun e => hr v (List.mem_of_getElem? hv) _ (e ▸ h j v hv)
    have := h j v hv
    simpa [World.cell?, hw b hne] using this

theorem Sl.boolsets {w w' : World} {s : Option Addr} {bs : List Bool} (h : Sl w s (bools bs)) {r : Nat} {a b : Option Addr} {n m c d : Nat} {t : TypeId} {fz : Nat × Nat} (hr : w.heap[r]? = some (.cells #[.slice a n c, .slice b m d] t fz)) (hw : ∀ b, b ≠ r → w'.heap[b]? = w.heap[b]?) : Sl w' s (bools bs) :=
  h.sets (fun v hv o e => by
    obtain ⟨x, _, rfl⟩ := List.mem_map.1 hv
    rw [blk_cell hr] at e
    rcases o with _ | _ | o <;> simp at e) hw

set_option maxRecDepth 100000 in
set_option maxHeartbeats 3200000 in
theorem l2Step_any (v : Value) (c : Cir) (ss si : Option Addr) (cs ci : Nat) (S I : List Bool) (w : World) (h : CirV w v c) (hv : c.valid) (hS : Sl w ss (bools S)) (hI : Sl w si (bools I))
    (lS : S.length = c.next.length) (ni : Nat) (lI : I.length = ni) (li : c.inp = ni) :
    Calls Try.prog 73 #[v, .slice ss c.next.length cs, .slice si ni ci] w fun e w' => ∃ so co sn cn, e = .returned (.agg #[.slice so c.outs.length co, .slice sn c.next.length cn]) ∧
      Sl w' so (bools (c.outs.map (litB (valsV (-1) false (false :: (I ++ S)) c.gates)))) ∧ Sl w' sn (bools (c.next.map (litB (valsV (-1) false (false :: (I ++ S)) c.gates)))) ∧ Below w.heap.size w w' := by
  have HC : Hid (∀ w', Below w.heap.size w w' → CirV w' v c) := fun w' hb => h.mono hb
  obtain ⟨sn, cn, sg, cg, so, co, rfl, h1, h2, h3, hl1, hl2, hl3⟩ := h
  obtain ⟨f1, f2, f3, f4⟩ := valid_first hv
  obtain ⟨q1, q2, q3, q4, q5⟩ := id hv.lim
  obtain ⟨V, hV⟩ : ∃ V : Nat, c.vars = V := ⟨c.vars.toNat, by omega⟩
  have n4 : ni ≤ 4 := by omega
  obtain ⟨B, hB⟩ : ∃ B, B = valsV (-1) false (false :: (I ++ S)) c.gates := ⟨_, rfl⟩
  have hBl : B.length = V := by
    have h1 := hV; unfold Cir.vars at h1
    rw [hB, valsV_length]; simp [lS, lI]; omega
  have hlit : ∀ x ∈ c.next ++ c.outs, 0 ≤ x ∧ x ≤ 1000000 ∧ x / 2 < B.length := fun x hx => by have := roots_lits hv x hx; rw [hBl]; rw [hV] at this; exact this
  rw [← hB]
  have hL : Below w.heap.size w ((w.alloc (.cells #[.int .i64 c.inp, .slice sn c.next.length cn, .slice sg c.gates.length cg, .slice so c.outs.length co] 26)).alloc (.cells #[.slice none 0 0, .slice none 0 0] 36)) := by go_grown
  have hN := blk_old (o := .cells #[.slice none 0 0, .slice none 0 0] 36) (blk_new w (.cells #[.int .i64 c.inp, .slice sn c.next.length cn, .slice sg c.gates.length cg, .slice so c.outs.length co] 26))
  have hM : ((w.alloc (.cells #[.int .i64 c.inp, .slice sn c.next.length cn, .slice sg c.gates.length cg, .slice so c.outs.length co] 26)).alloc (.cells #[.slice none 0 0, .slice none 0 0] 36)).heap[w.heap.size + 1]? = some (.cells #[.slice none 0 0, .slice none 0 0] 36 (0, 0)) := blk_at (by simp)
  have hZ : ((w.alloc (.cells #[.int .i64 c.inp, .slice sn c.next.length cn, .slice sg c.gates.length cg, .slice so c.outs.length co] 26)).alloc (.cells #[.slice none 0 0, .slice none 0 0] 36)).heap.size = w.heap.size + 2 := by simp
  have H := Lib.hid (And.intro h1 (And.intro h3 (And.intro hv (And.intro hS (And.intro hI (And.intro lS (And.intro lI (And.intro li (And.intro hB (And.intro hBl hlit))))))))))
  have HL := Lib.hid (And.intro hL (And.intro hN (And.intro hM hZ)))
  clear h1 h2 h3 hv hS hI lS lI li hB hBl hlit hL hN hM hZ hV f1 f2 f3 f4
  go_enter Try.func73, Try.ntmps73
  go_wp2_with fail
  revert HL
  generalize ((w.alloc (.cells #[.int .i64 c.inp, .slice sn c.next.length cn, .slice sg c.gates.length cg, .slice so c.outs.length co] 26)).alloc (.cells #[.slice none 0 0, .slice none 0 0] 36)) = W0
  intro HL
  have ca := (blk_all HL.out.2.1).1
  go_upto_region 2 with (go_at_call 88; ((refine (l2Values_any _ c ss si cs ci S I _ (HC.out _ HL.out.1) H.out.2.2.1 (H.out.2.2.2.1.mono HL.out.1) (H.out.2.2.2.2.1.mono HL.out.1) H.out.2.2.2.2.2.1 ni H.out.2.2.2.2.2.2.1 H.out.2.2.2.2.2.2.2.1).mono ?_); rintro e wd ⟨sd, nd, cd, rfl, hnd, hd, hqd⟩; rw [← H.out.2.2.2.2.2.2.2.2.1] at hnd hd; subst hnd; have hz := HL.out.2.2.2; have HD := Lib.hid (And.intro (HL.out.1.trans (hqd.mono HL.out.1.size)) (And.intro (blk_below hqd (by omega) HL.out.2.1) (And.intro (blk_below hqd (by omega) HL.out.2.2.1) (And.intro hd (show w.heap.size + 2 ≤ wd.heap.size by rw [← hz]; exact hqd.size))))); clear hd hqd hz ca; have ca := (blk_all HD.out.2.1).1))
  refine wp_region_E (fun w' => ∀ o, w'.cell? ⟨w.heap.size, o, none⟩ = #[Value.int .i64 c.inp, .slice sn c.next.length cn, .slice sg c.gates.length cg, .slice so c.outs.length co][o]?) 9 (.q 0 (.q 1 (.q 2 (.q 4 (.q 5 (.q 6 (.e 3 (.e 7 (.q 8 (.z 9)))))))))) (by kernel_rfl) (by kernel_rfl) (by kernel_rfl) (by kernel_rfl) (by kernel_rfl) (by kernel_rfl) ca ?_
  repeat (first | (refine orde_s (o := ?_) ?_ ?_ ?_; rotate_left 1; (focus ((simp only [zD, zE, zF]) <;> rfl)); (focus rfl); simp only [Act.put, zA, zB, zC]) | (refine orde_q (o := ?_) (v := ?_) ?_ ?_ ?_ ?_; rotate_left 2; (focus ((simp only [zD, zE, zF]) <;> rfl)); (focus rfl); (focus (intro w' hS; (try dsimp only at hS); go_split_ands; go_simp; (try (with_reducible rfl)))); simp only [Act.put, zA, zB, zC]))
  refine orde_e ?_
  (refine ope_e (o := ?_) ?_ ?_ (fun K hK => ?_); rotate_left 1; (focus ((simp only [zD, zE, zF]) <;> rfl)); (focus rfl); go_simp)
  refine (l2Lits_any sd so B cd co c.outs _ (HD.out.2.2.2.1.mono (Below.refl _ _).drew) (H.out.2.1.mono HD.out.1.drew) (fun x hx => H.out.2.2.2.2.2.2.2.2.2.2 x (by simp [hx])) (by omega)).mono ?_
  rintro e we ⟨so', co', rfl, hso, hqe⟩
  have hbe : Below wd.heap.size wd we := (Below.refl _ _).drew.trans hqe
  have hxe := blk_below hbe (blk_lt HD.out.2.1) HD.out.2.1
  refine hK.out _ _ (blk_all hxe).1 ?_
  clear hK K hqe ca
  have HE := Lib.hid (And.intro (HD.out.1.trans (hbe.mono HD.out.1.size)) (And.intro hxe (And.intro (blk_below hbe (blk_lt HD.out.2.2.1) HD.out.2.2.1) (And.intro (HD.out.2.2.2.1.mono hbe) hso))))
  clear hbe hxe hso
  (try simp only [Act.put, zA, zB, zC])
  refine orde_e ?_
  (refine ope_e (o := ?_) ?_ ?_ (fun K hK => ?_); rotate_left 1; (focus ((simp only [zD, zE, zF]) <;> rfl)); (focus rfl); go_simp)
  refine (l2Lits_any sd sn B cd cn c.next _ HE.out.2.2.2.1 (H.out.1.mono HE.out.1) (fun x hx => H.out.2.2.2.2.2.2.2.2.2.2 x (by simp [hx])) (by omega)).mono ?_
  rintro e wf ⟨sn', cn', rfl, hsn, hqf⟩
  have hxf := blk_below hqf (blk_lt HE.out.2.1) HE.out.2.1
  have hrf := blk_below hqf (blk_lt HE.out.2.2.1) HE.out.2.2.1
  refine hK.out _ _ (blk_all hxf).1 ?_
  clear hK K
  obtain ⟨rc, rf⟩ := blk_all hrf
  have HF := Lib.hid (And.intro (HE.out.1.trans (hqf.mono HE.out.1.size)) (And.intro hrf (And.intro (HE.out.2.2.2.2.mono hqf) hsn)))
  clear hqf hxf hrf hsn
  (try simp only [Act.put, zA, zB, zC])
  repeat (first | (refine orde_s (o := ?_) ?_ ?_ ?_; rotate_left 1; (focus ((simp only [zD, zE, zF]) <;> rfl)); (focus rfl); simp only [Act.put, zA, zB, zC]) | (refine orde_q (o := ?_) (v := ?_) ?_ ?_ ?_ ?_; rotate_left 2; (focus ((simp only [zD, zE, zF]) <;> rfl)); (focus rfl); (focus (intro w' hS; (try dsimp only at hS); go_split_ands; go_simp; (try (with_reducible rfl)))); simp only [Act.put, zA, zB, zC]))
  (refine orde_z (o := ?_) ?_ ?_ (fun K hK => ?_); rotate_left 1; (focus ((simp only [zD, zE, zF]) <;> rfl)); (focus rfl); go_simp)
  refine hK.out _ _ ?_
  clear hK K
  go_wp2_with fail
  have hZ : ((wf.setCell ⟨w.heap.size + 1, 0, none⟩ (.slice so' c.outs.length co')).setCell ⟨w.heap.size + 1, 1, none⟩ (.slice sn' c.next.length cn')).heap[w.heap.size + 1]? = some (.cells #[.slice so' c.outs.length co', .slice sn' c.next.length cn'] 36 (0, 0)) := by
    simpa using blk_set (o := 1) (v := .slice sn' c.next.length cn') (blk_set (o := 0) (v := .slice so' c.outs.length co') HF.out.2.1)
  have hO : ∀ b, b ≠ w.heap.size + 1 → ((wf.setCell ⟨w.heap.size + 1, 0, none⟩ (.slice so' c.outs.length co')).setCell ⟨w.heap.size + 1, 1, none⟩ (.slice sn' c.next.length cn')).heap[b]? = wf.heap[b]? := fun b hb => blk_set_ne (Ne.symm hb) (blk_set_ne (Ne.symm hb) rfl)
  have h1 := HF.out.2.2.1.boolsets HF.out.2.1 hO
  have h2 := HF.out.2.2.2.boolsets HF.out.2.1 hO
  have hB := (HF.out.1.setCell (p := ⟨w.heap.size + 1, 0, none⟩) (by simp) (.slice so' c.outs.length co')).setCell (p := ⟨w.heap.size + 1, 1, none⟩) (by simp) (.slice sn' c.next.length cn')
  revert hZ h1 h2 hB
  generalize ((wf.setCell ⟨w.heap.size + 1, 0, none⟩ (.slice so' c.outs.length co')).setCell ⟨w.heap.size + 1, 1, none⟩ (.slice sn' c.next.length cn')) = WZ
  intro hZ h1 h2 hB
  have cr := (blk_all hZ).1
  exact bodyPost_ret (v := .agg #[.slice so' c.outs.length co', .slice sn' c.next.length cn']) (by simp [results, Try.results73, go_sem, cr]) rfl ⟨_, _, _, _, rfl, h1, h2, hB⟩

/-- The values of all variables, none stuck. -/
def vN (b : List Bool) (gs : List Gt) : List Bool := valsV (-1) false b gs

def DrawnTwo (w : World) (e : Ending) (w' : World) : Prop :=
  ∃ (A B : Cir) (vn vg vo un ug uo : Value), e = .returned (.tuple #[.agg #[.int .i64 A.inp, vn, vg, vo], .agg #[.int .i64 B.inp, un, ug, uo]]) ∧ CirOwn w' w.heap.size A vn vg vo ∧ CirOwn w' w.heap.size B un ug uo ∧ Below w.heap.size w w'

set_option maxRecDepth 100000 in
set_option maxHeartbeats 1600000 in
theorem DrawEquivalent_any (s : Option Addr) (cap : Nat) (xs : List Int) (w : World) (hs : Sl w s (u8s xs)) (hl : xs.length ≤ 1048576) (hcap : xs.length ≤ cap) (hcap2 : cap ≤ 9223372036854775807) (hr : ∀ x ∈ xs, 0 ≤ x ∧ x ≤ 255) :
    Calls Try.prog 22 #[.slice s xs.length cap] w (DrawnTwo w) := by
  obtain ⟨Z, hZ⟩ : ∃ Z, Z = w.heap.size := ⟨_, rfl⟩
  obtain ⟨W0, hW0⟩ : ∃ W0, W0 = (w.alloc (.cells #[.int .i64 0, .slice none 0 0, .slice none 0 0, .slice none 0 0] 26)).alloc (.cells #[.int .i64 0, .slice none 0 0, .slice none 0 0, .slice none 0 0] 26) := ⟨_, rfl⟩
  have z1 : W0.heap.size = Z + 2 := by rw [hW0, hZ]; simp
  have z2 : W0.heap[Z]? = some (.cells #[.int .i64 0, .slice none 0 0, .slice none 0 0, .slice none 0 0] 26 (0, 0)) := by rw [hW0, hZ]; exact blk_old (blk_new w _)
  have z3 : W0.heap[Z + 1]? = some (.cells #[.int .i64 0, .slice none 0 0, .slice none 0 0, .slice none 0 0] 26 (0, 0)) := by rw [hW0, hZ]; exact blk_at (by simp)
  have z4 : Below w.heap.size w W0 := by rw [hW0]; go_grown
  have HH := Lib.hid (l20Open_any s cap xs W0 (hs.mono z4) hl hcap hcap2 hr)
  have H0 := Lib.hid (And.intro z2 (And.intro z3 (And.intro z4 z1)))
  have HW := Lib.hid (And.intro hW0 hZ)
  clear hs hr hW0 z1 z2 z3 z4 hZ
  go_enter Try.func22, Try.ntmps22
  go_upto_region 1 with fail
  rw [← HW.out.1, ← HW.out.2]
  go_wp2_with (first
    | (go_at_call 36; (with_reducible refine HH.out.mono ?_); rintro e w1 ⟨c, rfl, h1, h2, h3⟩; have H1 := Lib.hid (And.intro h1 (And.intro h2 h3)); clear h1 h2 h3)
    | (go_at_call 53; (with_reducible refine (l20Pair_any W0.heap.size s c (xs.take 2000) 0 _ H1.out.1 (by omega)).mono ?_); rintro e w4 ⟨A, B, vn, vg, vo, un, ug, uo, rfl, h0, h1, h5⟩; obtain ⟨sn, cn, rfl⟩ := own_shape h0.n; obtain ⟨sg, cg, rfl⟩ := own_shape h0.g; obtain ⟨so, co, rfl⟩ := own_shape h0.o; obtain ⟨tn, dn, rfl⟩ := own_shape h1.n; obtain ⟨tg, dg, rfl⟩ := own_shape h1.g; obtain ⟨to_, do_, rfl⟩ := own_shape h1.o; have H4 : Hid (CirOwn w4 w1.heap.size A (.slice sn A.next.length cn) (.slice sg A.gates.length cg) (.slice so A.outs.length co) ∧ CirOwn w4 w1.heap.size B (.slice tn B.next.length dn) (.slice tg B.gates.length dg) (.slice to_ B.outs.length do_) ∧ Below w.heap.size w w4 ∧ (w4.heap[Z]? = some (.cells #[.int .i64 0, .slice none 0 0, .slice none 0 0, .slice none 0 0] 26 (0, 0)) ∧ w4.heap[Z + 1]? = some (.cells #[.int .i64 0, .slice none 0 0, .slice none 0 0, .slice none 0 0] 26 (0, 0)))) := (by obtain ⟨z2, z3, z4, z1⟩ := H0.out; have hz := HW.out.2; have hb := (H1.out.2.1).trans (h5.below (b := W0.heap.size) H1.out.2.1.size (fun k hk e => by omega)); exact ⟨h0, h1, z4.trans (hb.mono z4.size), blk_below hb (by omega) z2, blk_below hb (by omega) z3⟩); clear h0 h1 h5; obtain ⟨rc, rf⟩ := blk_all H4.out.2.2.2.1; obtain ⟨rc2, rf2⟩ := blk_all H4.out.2.2.2.2))
  clear rc rf rc2 rf2
  have hzz : Z + 2 ≤ w1.heap.size := by have := H0.out.2.2.2; have := H1.out.2.2; omega
  obtain ⟨W5, hW5⟩ : ∃ W5, W5 = ((((w4.setCell ⟨Z, 0, none⟩ (.int .i64 A.inp)).setCell ⟨Z, 1, none⟩ (.slice sn A.next.length cn)).setCell ⟨Z, 2, none⟩ (.slice sg A.gates.length cg)).setCell ⟨Z, 3, none⟩ (.slice so A.outs.length co)) := ⟨_, rfl⟩
  have x1 : Chg (fun k => k = Z) w4 W5 := by rw [hW5]; exact (((chgS (S := fun k => k = Z) _ 0 _ rfl).trans (chgS _ 1 _ rfl)).trans (chgS _ 2 _ rfl)).trans (chgS _ 3 _ rfl)
  have x2 : W5.heap[Z]? = some (.cells #[.int .i64 A.inp, .slice sn A.next.length cn, .slice sg A.gates.length cg, .slice so A.outs.length co] 26 (0, 0)) := by
    rw [hW5]; simpa using blk_set (o := 3) (v := .slice so A.outs.length co) (blk_set (o := 2) (v := .slice sg A.gates.length cg) (blk_set (o := 1) (v := .slice sn A.next.length cn) (blk_set (o := 0) (v := .int .i64 A.inp) (H4.out.2.2.2.1))))
  rw [← hW5]
  obtain ⟨W6, hW6⟩ : ∃ W6, W6 = ((((W5.setCell ⟨Z + 1, 0, none⟩ (.int .i64 B.inp)).setCell ⟨Z + 1, 1, none⟩ (.slice tn B.next.length dn)).setCell ⟨Z + 1, 2, none⟩ (.slice tg B.gates.length dg)).setCell ⟨Z + 1, 3, none⟩ (.slice to_ B.outs.length do_)) := ⟨_, rfl⟩
  have x3 : Chg (fun k => k = Z + 1) W5 W6 := by rw [hW6]; exact (((chgS (S := fun k => k = Z + 1) _ 0 _ rfl).trans (chgS _ 1 _ rfl)).trans (chgS _ 2 _ rfl)).trans (chgS _ 3 _ rfl)
  have x4 : W6.heap[Z + 1]? = some (.cells #[.int .i64 B.inp, .slice tn B.next.length dn, .slice tg B.gates.length dg, .slice to_ B.outs.length do_] 26 (0, 0)) := by
    rw [hW6]; simpa using blk_set (o := 3) (v := .slice to_ B.outs.length do_) (blk_set (o := 2) (v := .slice tg B.gates.length dg) (blk_set (o := 1) (v := .slice tn B.next.length dn) (blk_set (o := 0) (v := .int .i64 B.inp) ((x1.blk H4.out.2.2.2.2 (by omega))))))
  have x5 := x3.blk x2 (by omega)
  have hw2 := HW.out.2
  have f1 := ((H4.out.1.chgs x1 (fun k hk _ e => by omega)).chgs x3 (fun k hk _ e => by omega)).low (b2 := w.heap.size) (by omega)
  have f2 := ((H4.out.2.1.chgs x1 (fun k hk _ e => by omega)).chgs x3 (fun k hk _ e => by omega)).low (b2 := w.heap.size) (by omega)
  have hz4 : w.heap.size ≤ w4.heap.size := H4.out.2.2.1.size
  have f3 := (H4.out.2.2.1.trans (x1.below (b := w.heap.size) hz4 (fun k hk e => by omega))).trans (x3.below (b := w.heap.size) (by have := x1.size; omega) (fun k hk e => by omega))
  rw [← hW6]
  clear hW5 hW6 x1 x2 x3
  have cr := (blk_all x5).1
  have cr2 := (blk_all x4).1
  exact bodyPost_ret (v := .tuple #[.agg #[.int .i64 A.inp, .slice sn A.next.length cn, .slice sg A.gates.length cg, .slice so A.outs.length co], .agg #[.int .i64 B.inp, .slice tn B.next.length dn, .slice tg B.gates.length dg, .slice to_ B.outs.length do_]]) (by simp [results, Try.results22, go_sem, cr, cr2]) rfl ⟨A, B, _, _, _, _, _, _, rfl, f1, f2, f3⟩

end Go.Proofs.Ytaboipnigeaopaa
