import Derived.Test.YtbcolcchchgldaaZZ61Y1
import Derived.Test.YtbcolcchchgldaaZZ61OH
import Derived.Test.YtbcolcchchgldaaZZ61Y0
import Derived.Test.YtbcolcchchgldaaZZ61V3
import Derived.Test.YtbcolcchchgldaaZZ61L4
namespace Go.Proofs.Ytbcolcchchgldaa
set_option linter.unusedVariables false
set_option linter.unusedSimpArgs false
open Go.RowKit

/-! Part of the proof of one law. -/

theorem aliveR_any (w : World) : Calls Try.prog 20 #[] w fun e w' => e = .returned (.bool true) ∧ Below w.heap.size w w' := by
  go_enter Try.func20, Try.ntmps20
  go_wp2_with (go_at_call 18; (refine (CircuitValid_i _ ⟨0, [], [], []⟩ _ ⟨none, 0, none, 0, none, 0, rfl, .inl rfl, .inl rfl, .inl rfl, by simp, by simp, by simp⟩).mono ?_); rintro e w' ⟨rfl, hq⟩; have HQ := Lib.hid hq; clear hq)
  go_ret
  exact ⟨by congr 1, HQ.out⟩

theorem gcells_set1 : ∀ (gs : List Gt) (k : Nat) (g : Gt) (a : Int), gs[k]? = some g → (gcells gs).set (k * 2) (.int .i64 a) = gcells (gs.set k ⟨a, g.b⟩)
  | [], k, g, a, h => by simp at h
  | x :: gs, 0, g, a, h => by simp at h; subst h; simp [gcells, Gt.cells]
  | x :: gs, k + 1, g, a, h => by
    have := gcells_set1 gs k g a (by simpa using h)
    show ([Value.int .i64 x.a, .int .i64 x.b] ++ gcells gs).set ((k + 1) * 2) _ = [Value.int .i64 x.a, .int .i64 x.b] ++ gcells (gs.set k ⟨a, g.b⟩)
    rw [← this, show (k + 1) * 2 = k * 2 + 1 + 1 by omega]; rfl

theorem gcells_set2 : ∀ (gs : List Gt) (k : Nat) (g : Gt) (b : Int), gs[k]? = some g → (gcells gs).set (k * 2 + 1) (.int .i64 b) = gcells (gs.set k ⟨g.a, b⟩)
  | [], k, g, a, h => by simp at h
  | x :: gs, 0, g, a, h => by simp at h; subst h; simp [gcells, Gt.cells]
  | x :: gs, k + 1, g, a, h => by
    have := gcells_set2 gs k g a (by simpa using h)
    show ([Value.int .i64 x.a, .int .i64 x.b] ++ gcells gs).set ((k + 1) * 2 + 1) _ = [Value.int .i64 x.a, .int .i64 x.b] ++ gcells (gs.set k ⟨g.a, a⟩)
    rw [← this, show (k + 1) * 2 + 1 = k * 2 + 1 + 1 + 1 by omega]; rfl

theorem gcells_set12 (gs : List Gt) (k : Nat) (g : Gt) (a b : Int) (h : gs[k]? = some g) : ((gcells gs).set (k * 2) (.int .i64 a)).set (k * 2 + 1) (.int .i64 b) = gcells (gs.set k ⟨a, b⟩) := by
  rw [gcells_set1 gs k g a h, gcells_set2 (gs.set k ⟨a, g.b⟩) k ⟨a, g.b⟩ b (by
    have := (List.getElem?_eq_some_iff.1 h).1
    simp [this])]
  simp

theorem Kp.chg {R b : Nat} {w w' : World} (h : Kp R b w w') (hb : w.heap.size ≤ b) : Chg (fun k => k = R) w w' := ⟨h.os, h.tape, h.output, h.size, fun k hk hn => h.block k (by omega) hn⟩

theorem Upd.chg {R : Nat} {w w' : World} (h : Upd R w w') : Chg (fun k => k = R) w w' := (Chg.of_grown h).mono fun k e => by simp at e; exact e.symm

theorem Chg.kp {R : Nat} {w w' : World} (h : Chg (fun k => k = R) w w') : Kp R w.heap.size w w' := ⟨h.os, h.tape, h.output, h.size, fun k hk hn => h.block k hk hn⟩

theorem CirOwn.chgs {S : Nat → Prop} {w w' : World} {base : Nat} {r : Cir} {vn vg vo : Value} (h : CirOwn w base r vn vg vo) (hc : Chg S w w') (hs : ∀ k, base ≤ k → k < w.heap.size → ¬ S k) : CirOwn w' base r vn vg vo :=
  ⟨hc.own h.n fun k hk => hs k (own_blk h.n hk).1 (own_blk h.n hk).2, hc.own h.g fun k hk => hs k (own_blk h.g hk).1 (own_blk h.g hk).2, hc.own h.o fun k hk => hs k (own_blk h.o hk).1 (own_blk h.o hk).2, h.ne, h.l1, h.l2, h.l3⟩

theorem CirOwn.low {w : World} {base b2 : Nat} {r : Cir} {vn vg vo : Value} (h : CirOwn w base r vn vg vo) (hb : b2 ≤ base) : CirOwn w b2 r vn vg vo :=
  ⟨own_base h.n hb, own_base h.g hb, own_base h.o hb, h.ne, h.l1, h.l2, h.l3⟩

theorem Chg.tail {S T : Nat → Prop} {a b c : World} (h : Chg S a b) (k : Chg T b c) (hT : ∀ i, T i → a.heap.size ≤ i) : Chg S a c :=
  ⟨k.os.trans h.os, k.tape.trans h.tape, k.output.trans h.output, Nat.le_trans h.size k.size, fun i hi hn => (k.block i (by have := h.size; omega) (fun t => by have := hT i t; omega)).trans (h.block i hi hn)⟩

theorem chgS {S : Nat → Prop} (w : World) {b : Nat} (o : Nat) (v : Value) (h : S b) : Chg S w (w.setCell ⟨b, o, none⟩ v) :=
  ⟨rfl, rfl, rfl, by simp, fun k _ hn => blk_set_ne (fun e => hn (e ▸ h)) rfl⟩

def PairPost (R : Nat) (w : World) (e : Ending) (w' : World) : Prop :=
  ∃ (A B : Cir) (vn vg vo un ug uo : Value), e = .returned (.tuple #[.agg #[.int .i64 A.inp, vn, vg, vo], .agg #[.int .i64 B.inp, un, ug, uo]]) ∧ CirOwn w' w.heap.size A vn vg vo ∧ CirOwn w' w.heap.size B un ug uo ∧ Chg (fun k => k = R) w w'

set_option maxRecDepth 100000 in
set_option maxHeartbeats 3200000 in
theorem l20Pair_any (R : Nat) (s : Option Addr) (c : Nat) (xs : List Int) (p : Nat) (w : World) (h : Rd w R s c xs p) (hp : p ≤ 100000) :
    Calls Try.prog 115 #[.pointer (some ⟨R, 0, none⟩)] w (PairPost R w) := by
  have hR : R < w.heap.size := blk_lt h.blk
  obtain ⟨Z, hZ⟩ : ∃ Z, Z = w.heap.size := ⟨_, rfl⟩
  obtain ⟨W0, hW0⟩ : ∃ W0, W0 = (w.alloc (.cells #[.int .i64 0, .slice none 0 0, .slice none 0 0, .slice none 0 0] 26)).alloc (.cells #[.int .i64 0, .slice none 0 0, .slice none 0 0, .slice none 0 0] 26) := ⟨_, rfl⟩
  have z1 : W0.heap.size = Z + 2 := by rw [hW0, hZ]; simp
  have z2 : W0.heap[Z]? = some (.cells #[.int .i64 0, .slice none 0 0, .slice none 0 0, .slice none 0 0] 26 (0, 0)) := by rw [hW0, hZ]; exact blk_old (blk_new w _)
  have z3 : W0.heap[Z + 1]? = some (.cells #[.int .i64 0, .slice none 0 0, .slice none 0 0, .slice none 0 0] 26 (0, 0)) := by rw [hW0, hZ]; exact blk_at (by simp)
  have z4 : Below w.heap.size w W0 := by rw [hW0]; go_grown
  have HRD0 := Lib.hid (h.mono z4)
  rw [← hZ] at hR
  have H0 : Hid (∀ W, Chg (fun k => k = R) W0 W → (W.heap[Z]? = some (.cells #[.int .i64 0, .slice none 0 0, .slice none 0 0, .slice none 0 0] 26 (0, 0)) ∧ W.heap[Z + 1]? = some (.cells #[.int .i64 0, .slice none 0 0, .slice none 0 0, .slice none 0 0] 26 (0, 0))) ∧ Chg (fun k => k = R) w W ∧ Z + 2 ≤ W.heap.size) := fun W hW =>
    ⟨⟨hW.blk z2 (by omega), hW.blk z3 (by omega)⟩, (Chg.of_below z4).trans hW, by have := hW.size; omega⟩
  have HW := Lib.hid (And.intro hW0 (And.intro hZ z1))
  clear h hW0 z1 z2 z3 z4 hZ
  go_enter Try.func115, Try.ntmps115
  go_upto_region 1 with fail
  rw [← HW.out.1, ← HW.out.2.1]
  go_upto_region 2 with (go_at_call 96; (with_reducible refine (l20Circuit_any R s c xs p 16 W0 HRD0.out (by omega) (by omega) (by omega)).mono ?_); rintro e w1 ⟨A, vn, vg, vo, p1, rfl, h1, h2, h3, h4, h5⟩; obtain ⟨sn, cn, rfl⟩ := own_shape h1.n; obtain ⟨sg, cg, rfl⟩ := own_shape h1.g; obtain ⟨so, co, rfl⟩ := own_shape h1.o; have HI := Lib.hid (And.intro h1 (And.intro h3 h5)); have HP1 := Lib.hid h4; obtain ⟨l1, l2, l3, l4, l5⟩ := h2; clear h1 h3 h4 h5)
  obtain ⟨BA, hBA⟩ : ∃ BA, BA = w1.heap.size := ⟨_, rfl⟩
  obtain ⟨W1, hW1⟩ : ∃ W1, W1 = w1.alloc (.cells #[.int .i64 A.inp, .slice sn A.next.length cn, .slice sg A.gates.length cg, .slice so A.outs.length co] 26) := ⟨_, rfl⟩
  have y1 : Chg (fun k => k = R) W0 W1 := by rw [hW1]; exact (HI.out.2.2.chg (Nat.le_refl _)).trans (Chg.of_below (below_al _ _))
  have y2 : CirOwn W1 (Z + 2) A (.slice sn A.next.length cn) (.slice sg A.gates.length cg) (.slice so A.outs.length co) := by
    rw [hW1]; have e := HW.out.2.2; rw [← e]; exact own_cbelow HI.out.1 (below_al _ _)
  have y3 : W1.heap[BA]? = some (.cells #[.int .i64 A.inp, .slice sn A.next.length cn, .slice sg A.gates.length cg, .slice so A.outs.length co] 26 (0, 0)) := by rw [hW1, hBA]; exact blk_new _ _
  have y4 : Rd W1 R s c xs p1 := by rw [hW1]; exact HI.out.2.1.mono (below_al _ _)
  have y5 : BA < W1.heap.size ∧ Z + 2 ≤ BA := by
    have e := HW.out.2.2; have e2 := HI.out.2.2.size
    rw [hW1, hBA]; simp; omega
  rw [← hW1, ← hBA]
  have HA : Hid (∀ W, Chg (fun k => k = R) W1 W → CirOwn W (Z + 2) A (.slice sn A.next.length cn) (.slice sg A.gates.length cg) (.slice so A.outs.length co) ∧ W.heap[BA]? = some (.cells #[.int .i64 A.inp, .slice sn A.next.length cn, .slice sg A.gates.length cg, .slice so A.outs.length co] 26 (0, 0)) ∧ (W.heap[Z]? = some (.cells #[.int .i64 0, .slice none 0 0, .slice none 0 0, .slice none 0 0] 26 (0, 0)) ∧ W.heap[Z + 1]? = some (.cells #[.int .i64 0, .slice none 0 0, .slice none 0 0, .slice none 0 0] 26 (0, 0))) ∧ Chg (fun k => k = R) w W ∧ W1.heap.size ≤ W.heap.size) := fun W hW =>
    ⟨y2.chgs hW (fun k hk _ e => by omega), hW.blk y3 (by omega), (H0.out W (y1.trans hW)).1, (H0.out W (y1.trans hW)).2.1, hW.size⟩
  have HY := Lib.hid (And.intro y4 y5)
  clear y1 y2 y3 y4 y5 hBA hW1 HI HRD0
  have ca := (blk_all (HA.out _ (Chg.refl _ _)).2.1).1
  go_upto_region 3 with fail
  clear ca
  obtain ⟨BB, hBB⟩ : ∃ BB, BB = W1.heap.size := ⟨_, rfl⟩
  obtain ⟨W2, hW2⟩ : ∃ W2, W2 = W1.alloc (.cells #[.int .i64 A.inp, .slice sn A.next.length cn, .slice sg A.gates.length cg, .slice so A.outs.length co] 26) := ⟨_, rfl⟩
  have y1 : Chg (fun k => k = R) W1 W2 := by rw [hW2]; exact Chg.of_below (below_al _ _)
  have y3 : W2.heap[BB]? = some (.cells #[.int .i64 A.inp, .slice sn A.next.length cn, .slice sg A.gates.length cg, .slice so A.outs.length co] 26 (0, 0)) := by rw [hW2, hBB]; exact blk_new _ _
  have y4 : Rd W2 R s c xs p1 := by rw [hW2]; exact HY.out.1.mono (below_al _ _)
  have y5 : R < BB := by have := HY.out.2; omega
  rw [← hW2, ← hBB]
  have HB : Hid (∀ W, Chg (fun k => k = R) W2 W → Chg (fun k => k = R) W1 W ∧ W.heap[BB]? = some (.cells #[.int .i64 A.inp, .slice sn A.next.length cn, .slice sg A.gates.length cg, .slice so A.outs.length co] 26 (0, 0))) := fun W hW => ⟨y1.trans hW, hW.blk y3 (by omega)⟩
  have HB2 := Lib.hid (And.intro y4 (And.intro y5 hBB))
  clear y1 y3 y4 y5 hBB hW2
  go_upto_region 10 with (go_at_call 120; ((with_reducible refine (pick_any R s c xs p1 4 _ HB2.out.1 (by have := HP1.out; omega) (by omega)).mono ?_); rintro e w3 ⟨q, rfl, hq1, hq2, hq3, hq4⟩; have H3 := Lib.hid (And.intro hq2 hq3.chg); have HQ := Lib.hid hq1; clear hq1 hq2 hq3 hq4))
  cases e0 : ((q : Int) == 0)
  case' true =>
    obtain rfl : q = 0 := by simpa using e0
    go_upto_region 14 with (go_at_call 96; (with_reducible refine (l20Circuit_any R s c xs (p1 + 1) 16 _ H3.out.1 (by have := HP1.out; omega) (by omega) (by omega)).mono ?_); rintro e w4 ⟨B, un, ug, uo, p2, rfl, h1, h2, h3, h4, h5⟩; obtain ⟨tn, dn, rfl⟩ := own_shape h1.n; obtain ⟨tg, dg, rfl⟩ := own_shape h1.g; obtain ⟨to_, do_, rfl⟩ := own_shape h1.o; have H4 := Lib.hid (And.intro h1 (H3.out.2.trans (h5.chg (Nat.le_refl _)))); clear h1 h2 h3 h4 h5; obtain ⟨rc, rf⟩ := blk_all (HB.out _ H4.out.2).2)
    clear rc rf
    obtain ⟨W4, hW4⟩ : ∃ W4, W4 = ((((w4.setCell ⟨BB, 0, none⟩ (.int .i64 B.inp)).setCell ⟨BB, 1, none⟩ (.slice tn B.next.length dn)).setCell ⟨BB, 2, none⟩ (.slice tg B.gates.length dg)).setCell ⟨BB, 3, none⟩ (.slice to_ B.outs.length do_)) := ⟨_, rfl⟩
    have x1 : Chg (fun k => k = BB) w4 W4 := by rw [hW4]; exact (((chgS (S := fun k => k = BB) _ 0 _ rfl).trans (chgS _ 1 _ rfl)).trans (chgS _ 2 _ rfl)).trans (chgS _ 3 _ rfl)
    have x2 : W4.heap[BB]? = some (.cells #[.int .i64 B.inp, .slice tn B.next.length dn, .slice tg B.gates.length dg, .slice to_ B.outs.length do_] 26 (0, 0)) := by
      rw [hW4]; simpa using blk_set (o := 3) (v := .slice to_ B.outs.length do_) (blk_set (o := 2) (v := .slice tg B.gates.length dg) (blk_set (o := 1) (v := .slice tn B.next.length dn) (blk_set (o := 0) (v := .int .i64 B.inp) ((HB.out _ (H4.out.2)).2))))
    have x3 : BB < W2.heap.size := blk_lt (HB.out _ (Chg.refl _ _)).2
    have x4 : Z + 2 ≤ W1.heap.size := by have := HY.out.2; omega
    have x5 := H3.out.2.size
    have x6 : W1.heap.size = BB := HB2.out.2.2.symm
    have HE : Hid (CirOwn W4 (Z + 2) B (.slice tn B.next.length dn) (.slice tg B.gates.length dg) (.slice to_ B.outs.length do_) ∧ W4.heap[BB]? = some (.cells #[.int .i64 B.inp, .slice tn B.next.length dn, .slice tg B.gates.length dg, .slice to_ B.outs.length do_] 26 (0, 0)) ∧ Chg (fun k => k = R) W1 W4) :=
      ⟨((H4.out.1).chgs x1 (fun k hk _ e => by omega)).low (by omega), x2, ((HB.out _ (H4.out.2)).1).tail x1 (fun k e => by omega)⟩
    rw [← hW4]
    clear hW4 x1 x2 x3 x4 x5 x6
  case' false =>
    cases e1 : ((q : Int) == 1)
    case' true =>
      obtain rfl : q = 1 := by simpa using e1
      have ca := (blk_all (HA.out _ (HB.out _ H3.out.2).1).2.1).1
      go_upto_region 14 with (go_at_call 111; (with_reducible refine (Optimize_s _ A _ (own_cv (HA.out _ (HB.out _ H3.out.2).1).1)).mono ?_); rintro e w4 ⟨un, ug, uo, rfl, h1, h5⟩; obtain ⟨B, hB⟩ : ∃ B, B = optR A := ⟨_, rfl⟩; rw [← hB] at h1 ⊢; obtain ⟨tn, dn, rfl⟩ := own_shape h1.n; obtain ⟨tg, dg, rfl⟩ := own_shape h1.g; obtain ⟨to_, do_, rfl⟩ := own_shape h1.o; have H4 := Lib.hid (And.intro h1 (H3.out.2.trans (Chg.of_below h5))); clear h1 h5 hB; obtain ⟨rc, rf⟩ := blk_all (HB.out _ H4.out.2).2; clear ca)
      clear rc rf
      obtain ⟨W4, hW4⟩ : ∃ W4, W4 = ((((w4.setCell ⟨BB, 0, none⟩ (.int .i64 B.inp)).setCell ⟨BB, 1, none⟩ (.slice tn B.next.length dn)).setCell ⟨BB, 2, none⟩ (.slice tg B.gates.length dg)).setCell ⟨BB, 3, none⟩ (.slice to_ B.outs.length do_)) := ⟨_, rfl⟩
      have x1 : Chg (fun k => k = BB) w4 W4 := by rw [hW4]; exact (((chgS (S := fun k => k = BB) _ 0 _ rfl).trans (chgS _ 1 _ rfl)).trans (chgS _ 2 _ rfl)).trans (chgS _ 3 _ rfl)
      have x2 : W4.heap[BB]? = some (.cells #[.int .i64 B.inp, .slice tn B.next.length dn, .slice tg B.gates.length dg, .slice to_ B.outs.length do_] 26 (0, 0)) := by
        rw [hW4]; simpa using blk_set (o := 3) (v := .slice to_ B.outs.length do_) (blk_set (o := 2) (v := .slice tg B.gates.length dg) (blk_set (o := 1) (v := .slice tn B.next.length dn) (blk_set (o := 0) (v := .int .i64 B.inp) ((HB.out _ (H4.out.2)).2))))
      have x3 : BB < W2.heap.size := blk_lt (HB.out _ (Chg.refl _ _)).2
      have x4 : Z + 2 ≤ W1.heap.size := by have := HY.out.2; omega
      have x5 := H3.out.2.size
      have x6 : W1.heap.size = BB := HB2.out.2.2.symm
      have HE : Hid (CirOwn W4 (Z + 2) B (.slice tn B.next.length dn) (.slice tg B.gates.length dg) (.slice to_ B.outs.length do_) ∧ W4.heap[BB]? = some (.cells #[.int .i64 B.inp, .slice tn B.next.length dn, .slice tg B.gates.length dg, .slice to_ B.outs.length do_] 26 (0, 0)) ∧ Chg (fun k => k = R) W1 W4) :=
        ⟨((H4.out.1).chgs x1 (fun k hk _ e => by omega)).low (by omega), x2, ((HB.out _ (H4.out.2)).1).tail x1 (fun k e => by omega)⟩
      rw [← hW4]
      clear hW4 x1 x2 x3 x4 x5 x6
    case' false =>
      have ca := (blk_all (HA.out _ (HB.out _ H3.out.2).1).2.1).1
      obtain ⟨rc, rf⟩ := blk_all (HB.out _ H3.out.2).2
      have hBA3 : BA < w3.heap.size := blk_lt (HA.out _ (HB.out _ H3.out.2).1).2.1
      go_upto_region 5 with (at_builtin; refine wpl_app rfl _ _ rfl elem_gate (own_of_blk (base := w3.heap.size) (size := 2) (n := 0) (cur := #[]) (blk_new _ _) (Nat.le_refl _) (by simp) (by unfold maxLen; omega)) rfl rfl (by rw [gcells_length]; omega) (own_sl (own_below (HA.out _ (HB.out _ H3.out.2).1).1.g (below_al _ _))) (gcells_one _) A.gates.length (by omega) (gcells A.gates) (by simp) (by unfold maxLen; omega) (by omega) (by simp) ?_; intro s6 c6 w6 h6 hb6 hg6 hob6; have H6 := Lib.hid (And.intro h6 hb6); clear h6 hb6 hg6 hob6; clear ca; obtain ⟨rc, rf⟩ := blk_all (HB.out _ (H3.out.2.trans (Chg.of_below ((below_al _ _).trans H6.out.2)))).2)
      clear rc rf
      obtain ⟨W5, hW5⟩ : ∃ W5, W5 = w6.setCell ⟨BB, 2, none⟩ (.slice s6 A.gates.length c6) := ⟨_, rfl⟩
      have HG : Hid (W5.ownsRow w3.heap.size 38 2 (.slice s6 A.gates.length c6) A.gates.length (gcells A.gates) ∧ W5.heap[BB]? = some (.cells #[.int .i64 A.inp, .slice sn A.next.length cn, .slice s6 A.gates.length c6, .slice so A.outs.length co] 26 (0, 0)) ∧ Chg (fun k => k = R) W1 W5 ∧ Rd W5 R s c xs (p1 + 1) ∧ BB < w3.heap.size ∧ w3.heap.size ≤ W5.heap.size) := by
        have x0 : Chg (fun k => k = R) w3 w6 := Chg.of_below ((below_al _ _).trans H6.out.2)
        have x1 : Chg (fun k => k = BB) w6 W5 := by rw [hW5]; exact chgS (S := fun k => k = BB) _ 2 _ rfl
        have x2 : BB < w3.heap.size := blk_lt (HB.out _ H3.out.2).2
        have x3 : Chg (fun k => k = BB) w3 W5 := (Chg.of_below ((below_al _ _).trans H6.out.2)).trans x1
        have x4 : W1.heap.size = BB := HB2.out.2.2.symm
        refine ⟨by rw [hW5]; exact own_set_ne H6.out.1 (fun e => by have := (own_blk H6.out.1 e).1; omega) _, ?_, (HB.out _ (H3.out.2.trans x0)).1.tail x1 (fun k e => by omega), H3.out.1.grown (x3.below (b := BB) (by omega) (fun k hk e => by omega)) HB2.out.2.1, x2, x3.size⟩
        rw [hW5]; simpa using blk_set (o := 2) (v := .slice s6 A.gates.length c6) (HB.out _ (H3.out.2.trans x0)).2
      rw [← hW5]
      clear hW5 H6 hBA3
      by_cases hlt : 0 < A.gates.length
      case' neg =>
        have HE : Hid (CirOwn W5 (Z + 2) A (.slice sn A.next.length cn) (.slice s6 A.gates.length c6) (.slice so A.outs.length co) ∧ W5.heap[BB]? = some (.cells #[.int .i64 A.inp, .slice sn A.next.length cn, .slice s6 A.gates.length c6, .slice so A.outs.length co] 26 (0, 0)) ∧ Chg (fun k => k = R) W1 W5) := by
          obtain ⟨h1, h2, h3, h4⟩ := HA.out _ HG.out.2.2.1
          obtain ⟨q1, q2⟩ := HY.out.2
          have q3 := HB2.out.2.2
          have q4 := HG.out.2.2.2.2.1
          exact ⟨⟨h1.n, own_base HG.out.1 (by omega), h1.o, h1.ne, h1.l1, h1.l2, h1.l3⟩, HG.out.2.1, HG.out.2.2.1⟩
        clear HG
        have cb := (blk_all HE.out.2.1).1
        go_upto_region 14 with fail
        clear cb
        obtain ⟨B, tn, dn, tg, dg, to_, do_, W4, hW4, HE⟩ : ∃ (B : Cir) (tn : Option Addr) (dn : Nat) (tg : Option Addr) (dg : Nat) (to_ : Option Addr) (do_ : Nat) (W4 : World), W4 = W5 ∧ Hid (CirOwn W4 (Z + 2) B (.slice tn B.next.length dn) (.slice tg B.gates.length dg) (.slice to_ B.outs.length do_) ∧ W4.heap[BB]? = some (.cells #[.int .i64 B.inp, .slice tn B.next.length dn, .slice tg B.gates.length dg, .slice to_ B.outs.length do_] 26 (0, 0)) ∧ Chg (fun k => k = R) W1 W4) := ⟨A, sn, cn, s6, c6, so, co, W5, rfl, HE⟩
        rw [← hW4]
        clear hW4
      case' pos =>
        obtain ⟨G, cq6, e, gb, gl⟩ := HG.out.1.form hlt
        cases e
        have cb := (blk_all HG.out.2.1).1
        go_upto_region 7 with (go_at_call 120; ((with_reducible refine (pick_any R s c xs (p1 + 1) A.gates.length _ HG.out.2.2.2.1 (by have := HP1.out; omega) (by omega)).mono ?_); rintro e w7 ⟨q2, rfl, hq1, hq2, hq3, hq4⟩; obtain ⟨k, rfl, hk⟩ : ∃ k : Nat, q2 = k ∧ k < A.gates.length := ⟨q2.toNat, by have := hq1.1; omega, by have := hq1.1; have := hq1.2; omega⟩; have H7 := Lib.hid (And.intro hq2 hq3.chg); clear hq1 hq2 hq3 hq4 cb))
        go_wp2_with (go_at_call 120; ((with_reducible refine (pick_any R s c xs (p1 + 1 + 1) 2 _ H7.out.1 (by have := HP1.out; omega) (by omega)).mono ?_); rintro e w8 ⟨q3, rfl, hq1, hq2, hq3, hq4⟩; have H8 := Lib.hid (H7.out.2.trans hq3.chg); clear hq1 hq2 hq3 hq4; cases e3 : ((q3 : Int) == 0)))
        all_goals
          first
          | have e4 : ((q3 : Int) == 0) = false := e3
            obtain ⟨g, hg⟩ := get_of_lt (l := A.gates) (k := k) hk
            have HO : Hid (∀ W, Chg (fun k => k = R) W5 W → W.ownsRow w3.heap.size 38 2 (.slice (some ⟨G, 0, none⟩) A.gates.length c6) A.gates.length (gcells A.gates) ∧ W.heap[BB]? = some (.cells #[.int .i64 A.inp, .slice sn A.next.length cn, .slice (some ⟨G, 0, none⟩) A.gates.length c6, .slice so A.outs.length co] 26 (0, 0)) ∧ w3.heap.size ≤ G ∧ BB < w3.heap.size ∧ Chg (fun k => k = R) W1 W) := fun W hW =>
              ⟨hW.own HG.out.1 (fun i hi e => by have h1 := (own_blk HG.out.1 hi).1; have h2 := HB2.out.2.1; have h3 := HG.out.2.2.2.2.1; omega), hW.blk HG.out.2.1 (by have h2 := HB2.out.2.1; omega), gb, HG.out.2.2.2.2.1, HG.out.2.2.1.trans hW⟩
            have HC : Hid (∀ W, Chg (fun k => k = R) W5 W → (∀ o, W.cell? ⟨BB, o, none⟩ = #[Value.int .i64 A.inp, .slice sn A.next.length cn, .slice (some ⟨G, 0, none⟩) A.gates.length c6, .slice so A.outs.length co][o]?) ∧ W.cell? ⟨G, k * 2, none⟩ = some (.int .i64 g.a) ∧ W.cell? ⟨G, k * 2 + 1, none⟩ = some (.int .i64 g.b)) := fun W hW => by
              have e := gcells_get hg
              have h1 := (HO.out W hW).1.cellAt (k * 2) (by omega)
              have h2 := (HO.out W hW).1.cellAt (k * 2 + 1) (by omega)
              rw [show k * 2 = 2 * k by omega] at h1 h2 ⊢
              exact ⟨(blk_all (HO.out W hW).2.1).1, h1.trans e.1, h2.trans e.2⟩
            have HG2 := Lib.hid hg
            clear hg
            refine wp_region_E (fun w' => (∀ o, w'.cell? ⟨BB, o, none⟩ = #[Value.int .i64 A.inp, .slice sn A.next.length cn, .slice (some ⟨G, 0, none⟩) A.gates.length c6, .slice so A.outs.length co][o]?) ∧ w'.cell? ⟨G, k * 2, none⟩ = some (.int .i64 g.a) ∧ w'.cell? ⟨G, k * 2 + 1, none⟩ = some (.int .i64 g.b)) 17 (.q 0 (.q 1 (.q 2 (.q 3 (.q 4 (.q 5 (.q 6 (.q 7 (.q 8 (.q 9 (.q 10 (.q 11 (.q 12 (.q 13 (.q 14 (.q 15 (.q 16 (.z 17)))))))))))))))))) (by kernel_rfl) (by kernel_rfl) (by kernel_rfl) (by kernel_rfl) (by kernel_rfl) (by kernel_rfl) (HC.out _ (H8.out.trans (Chg.of_below (Below.refl _ _).drew))) ?_
            have hd := H8.out.trans (Chg.of_below (Below.refl w8.heap.size w8).drew)
            revert hd
            generalize w8.drew = Wd
            intro hd
            obtain ⟨cb, z1, z2⟩ := HC.out _ hd
            have rf := fun j => ((HO.out _ hd).1.frozenAt j)
            have H9 := Lib.hid hd
            clear hd
            repeat (first | (refine orde_s (o := ?_) ?_ ?_ ?_; rotate_left 1; (focus ((simp only [zD, zE, zF]) <;> rfl)); (focus rfl); simp only [Act.put, zA, zB, zC]) | (refine orde_q (o := ?_) (v := ?_) ?_ ?_ ?_ ?_; rotate_left 2; (focus ((simp only [zD, zE, zF]) <;> rfl)); (focus rfl); (focus (intro w' hS; (try dsimp only at hS); go_split_ands; go_simp; (try (with_reducible rfl)))); simp only [Act.put, zA, zB, zC]))
            (refine orde_z (o := ?_) ?_ ?_ (fun K hK => ?_); rotate_left 1; (focus ((simp only [zD, zE, zF]) <;> rfl)); (focus rfl); go_simp)
            refine hK.out _ _ ?_
            clear hK K cb z1 z2 rf
            go_upto_region 14 with fail
            obtain ⟨W8, hW8⟩ : ∃ W8, W8 = (Wd.setCell ⟨G, k * 2, none⟩ (.int .i64 g.b)).setCell ⟨G, k * 2 + 1, none⟩ (.int .i64 g.a) := ⟨_, rfl⟩
            have HE : Hid (CirOwn W8 (Z + 2) ⟨A.inp, A.next, A.gates.set k ⟨g.b, g.a⟩, A.outs⟩ (.slice sn A.next.length cn) (.slice (some ⟨G, 0, none⟩) (A.gates.set k ⟨g.b, g.a⟩).length c6) (.slice so A.outs.length co) ∧ W8.heap[BB]? = some (.cells #[.int .i64 A.inp, .slice sn A.next.length cn, .slice (some ⟨G, 0, none⟩) (A.gates.set k ⟨g.b, g.a⟩).length c6, .slice so A.outs.length co] 26 (0, 0)) ∧ Chg (fun k => k = R) W1 W8) := by
              obtain ⟨o1, o2, o3, o4, o5⟩ := HO.out _ H9.out
              have x1 : Chg (fun k => k = G) Wd W8 := by rw [hW8]; exact (chgS (S := fun k => k = G) _ _ _ rfl).trans (chgS _ _ _ rfl)
              obtain ⟨q1, q2⟩ := HY.out.2
              have q3 := HB2.out.2.2
              have hc1 : Chg (fun k => k = R) W1 W8 := o5.tail x1 (fun k e => by omega)
              obtain ⟨h1, h2, h3, h4⟩ := HA.out _ hc1
              have ho : W8.ownsRow w3.heap.size 38 2 (.slice (some ⟨G, 0, none⟩) A.gates.length c6) A.gates.length (gcells (A.gates.set k ⟨g.b, g.a⟩)) := by
                rw [hW8, ← gcells_set12 A.gates k g _ _ HG2.out]
                exact ((o1.stored (k * 2) _).1.stored (k * 2 + 1) _).1
              rw [List.length_set]
              exact ⟨⟨h1.n, by rw [List.length_set]; exact own_base ho (by omega), h1.o, h1.ne, h1.l1, by rw [List.length_set]; exact h1.l2, h1.l3⟩, x1.blk o2 (by omega), hc1⟩
            rw [← hW8]
            clear hW8 HO HC HG H9 H8 H7
            obtain ⟨B, tn, dn, tg, dg, to_, do_, W4, hW4, HE⟩ : ∃ (B : Cir) (tn : Option Addr) (dn : Nat) (tg : Option Addr) (dg : Nat) (to_ : Option Addr) (do_ : Nat) (W4 : World), W4 = W8 ∧ Hid (CirOwn W4 (Z + 2) B (.slice tn B.next.length dn) (.slice tg B.gates.length dg) (.slice to_ B.outs.length do_) ∧ W4.heap[BB]? = some (.cells #[.int .i64 B.inp, .slice tn B.next.length dn, .slice tg B.gates.length dg, .slice to_ B.outs.length do_] 26 (0, 0)) ∧ Chg (fun k => k = R) W1 W4) := ⟨⟨A.inp, A.next, A.gates.set k ⟨g.b, g.a⟩, A.outs⟩, sn, cn, some ⟨G, 0, none⟩, c6, so, co, W8, rfl, HE⟩
            rw [← hW4]
            clear hW4
          | have e4 : ((q3 : Int) == 0) = true := e3
            obtain ⟨g, hg⟩ := get_of_lt (l := A.gates) (k := k) hk
            have HO : Hid (∀ W, Chg (fun k => k = R) W5 W → W.ownsRow w3.heap.size 38 2 (.slice (some ⟨G, 0, none⟩) A.gates.length c6) A.gates.length (gcells A.gates) ∧ W.heap[BB]? = some (.cells #[.int .i64 A.inp, .slice sn A.next.length cn, .slice (some ⟨G, 0, none⟩) A.gates.length c6, .slice so A.outs.length co] 26 (0, 0)) ∧ w3.heap.size ≤ G ∧ BB < w3.heap.size ∧ Chg (fun k => k = R) W1 W) := fun W hW =>
              ⟨hW.own HG.out.1 (fun i hi e => by have h1 := (own_blk HG.out.1 hi).1; have h2 := HB2.out.2.1; have h3 := HG.out.2.2.2.2.1; omega), hW.blk HG.out.2.1 (by have h2 := HB2.out.2.1; omega), gb, HG.out.2.2.2.2.1, HG.out.2.2.1.trans hW⟩
            have HC : Hid (∀ W, Chg (fun k => k = R) W5 W → (∀ o, W.cell? ⟨BB, o, none⟩ = #[Value.int .i64 A.inp, .slice sn A.next.length cn, .slice (some ⟨G, 0, none⟩) A.gates.length c6, .slice so A.outs.length co][o]?) ∧ W.cell? ⟨G, k * 2, none⟩ = some (.int .i64 g.a) ∧ W.cell? ⟨G, k * 2 + 1, none⟩ = some (.int .i64 g.b)) := fun W hW => by
              have e := gcells_get hg
              have h1 := (HO.out W hW).1.cellAt (k * 2) (by omega)
              have h2 := (HO.out W hW).1.cellAt (k * 2 + 1) (by omega)
              rw [show k * 2 = 2 * k by omega] at h1 h2 ⊢
              exact ⟨(blk_all (HO.out W hW).2.1).1, h1.trans e.1, h2.trans e.2⟩
            have HG2 := Lib.hid hg
            clear hg
            refine wp_region_E (fun w' => (∀ o, w'.cell? ⟨BB, o, none⟩ = #[Value.int .i64 A.inp, .slice sn A.next.length cn, .slice (some ⟨G, 0, none⟩) A.gates.length c6, .slice so A.outs.length co][o]?) ∧ w'.cell? ⟨G, k * 2, none⟩ = some (.int .i64 g.a) ∧ w'.cell? ⟨G, k * 2 + 1, none⟩ = some (.int .i64 g.b)) 12 (.q 0 (.q 1 (.q 2 (.q 3 (.q 4 (.q 5 (.q 6 (.q 7 (.q 8 (.q 9 (.q 10 (.q 11 (.z 12))))))))))))) (by kernel_rfl) (by kernel_rfl) (by kernel_rfl) (by kernel_rfl) (by kernel_rfl) (by kernel_rfl) (HC.out _ (H8.out.trans (Chg.of_below (Below.refl _ _).drew))) ?_
            have hd := H8.out.trans (Chg.of_below (Below.refl w8.heap.size w8).drew)
            revert hd
            generalize w8.drew = Wd
            intro hd
            obtain ⟨cb, z1, z2⟩ := HC.out _ hd
            have rf := fun j => ((HO.out _ hd).1.frozenAt j)
            have H9 := Lib.hid hd
            clear hd
            repeat (first | (refine orde_s (o := ?_) ?_ ?_ ?_; rotate_left 1; (focus ((simp only [zD, zE, zF]) <;> rfl)); (focus rfl); simp only [Act.put, zA, zB, zC]) | (refine orde_q (o := ?_) (v := ?_) ?_ ?_ ?_ ?_; rotate_left 2; (focus ((simp only [zD, zE, zF]) <;> rfl)); (focus rfl); (focus (intro w' hS; (try dsimp only at hS); go_split_ands; go_simp; (try (with_reducible rfl)))); simp only [Act.put, zA, zB, zC]))
            (refine orde_z (o := ?_) ?_ ?_ (fun K hK => ?_); rotate_left 1; (focus ((simp only [zD, zE, zF]) <;> rfl)); (focus rfl); go_simp)
            refine hK.out _ _ ?_
            clear hK K cb z1 z2 rf
            go_upto_region 14 with fail
            obtain ⟨W8, hW8⟩ : ∃ W8, W8 = Wd.setCell ⟨G, k * 2, none⟩ (.int .i64 (bits .xor .i64 g.a 1)) := ⟨_, rfl⟩
            have HE : Hid (CirOwn W8 (Z + 2) ⟨A.inp, A.next, A.gates.set k ⟨bits .xor .i64 g.a 1, g.b⟩, A.outs⟩ (.slice sn A.next.length cn) (.slice (some ⟨G, 0, none⟩) (A.gates.set k ⟨bits .xor .i64 g.a 1, g.b⟩).length c6) (.slice so A.outs.length co) ∧ W8.heap[BB]? = some (.cells #[.int .i64 A.inp, .slice sn A.next.length cn, .slice (some ⟨G, 0, none⟩) (A.gates.set k ⟨bits .xor .i64 g.a 1, g.b⟩).length c6, .slice so A.outs.length co] 26 (0, 0)) ∧ Chg (fun k => k = R) W1 W8) := by
              obtain ⟨o1, o2, o3, o4, o5⟩ := HO.out _ H9.out
              have x1 : Chg (fun k => k = G) Wd W8 := by rw [hW8]; exact chgS (S := fun k => k = G) _ _ _ rfl
              obtain ⟨q1, q2⟩ := HY.out.2
              have q3 := HB2.out.2.2
              have hc1 : Chg (fun k => k = R) W1 W8 := o5.tail x1 (fun k e => by omega)
              obtain ⟨h1, h2, h3, h4⟩ := HA.out _ hc1
              have ho : W8.ownsRow w3.heap.size 38 2 (.slice (some ⟨G, 0, none⟩) A.gates.length c6) A.gates.length (gcells (A.gates.set k ⟨bits .xor .i64 g.a 1, g.b⟩)) := by
                rw [hW8, ← gcells_set1 A.gates k g _ HG2.out]
                exact (o1.stored (k * 2) _).1
              rw [List.length_set]
              exact ⟨⟨h1.n, by rw [List.length_set]; exact own_base ho (by omega), h1.o, h1.ne, h1.l1, by rw [List.length_set]; exact h1.l2, h1.l3⟩, x1.blk o2 (by omega), hc1⟩
            rw [← hW8]
            clear hW8 HO HC HG H9 H8 H7
            obtain ⟨B, tn, dn, tg, dg, to_, do_, W4, hW4, HE⟩ : ∃ (B : Cir) (tn : Option Addr) (dn : Nat) (tg : Option Addr) (dg : Nat) (to_ : Option Addr) (do_ : Nat) (W4 : World), W4 = W8 ∧ Hid (CirOwn W4 (Z + 2) B (.slice tn B.next.length dn) (.slice tg B.gates.length dg) (.slice to_ B.outs.length do_) ∧ W4.heap[BB]? = some (.cells #[.int .i64 B.inp, .slice tn B.next.length dn, .slice tg B.gates.length dg, .slice to_ B.outs.length do_] 26 (0, 0)) ∧ Chg (fun k => k = R) W1 W4) := ⟨⟨A.inp, A.next, A.gates.set k ⟨bits .xor .i64 g.a 1, g.b⟩, A.outs⟩, sn, cn, some ⟨G, 0, none⟩, c6, so, co, W8, rfl, HE⟩
            rw [← hW4]
            clear hW4
  all_goals
    have ca := (blk_all (HA.out _ HE.out.2.2).2.1).1
    have cb := (blk_all HE.out.2.1).1
    obtain ⟨rc, rf⟩ := blk_all (HA.out _ HE.out.2.2).2.2.1.1
    have HZR : Hid (Z + 2 ≤ BA ∧ BA < W1.heap.size ∧ BB = W1.heap.size ∧ BB < W4.heap.size ∧ R < Z) := ⟨HY.out.2.2, HY.out.2.1, HB2.out.2.2, blk_lt HE.out.2.1, hR⟩
    refine wp_region_T (fun w' => (∀ o, w'.cell? ⟨BA, o, none⟩ = #[Value.int .i64 A.inp, .slice sn A.next.length cn, .slice sg A.gates.length cg, .slice so A.outs.length co][o]?) ∧ (∀ o, w'.cell? ⟨BB, o, none⟩ = #[Value.int .i64 B.inp, .slice tn B.next.length dn, .slice tg B.gates.length dg, .slice to_ B.outs.length do_][o]?)) (.q 0 (.q 1 (.e 2 (.e 3 .nil)))) (by kernel_rfl) (by kernel_rfl) (by kernel_rfl) ⟨ca, cb⟩ ?_
    obtain ⟨Wd, hWd⟩ : ∃ Wd, Wd = W4.drew := ⟨_, rfl⟩
    have HE : Hid (CirOwn Wd (Z + 2) A (.slice sn A.next.length cn) (.slice sg A.gates.length cg) (.slice so A.outs.length co) ∧ CirOwn Wd (Z + 2) B (.slice tn B.next.length dn) (.slice tg B.gates.length dg) (.slice to_ B.outs.length do_) ∧ Wd.heap[BA]? = some (.cells #[.int .i64 A.inp, .slice sn A.next.length cn, .slice sg A.gates.length cg, .slice so A.outs.length co] 26 (0, 0)) ∧ Wd.heap[BB]? = some (.cells #[.int .i64 B.inp, .slice tn B.next.length dn, .slice tg B.gates.length dg, .slice to_ B.outs.length do_] 26 (0, 0)) ∧ Wd.heap[Z]? = some (.cells #[.int .i64 0, .slice none 0 0, .slice none 0 0, .slice none 0 0] 26 (0, 0)) ∧ Wd.heap[Z + 1]? = some (.cells #[.int .i64 0, .slice none 0 0, .slice none 0 0, .slice none 0 0] 26 (0, 0)) ∧ Chg (fun k => k = R) w Wd) := by
      have hd := (Below.refl W4.heap.size W4).drew
      rw [← hWd] at hd
      have hh := HA.out _ (HE.out.2.2.trans (Chg.of_below hd))
      exact ⟨hh.1, own_cbelow HE.out.1 hd, hh.2.1, blk_below hd (blk_lt HE.out.2.1) HE.out.2.1, hh.2.2.1.1, hh.2.2.1.2, hh.2.2.2.1⟩
    rw [← hWd]
    clear hWd ca cb rc rf
    obtain ⟨rc, rf⟩ := blk_all HE.out.2.2.2.2.1
    have ca := (blk_all HE.out.2.2.1).1
    have cb := (blk_all HE.out.2.2.2.1).1
    repeat (first | (refine ordt_s (o := ?_) ?_ ?_ ?_; rotate_left 1; (focus ((simp only [zD, zE, zF]) <;> rfl)); (focus rfl); simp only [Act.put, zA, zB, zC]) | (refine ordt_q (o := ?_) (v := ?_) ?_ ?_ ?_ ?_; rotate_left 2; (focus ((simp only [zD, zE, zF]) <;> rfl)); (focus rfl); (focus (intro w' hS; (try dsimp only at hS); go_split_ands; go_simp; (try (with_reducible rfl)))); simp only [Act.put, zA, zB, zC]))
    refine ordt_e ?_
    (refine op_e (o := ?_) ?_ ?_ (fun K hK => ?_); rotate_left 1; (focus ((simp only [zD, zE, zF]) <;> rfl)); (focus rfl); go_simp)
    obtain ⟨W5, hW5⟩ : ∃ W5, W5 = ((((Wd.setCell ⟨Z, 0, none⟩ (.int .i64 A.inp)).setCell ⟨Z, 1, none⟩ (.slice sn A.next.length cn)).setCell ⟨Z, 2, none⟩ (.slice sg A.gates.length cg)).setCell ⟨Z, 3, none⟩ (.slice so A.outs.length co)) := ⟨_, rfl⟩
    have HE5 : Hid (CirOwn W5 (Z + 2) A (.slice sn A.next.length cn) (.slice sg A.gates.length cg) (.slice so A.outs.length co) ∧ CirOwn W5 (Z + 2) B (.slice tn B.next.length dn) (.slice tg B.gates.length dg) (.slice to_ B.outs.length do_) ∧ W5.heap[BA]? = some (.cells #[.int .i64 A.inp, .slice sn A.next.length cn, .slice sg A.gates.length cg, .slice so A.outs.length co] 26 (0, 0)) ∧ W5.heap[BB]? = some (.cells #[.int .i64 B.inp, .slice tn B.next.length dn, .slice tg B.gates.length dg, .slice to_ B.outs.length do_] 26 (0, 0)) ∧ W5.heap[Z]? = some (.cells #[.int .i64 A.inp, .slice sn A.next.length cn, .slice sg A.gates.length cg, .slice so A.outs.length co] 26 (0, 0)) ∧ W5.heap[Z + 1]? = some (.cells #[.int .i64 0, .slice none 0 0, .slice none 0 0, .slice none 0 0] 26 (0, 0)) ∧ Chg (fun k => k = R) w W5) := by
      have x1 : Chg (fun k => k = Z) Wd W5 := by rw [hW5]; exact (((chgS (S := fun k => k = Z) _ 0 _ rfl).trans (chgS _ 1 _ rfl)).trans (chgS _ 2 _ rfl)).trans (chgS _ 3 _ rfl)
      obtain ⟨q1, q2, q3, q4, q5⟩ := HZR.out
      refine ⟨HE.out.1.chgs x1 (fun k hk _ e => by omega), HE.out.2.1.chgs x1 (fun k hk _ e => by omega), x1.blk HE.out.2.2.1 (by omega), x1.blk HE.out.2.2.2.1 (by omega), ?_, x1.blk HE.out.2.2.2.2.2.1 (by omega), HE.out.2.2.2.2.2.2.tail x1 (fun k e => by have := HW.out.2.1; omega)⟩
      rw [hW5]; simpa using blk_set (o := 3) (v := .slice so A.outs.length co) (blk_set (o := 2) (v := .slice sg A.gates.length cg) (blk_set (o := 1) (v := .slice sn A.next.length cn) (blk_set (o := 0) (v := .int .i64 A.inp) (HE.out.2.2.2.2.1))))
    rw [← hW5]
    clear hW5 ca cb rc rf
    refine hK.out _ _ ⟨(blk_all HE5.out.2.2.1).1, (blk_all HE5.out.2.2.2.1).1⟩ ?_
    clear hK K
    obtain ⟨rc, rf⟩ := blk_all HE5.out.2.2.2.2.2.1
    have ca := (blk_all HE5.out.2.2.1).1
    have cb := (blk_all HE5.out.2.2.2.1).1
    (try simp only [Act.put, zA, zB, zC])
    repeat (first | (refine ordt_s (o := ?_) ?_ ?_ ?_; rotate_left 1; (focus ((simp only [zD, zE, zF]) <;> rfl)); (focus rfl); simp only [Act.put, zA, zB, zC]) | (refine ordt_q (o := ?_) (v := ?_) ?_ ?_ ?_ ?_; rotate_left 2; (focus ((simp only [zD, zE, zF]) <;> rfl)); (focus rfl); (focus (intro w' hS; (try dsimp only at hS); go_split_ands; go_simp; (try (with_reducible rfl)))); simp only [Act.put, zA, zB, zC]))
    refine ordt_e ?_
    (refine op_e (o := ?_) ?_ ?_ (fun K hK => ?_); rotate_left 1; (focus ((simp only [zD, zE, zF]) <;> rfl)); (focus rfl); go_simp)
    obtain ⟨W6, hW6⟩ : ∃ W6, W6 = ((((W5.setCell ⟨Z + 1, 0, none⟩ (.int .i64 B.inp)).setCell ⟨Z + 1, 1, none⟩ (.slice tn B.next.length dn)).setCell ⟨Z + 1, 2, none⟩ (.slice tg B.gates.length dg)).setCell ⟨Z + 1, 3, none⟩ (.slice to_ B.outs.length do_)) := ⟨_, rfl⟩
    have HE6 : Hid (CirOwn W6 (Z + 2) A (.slice sn A.next.length cn) (.slice sg A.gates.length cg) (.slice so A.outs.length co) ∧ CirOwn W6 (Z + 2) B (.slice tn B.next.length dn) (.slice tg B.gates.length dg) (.slice to_ B.outs.length do_) ∧ W6.heap[BA]? = some (.cells #[.int .i64 A.inp, .slice sn A.next.length cn, .slice sg A.gates.length cg, .slice so A.outs.length co] 26 (0, 0)) ∧ W6.heap[BB]? = some (.cells #[.int .i64 B.inp, .slice tn B.next.length dn, .slice tg B.gates.length dg, .slice to_ B.outs.length do_] 26 (0, 0)) ∧ W6.heap[Z]? = some (.cells #[.int .i64 A.inp, .slice sn A.next.length cn, .slice sg A.gates.length cg, .slice so A.outs.length co] 26 (0, 0)) ∧ W6.heap[Z + 1]? = some (.cells #[.int .i64 B.inp, .slice tn B.next.length dn, .slice tg B.gates.length dg, .slice to_ B.outs.length do_] 26 (0, 0)) ∧ Chg (fun k => k = R) w W6) := by
      have x1 : Chg (fun k => k = Z + 1) W5 W6 := by rw [hW6]; exact (((chgS (S := fun k => k = Z + 1) _ 0 _ rfl).trans (chgS _ 1 _ rfl)).trans (chgS _ 2 _ rfl)).trans (chgS _ 3 _ rfl)
      obtain ⟨q1, q2, q3, q4, q5⟩ := HZR.out
      refine ⟨HE5.out.1.chgs x1 (fun k hk _ e => by omega), HE5.out.2.1.chgs x1 (fun k hk _ e => by omega), x1.blk HE5.out.2.2.1 (by omega), x1.blk HE5.out.2.2.2.1 (by omega), x1.blk HE5.out.2.2.2.2.1 (by omega), ?_, HE5.out.2.2.2.2.2.2.tail x1 (fun k e => by have := HW.out.2.1; omega)⟩
      rw [hW6]; simpa using blk_set (o := 3) (v := .slice to_ B.outs.length do_) (blk_set (o := 2) (v := .slice tg B.gates.length dg) (blk_set (o := 1) (v := .slice tn B.next.length dn) (blk_set (o := 0) (v := .int .i64 B.inp) (HE5.out.2.2.2.2.2.1))))
    rw [← hW6]
    clear hW6 ca cb rc rf
    refine hK.out _ _ ⟨(blk_all HE6.out.2.2.1).1, (blk_all HE6.out.2.2.2.1).1⟩ ?_
    clear hK K
    (try simp only [Act.put, zA, zB, zC])
    refine ordt_nil ?_
    have cr := (blk_all HE6.out.2.2.2.2.1).1
    have cr2 := (blk_all HE6.out.2.2.2.2.2.1).1
    go_wp2_with fail
    exact bodyPost_ret (v := .tuple #[.agg #[.int .i64 A.inp, .slice sn A.next.length cn, .slice sg A.gates.length cg, .slice so A.outs.length co], .agg #[.int .i64 B.inp, .slice tn B.next.length dn, .slice tg B.gates.length dg, .slice to_ B.outs.length do_]]) (by simp [results, Try.results115, go_sem, cr, cr2]) rfl ⟨A, B, _, _, _, _, _, _, rfl, HE6.out.1.low (by have := HW.out.2.1; omega), HE6.out.2.1.low (by have := HW.out.2.1; omega), HE6.out.2.2.2.2.2.2⟩

end Go.Proofs.Ytbcolcchchgldaa
