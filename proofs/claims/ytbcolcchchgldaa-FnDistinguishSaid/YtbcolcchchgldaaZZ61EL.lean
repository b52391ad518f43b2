import Derived.Test.YtbcolcchchgldaaZZ61EK
namespace Go.Proofs.Ytbcolcchchgldaa
set_option linter.unusedVariables false
set_option linter.unusedSimpArgs false
open Go.RowKit

/-! Part of the proof of one law. -/

def DrawnTwo (w : World) (e : Ending) (w' : World) : Prop :=
  ∃ (A B : Cir) (vn vg vo un ug uo : Value), e = .returned (.tuple #[.agg #[.int .i64 A.inp, vn, vg, vo], .agg #[.int .i64 B.inp, un, ug, uo]]) ∧ CirOwn w' w.heap.size A vn vg vo ∧ CirOwn w' w.heap.size B un ug uo ∧ Below w.heap.size w w'

set_option maxRecDepth 100000 in
set_option maxHeartbeats 1600000 in
theorem DrawDistinguish_any (s : Option Addr) (cap : Nat) (xs : List Int) (w : World) (hs : Sl w s (u8s xs)) (hl : xs.length ≤ 1048576) (hcap : xs.length ≤ cap) (hcap2 : cap ≤ 9223372036854775807) (hr : ∀ x ∈ xs, 0 ≤ x ∧ x ≤ 255) :
    Calls Try.prog 52 #[.slice s xs.length cap] w (DrawnTwo w) := by
  obtain ⟨Z, hZ⟩ : ∃ Z, Z = w.heap.size := ⟨_, rfl⟩
  obtain ⟨W0, hW0⟩ : ∃ W0, W0 = (w.alloc (.cells #[.int .i64 0, .slice none 0 0, .slice none 0 0, .slice none 0 0] 26)).alloc (.cells #[.int .i64 0, .slice none 0 0, .slice none 0 0, .slice none 0 0] 26) := ⟨_, rfl⟩
  have z1 : W0.heap.size = Z + 2 := by rw [hW0, hZ]; simp
  have z2 : W0.heap[Z]? = some (.cells #[.int .i64 0, .slice none 0 0, .slice none 0 0, .slice none 0 0] 26 (0, 0)) := by rw [hW0, hZ]; exact blk_old (blk_new w _)
  have z3 : W0.heap[Z + 1]? = some (.cells #[.int .i64 0, .slice none 0 0, .slice none 0 0, .slice none 0 0] 26 (0, 0)) := by rw [hW0, hZ]; exact blk_at (by simp)
  have z4 : Below w.heap.size w W0 := by rw [hW0]; go_grown
  have HH := Lib.hid (l20Open_any s cap xs W0 (hs.mono z4) hl hcap hcap2 hr)
  have H0 := Lib.hid (And.intro z2 (And.intro z3 (And.intro z4 z1)))
  have HW := Lib.hid (And.intro hW0 hZ)
  clear hs hr hW0 z1 z2 z3 z4 hZ
  go_enter Try.func52, Try.ntmps52
  go_upto_region 1 with fail
  rw [← HW.out.1, ← HW.out.2]
  go_wp2_with (first
    | (go_at_call 66; (with_reducible refine HH.out.mono ?_); rintro e w1 ⟨c, rfl, h1, h2, h3⟩; have H1 := Lib.hid (And.intro h1 (And.intro h2 h3)); clear h1 h2 h3)
    | (go_at_call 109; (with_reducible refine (l20Twins_any W0.heap.size s c (xs.take 2000) 0 _ H1.out.1 (by omega)).mono ?_); rintro e w4 ⟨A, B, vn, vg, vo, un, ug, uo, rfl, h0, h1, h5⟩; obtain ⟨sn, cn, rfl⟩ := own_shape h0.n; obtain ⟨sg, cg, rfl⟩ := own_shape h0.g; obtain ⟨so, co, rfl⟩ := own_shape h0.o; obtain ⟨tn, dn, rfl⟩ := own_shape h1.n; obtain ⟨tg, dg, rfl⟩ := own_shape h1.g; obtain ⟨to_, do_, rfl⟩ := own_shape h1.o; have H4 : Hid (CirOwn w4 w1.heap.size A (.slice sn A.next.length cn) (.slice sg A.gates.length cg) (.slice so A.outs.length co) ∧ CirOwn w4 w1.heap.size B (.slice tn B.next.length dn) (.slice tg B.gates.length dg) (.slice to_ B.outs.length do_) ∧ Below w.heap.size w w4 ∧ (w4.heap[Z]? = some (.cells #[.int .i64 0, .slice none 0 0, .slice none 0 0, .slice none 0 0] 26 (0, 0)) ∧ w4.heap[Z + 1]? = some (.cells #[.int .i64 0, .slice none 0 0, .slice none 0 0, .slice none 0 0] 26 (0, 0)))) := (by obtain ⟨z2, z3, z4, z1⟩ := H0.out; have hz := HW.out.2; have hb := (H1.out.2.1).trans (h5.below (b := W0.heap.size) H1.out.2.1.size (fun k hk e => by omega)); exact ⟨h0, h1, z4.trans (hb.mono z4.size), blk_below hb (by omega) z2, blk_below hb (by omega) z3⟩); clear h0 h1 h5; obtain ⟨rc, rf⟩ := blk_all H4.out.2.2.2.1; obtain ⟨rc2, rf2⟩ := blk_all H4.out.2.2.2.2))
  clear rc rf rc2 rf2
  have hzz : Z + 2 ≤ w1.heap.size := by have := H0.out.2.2.2; have := H1.out.2.2; omega
  obtain ⟨W5, hW5⟩ : ∃ W5, W5 = ((((w4.setCell ⟨Z, 0, none⟩ (.int .i64 A.inp)).setCell ⟨Z, 1, none⟩ (.slice sn A.next.length cn)).setCell ⟨Z, 2, none⟩ (.slice sg A.gates.length cg)).setCell ⟨Z, 3, none⟩ (.slice so A.outs.length co)) := ⟨_, rfl⟩
  have x1 : Chg (fun k => k = Z) w4 W5 := by rw [hW5]; exact (((chgS (S := fun k => k = Z) _ 0 _ rfl).trans (chgS _ 1 _ rfl)).trans (chgS _ 2 _ rfl)).trans (chgS _ 3 _ rfl)
  have x2 : W5.heap[Z]? = some (.cells #[.int .i64 A.inp, .slice sn A.next.length cn, .slice sg A.gates.length cg, .slice so A.outs.length co] 26 (0, 0)) := by
    rw [hW5]; simpa using blk_set (o := 3) (v := .slice so A.outs.length co) (blk_set (o := 2) (v := .slice sg A.gates.length cg) (blk_set (o := 1) (v := .slice sn A.next.length cn) (blk_set (o := 0) (v := .int .i64 A.inp) (H4.out.2.2.2.1))))
  rw [← hW5]
  obtain ⟨W6, hW6⟩ : ∃ W6, W6 = ((((W5.setCell ⟨Z + 1, 0, none⟩ (.int .i64 B.inp)).setCell ⟨Z + 1, 1, none⟩ (.slice tn B.next.length dn)).setCell ⟨Z + 1, 2, none⟩ (.slice tg B.gates.length dg)).setCell ⟨Z + 1, 3, none⟩ (.slice to_ B.outs.length do_)) := ⟨_, rfl⟩
  have x3 : Chg (fun k => k = Z + 1) W5 W6 := by rw [hW6]; exact (((chgS (S := fun k => k = Z + 1) _ 0 _ rfl).trans (chgS _ 1 _ rfl)).trans (chgS _ 2 _ rfl)).trans (chgS _ 3 _ rfl)
  have x4 : W6.heap[Z + 1]? = some (.cells #[.int .i64 B.inp, .slice tn B.next.length dn, .slice tg B.gates.length dg, .slice to_ B.outs.length do_] 26 (0, 0)) := by
    rw [hW6]; simpa using blk_set (o := 3) (v := .slice to_ B.outs.length do_) (blk_set (o := 2) (v := .slice tg B.gates.length dg) (blk_set (o := 1) (v := .slice tn B.next.length dn) (blk_set (o := 0) (v := .int .i64 B.inp) ((x1.blk H4.out.2.2.2.2 (by omega))))))
  have x5 := x3.blk x2 (by omega)
  have hw2 := HW.out.2
  have f1 := ((H4.out.1.chgs x1 (fun k hk _ e => by omega)).chgs x3 (fun k hk _ e => by omega)).low (b2 := w.heap.size) (by omega)
  have f2 := ((H4.out.2.1.chgs x1 (fun k hk _ e => by omega)).chgs x3 (fun k hk _ e => by omega)).low (b2 := w.heap.size) (by omega)
  have hz4 : w.heap.size ≤ w4.heap.size := H4.out.2.2.1.size
  have f3 := (H4.out.2.2.1.trans (x1.below (b := w.heap.size) hz4 (fun k hk e => by omega))).trans (x3.below (b := w.heap.size) (by have := x1.size; omega) (fun k hk e => by omega))
  rw [← hW6]
  clear hW5 hW6 x1 x2 x3
  have cr := (blk_all x5).1
  have cr2 := (blk_all x4).1
  exact bodyPost_ret (v := .tuple #[.agg #[.int .i64 A.inp, .slice sn A.next.length cn, .slice sg A.gates.length cg, .slice so A.outs.length co], .agg #[.int .i64 B.inp, .slice tn B.next.length dn, .slice tg B.gates.length dg, .slice to_ B.outs.length do_]]) (by simp [results, Try.results52, go_sem, cr, cr2]) rfl ⟨A, B, _, _, _, _, _, _, rfl, f1, f2, f3⟩

end Go.Proofs.Ytbcolcchchgldaa
