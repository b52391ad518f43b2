import Derived.Test.YtnifgamlmaembaaDoorY1
import Derived.Test.YtnifgamlmaembaaDoorG3
import Derived.Test.YtnifgamlmaembaaDoorB5
import Derived.Test.YtnifgamlmaembaaDoorL4
import Derived.Test.YtnifgamlmaembaaDoorQ1
namespace Go.Proofs.YtnifgamlmaembaaDoor
set_option linter.unusedVariables false
set_option linter.unusedSimpArgs false
open Go.RowKit

/-! Draws of one circuit. -/

/-- A circuit that was drawn. -/
def DrawnQ (w : World) (e : Ending) (w' : World) : Prop :=
  ∃ (C : Cir) (vn vg vo : Value), e = .returned (.agg #[.int .i64 C.inp, vn, vg, vo]) ∧ CirOwn w' w.heap.size C vn vg vo ∧ (-10 ≤ C.inp ∧ C.inp ≤ 10 ∧ C.next.length ≤ 8 ∧ C.gates.length ≤ 40 ∧ C.outs.length ≤ 16) ∧ Below w.heap.size w w'

set_option maxHeartbeats 800000 in
theorem DrawFormatCircuit_any (s : Option Addr) (cap : Nat) (xs : List Int) (w : World) (hs : Sl w s (u8s xs)) (hl : xs.length ≤ 1048576) (hcap : xs.length ≤ cap) (hcap2 : cap ≤ 9223372036854775807) (hr : ∀ x ∈ xs, 0 ≤ x ∧ x ≤ 255) :
    Calls Tryd.prog 20 #[.slice s xs.length cap] w (DrawnQ w) := by
  obtain ⟨W0, hW0⟩ : ∃ W0, W0 = w.alloc (.cells #[.int .i64 0, .slice none 0 0, .slice none 0 0, .slice none 0 0] 31) := ⟨_, rfl⟩
  have hz : W0.heap.size = w.heap.size + 1 := by rw [hW0]; simp
  have hb0 : Below w.heap.size w W0 := by rw [hW0]; exact (Below.refl _ _).alloc (Nat.le_refl _) _
  have hk0 : W0.heap[w.heap.size]? = some (.cells #[.int .i64 0, .slice none 0 0, .slice none 0 0, .slice none 0 0] 31 (0, 0)) := by rw [hW0]; exact blk_new _ _
  have HH := Lib.hid (l20Open_any s cap xs W0 (hs.mono hb0) hl hcap hcap2 hr)
  have HW := Lib.hid (And.intro hW0 (And.intro hz (And.intro hb0 hk0)))
  clear hs hr hW0 hz hb0 hk0
  go_enter Tryd.func20, Tryd.ntmps20
  go_upto_region 1 with fail
  rw [← HW.out.1]
  go_wp2_with (first
    | (go_at_call 46; (with_reducible refine HH.out.mono ?_); rintro e w1 ⟨c, rfl, h1, h2, h3⟩; have H1 := Lib.hid (And.intro h1 (And.intro h2 h3)); clear h1 h2 h3)
    | (go_at_call 45; (with_reducible refine (l20Circuit_any _ _ _ _ _ _ _ H1.out.1 (by omega) (by omega) (by omega)).mono ?_); rintro e w2 ⟨C, vn, vg, vo, p', rfl, h1, h2, h3, h4, h6⟩; obtain ⟨sn, cn, rfl⟩ := own_shape h1.n; obtain ⟨sg, cg, rfl⟩ := own_shape h1.g; obtain ⟨so, co, rfl⟩ := own_shape h1.o; have h0 : w2.heap[w.heap.size]? = some (.cells #[.int .i64 0, .slice none 0 0, .slice none 0 0, .slice none 0 0] 31 (0, 0)) := (by have e1 := HW.out.2.1; have e2 := H1.out.2.2; rw [h6.block _ (by omega) (by omega)]; exact blk_below H1.out.2.1 (by omega) HW.out.2.2.2); obtain ⟨rc, rf⟩ := blk_all h0; have H2 := Lib.hid (And.intro h0 (And.intro h1 (And.intro h2 h6))); clear h0 h1 h2 h3 h4 h6))
  have hbl : Below w.heap.size w w2 := by
    have e1 := HW.out.2.1; have e2 := H1.out.2.2
    exact (HW.out.2.2.1.trans (H1.out.2.1.mono (by omega))).trans (H2.out.2.2.2.below (by omega) (by omega))
  have e1 := HW.out.2.1
  have e2 := H1.out.2.2
  have hZ : ((((w2.setCell ⟨w.heap.size, 0, none⟩ (.int .i64 C.inp)).setCell ⟨w.heap.size, 1, none⟩ (.slice sn C.next.length cn)).setCell ⟨w.heap.size, 2, none⟩ (.slice sg C.gates.length cg)).setCell ⟨w.heap.size, 3, none⟩ (.slice so C.outs.length co)).heap[w.heap.size]? = some (.cells #[.int .i64 C.inp, .slice sn C.next.length cn, .slice sg C.gates.length cg, .slice so C.outs.length co] 31 (0, 0)) := by
    simpa using blk_set (o := 3) (v := .slice so C.outs.length co) (blk_set (o := 2) (v := .slice sg C.gates.length cg) (blk_set (o := 1) (v := .slice sn C.next.length cn) (blk_set (o := 0) (v := .int .i64 C.inp) H2.out.1)))
  have hR := (H2.out.2.1).sets4 (r := w.heap.size) (by omega) (base := w.heap.size) (by omega) (a := .int .i64 C.inp) (b' := .slice sn C.next.length cn) (c' := .slice sg C.gates.length cg) (d := .slice so C.outs.length co)
  have hB := ((((hbl).setCell (p := ⟨w.heap.size, 0, none⟩) (by simp) (.int .i64 C.inp)).setCell (p := ⟨w.heap.size, 1, none⟩) (by simp) (.slice sn C.next.length cn)).setCell (p := ⟨w.heap.size, 2, none⟩) (by simp) (.slice sg C.gates.length cg)).setCell (p := ⟨w.heap.size, 3, none⟩) (by simp) (.slice so C.outs.length co)
  clear rc rf
  revert hZ hR hB
  generalize ((((w2.setCell ⟨w.heap.size, 0, none⟩ (.int .i64 C.inp)).setCell ⟨w.heap.size, 1, none⟩ (.slice sn C.next.length cn)).setCell ⟨w.heap.size, 2, none⟩ (.slice sg C.gates.length cg)).setCell ⟨w.heap.size, 3, none⟩ (.slice so C.outs.length co)) = WZ
  intro hZ hR hB
  have cr := (blk_all hZ).1
  exact bodyPost_ret (v := .agg #[.int .i64 C.inp, .slice sn C.next.length cn, .slice sg C.gates.length cg, .slice so C.outs.length co]) (by simp [results, Tryd.results20, go_sem, cr]) rfl ⟨C, _, _, _, rfl, hR, H2.out.2.2.1, hB⟩

/-! sameInts, sameCircuit of the laws for any arguments. -/

theorem sameIntsG_any (s t : Option Addr) (xs ys : List Int) (cap cap2 : Nat) (w : World) (hs : Sl w s (ints xs)) (ht : Sl w t (ints ys)) (hl : xs.length ≤ 1048576) (hl2 : ys.length ≤ 1048576) :
    Calls Tryd.prog 48 #[.slice s xs.length cap, .slice t ys.length cap2] w fun e w' => e = .returned (.bool (decide (xs = ys))) ∧ Drew w w' := by
  have HS : Hid (Sl w s (ints xs) ∧ Sl w t (ints ys)) := ⟨hs, ht⟩
  clear hs ht
  by_cases hc : xs.length = ys.length
  · rw [← hc]
    generalize hn : xs.length = n at hc hl ⊢
    have HC : Hid (xs.length = n ∧ ys.length = n) := ⟨hn, hc.symm⟩
    clear hc hn hl2
    go_enter Tryd.func48, Tryd.ntmps48
    go_wp2
    go_loopw [5] (fun i wr => ∃ k : Nat, k ≤ n ∧ i = .int .i64 k ∧ xs.take k = ys.take k ∧ Drew w wr) (fun i _ => n - (intOf i).toNat)
    case atStart => exact ⟨0, Nat.zero_le _, rfl, rfl, Drew.refl _⟩
    case round =>
      obtain ⟨k, hk, rfl, htk, hd⟩ := hrel
      have HT : Hid (xs.take k = ys.take k) := htk
      have HD := Lib.hid hd
      clear htk hd
      by_cases hlt : k < n
      · obtain ⟨x, hx⟩ := get_of_lt (l := xs) (k := k) (by have := HC.out; omega)
        obtain ⟨y, hy⟩ := get_of_lt (l := ys) (k := k) (by have := HC.out; omega)
        obtain ⟨b, off, rfl, hbw, hz⟩ := HS.out.1.int (HD.out.below _) hx
        obtain ⟨b2, off2, rfl, hbw2, hz2⟩ := HS.out.2.int (HD.out.below _) hy
        have HR : Hid (_ ∧ _) := Lib.hid ⟨hx, hy⟩
        clear hx hy
        go_wp2
        go_quiet (fail)
        go_wp2
        all_goals obtain ⟨hx, hy⟩ := HR.out
        all_goals first
          | (go_roundw
             case rel => exact ⟨k + 1, by omega, by go_num, by rw [List.take_add_one, List.take_add_one, HT.out, hx, hy]; simp at *; assumption, HD.out.n _⟩
             case measure => simp [intOf]; omega)
          | (go_ret
             refine ⟨ret_bool ?_, HD.out.n _⟩
             symm; rw [decide_eq_false_iff_not]; intro e; subst e; rw [hx] at hy; simp at *; omega)
      · obtain rfl : k = n := by omega
        have he : decide (xs = ys) = true := by
          have h1 := HT.out
          rw [List.take_of_length_le (by have := HC.out; omega), List.take_of_length_le (by have := HC.out; omega)] at h1
          simpa using h1
        have HE := Lib.hid he
        clear he
        go_wp2
        go_ret
        exact ⟨ret_bool HE.out.symm, HD.out⟩
  · have hd : decide (xs = ys) = false := by simp; intro e; exact hc (by rw [e])
    rw [hd]
    clear hd
    go_enter Tryd.func48, Tryd.ntmps48
    go_wp2
    go_ret
    exact ⟨rfl, Drew.refl _⟩

set_option maxRecDepth 100000 in
set_option maxHeartbeats 3200000 in
theorem sameCircuitG_any (u v : Value) (a b : Cir) (w : World) (ha : CirV w u a) (hb : CirV w v b) :
    Calls Tryd.prog 23 #[u, v] w fun e w' => e = .returned (.bool (cirB a b)) ∧ Below w.heap.size w w' := by
  have HG := Lib.hid (And.intro ha hb)
  obtain ⟨sn, cn, sg, cg, so, co, rfl, -, -, -, ka1, ka2, ka3⟩ := ha
  obtain ⟨tn, dn, tg, dg, to_, do_, rfl, -, -, -, kb1, kb2, kb3⟩ := hb
  obtain ⟨W0, hW0⟩ : ∃ W0, W0 = ((w.alloc (.cells #[.int .i64 a.inp, .slice sn a.next.length cn, .slice sg a.gates.length cg, .slice so a.outs.length co] 31)).alloc (.cells #[.int .i64 b.inp, .slice tn b.next.length dn, .slice tg b.gates.length dg, .slice to_ b.outs.length do_] 31)) := ⟨_, rfl⟩
  obtain ⟨A, hA⟩ : ∃ A, A = w.heap.size := ⟨_, rfl⟩
  have z1 : W0.heap.size = A + 2 := by rw [hW0, hA]; simp
  have z2 : W0.heap[A]? = some (.cells #[.int .i64 a.inp, .slice sn a.next.length cn, .slice sg a.gates.length cg, .slice so a.outs.length co] 31 (0, 0)) := by rw [hW0, hA]; exact blk_old (blk_new w _)
  have z3 : W0.heap[A + 1]? = some (.cells #[.int .i64 b.inp, .slice tn b.next.length dn, .slice tg b.gates.length dg, .slice to_ b.outs.length do_] 31 (0, 0)) := by rw [hW0, hA]; exact blk_at (by simp)
  have z4 : Below w.heap.size w W0 := by rw [hW0]; go_grown
  have HW := Lib.hid (And.intro hW0 (And.intro hA z1))
  have HB : Hid (∀ W, Below W0.heap.size W0 W → W.heap[A]? = some (.cells #[.int .i64 a.inp, .slice sn a.next.length cn, .slice sg a.gates.length cg, .slice so a.outs.length co] 31 (0, 0)) ∧ W.heap[A + 1]? = some (.cells #[.int .i64 b.inp, .slice tn b.next.length dn, .slice tg b.gates.length dg, .slice to_ b.outs.length do_] 31 (0, 0)) ∧ CirV W (.agg #[.int .i64 a.inp, .slice sn a.next.length cn, .slice sg a.gates.length cg, .slice so a.outs.length co]) a ∧ CirV W (.agg #[.int .i64 b.inp, .slice tn b.next.length dn, .slice tg b.gates.length dg, .slice to_ b.outs.length do_]) b ∧ Below w.heap.size w W) := fun W hW => ⟨blk_below hW (by omega) z2, blk_below hW (by omega) z3, HG.out.1.mono (z4.trans (hW.mono z4.size)), HG.out.2.mono (z4.trans (hW.mono z4.size)), z4.trans (hW.mono z4.size)⟩
  clear hW0 hA z1 z2 z3 z4
  have HS : Hid (∀ W, Below w.heap.size w W → (Sl W sn (ints a.next) ∧ Sl W sg (gcells a.gates) ∧ Sl W so (ints a.outs)) ∧ Sl W tn (ints b.next) ∧ Sl W tg (gcells b.gates) ∧ Sl W to_ (ints b.outs)) := fun W hW => by
    obtain ⟨⟨_, _, _, _, _, _, e1, a1, a2, a3, -⟩, _, _, _, _, _, _, e2, b1, b2, b3, -⟩ := HG.out
    cases e1
    cases e2
    exact ⟨⟨a1.mono hW, a2.mono hW, a3.mono hW⟩, b1.mono hW, b2.mono hW, b3.mono hW⟩
  obtain ⟨R, hR⟩ : ∃ R, R = cirB a b := ⟨_, rfl⟩
  rw [← hR]
  have HR := Lib.hid hR
  clear hR
  obtain ⟨q1, hq1⟩ : ∃ q, q = decide (a.next = b.next) := ⟨_, rfl⟩
  obtain ⟨q2, hq2⟩ : ∃ q, q = decide (a.outs = b.outs) := ⟨_, rfl⟩
  have HQ := Lib.hid (And.intro hq1 hq2)
  clear hq1 hq2
  by_cases e1 : a.inp = b.inp
  · have x1 : (a.inp == b.inp) = true := by simpa using e1
    have x1' : (a.inp != b.inp) = false := by simpa using e1
    have HE1 := Lib.hid e1
    clear e1
    by_cases e2 : a.gates.length = b.gates.length
    · have x2 : ((a.gates.length : Int) == (b.gates.length : Int)) = true := beq_iff_eq.2 (by omega)
      have x2' : ((a.gates.length : Int) != (b.gates.length : Int)) = false := bne_eq_false_iff_eq.2 (by omega)
      have HE2 := Lib.hid e2
      clear e2
      go_enter Tryd.func23, Tryd.ntmps23
      go_upto_region 1 with fail
      rw [← HW.out.1]
      try rw [← HW.out.2.1]
      have ca := (blk_all (HB.out _ (Below.refl _ _)).1).1
      have cb := (blk_all (HB.out _ (Below.refl _ _)).2.1).1
      cases q1
      · have HF : Hid (R = false) := by show _ = _; rw [HR.out]; unfold cirB; rw [← HQ.out.1]; simp
        go_wp2_with (go_at_call 48; ((with_reducible refine (sameIntsG_any _ _ a.next b.next _ _ _ (HS.out _ (HB.out _ (Below.refl _ _)).2.2.2.2).1.1 (HS.out _ (HB.out _ (Below.refl _ _)).2.2.2.2).2.1 ka1 kb1).mono ?_); rintro e w1 ⟨rfl, hd⟩; rw [show decide (a.next = b.next) = _ from HQ.out.1.symm]; have H1 := Lib.hid (hd.below W0.heap.size); clear hd ca cb; have ca := (blk_all (HB.out _ H1.out).1).1; have cb := (blk_all (HB.out _ H1.out).2.1).1))
        go_ret
        exact ⟨ret_bool HF.out.symm, (HB.out _ H1.out).2.2.2.2⟩
      · cases q2
        · have HF : Hid (R = false) := by show _ = _; rw [HR.out]; unfold cirB; rw [← HQ.out.2]; simp
          go_wp2_with (first | (go_at_call 48; ((with_reducible refine (sameIntsG_any _ _ a.next b.next _ _ _ (HS.out _ (HB.out _ (Below.refl _ _)).2.2.2.2).1.1 (HS.out _ (HB.out _ (Below.refl _ _)).2.2.2.2).2.1 ka1 kb1).mono ?_); rintro e w1 ⟨rfl, hd⟩; rw [show decide (a.next = b.next) = _ from HQ.out.1.symm]; have H1 := Lib.hid (hd.below W0.heap.size); clear hd ca cb; have ca := (blk_all (HB.out _ H1.out).1).1; have cb := (blk_all (HB.out _ H1.out).2.1).1)) | (go_at_call 48; ((with_reducible refine (sameIntsG_any _ _ a.outs b.outs _ _ _ (HS.out _ (HB.out _ H1.out).2.2.2.2).1.2.2 (HS.out _ (HB.out _ H1.out).2.2.2.2).2.2.2 ka3 kb3).mono ?_); rintro e w2 ⟨rfl, hd⟩; rw [show decide (a.outs = b.outs) = _ from HQ.out.2.symm]; have H2 := Lib.hid (H1.out.trans (hd.below _)); clear hd ca cb; have ca := (blk_all (HB.out _ H2.out).1).1; have cb := (blk_all (HB.out _ H2.out).2.1).1)))
          go_ret
          exact ⟨ret_bool HF.out.symm, (HB.out _ H2.out).2.2.2.2⟩
        · have HRG : Hid (R = decide (a.gates = b.gates)) := by show _ = _; rw [HR.out]; unfold cirB; rw [← HQ.out.1, ← HQ.out.2, decide_eq_true HE1.out]; simp
          go_upto_region 4 with (first | (go_at_call 48; ((with_reducible refine (sameIntsG_any _ _ a.next b.next _ _ _ (HS.out _ (HB.out _ (Below.refl _ _)).2.2.2.2).1.1 (HS.out _ (HB.out _ (Below.refl _ _)).2.2.2.2).2.1 ka1 kb1).mono ?_); rintro e w1 ⟨rfl, hd⟩; rw [show decide (a.next = b.next) = _ from HQ.out.1.symm]; have H1 := Lib.hid (hd.below W0.heap.size); clear hd ca cb; have ca := (blk_all (HB.out _ H1.out).1).1; have cb := (blk_all (HB.out _ H1.out).2.1).1)) | (go_at_call 48; ((with_reducible refine (sameIntsG_any _ _ a.outs b.outs _ _ _ (HS.out _ (HB.out _ H1.out).2.2.2.2).1.2.2 (HS.out _ (HB.out _ H1.out).2.2.2.2).2.2.2 ka3 kb3).mono ?_); rintro e w2 ⟨rfl, hd⟩; rw [show decide (a.outs = b.outs) = _ from HQ.out.2.symm]; have H2 := Lib.hid (H1.out.trans (hd.below _)); clear hd ca cb; have ca := (blk_all (HB.out _ H2.out).1).1; have cb := (blk_all (HB.out _ H2.out).2.1).1)))
          clear ca cb
          go_loopw [5] (fun i wr => ∃ k : Nat, k ≤ a.gates.length ∧ i = .int .i64 k ∧ a.gates.take k = b.gates.take k ∧ Below W0.heap.size W0 wr) (fun i _ => a.gates.length - (intOf i).toNat)
          case atStart => exact ⟨0, Nat.zero_le _, rfl, rfl, H2.out⟩
          case round =>
            obtain ⟨k, hk, rfl, htk, hb⟩ := hrel
            have HK := Lib.hid (And.intro htk hb)
            have ca := (blk_all (HB.out _ hb).1).1
            have cb := (blk_all (HB.out _ hb).2.1).1
            obtain ⟨⟨-, hga, -⟩, -, hgb, -⟩ := HS.out _ (HB.out _ hb).2.2.2.2
            clear htk hb x2 x2' x1 x1'
            by_cases hlt : k < a.gates.length
            · obtain ⟨g, hg⟩ := get_of_lt hlt
              obtain ⟨h, hh⟩ := get_of_lt (l := b.gates) (k := k) (by have := HE2.out; omega)
              have hltb : (k : Int) < (b.gates.length : Int) := by have := HE2.out; omega
              obtain ⟨b1, o1, rfl, hb1, z1, z2⟩ := hga.gate (Below.refl _ _) hg
              obtain ⟨b2, o2, rfl, hb2, z3, z4⟩ := hgb.gate (Below.refl _ _) hh
              have HGH := Lib.hid (And.intro hg hh)
              clear hg hh hga hgb hb1 hb2
              go_upto_region 6 with fail
              by_cases e : g = h
              · subst e
                go_quiet (fail)
                go_wp2_with fail
                go_roundw
                case rel => exact ⟨k + 1, by omega, by go_num, by rw [List.take_add_one, List.take_add_one, HK.out.1, HGH.out.1, HGH.out.2], below_n HK.out.2 _⟩
                case measure => simp [intOf]; omega
              · have HF : Hid (R = false) := by
                  show _ = _
                  rw [HRG.out, decide_eq_false_iff_not]
                  intro he
                  have h1 := HGH.out.1
                  rw [he, HGH.out.2] at h1
                  exact e (by simpa using h1.symm)
                have hne : g.a ≠ h.a ∨ (g.a = h.a ∧ g.b ≠ h.b) := by
                  by_cases a1 : g.a = h.a
                  · exact .inr ⟨a1, fun a2 => e (Gt.ext' a1 a2)⟩
                  · exact .inl a1
                clear e
                obtain ⟨ga, gb⟩ := g
                obtain ⟨ha, hb⟩ := h
                dsimp only at z1 z2 z3 z4 hne
                rcases hne with hne | ⟨rfl, hne⟩
                all_goals go_quiet (fail)
                all_goals go_wp2_with fail
                all_goals go_ret
                all_goals exact ⟨ret_bool HF.out.symm, (HB.out _ (below_n HK.out.2 _)).2.2.2.2⟩
            · obtain rfl : k = a.gates.length := by omega
              have HF : Hid (R = true) := by
                show _ = _
                rw [HRG.out, decide_eq_true_eq]
                have h1 := HK.out.1
                rw [List.take_length, HE2.out, List.take_length] at h1
                exact h1
              clear hga hgb
              go_wp2_with fail
              go_ret
              exact ⟨ret_bool HF.out.symm, (HB.out _ HK.out.2).2.2.2.2⟩
    · have x2 : ((a.gates.length : Int) == (b.gates.length : Int)) = false := beq_eq_false_iff_ne.2 (by omega)
      have x2' : ((a.gates.length : Int) != (b.gates.length : Int)) = true := bne_iff_ne.2 (by omega)
      have HF : Hid (R = false) := by
        show _ = _
        rw [HR.out]
        unfold cirB
        rw [decide_eq_false (show ¬ a.gates = b.gates from fun h => e2 (by rw [h]))]
        simp
      clear e2
      go_enter Tryd.func23, Tryd.ntmps23
      go_upto_region 1 with fail
      rw [← HW.out.1]
      try rw [← HW.out.2.1]
      have ca := (blk_all (HB.out _ (Below.refl _ _)).1).1
      have cb := (blk_all (HB.out _ (Below.refl _ _)).2.1).1
      cases q1
      all_goals
        go_wp2_with (go_at_call 48; ((with_reducible refine (sameIntsG_any _ _ a.next b.next _ _ _ (HS.out _ (HB.out _ (Below.refl _ _)).2.2.2.2).1.1 (HS.out _ (HB.out _ (Below.refl _ _)).2.2.2.2).2.1 ka1 kb1).mono ?_); rintro e w1 ⟨rfl, hd⟩; rw [show decide (a.next = b.next) = _ from HQ.out.1.symm]; have H1 := Lib.hid (hd.below W0.heap.size); clear hd ca cb; have ca := (blk_all (HB.out _ H1.out).1).1; have cb := (blk_all (HB.out _ H1.out).2.1).1))
        go_ret
        exact ⟨ret_bool HF.out.symm, (HB.out _ H1.out).2.2.2.2⟩
  · have x1 : (a.inp == b.inp) = false := by simpa using e1
    have x1' : (a.inp != b.inp) = true := by simpa using e1
    have HF : Hid (R = false) := by
      show _ = _
      rw [HR.out]
      unfold cirB
      rw [decide_eq_false e1]
      simp
    clear e1
    go_enter Tryd.func23, Tryd.ntmps23
    go_upto_region 1 with fail
    rw [← HW.out.1]
    try rw [← HW.out.2.1]
    have ca := (blk_all (HB.out _ (Below.refl _ _)).1).1
    have cb := (blk_all (HB.out _ (Below.refl _ _)).2.1).1
    go_wp2_with fail
    go_ret
    exact ⟨ret_bool HF.out.symm, (HB.out _ (Below.refl _ _)).2.2.2.2⟩

theorem aliveR_any (w : World) : Calls Tryd.prog 26 #[] w fun e w' => e = .returned (.bool true) ∧ Below w.heap.size w w' := by
  go_enter Tryd.func26, Tryd.ntmps26
  go_wp2_with (go_at_call 24; (refine (CircuitValid_i _ ⟨0, [], [], []⟩ _ ⟨none, 0, none, 0, none, 0, rfl, .inl rfl, .inl rfl, .inl rfl, by simp, by simp, by simp⟩).mono ?_); rintro e w' ⟨rfl, hq⟩; have HQ := Lib.hid hq; clear hq)
  go_ret
  exact ⟨by congr 1, HQ.out⟩

end Go.Proofs.YtnifgamlmaembaaDoor
