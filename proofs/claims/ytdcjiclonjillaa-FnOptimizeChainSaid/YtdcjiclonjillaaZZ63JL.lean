import Derived.Test.YtdcjiclonjillaaZZ63OV
import Derived.Test.YtdcjiclonjillaaZZ63RF
import Derived.Test.YtdcjiclonjillaaZZ63JI
import Derived.Test.YtdcjiclonjillaaZZ63JJ
import Derived.Test.YtdcjiclonjillaaZZ63CC
import Derived.Test.YtdcjiclonjillaaZZ63RD
import Derived.Test.YtdcjiclonjillaaZZ63Y1
import Derived.Test.YtdcjiclonjillaaZZ63Q1
import Derived.Test.YtdcjiclonjillaaZZ63L4
namespace Go.Proofs.Ytdcjiclonjillaa
set_option linter.unusedVariables false
set_option linter.unusedSimpArgs false
open Go.RowKit

/-! Part of the proof of one law. -/

/-- A circuit that was drawn. -/
def DrawnQ (w : World) (e : Ending) (w' : World) : Prop :=
  ∃ (C : Cir) (vn vg vo : Value), e = .returned (.agg #[.int .i64 C.inp, vn, vg, vo]) ∧ CirOwn w' w.heap.size C vn vg vo ∧ (-10 ≤ C.inp ∧ C.inp ≤ 10 ∧ C.next.length ≤ 8 ∧ C.gates.length ≤ 40 ∧ C.outs.length ≤ 16) ∧ Below w.heap.size w w'

set_option maxHeartbeats 800000 in
theorem DrawSweep_any (s : Option Addr) (cap : Nat) (xs : List Int) (w : World) (hs : Sl w s (u8s xs)) (hl : xs.length ≤ 1048576) (hcap : xs.length ≤ cap) (hcap2 : cap ≤ 9223372036854775807) (hr : ∀ x ∈ xs, 0 ≤ x ∧ x ≤ 255) :
    Calls Try.prog 23 #[.slice s xs.length cap] w (DrawnQ w) := by
  obtain ⟨W0, hW0⟩ : ∃ W0, W0 = w.alloc (.cells #[.int .i64 0, .slice none 0 0, .slice none 0 0, .slice none 0 0] 28) := ⟨_, rfl⟩
  have hz : W0.heap.size = w.heap.size + 1 := by rw [hW0]; simp
  have hb0 : Below w.heap.size w W0 := by rw [hW0]; exact (Below.refl _ _).alloc (Nat.le_refl _) _
  have hk0 : W0.heap[w.heap.size]? = some (.cells #[.int .i64 0, .slice none 0 0, .slice none 0 0, .slice none 0 0] 28 (0, 0)) := by rw [hW0]; exact blk_new _ _
  have HH := Lib.hid (l20Open_any s cap xs W0 (hs.mono hb0) hl hcap hcap2 hr)
  have HW := Lib.hid (And.intro hW0 (And.intro hz (And.intro hb0 hk0)))
  clear hs hr hW0 hz hb0 hk0
  go_enter Try.func23, Try.ntmps23
  go_upto_region 1 with fail
  rw [← HW.out.1]
  go_wp2_with (first
    | (go_at_call 58; (with_reducible refine HH.out.mono ?_); rintro e w1 ⟨c, rfl, h1, h2, h3⟩; have H1 := Lib.hid (And.intro h1 (And.intro h2 h3)); clear h1 h2 h3)
    | (go_at_call 59; (with_reducible refine (l20Circuit_any _ _ _ _ _ _ _ H1.out.1 (by omega) (by omega) (by omega)).mono ?_); rintro e w2 ⟨C, vn, vg, vo, p', rfl, h1, h2, h3, h4, h6⟩; obtain ⟨sn, cn, rfl⟩ := own_shape h1.n; obtain ⟨sg, cg, rfl⟩ := own_shape h1.g; obtain ⟨so, co, rfl⟩ := own_shape h1.o; have h0 : w2.heap[w.heap.size]? = some (.cells #[.int .i64 0, .slice none 0 0, .slice none 0 0, .slice none 0 0] 28 (0, 0)) := (by have e1 := HW.out.2.1; have e2 := H1.out.2.2; rw [h6.block _ (by omega) (by omega)]; exact blk_below H1.out.2.1 (by omega) HW.out.2.2.2); obtain ⟨rc, rf⟩ := blk_all h0; have H2 := Lib.hid (And.intro h0 (And.intro h1 (And.intro h2 h6))); clear h0 h1 h2 h3 h4 h6))
  have hbl : Below w.heap.size w w2 := by
    have e1 := HW.out.2.1; have e2 := H1.out.2.2
    exact (HW.out.2.2.1.trans (H1.out.2.1.mono (by omega))).trans (H2.out.2.2.2.below (by omega) (by omega))
  have e1 := HW.out.2.1
  have e2 := H1.out.2.2
  have hZ : ((((w2.setCell ⟨w.heap.size, 0, none⟩ (.int .i64 C.inp)).setCell ⟨w.heap.size, 1, none⟩ (.slice sn C.next.length cn)).setCell ⟨w.heap.size, 2, none⟩ (.slice sg C.gates.length cg)).setCell ⟨w.heap.size, 3, none⟩ (.slice so C.outs.length co)).heap[w.heap.size]? = some (.cells #[.int .i64 C.inp, .slice sn C.next.length cn, .slice sg C.gates.length cg, .slice so C.outs.length co] 28 (0, 0)) := by
    simpa using blk_set (o := 3) (v := .slice so C.outs.length co) (blk_set (o := 2) (v := .slice sg C.gates.length cg) (blk_set (o := 1) (v := .slice sn C.next.length cn) (blk_set (o := 0) (v := .int .i64 C.inp) H2.out.1)))
  have hR := (H2.out.2.1).sets4 (r := w.heap.size) (by omega) (base := w.heap.size) (by omega) (a := .int .i64 C.inp) (b' := .slice sn C.next.length cn) (c' := .slice sg C.gates.length cg) (d := .slice so C.outs.length co)
  have hB := ((((hbl).setCell (p := ⟨w.heap.size, 0, none⟩) (by simp) (.int .i64 C.inp)).setCell (p := ⟨w.heap.size, 1, none⟩) (by simp) (.slice sn C.next.length cn)).setCell (p := ⟨w.heap.size, 2, none⟩) (by simp) (.slice sg C.gates.length cg)).setCell (p := ⟨w.heap.size, 3, none⟩) (by simp) (.slice so C.outs.length co)
  clear rc rf
  revert hZ hR hB
  generalize ((((w2.setCell ⟨w.heap.size, 0, none⟩ (.int .i64 C.inp)).setCell ⟨w.heap.size, 1, none⟩ (.slice sn C.next.length cn)).setCell ⟨w.heap.size, 2, none⟩ (.slice sg C.gates.length cg)).setCell ⟨w.heap.size, 3, none⟩ (.slice so C.outs.length co)) = WZ
  intro hZ hR hB
  have cr := (blk_all hZ).1
  exact bodyPost_ret (v := .agg #[.int .i64 C.inp, .slice sn C.next.length cn, .slice sg C.gates.length cg, .slice so C.outs.length co]) (by simp [results, Try.results23, go_sem, cr]) rfl ⟨C, _, _, _, rfl, hR, H2.out.2.2.1, hB⟩

/-! sameInts, sameCircuit of the laws for any arguments. -/

theorem sameIntsG_any (s t : Option Addr) (xs ys : List Int) (cap cap2 : Nat) (w : World) (hs : Sl w s (ints xs)) (ht : Sl w t (ints ys)) (hl : xs.length ≤ 1048576) (hl2 : ys.length ≤ 1048576) :
    Calls Try.prog 9 #[.slice s xs.length cap, .slice t ys.length cap2] w fun e w' => e = .returned (.bool (decide (xs = ys))) ∧ Drew w w' := by
  have HS : Hid (Sl w s (ints xs) ∧ Sl w t (ints ys)) := ⟨hs, ht⟩
  clear hs ht
  by_cases hc : xs.length = ys.length
  · rw [← hc]
    generalize hn : xs.length = n at hc hl ⊢
    have HC : Hid (xs.length = n ∧ ys.length = n) := ⟨hn, hc.symm⟩
    clear hc hn hl2
    go_enter Try.func9, Try.ntmps9
    go_wp2
    go_loopw [5] (fun i wr => ∃ k : Nat, k ≤ n ∧ i = .int .i64 k ∧ xs.take k = ys.take k ∧ Drew w wr) (fun i _ => n - (intOf i).toNat)
    case atStart => exact ⟨0, Nat.zero_le _, rfl, rfl, Drew.refl _⟩
    case round =>
      obtain ⟨k, hk, rfl, htk, hd⟩ := hrel
      have HT : Hid (xs.take k = ys.take k) := htk
      have HD := Lib.hid hd
      clear htk hd
      by_cases hlt : k < n
      · obtain ⟨x, hx⟩ := get_of_lt (l := xs) (k := k) (by have := HC.out; omega)
        obtain ⟨y, hy⟩ := get_of_lt (l := ys) (k := k) (by have := HC.out; omega)
        obtain ⟨b, off, rfl, hbw, hz⟩ := HS.out.1.int (HD.out.below _) hx
        obtain ⟨b2, off2, rfl, hbw2, hz2⟩ := HS.out.2.int (HD.out.below _) hy
        have HR : Hid (_ ∧ _) := Lib.hid ⟨hx, hy⟩
        clear hx hy
        go_wp2
        go_quiet (fail)
        go_wp2
        all_goals obtain ⟨hx, hy⟩ := HR.out
        all_goals first
          | (go_roundw
             case rel => exact ⟨k + 1, by omega, by go_num, by rw [List.take_add_one, List.take_add_one, HT.out, hx, hy]; simp at *; assumption, HD.out.n _⟩
             case measure => simp [intOf]; omega)
          | (go_ret
             refine ⟨ret_bool ?_, HD.out.n _⟩
             symm; rw [decide_eq_false_iff_not]; intro e; subst e; rw [hx] at hy; simp at *; omega)
      · obtain rfl : k = n := by omega
        have he : decide (xs = ys) = true := by
          have h1 := HT.out
          rw [List.take_of_length_le (by have := HC.out; omega), List.take_of_length_le (by have := HC.out; omega)] at h1
          simpa using h1
        have HE := Lib.hid he
        clear he
        go_wp2
        go_ret
        exact ⟨ret_bool HE.out.symm, HD.out⟩
  · have hd : decide (xs = ys) = false := by simp; intro e; exact hc (by rw [e])
    rw [hd]
    clear hd
    go_enter Try.func9, Try.ntmps9
    go_wp2
    go_ret
    exact ⟨rfl, Drew.refl _⟩

set_option maxRecDepth 100000 in
set_option maxHeartbeats 3200000 in
theorem sameCircuitG_any (u v : Value) (a b : Cir) (w : World) (ha : CirV w u a) (hb : CirV w v b) :
    Calls Try.prog 19 #[u, v] w fun e w' => e = .returned (.bool (cirB a b)) ∧ Below w.heap.size w w' := by
  have HG := Lib.hid (And.intro ha hb)
  obtain ⟨sn, cn, sg, cg, so, co, rfl, -, -, -, ka1, ka2, ka3⟩ := ha
  obtain ⟨tn, dn, tg, dg, to_, do_, rfl, -, -, -, kb1, kb2, kb3⟩ := hb
  obtain ⟨W0, hW0⟩ : ∃ W0, W0 = ((w.alloc (.cells #[.int .i64 a.inp, .slice sn a.next.length cn, .slice sg a.gates.length cg, .slice so a.outs.length co] 28)).alloc (.cells #[.int .i64 b.inp, .slice tn b.next.length dn, .slice tg b.gates.length dg, .slice to_ b.outs.length do_] 28)) := ⟨_, rfl⟩
  obtain ⟨A, hA⟩ : ∃ A, A = w.heap.size := ⟨_, rfl⟩
  have z1 : W0.heap.size = A + 2 := by rw [hW0, hA]; simp
  have z2 : W0.heap[A]? = some (.cells #[.int .i64 a.inp, .slice sn a.next.length cn, .slice sg a.gates.length cg, .slice so a.outs.length co] 28 (0, 0)) := by rw [hW0, hA]; exact blk_old (blk_new w _)
  have z3 : W0.heap[A + 1]? = some (.cells #[.int .i64 b.inp, .slice tn b.next.length dn, .slice tg b.gates.length dg, .slice to_ b.outs.length do_] 28 (0, 0)) := by rw [hW0, hA]; exact blk_at (by simp)
  have z4 : Below w.heap.size w W0 := by rw [hW0]; go_grown
  have HW := Lib.hid (And.intro hW0 (And.intro hA z1))
  have HB : Hid (∀ W, Below W0.heap.size W0 W → W.heap[A]? = some (.cells #[.int .i64 a.inp, .slice sn a.next.length cn, .slice sg a.gates.length cg, .slice so a.outs.length co] 28 (0, 0)) ∧ W.heap[A + 1]? = some (.cells #[.int .i64 b.inp, .slice tn b.next.length dn, .slice tg b.gates.length dg, .slice to_ b.outs.length do_] 28 (0, 0)) ∧ CirV W (.agg #[.int .i64 a.inp, .slice sn a.next.length cn, .slice sg a.gates.length cg, .slice so a.outs.length co]) a ∧ CirV W (.agg #[.int .i64 b.inp, .slice tn b.next.length dn, .slice tg b.gates.length dg, .slice to_ b.outs.length do_]) b ∧ Below w.heap.size w W) := fun W hW => ⟨blk_below hW (by omega) z2, blk_below hW (by omega) z3, HG.out.1.mono (z4.trans (hW.mono z4.size)), HG.out.2.mono (z4.trans (hW.mono z4.size)), z4.trans (hW.mono z4.size)⟩
  clear hW0 hA z1 z2 z3 z4
  have HS : Hid (∀ W, Below w.heap.size w W → (Sl W sn (ints a.next) ∧ Sl W sg (gcells a.gates) ∧ Sl W so (ints a.outs)) ∧ Sl W tn (ints b.next) ∧ Sl W tg (gcells b.gates) ∧ Sl W to_ (ints b.outs)) := fun W hW => by
    obtain ⟨⟨_, _, _, _, _, _, e1, a1, a2, a3, -⟩, _, _, _, _, _, _, e2, b1, b2, b3, -⟩ := HG.out
    cases e1
    cases e2
    exact ⟨⟨a1.mono hW, a2.mono hW, a3.mono hW⟩, b1.mono hW, b2.mono hW, b3.mono hW⟩
  obtain ⟨R, hR⟩ : ∃ R, R = cirB a b := ⟨_, rfl⟩
  rw [← hR]
  have HR := Lib.hid hR
  clear hR
  obtain ⟨q1, hq1⟩ : ∃ q, q = decide (a.next = b.next) := ⟨_, rfl⟩
  obtain ⟨q2, hq2⟩ : ∃ q, q = decide (a.outs = b.outs) := ⟨_, rfl⟩
  have HQ := Lib.hid (And.intro hq1 hq2)
  clear hq1 hq2
  by_cases e1 : a.inp = b.inp
  · have x1 : (a.inp == b.inp) = true := by simpa using e1
    have x1' : (a.inp != b.inp) = false := by simpa using e1
    have HE1 := Lib.hid e1
    clear e1
    by_cases e2 : a.gates.length = b.gates.length
    · have x2 : ((a.gates.length : Int) == (b.gates.length : Int)) = true := beq_iff_eq.2 (by omega)
      have x2' : ((a.gates.length : Int) != (b.gates.length : Int)) = false := bne_eq_false_iff_eq.2 (by omega)
      have HE2 := Lib.hid e2
      clear e2
      go_enter Try.func19, Try.ntmps19
      go_upto_region 1 with fail
      rw [← HW.out.1]
      try rw [← HW.out.2.1]
      have ca := (blk_all (HB.out _ (Below.refl _ _)).1).1
      have cb := (blk_all (HB.out _ (Below.refl _ _)).2.1).1
      cases q1
      · have HF : Hid (R = false) := by show _ = _; rw [HR.out]; unfold cirB; rw [← HQ.out.1]; simp
        go_wp2_with (go_at_call 9; ((with_reducible refine (sameIntsG_any _ _ a.next b.next _ _ _ (HS.out _ (HB.out _ (Below.refl _ _)).2.2.2.2).1.1 (HS.out _ (HB.out _ (Below.refl _ _)).2.2.2.2).2.1 ka1 kb1).mono ?_); rintro e w1 ⟨rfl, hd⟩; rw [show decide (a.next = b.next) = _ from HQ.out.1.symm]; have H1 := Lib.hid (hd.below W0.heap.size); clear hd ca cb; have ca := (blk_all (HB.out _ H1.out).1).1; have cb := (blk_all (HB.out _ H1.out).2.1).1))
        go_ret
        exact ⟨ret_bool HF.out.symm, (HB.out _ H1.out).2.2.2.2⟩
      · cases q2
        · have HF : Hid (R = false) := by show _ = _; rw [HR.out]; unfold cirB; rw [← HQ.out.2]; simp
          go_wp2_with (first | (go_at_call 9; ((with_reducible refine (sameIntsG_any _ _ a.next b.next _ _ _ (HS.out _ (HB.out _ (Below.refl _ _)).2.2.2.2).1.1 (HS.out _ (HB.out _ (Below.refl _ _)).2.2.2.2).2.1 ka1 kb1).mono ?_); rintro e w1 ⟨rfl, hd⟩; rw [show decide (a.next = b.next) = _ from HQ.out.1.symm]; have H1 := Lib.hid (hd.below W0.heap.size); clear hd ca cb; have ca := (blk_all (HB.out _ H1.out).1).1; have cb := (blk_all (HB.out _ H1.out).2.1).1)) | (go_at_call 9; ((with_reducible refine (sameIntsG_any _ _ a.outs b.outs _ _ _ (HS.out _ (HB.out _ H1.out).2.2.2.2).1.2.2 (HS.out _ (HB.out _ H1.out).2.2.2.2).2.2.2 ka3 kb3).mono ?_); rintro e w2 ⟨rfl, hd⟩; rw [show decide (a.outs = b.outs) = _ from HQ.out.2.symm]; have H2 := Lib.hid (H1.out.trans (hd.below _)); clear hd ca cb; have ca := (blk_all (HB.out _ H2.out).1).1; have cb := (blk_all (HB.out _ H2.out).2.1).1)))
          go_ret
          exact ⟨ret_bool HF.out.symm, (HB.out _ H2.out).2.2.2.2⟩
        · have HRG : Hid (R = decide (a.gates = b.gates)) := by show _ = _; rw [HR.out]; unfold cirB; rw [← HQ.out.1, ← HQ.out.2, decide_eq_true HE1.out]; simp
          go_upto_region 4 with (first | (go_at_call 9; ((with_reducible refine (sameIntsG_any _ _ a.next b.next _ _ _ (HS.out _ (HB.out _ (Below.refl _ _)).2.2.2.2).1.1 (HS.out _ (HB.out _ (Below.refl _ _)).2.2.2.2).2.1 ka1 kb1).mono ?_); rintro e w1 ⟨rfl, hd⟩; rw [show decide (a.next = b.next) = _ from HQ.out.1.symm]; have H1 := Lib.hid (hd.below W0.heap.size); clear hd ca cb; have ca := (blk_all (HB.out _ H1.out).1).1; have cb := (blk_all (HB.out _ H1.out).2.1).1)) | (go_at_call 9; ((with_reducible refine (sameIntsG_any _ _ a.outs b.outs _ _ _ (HS.out _ (HB.out _ H1.out).2.2.2.2).1.2.2 (HS.out _ (HB.out _ H1.out).2.2.2.2).2.2.2 ka3 kb3).mono ?_); rintro e w2 ⟨rfl, hd⟩; rw [show decide (a.outs = b.outs) = _ from HQ.out.2.symm]; have H2 := Lib.hid (H1.out.trans (hd.below _)); clear hd ca cb; have ca := (blk_all (HB.out _ H2.out).1).1; have cb := (blk_all (HB.out _ H2.out).2.1).1)))
          clear ca cb
          go_loopw [5] (fun i wr => ∃ k : Nat, k ≤ a.gates.length ∧ i = .int .i64 k ∧ a.gates.take k = b.gates.take k ∧ Below W0.heap.size W0 wr) (fun i _ => a.gates.length - (intOf i).toNat)
          case atStart => exact ⟨0, Nat.zero_le _, rfl, rfl, H2.out⟩
          case round =>
            obtain ⟨k, hk, rfl, htk, hb⟩ := hrel
            have HK := Lib.hid (And.intro htk hb)
            have ca := (blk_all (HB.out _ hb).1).1
            have cb := (blk_all (HB.out _ hb).2.1).1
            obtain ⟨⟨-, hga, -⟩, -, hgb, -⟩ := HS.out _ (HB.out _ hb).2.2.2.2
            clear htk hb x2 x2' x1 x1'
            by_cases hlt : k < a.gates.length
            · obtain ⟨g, hg⟩ := get_of_lt hlt
              obtain ⟨h, hh⟩ := get_of_lt (l := b.gates) (k := k) (by have := HE2.out; omega)
              have hltb : (k : Int) < (b.gates.length : Int) := by have := HE2.out; omega
              obtain ⟨b1, o1, rfl, hb1, z1, z2⟩ := hga.gate (Below.refl _ _) hg
              obtain ⟨b2, o2, rfl, hb2, z3, z4⟩ := hgb.gate (Below.refl _ _) hh
              have HGH := Lib.hid (And.intro hg hh)
              clear hg hh hga hgb hb1 hb2
              go_upto_region 6 with fail
              by_cases e : g = h
              · subst e
                go_quiet (fail)
                go_wp2_with fail
                go_roundw
                case rel => exact ⟨k + 1, by omega, by go_num, by rw [List.take_add_one, List.take_add_one, HK.out.1, HGH.out.1, HGH.out.2], below_n HK.out.2 _⟩
                case measure => simp [intOf]; omega
              · have HF : Hid (R = false) := by
                  show _ = _
                  rw [HRG.out, decide_eq_false_iff_not]
                  intro he
                  have h1 := HGH.out.1
                  rw [he, HGH.out.2] at h1
                  exact e (by simpa using h1.symm)
                have hne : g.a ≠ h.a ∨ (g.a = h.a ∧ g.b ≠ h.b) := by
                  by_cases a1 : g.a = h.a
                  · exact .inr ⟨a1, fun a2 => e (Gt.ext' a1 a2)⟩
                  · exact .inl a1
                clear e
                obtain ⟨ga, gb⟩ := g
                obtain ⟨ha, hb⟩ := h
                dsimp only at z1 z2 z3 z4 hne
                rcases hne with hne | ⟨rfl, hne⟩
                all_goals go_quiet (fail)
                all_goals go_wp2_with fail
                all_goals go_ret
                all_goals exact ⟨ret_bool HF.out.symm, (HB.out _ (below_n HK.out.2 _)).2.2.2.2⟩
            · obtain rfl : k = a.gates.length := by omega
              have HF : Hid (R = true) := by
                show _ = _
                rw [HRG.out, decide_eq_true_eq]
                have h1 := HK.out.1
                rw [List.take_length, HE2.out, List.take_length] at h1
                exact h1
              clear hga hgb
              go_wp2_with fail
              go_ret
              exact ⟨ret_bool HF.out.symm, (HB.out _ HK.out.2).2.2.2.2⟩
    · have x2 : ((a.gates.length : Int) == (b.gates.length : Int)) = false := beq_eq_false_iff_ne.2 (by omega)
      have x2' : ((a.gates.length : Int) != (b.gates.length : Int)) = true := bne_iff_ne.2 (by omega)
      have HF : Hid (R = false) := by
        show _ = _
        rw [HR.out]
        unfold cirB
        rw [decide_eq_false (show ¬ a.gates = b.gates from fun h => e2 (by rw [h]))]
        simp
      clear e2
      go_enter Try.func19, Try.ntmps19
      go_upto_region 1 with fail
      rw [← HW.out.1]
      try rw [← HW.out.2.1]
      have ca := (blk_all (HB.out _ (Below.refl _ _)).1).1
      have cb := (blk_all (HB.out _ (Below.refl _ _)).2.1).1
      cases q1
      all_goals
        go_wp2_with (go_at_call 9; ((with_reducible refine (sameIntsG_any _ _ a.next b.next _ _ _ (HS.out _ (HB.out _ (Below.refl _ _)).2.2.2.2).1.1 (HS.out _ (HB.out _ (Below.refl _ _)).2.2.2.2).2.1 ka1 kb1).mono ?_); rintro e w1 ⟨rfl, hd⟩; rw [show decide (a.next = b.next) = _ from HQ.out.1.symm]; have H1 := Lib.hid (hd.below W0.heap.size); clear hd ca cb; have ca := (blk_all (HB.out _ H1.out).1).1; have cb := (blk_all (HB.out _ H1.out).2.1).1))
        go_ret
        exact ⟨ret_bool HF.out.symm, (HB.out _ H1.out).2.2.2.2⟩
  · have x1 : (a.inp == b.inp) = false := by simpa using e1
    have x1' : (a.inp != b.inp) = true := by simpa using e1
    have HF : Hid (R = false) := by
      show _ = _
      rw [HR.out]
      unfold cirB
      rw [decide_eq_false e1]
      simp
    clear e1
    go_enter Try.func19, Try.ntmps19
    go_upto_region 1 with fail
    rw [← HW.out.1]
    try rw [← HW.out.2.1]
    have ca := (blk_all (HB.out _ (Below.refl _ _)).1).1
    have cb := (blk_all (HB.out _ (Below.refl _ _)).2.1).1
    go_wp2_with fail
    go_ret
    exact ⟨ret_bool HF.out.symm, (HB.out _ (Below.refl _ _)).2.2.2.2⟩

set_option maxRecDepth 100000 in
set_option maxHeartbeats 1600000 in
theorem Sweep_i (v : Value) (c : Cir) (w : World) (h : CirV w v c) :
    Calls Try.prog 24 #[v] w fun e w' => ∃ vn vg vo, e = .returned (.agg #[.int .i64 (sweepR c).inp, vn, vg, vo]) ∧ CirOwn w' w.heap.size (sweepR c) vn vg vo ∧ Below w.heap.size w w' := by
  have HG := Lib.hid h
  obtain ⟨sn, cn, sg, cg, so, co, rfl, -, -, -, -, -, -⟩ := h
  obtain ⟨W0, hW0⟩ : ∃ W0, W0 = (w.alloc (.cells #[.int .i64 c.inp, .slice sn c.next.length cn, .slice sg c.gates.length cg, .slice so c.outs.length co] 28)).alloc (.cells #[.int .i64 0, .slice none 0 0, .slice none 0 0, .slice none 0 0] 28) := ⟨_, rfl⟩
  obtain ⟨A, hA⟩ : ∃ A, A = w.heap.size := ⟨_, rfl⟩
  have z1 : W0.heap.size = A + 2 := by rw [hW0, hA]; simp
  have z2 : W0.heap[A]? = some (.cells #[.int .i64 c.inp, .slice sn c.next.length cn, .slice sg c.gates.length cg, .slice so c.outs.length co] 28 (0, 0)) := by rw [hW0, hA]; exact blk_old (blk_new w _)
  have z3 : W0.heap[A + 1]? = some (.cells #[.int .i64 0, .slice none 0 0, .slice none 0 0, .slice none 0 0] 28 (0, 0)) := by rw [hW0, hA]; exact blk_at (by simp)
  have z4 : Below w.heap.size w W0 := by rw [hW0]; exact ((Below.refl _ _).alloc (Nat.le_refl _) _).alloc (by simp) _
  have HW := Lib.hid (And.intro hW0 (And.intro hA z1))
  have HB : Hid (∀ W, Below W0.heap.size W0 W → (∀ o, W.cell? ⟨A, o, none⟩ = #[Value.int .i64 c.inp, .slice sn c.next.length cn, .slice sg c.gates.length cg, .slice so c.outs.length co][o]?) ∧ W.heap[A + 1]? = some (.cells #[.int .i64 0, .slice none 0 0, .slice none 0 0, .slice none 0 0] 28 (0, 0)) ∧ CirV W (.agg #[.int .i64 c.inp, .slice sn c.next.length cn, .slice sg c.gates.length cg, .slice so c.outs.length co]) c ∧ Below w.heap.size w W) := fun W hW => ⟨(blk_all (blk_below hW (by omega) z2)).1, blk_below hW (by omega) z3, HG.out.mono (z4.trans (hW.mono z4.size)), z4.trans (hW.mono z4.size)⟩
  clear hW0 hA z1 z2 z3 z4
  cases hv : c.validB
  · rw [sweepR_no hv]
    have HV := Lib.hid hv
    clear hv
    go_enter Try.func24, Try.ntmps24
    go_upto_region 1 with fail
    rw [← HW.out.1, ← HW.out.2.1]
    have cb := (HB.out _ (Below.refl _ _)).1
    go_upto_region 2 with (go_at_call 27; ((with_reducible refine (CircuitValid_i _ c _ (HB.out _ (Below.refl _ _)).2.2.1).mono ?_); rintro e w1 ⟨rfl, hq⟩; rw [HV.out]; have H1 := Lib.hid hq; clear hq cb; obtain ⟨rc, rf⟩ := blk_all (HB.out _ H1.out).2.1))
    go_wp2_with fail
    have hZ : ((((w1.setCell ⟨A + 1, 0, none⟩ (.int .i64 0)).setCell ⟨A + 1, 1, none⟩ (.slice none 0 0)).setCell ⟨A + 1, 2, none⟩ (.slice none 0 0)).setCell ⟨A + 1, 3, none⟩ (.slice none 0 0)).heap[A + 1]? = some (.cells #[.int .i64 0, .slice none 0 0, .slice none 0 0, .slice none 0 0] 28 (0, 0)) := by
      simpa using blk_set (o := 3) (v := .slice none 0 0) (blk_set (o := 2) (v := .slice none 0 0) (blk_set (o := 1) (v := .slice none 0 0) (blk_set (o := 0) (v := .int .i64 0) (HB.out _ H1.out).2.1)))
    have hA2 := HW.out.2.1
    have hbz := ((((HB.out _ H1.out).2.2.2.setCell (p := ⟨A + 1, 0, none⟩) (by simp; omega) (.int .i64 0)).setCell (p := ⟨A + 1, 1, none⟩) (by simp; omega) (.slice none 0 0)).setCell (p := ⟨A + 1, 2, none⟩) (by simp; omega) (.slice none 0 0)).setCell (p := ⟨A + 1, 3, none⟩) (by simp; omega) (.slice none 0 0)
    clear rc rf
    revert hZ hbz
    generalize ((((w1.setCell ⟨A + 1, 0, none⟩ (.int .i64 0)).setCell ⟨A + 1, 1, none⟩ (.slice none 0 0)).setCell ⟨A + 1, 2, none⟩ (.slice none 0 0)).setCell ⟨A + 1, 3, none⟩ (.slice none 0 0)) = WZ
    intro hZ hbz
    have cr := (blk_all hZ).1
    exact bodyPost_ret (v := .agg #[.int .i64 0, .slice none 0 0, .slice none 0 0, .slice none 0 0]) (by simp [results, Try.results24, go_sem, cr]) rfl ⟨_, _, _, rfl, ⟨World.ownsRow_nil _ _ _ _, World.ownsRow_nil _ _ _ _, World.ownsRow_nil _ _ _ _, fun k h => by simp [Value.ownBlock] at h, by simp, by simp, by simp⟩, hbz⟩
  · rw [sweepR_yes hv]
    obtain ⟨o, ho⟩ : ∃ o, o = optC c := ⟨_, rfl⟩
    obtain ⟨cm, hcm⟩ : ∃ cm, cm = swpM o := ⟨_, rfl⟩
    have hres : sweepC c = optC cm := by unfold sweepC; rw [hcm, ho]
    rw [hres]
    have HRS := Lib.hid (And.intro ho hcm)
    clear hres ho hcm
    have HV := Lib.hid hv
    have hvv := c.validB_iff.1 hv
    have HVV := Lib.hid (And.intro hvv (buildC_valid hvv true))
    clear hv hvv
    go_enter Try.func24, Try.ntmps24
    go_upto_region 1 with fail
    rw [← HW.out.1, ← HW.out.2.1]
    have cb := (HB.out _ (Below.refl _ _)).1
    have HA := Lib.hid (show CirAt W0 A c.inp (.slice sn c.next.length cn) (.slice sg c.gates.length cg) (.slice so c.outs.length co) from ⟨cb 0, cb 1, cb 2, cb 3⟩)
    have HS : Hid (Sl w sn (ints c.next) ∧ Sl w sg (gcells c.gates) ∧ Sl w so (ints c.outs)) := by
      obtain ⟨_, _, _, _, _, _, e, h1, h2, h3, -⟩ := HG.out
      cases e
      exact ⟨h1, h2, h3⟩
    go_upto_region 3 with (go_at_call 27; ((with_reducible refine (CircuitValid_i _ c _ (HB.out _ (Below.refl _ _)).2.2.1).mono ?_); rintro e w1 ⟨rfl, hq⟩; rw [HV.out]; have H1 := Lib.hid hq; clear hq cb; have cb := (HB.out _ H1.out).1))
    have HO := Lib.hid (optimize_any A sn sg so cn cg co c w1 ⟨cb 0, cb 1, cb 2, cb 3⟩ (HS.out.1.mono (HB.out _ H1.out).2.2.2) (HS.out.2.1.mono (HB.out _ H1.out).2.2.2) (HS.out.2.2.mono (HB.out _ H1.out).2.2.2) HVV.out.1)
    clear cb
    go_upto_region 4 with (go_at_call 28; refine HO.out.mono ?_; rintro e w3 ⟨vn3, vg3, vo3, rfl, ho, hq⟩; rw [show c.inp = (optC c).inp from rfl]; obtain ⟨sn3, cn3, rfl⟩ := own_shape ho.n; obtain ⟨sg3, cg3, rfl⟩ := own_shape ho.g; obtain ⟨so3, co3, rfl⟩ := own_shape ho.o; have H3 : Hid (CirOwn w3 W0.heap.size (optC c) (.slice sn3 (optC c).next.length cn3) (.slice sg3 (optC c).gates.length cg3) (.slice so3 (optC c).outs.length co3) ∧ Below W0.heap.size W0 w3) := ⟨⟨own_base ho.n H1.out.size, own_base ho.g H1.out.size, own_base ho.o H1.out.size, ho.ne, ho.l1, ho.l2, ho.l3⟩, H1.out.trans (hq.mono H1.out.size)⟩; clear hq ho)
    obtain ⟨X, hX⟩ : ∃ X, X = w3.heap.size := ⟨_, rfl⟩
    have kX := blk_new w3 (.cells #[.int .i64 (optC c).inp, .slice sn3 (optC c).next.length cn3, .slice sg3 (optC c).gates.length cg3, .slice so3 (optC c).outs.length co3] 28)
    have bX := (Below.refl w3.heap.size w3).alloc (Nat.le_refl _) (.cells #[.int .i64 (optC c).inp, .slice sn3 (optC c).next.length cn3, .slice sg3 (optC c).gates.length cg3, .slice so3 (optC c).outs.length co3] 28)
    rw [← hX] at kX
    rw [← hX]
    revert kX bX
    generalize w3.alloc (.cells #[.int .i64 (optC c).inp, .slice sn3 (optC c).next.length cn3, .slice sg3 (optC c).gates.length cg3, .slice so3 (optC c).outs.length co3] 28) = W4
    intro kX bX
    have H4 : Hid (W4.heap[X]? = some (.cells #[.int .i64 (optC c).inp, .slice sn3 (optC c).next.length cn3, .slice sg3 (optC c).gates.length cg3, .slice so3 (optC c).outs.length co3] 28 (0, 0)) ∧ CirOwn W4 W0.heap.size (optC c) (.slice sn3 (optC c).next.length cn3) (.slice sg3 (optC c).gates.length cg3) (.slice so3 (optC c).outs.length co3) ∧ Below W0.heap.size W0 W4) :=
      ⟨kX, (⟨own_below H3.out.1.n bX, own_below H3.out.1.g bX, own_below H3.out.1.o bX, H3.out.1.ne, H3.out.1.l1, H3.out.1.l2, H3.out.1.l3⟩ : CirOwn _ _ _ _ _ _), H3.out.2.trans (bX.mono H3.out.2.size)⟩
    have hXs : W0.heap.size ≤ X := by rw [hX]; exact H3.out.2.size
    clear kX bX hX
    have HSZ := Lib.hid HW.out.2.2
    have HOV := Lib.hid (optC_valid HVV.out.1)
    obtain ⟨ho, hcm⟩ := HRS.out
    rw [← ho] at HOV H3 H4
    try rw [← ho]
    have HCM := Lib.hid (And.intro hcm (show cm.valid by rw [hcm]; exact swpM_valid HOV.out))
    obtain ⟨i0, i1, l1, l2, l3⟩ := HOV.out.lim
    obtain ⟨V, hV⟩ : ∃ V : Nat, o.vars = V := ⟨o.vars.toNat, by unfold Cir.vars; omega⟩
    have v22 : V ≤ 22 := by unfold Cir.vars at hV; omega
    have HVN := Lib.hid (And.intro hV (asgN_le HOV.out))
    have HFN := Lib.hid (functions_any X sn3 sg3 cn3 cg3 (.slice so3 o.outs.length co3) o W4 (CirAt.of_blk H4.out.1) (own_sl H4.out.2.1.g) HOV.out V hV)
    clear hcm ho hV i0 i1 l1 l2 l3
    go_upto_region 5 with (go_at_call 63; refine HFN.out.mono ?_; rintro e w5 ⟨sF, cF, rfl, hF, hq⟩; have H5 := Lib.hid (And.intro hF hq); clear hF hq)
    obtain ⟨Y, hY⟩ : ∃ Y, Y = w5.heap.size := ⟨_, rfl⟩
    have kY := blk_new w5 (.cells #[.slice sF V cF] 75)
    have bY := (Below.refl w5.heap.size w5).alloc (Nat.le_refl _) (.cells #[.slice sF V cF] 75)
    rw [← hY] at kY
    rw [← hY]
    revert kY bY
    generalize w5.alloc (.cells #[.slice sF V cF] 75) = W6
    intro kY bY
    have hb6 : Below W4.heap.size W4 W6 := H5.out.2.trans (bY.mono H5.out.2.size)
    have hx6 := blk_below hb6 (blk_lt H4.out.1) H4.out.1
    have HRP := Lib.hid (replacedS_any X Y o (swpL o) sn3 sg3 so3 cn3 cg3 co3 W6 (CirAt.of_blk hx6) ((own_sl H4.out.2.1.n).mono hb6) ((own_sl H4.out.2.1.g).mono hb6) ((own_sl H4.out.2.1.o).mono hb6) HOV.out (fun W l hW h0 h1 => by
      have hkY := blk_below hW (blk_lt kY) kY
      exact sweep1_any o V Y cF sF l W (blk_cell hkY) (H5.out.1.mono (bY.trans (hW.mono bY.size))) (by have := HVN.out.2.2; omega) (by omega) h0 (by rw [HVN.out.1] at h1; exact h1)))
    have H6 := Lib.hid (And.intro hx6 (H4.out.2.2.trans (hb6.mono H4.out.2.2.size)))
    clear bY kY hb6 hx6 hY
    go_wp2_with (first
      | (go_at_call 64; refine HRP.out.mono ?_; rintro e w7 ⟨vn, vg, vo, rfl, ho, hq⟩; rw [show o.mapC (swpL o) = cm from HCM.out.1.symm] at ho; rw [show o.inp = cm.inp by rw [HCM.out.1]; rfl]; obtain ⟨sn7, cn7, rfl⟩ := own_shape ho.n; obtain ⟨sg7, cg7, rfl⟩ := own_shape ho.g; obtain ⟨so7, co7, rfl⟩ := own_shape ho.o; have H7 := Lib.hid (And.intro ho hq); clear ho hq)
      | (go_at_call 35; (refine (ptrC_any cm.inp sn7 sg7 so7 cm.next.length cn7 cm.gates.length cg7 cm.outs.length co7 w7).mono ?_; rintro e w8 ⟨rfl, h8⟩; have k8 : w8.heap[w7.heap.size]? = some (.cells #[.int .i64 cm.inp, .slice sn7 cm.next.length cn7, .slice sg7 cm.gates.length cg7, .slice so7 cm.outs.length co7] 28 (0, 0)) := (by subst h8; exact blk_new _ _); have b8 : Below w7.heap.size w7 w8 := (by subst h8; exact (Below.refl _ _).alloc (Nat.le_refl _) _); have HOP := Lib.hid (optimize_any w7.heap.size sn7 sg7 so7 cn7 cg7 co7 cm w8 (CirAt.of_blk k8) ((own_sl H7.out.1.n).mono b8) ((own_sl H7.out.1.g).mono b8) ((own_sl H7.out.1.o).mono b8) HCM.out.2); have H8 := Lib.hid (H6.out.2.trans ((H7.out.2.trans (b8.mono H7.out.2.size)).mono H6.out.2.size)); clear k8 b8 h8))
      | (go_at_call 28; refine HOP.out.mono ?_; rintro e w9 ⟨vn, vg, vo, rfl, ho, hq⟩; rw [show cm.inp = (optC cm).inp from rfl]; obtain ⟨sn9, cn9, rfl⟩ := own_shape ho.n; obtain ⟨sg9, cg9, rfl⟩ := own_shape ho.g; obtain ⟨so9, co9, rfl⟩ := own_shape ho.o; have H9 := Lib.hid (And.intro ho (H8.out.trans (hq.mono H8.out.size))); obtain ⟨rc, rf⟩ := blk_all (HB.out _ H9.out.2).2.1; clear ho hq))
    have hA2 := HW.out.2.1
    have hR := (HB.out _ H9.out.2).2.1
    have hO := (H9.out.1).sets4 (r := A + 1) (by have h1 := HW.out.2.2; have h2 := HSZ.out; have h3 := H8.out.size; omega) (base := w.heap.size) (by have h1 := HW.out.2.2; have h2 := HSZ.out; have h3 := H8.out.size; omega) (a := .int .i64 (optC cm).inp) (b' := .slice sn9 (optC cm).next.length cn9) (c' := .slice sg9 (optC cm).gates.length cg9) (d := .slice so9 (optC cm).outs.length co9)
    have hZ : ((((w9.setCell ⟨A + 1, 0, none⟩ (.int .i64 (optC cm).inp)).setCell ⟨A + 1, 1, none⟩ (.slice sn9 (optC cm).next.length cn9)).setCell ⟨A + 1, 2, none⟩ (.slice sg9 (optC cm).gates.length cg9)).setCell ⟨A + 1, 3, none⟩ (.slice so9 (optC cm).outs.length co9)).heap[A + 1]? = some (.cells #[.int .i64 (optC cm).inp, .slice sn9 (optC cm).next.length cn9, .slice sg9 (optC cm).gates.length cg9, .slice so9 (optC cm).outs.length co9] 28 (0, 0)) := by
      simpa using blk_set (o := 3) (v := .slice so9 (optC cm).outs.length co9) (blk_set (o := 2) (v := .slice sg9 (optC cm).gates.length cg9) (blk_set (o := 1) (v := .slice sn9 (optC cm).next.length cn9) (blk_set (o := 0) (v := .int .i64 (optC cm).inp) hR)))
    have hbz := ((((HB.out _ H9.out.2).2.2.2.setCell (p := ⟨A + 1, 0, none⟩) (by simp; omega) (.int .i64 (optC cm).inp)).setCell (p := ⟨A + 1, 1, none⟩) (by simp; omega) (.slice sn9 (optC cm).next.length cn9)).setCell (p := ⟨A + 1, 2, none⟩) (by simp; omega) (.slice sg9 (optC cm).gates.length cg9)).setCell (p := ⟨A + 1, 3, none⟩) (by simp; omega) (.slice so9 (optC cm).outs.length co9)
    clear rc rf hR
    revert hZ hbz hO
    generalize ((((w9.setCell ⟨A + 1, 0, none⟩ (.int .i64 (optC cm).inp)).setCell ⟨A + 1, 1, none⟩ (.slice sn9 (optC cm).next.length cn9)).setCell ⟨A + 1, 2, none⟩ (.slice sg9 (optC cm).gates.length cg9)).setCell ⟨A + 1, 3, none⟩ (.slice so9 (optC cm).outs.length co9)) = WZ
    intro hO hZ hbz
    have cr := (blk_all hZ).1
    exact bodyPost_ret (v := .agg #[.int .i64 (optC cm).inp, .slice sn9 (optC cm).next.length cn9, .slice sg9 (optC cm).gates.length cg9, .slice so9 (optC cm).outs.length co9]) (by simp [results, Try.results24, go_sem, cr]) rfl ⟨_, _, _, rfl, hO, hbz⟩

theorem equivB_trans {a b c : Cir} (h1 : equivB a b = true) (h2 : equivB b c = true) : equivB a c = true := by
  obtain ⟨s1, r1⟩ := equivB_iff.1 h1
  obtain ⟨s2, r2⟩ := equivB_iff.1 h2
  obtain ⟨a1, a2, a3, a4, a5⟩ := sifB_iff.1 s1
  obtain ⟨b1, b2, b3, b4, b5⟩ := sifB_iff.1 s2
  refine equivB_iff.2 ⟨sifB_iff.2 ⟨a1, b2, by rw [a3, b3], by rw [a4, b4], by rw [a5, b5]⟩, fun x hx => ?_⟩
  rw [r1 x hx]
  refine r2 x ?_
  have : asgN b = asgN a := by unfold asgN; rw [a3, a4]
  rw [this]; exact hx

theorem balR_if {c : Cir} (hv : c.validB = true) : (balR c).inp = c.inp ∧ (balR c).next.length = c.next.length ∧ (balR c).outs.length = c.outs.length := by
  have h1 := optC_if c
  rcases balR_or hv with h | ⟨h, _⟩
  · rw [h]; exact h1
  · rw [h]
    have h2 := optC_if (balC (optC c))
    have h3 : (balC (optC c)).inp = (optC c).inp ∧ (balC (optC c)).next.length = (optC c).next.length ∧ (balC (optC c)).outs.length = (optC c).outs.length := ⟨rfl, by simp [balC], by simp [balC]⟩
    exact ⟨by rw [h2.1, h3.1, h1.1], by rw [h2.2.1, h3.2.1, h1.2.1], by rw [h2.2.2, h3.2.2, h1.2.2]⟩

theorem balR_eqv {c : Cir} (hv : c.validB = true) : equivB c (balR c) = true :=
  have hval := c.validB_iff.1 hv
  equivB_mk hval (balR_valid hval) (balR_if hv) fun x _ => balR_res hval x

theorem chain_says {c : Cir} (hv : c.validB = true) : equivB c (remR (sweepR (balR c))) = true ∧ equivB c (remR (sweepR c)) = true ∧ (remR (sweepR c)).gates.length ≤ (sweepR c).gates.length := by
  have hval := c.validB_iff.1 hv
  have hb : (balR c).validB = true := (Cir.validB_iff _).2 (balR_valid hval)
  have s1 := sweepR_says hv
  have s2 := sweepR_says hb
  have r1 := remR_says s1.ok
  have r2 := remR_says s2.ok
  refine ⟨equivB_trans (equivB_trans (balR_eqv hv) s2.eqv) r2.eqv, equivB_trans s1.eqv r1.eqv, Nat.le_trans r1.len ?_⟩
  rw [optR_yes s1.ok]
  exact optC_len_le _

set_option maxRecDepth 100000 in
set_option maxHeartbeats 6400000 in
theorem FnOptimizeChain_any (s : Option Addr) (cap : Nat) (xs : List Int) (w : World) (hs : Sl w s (u8s xs)) (hl : xs.length ≤ 9223372036854775807) (hcap : xs.length ≤ cap) (hcap2 : cap ≤ 9223372036854775807) (hr : ∀ x ∈ xs, 0 ≤ x ∧ x ≤ 255) :
    Calls Try.prog 6 #[.slice s xs.length cap] w fun e w' => e = .returned (.bool true) ∧ Below w.heap.size w w' := by
  by_cases hc : xs.length ≤ 1048576
  · have HD := Lib.hid (DrawSweep_any s cap xs w hs hc hcap hcap2 hr)
    clear hs hr
    go_enter Try.func6, Try.ntmps6
    go_upto_region 4 with (go_at_call 23; (with_reducible refine HD.out.mono ?_); rintro e w1 ⟨C, vn, vg, vo, rfl, h1, h2, h4⟩; obtain ⟨sn, cn, rfl⟩ := own_shape h1.n; obtain ⟨sg, cg, rfl⟩ := own_shape h1.g; obtain ⟨so, co, rfl⟩ := own_shape h1.o; have H1 := Lib.hid (And.intro h1 h4); obtain ⟨l1, l2, l3, l4, l5⟩ := h2; clear h1 h4)
    obtain ⟨B, hB⟩ : ∃ B, B = w1.heap.size := ⟨_, rfl⟩
    have hk := blk_new w1 (.cells #[.int .i64 C.inp, .slice sn C.next.length cn, .slice sg C.gates.length cg, .slice so C.outs.length co] 28)
    have hbb := below_al w1 (.cells #[.int .i64 C.inp, .slice sn C.next.length cn, .slice sg C.gates.length cg, .slice so C.outs.length co] 28)
    have hV : CirV (w1.alloc (.cells #[.int .i64 C.inp, .slice sn C.next.length cn, .slice sg C.gates.length cg, .slice so C.outs.length co] 28)) (.agg #[.int .i64 C.inp, .slice sn C.next.length cn, .slice sg C.gates.length cg, .slice so C.outs.length co]) C := own_cv (own_cbelow H1.out.1 hbb)
    have hbw := H1.out.2.trans (hbb.mono H1.out.2.size)
    rw [← hB] at hk
    rw [← hB]
    clear hbb hB H1 HD
    revert hV hbw hk
    generalize w1.alloc (.cells #[.int .i64 C.inp, .slice sn C.next.length cn, .slice sg C.gates.length cg, .slice so C.outs.length co] 28) = W1
    intro hk hV hbw
    have HC : Hid (∀ W, Below W1.heap.size W1 W → CirV W (.agg #[.int .i64 C.inp, .slice sn C.next.length cn, .slice sg C.gates.length cg, .slice so C.outs.length co]) C ∧ (∀ o, W.cell? ⟨B, o, none⟩ = #[Value.int .i64 C.inp, .slice sn C.next.length cn, .slice sg C.gates.length cg, .slice so C.outs.length co][o]?)) := fun W hW => ⟨hV.mono hW, (blk_all (blk_below hW (blk_lt hk) hk)).1⟩
    have HW := Lib.hid hbw
    clear hk hV hbw
    have cb := (HC.out _ (Below.refl _ _)).2
    obtain ⟨D, hD⟩ : ∃ D, D = sweepR C := ⟨_, rfl⟩
    have HDD := Lib.hid hD
    clear hD
    go_upto_region 5 with (go_at_call 24; ((with_reducible refine (Sweep_i _ C _ (HC.out _ (Below.refl _ _)).1).mono ?_); rintro e w2 ⟨vn2, vg2, vo2, rfl, h1, hq⟩; rw [← HDD.out] at h1 ⊢; obtain ⟨xn, yn, rfl⟩ := own_shape h1.n; obtain ⟨xg, yg, rfl⟩ := own_shape h1.g; obtain ⟨xo, yo, rfl⟩ := own_shape h1.o; have H2 := Lib.hid (And.intro h1 hq); clear h1 hq cb))
    obtain ⟨X, hX⟩ : ∃ X, X = w2.heap.size := ⟨_, rfl⟩
    have kX := blk_new w2 (.cells #[.int .i64 D.inp, .slice xn D.next.length yn, .slice xg D.gates.length yg, .slice xo D.outs.length yo] 28)
    have bX := below_al w2 (.cells #[.int .i64 D.inp, .slice xn D.next.length yn, .slice xg D.gates.length yg, .slice xo D.outs.length yo] 28)
    have hb2 : Below W1.heap.size W1 (w2.alloc (.cells #[.int .i64 D.inp, .slice xn D.next.length yn, .slice xg D.gates.length yg, .slice xo D.outs.length yo] 28)) := H2.out.2.trans (bX.mono H2.out.2.size)
    have hV2 : CirV (w2.alloc (.cells #[.int .i64 D.inp, .slice xn D.next.length yn, .slice xg D.gates.length yg, .slice xo D.outs.length yo] 28)) (.agg #[.int .i64 D.inp, .slice xn D.next.length yn, .slice xg D.gates.length yg, .slice xo D.outs.length yo]) D := own_cv (own_cbelow H2.out.1 bX)
    rw [← hX] at kX
    rw [← hX]
    clear hX bX H2
    revert kX hb2 hV2
    generalize w2.alloc (.cells #[.int .i64 D.inp, .slice xn D.next.length yn, .slice xg D.gates.length yg, .slice xo D.outs.length yo] 28) = W2
    intro kX hb2 hV2
    have HC2 : Hid (∀ W, Below W2.heap.size W2 W → (CirV W (.agg #[.int .i64 C.inp, .slice sn C.next.length cn, .slice sg C.gates.length cg, .slice so C.outs.length co]) C ∧ (∀ o, W.cell? ⟨B, o, none⟩ = #[Value.int .i64 C.inp, .slice sn C.next.length cn, .slice sg C.gates.length cg, .slice so C.outs.length co][o]?)) ∧ (CirV W (.agg #[.int .i64 D.inp, .slice xn D.next.length yn, .slice xg D.gates.length yg, .slice xo D.outs.length yo]) D ∧ (∀ o, W.cell? ⟨X, o, none⟩ = #[Value.int .i64 D.inp, .slice xn D.next.length yn, .slice xg D.gates.length yg, .slice xo D.outs.length yo][o]?)) ∧ Below w.heap.size w W) := fun W hW => ⟨HC.out W (hb2.trans (hW.mono hb2.size)), ⟨hV2.mono hW, (blk_all (blk_below hW (blk_lt kX) kX)).1⟩, HW.out.trans ((hb2.trans (hW.mono hb2.size)).mono HW.out.size)⟩
    clear kX hb2 hV2
    refine wp_region_T (fun w' => (∀ o, w'.cell? ⟨B, o, none⟩ = #[Value.int .i64 C.inp, .slice sn C.next.length cn, .slice sg C.gates.length cg, .slice so C.outs.length co][o]?) ∧ (∀ o, w'.cell? ⟨X, o, none⟩ = #[Value.int .i64 D.inp, .slice xn D.next.length yn, .slice xg D.gates.length yg, .slice xo D.outs.length yo][o]?)) (.q 0 (.q 1 (.e 2 (.e 3 (.q 4 .nil))))) (by kernel_rfl) (by kernel_rfl) (by kernel_rfl) ⟨(HC2.out _ (Below.refl _ _).drew).1.2, (HC2.out _ (Below.refl _ _).drew).2.1.2⟩ ?_
    repeat (first | (refine ordt_s (o := ?_) ?_ ?_ ?_; rotate_left 1; (focus ((simp only [zD, zE, zF]) <;> rfl)); (focus rfl); simp only [Act.put, zA, zB, zC]) | (refine ordt_q (o := ?_) (v := ?_) ?_ ?_ ?_ ?_; rotate_left 2; (focus ((simp only [zD, zE, zF]) <;> rfl)); (focus rfl); (focus (intro w' hS; (try dsimp only at hS); go_split_ands; go_simp; (try (with_reducible rfl)))); simp only [Act.put, zA, zB, zC]))
    refine ordt_e ?_
    (refine op_e (o := ?_) ?_ ?_ (fun K hK => ?_); rotate_left 1; (focus ((simp only [zD, zE, zF]) <;> rfl)); (focus rfl); go_simp)
    refine (Sweep_s _ C _ (HC2.out _ (Below.refl _ _).drew).1.1).mono ?_
    rintro e wa ⟨vna, vga, voa, rfl, h1, hq⟩
    rw [← HDD.out] at h1 ⊢
    have hba : Below W2.heap.size W2 wa := (Below.refl _ _).drew.trans hq
    refine hK.out _ _ ⟨(HC2.out _ hba).1.2, (HC2.out _ hba).2.1.2⟩ ?_
    clear hK K hq
    have HA := Lib.hid (And.intro (own_cv h1) hba)
    clear h1 hba
    (try simp only [Act.put, zA, zB, zC])
    refine ordt_e ?_
    (refine op_e (o := ?_) ?_ ?_ (fun K hK => ?_); rotate_left 1; (focus ((simp only [zD, zE, zF]) <;> rfl)); (focus rfl); go_simp)
    refine (sameCircuitG_any _ _ D D _ (HC2.out _ HA.out.2).2.1.1 HA.out.1).mono ?_
    rintro e w4 ⟨rfl, hq⟩
    rw [cirB_self]
    have hb4 : Below W2.heap.size W2 w4 := HA.out.2.trans (hq.mono HA.out.2.size)
    refine hK.out _ _ ⟨(HC2.out _ hb4).1.2, (HC2.out _ hb4).2.1.2⟩ ?_
    clear hK K hq
    have H5 := Lib.hid hb4
    clear hb4 HA
    (try simp only [Act.put, zA, zB, zC])
    repeat (first | (refine ordt_s (o := ?_) ?_ ?_ ?_; rotate_left 1; (focus ((simp only [zD, zE, zF]) <;> rfl)); (focus rfl); simp only [Act.put, zA, zB, zC]) | (refine ordt_q (o := ?_) (v := ?_) ?_ ?_ ?_ ?_; rotate_left 2; (focus ((simp only [zD, zE, zF]) <;> rfl)); (focus rfl); (focus (intro w' hS; (try dsimp only at hS); go_split_ands; go_simp; (try (with_reducible rfl)))); simp only [Act.put, zA, zB, zC]))
    refine ordt_nil ?_
    have cb := (HC2.out _ H5.out).1.2
    have cx := (HC2.out _ H5.out).2.1.2
    cases hv : C.validB
    · have HV := Lib.hid hv
      clear hv
      go_wp2_with (first | (go_at_call 20; ((with_reducible refine (CircuitValid_s _ C _ (HC2.out _ H5.out).1.1).mono ?_); rintro e w5 ⟨rfl, hq⟩; rw [HV.out]; have H5 := Lib.hid (H5.out.trans (hq.mono H5.out.size)); clear hq cb cx; have cb := (HC2.out _ H5.out).1.2; have cx := (HC2.out _ H5.out).2.1.2)) | (go_at_call 21; ((with_reducible refine (alive_any _).mono ?_); rintro e w7 ⟨rfl, hq⟩; have H5 := Lib.hid (H5.out.trans (hq.mono H5.out.size)); clear hq)))
      go_ret
      exact ⟨rfl, (HC2.out _ H5.out).2.2⟩
    · have hch := chain_says hv
      rw [← HDD.out] at hch
      obtain ⟨E1, hE1⟩ : ∃ E, E = balR C := ⟨_, rfl⟩
      obtain ⟨E2, hE2⟩ : ∃ E, E = sweepR E1 := ⟨_, rfl⟩
      obtain ⟨Y, hY⟩ : ∃ E, E = remR E2 := ⟨_, rfl⟩
      obtain ⟨Z, hZ⟩ : ∃ E, E = remR D := ⟨_, rfl⟩
      rw [← hE1, ← hE2, ← hY, ← hZ] at hch
      have hle : decide ((Z.gates.length : Int) ≤ (D.gates.length : Int)) = true := decide_eq_true (by have := hch.2.2; omega)
      have hlN : decide (Z.gates.length ≤ D.gates.length) = true := decide_eq_true hch.2.2
      have HV := Lib.hid hv
      have HE := Lib.hid (And.intro hE1 (And.intro hE2 (And.intro hY hZ)))
      have HCH := Lib.hid hch
      clear hv hE1 hE2 hY hZ hch
      go_upto_region 10 with (first
        | (go_at_call 20; ((with_reducible refine (CircuitValid_s _ C _ (HC2.out _ H5.out).1.1).mono ?_); rintro e w5 ⟨rfl, hq⟩; rw [HV.out]; have H5 := Lib.hid (H5.out.trans (hq.mono H5.out.size)); clear hq cb cx; have cb := (HC2.out _ H5.out).1.2; have cx := (HC2.out _ H5.out).2.1.2))
        | (go_at_call 7; ((with_reducible refine (Balance_i _ C _ (HC2.out _ H5.out).1.1).mono ?_); rintro e w6 ⟨vn, vg, vo, rfl, h1, hq⟩; rw [← HE.out.1] at h1 ⊢; obtain ⟨p1n, q1n, rfl⟩ := own_shape h1.n; obtain ⟨p1g, q1g, rfl⟩ := own_shape h1.g; obtain ⟨p1o, q1o, rfl⟩ := own_shape h1.o; have H6 := Lib.hid (And.intro h1 (H5.out.trans (hq.mono H5.out.size))); clear h1 hq))
        | (go_at_call 24; ((with_reducible refine (Sweep_i _ E1 _ (own_cv H6.out.1)).mono ?_); rintro e w7 ⟨vn, vg, vo, rfl, h1, hq⟩; rw [← HE.out.2.1] at h1 ⊢; obtain ⟨p2n, q2n, rfl⟩ := own_shape h1.n; obtain ⟨p2g, q2g, rfl⟩ := own_shape h1.g; obtain ⟨p2o, q2o, rfl⟩ := own_shape h1.o; have H7 := Lib.hid (And.intro h1 (H6.out.2.trans (hq.mono H6.out.2.size))); clear h1 hq))
        | (go_at_call 26; ((with_reducible refine (RemoveRedundancy_i _ E2 _ (own_cv H7.out.1)).mono ?_); rintro e w8 ⟨vn, vg, vo, rfl, h1, hq⟩; rw [← HE.out.2.2.1] at h1 ⊢; obtain ⟨p3n, q3n, rfl⟩ := own_shape h1.n; obtain ⟨p3g, q3g, rfl⟩ := own_shape h1.g; obtain ⟨p3o, q3o, rfl⟩ := own_shape h1.o; have H8 := Lib.hid (And.intro h1 (H7.out.2.trans (hq.mono H7.out.2.size))); clear h1 hq cb cx)))
      obtain ⟨X3, hX⟩ : ∃ X, X = w8.heap.size := ⟨_, rfl⟩
      have kX := blk_new w8 (.cells #[.int .i64 Y.inp, .slice p3n Y.next.length q3n, .slice p3g Y.gates.length q3g, .slice p3o Y.outs.length q3o] 28)
      have bX := below_al w8 (.cells #[.int .i64 Y.inp, .slice p3n Y.next.length q3n, .slice p3g Y.gates.length q3g, .slice p3o Y.outs.length q3o] 28)
      have hb2 := H8.out.2.trans (bX.mono H8.out.2.size)
      have hV2 : CirV (w8.alloc (.cells #[.int .i64 Y.inp, .slice p3n Y.next.length q3n, .slice p3g Y.gates.length q3g, .slice p3o Y.outs.length q3o] 28)) (.agg #[.int .i64 Y.inp, .slice p3n Y.next.length q3n, .slice p3g Y.gates.length q3g, .slice p3o Y.outs.length q3o]) Y := own_cv (own_cbelow H8.out.1 bX)
      rw [← hX] at kX
      rw [← hX]
      clear hX bX H8
      revert kX hb2 hV2
      generalize w8.alloc (.cells #[.int .i64 Y.inp, .slice p3n Y.next.length q3n, .slice p3g Y.gates.length q3g, .slice p3o Y.outs.length q3o] 28) = W3
      intro kX hb2 hV2
      have HC3 : Hid (∀ W, Below W3.heap.size W3 W → (∀ o, W.cell? ⟨X3, o, none⟩ = #[Value.int .i64 Y.inp, .slice p3n Y.next.length q3n, .slice p3g Y.gates.length q3g, .slice p3o Y.outs.length q3o][o]?) ∧ CirV W (.agg #[.int .i64 Y.inp, .slice p3n Y.next.length q3n, .slice p3g Y.gates.length q3g, .slice p3o Y.outs.length q3o]) Y ∧ Below W2.heap.size W2 W) := fun W hW => ⟨(blk_all (blk_below hW (blk_lt kX) kX)).1, hV2.mono hW, hb2.trans (hW.mono hb2.size)⟩
      clear kX hb2 hV2
      have cx := (HC2.out _ (HC3.out _ (Below.refl _ _)).2.2).2.1.2
      go_upto_region 11 with (go_at_call 26; ((with_reducible refine (RemoveRedundancy_i _ D _ (HC2.out _ (HC3.out _ (Below.refl _ _)).2.2).2.1.1).mono ?_); rintro e w9 ⟨vn, vg, vo, rfl, h1, hq⟩; rw [← HE.out.2.2.2] at h1 ⊢; obtain ⟨p4n, q4n, rfl⟩ := own_shape h1.n; obtain ⟨p4g, q4g, rfl⟩ := own_shape h1.g; obtain ⟨p4o, q4o, rfl⟩ := own_shape h1.o; have H9 := Lib.hid (And.intro h1 hq); clear h1 hq cx))
      obtain ⟨X4, hX⟩ : ∃ X, X = w9.heap.size := ⟨_, rfl⟩
      have kX := blk_new w9 (.cells #[.int .i64 Z.inp, .slice p4n Z.next.length q4n, .slice p4g Z.gates.length q4g, .slice p4o Z.outs.length q4o] 28)
      have bX := below_al w9 (.cells #[.int .i64 Z.inp, .slice p4n Z.next.length q4n, .slice p4g Z.gates.length q4g, .slice p4o Z.outs.length q4o] 28)
      have hb2 := H9.out.2.trans (bX.mono H9.out.2.size)
      have hV2 : CirV (w9.alloc (.cells #[.int .i64 Z.inp, .slice p4n Z.next.length q4n, .slice p4g Z.gates.length q4g, .slice p4o Z.outs.length q4o] 28)) (.agg #[.int .i64 Z.inp, .slice p4n Z.next.length q4n, .slice p4g Z.gates.length q4g, .slice p4o Z.outs.length q4o]) Z := own_cv (own_cbelow H9.out.1 bX)
      rw [← hX] at kX
      rw [← hX]
      clear hX bX H9
      revert kX hb2 hV2
      generalize w9.alloc (.cells #[.int .i64 Z.inp, .slice p4n Z.next.length q4n, .slice p4g Z.gates.length q4g, .slice p4o Z.outs.length q4o] 28) = W4
      intro kX hb2 hV2
      have HC4 : Hid (∀ W, Below W4.heap.size W4 W → (∀ o, W.cell? ⟨X4, o, none⟩ = #[Value.int .i64 Z.inp, .slice p4n Z.next.length q4n, .slice p4g Z.gates.length q4g, .slice p4o Z.outs.length q4o][o]?) ∧ CirV W (.agg #[.int .i64 Z.inp, .slice p4n Z.next.length q4n, .slice p4g Z.gates.length q4g, .slice p4o Z.outs.length q4o]) Z ∧ Below W3.heap.size W3 W) := fun W hW => ⟨(blk_all (blk_below hW (blk_lt kX) kX)).1, hV2.mono hW, hb2.trans (hW.mono hb2.size)⟩
      clear kX hb2 hV2
      have HA : Hid (∀ W, Below W4.heap.size W4 W → (∀ o, W.cell? ⟨B, o, none⟩ = #[Value.int .i64 C.inp, .slice sn C.next.length cn, .slice sg C.gates.length cg, .slice so C.outs.length co][o]?) ∧ (∀ o, W.cell? ⟨X, o, none⟩ = #[Value.int .i64 D.inp, .slice xn D.next.length yn, .slice xg D.gates.length yg, .slice xo D.outs.length yo][o]?) ∧ (∀ o, W.cell? ⟨X3, o, none⟩ = #[Value.int .i64 Y.inp, .slice p3n Y.next.length q3n, .slice p3g Y.gates.length q3g, .slice p3o Y.outs.length q3o][o]?) ∧ (∀ o, W.cell? ⟨X4, o, none⟩ = #[Value.int .i64 Z.inp, .slice p4n Z.next.length q4n, .slice p4g Z.gates.length q4g, .slice p4o Z.outs.length q4o][o]?) ∧ CirV W (.agg #[.int .i64 C.inp, .slice sn C.next.length cn, .slice sg C.gates.length cg, .slice so C.outs.length co]) C ∧ CirV W (.agg #[.int .i64 Y.inp, .slice p3n Y.next.length q3n, .slice p3g Y.gates.length q3g, .slice p3o Y.outs.length q3o]) Y ∧ CirV W (.agg #[.int .i64 Z.inp, .slice p4n Z.next.length q4n, .slice p4g Z.gates.length q4g, .slice p4o Z.outs.length q4o]) Z ∧ Below w.heap.size w W) := fun W hW => by
        obtain ⟨d1, d2, d3⟩ := HC4.out W hW
        obtain ⟨e1, e2, e3⟩ := HC3.out W d3
        have f := HC2.out W e3
        exact ⟨f.1.2, f.2.1.2, e1, d1, f.1.1, e2, d2, f.2.2⟩
      obtain ⟨cb, cx, c3, c4, -⟩ := HA.out _ (Below.refl _ _)
      go_wp2_with (first
        | (go_at_call 11; ((with_reducible refine (Equivalent_i _ _ C Y _ (HA.out _ (Below.refl _ _)).2.2.2.2.1 (HA.out _ (Below.refl _ _)).2.2.2.2.2.1).mono ?_); rintro e w10 ⟨rfl, hq⟩; rw [HCH.out.1]; have H10 := Lib.hid hq; clear hq cb cx c3 c4; obtain ⟨cb, cx, c3, c4, -⟩ := HA.out _ H10.out))
        | (go_at_call 11; ((with_reducible refine (Equivalent_i _ _ C Z _ (HA.out _ H10.out).2.2.2.2.1 (HA.out _ H10.out).2.2.2.2.2.2.1).mono ?_); rintro e w11 ⟨rfl, hq⟩; rw [HCH.out.2.1]; have H11 := Lib.hid (H10.out.trans (hq.mono H10.out.size)); clear hq cb cx c3 c4; obtain ⟨cb, cx, c3, c4, -⟩ := HA.out _ H11.out)))
      go_ret
      exact ⟨rfl, (HA.out _ H11.out).2.2.2.2.2.2.2⟩
  · clear hs hr
    go_enter Try.func6, Try.ntmps6
    go_wp2
    go_ret
    exact ⟨rfl, Below.refl _ _⟩

end Go.Proofs.Ytdcjiclonjillaa
