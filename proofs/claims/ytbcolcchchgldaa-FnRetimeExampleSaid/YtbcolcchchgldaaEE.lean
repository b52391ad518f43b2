import Derived.Test.YtbcolcchchgldaaEB
import Derived.Test.YtbcolcchchgldaaEC
import Derived.Test.YtbcolcchchgldaaED
import Derived.Test.YtbcolcchchgldaaDI
namespace Go.Proofs.Ytbcolcchchgldaa
set_option linter.unusedVariables false
set_option linter.unusedSimpArgs false
open Go.RowKit

/-! Simulate of the program. -/

set_option maxRecDepth 100000 in
set_option maxHeartbeats 3200000 in
theorem Simulate_i (sn sg so s : Option Addr) (cn cg co cap ni : Nat) (c : Cir) (rows : List (List Bool)) (w : World) (hi : c.inp = ni) (hC : CirV w (.agg #[.int .i64 ni, .slice sn c.next.length cn, .slice sg c.gates.length cg, .slice so c.outs.length co]) c) (hn : Sl w sn (ints c.next)) (hg : Sl w sg (gcells c.gates)) (ho : Sl w so (ints c.outs)) (hs : SlB w s rows) (hv : c.valid) (hl : rows.length ≤ 40) (hr : ∀ r ∈ rows, r.length = ni) :
    Calls Try.prog 27 #[.agg #[.int .i64 ni, .slice sn c.next.length cn, .slice sg c.gates.length cg, .slice so c.outs.length co], .slice s rows.length cap] w fun e w' => ∃ so' co' vs, e = .returned (.slice so' rows.length co') ∧ OwnSB w' w.heap.size (.slice so' rows.length co') vs (outS c (List.replicate c.next.length false) rows) ∧ Below w.heap.size w w' := by
  obtain ⟨i0, i1, l1, l2, l3⟩ := id hv.lim
  have n4 : ni ≤ 4 := by omega
  have hb0 := (Below.refl w.heap.size w).alloc (Nat.le_refl _) (.cells #[.int .i64 ni, .slice sn c.next.length cn, .slice sg c.gates.length cg, .slice so c.outs.length co] 26)
  have hk0 := blk_new w (.cells #[.int .i64 ni, .slice sn c.next.length cn, .slice sg c.gates.length cg, .slice so c.outs.length co] 26)
  obtain ⟨A, hA⟩ : ∃ A, A = w.heap.size := ⟨_, rfl⟩
  have HB : Hid (∀ W, Below w.heap.size w W → CirV W (.agg #[.int .i64 ni, .slice sn c.next.length cn, .slice sg c.gates.length cg, .slice so c.outs.length co]) c ∧ Sl W sn (ints c.next) ∧ Sl W sg (gcells c.gates) ∧ Sl W so (ints c.outs) ∧ SlB W s rows) := fun W hW => ⟨hC.mono hW, hn.mono hW, hg.mono hW, ho.mono hW, hs.mono hW⟩
  have HV := Lib.hid (And.intro hv (And.intro hi hr))
  have hvb := (Cir.validB_iff c).2 hv
  have HVB := Lib.hid hvb
  have hmk := fun W => mkBools W c.next.length (by omega)
  rw [← hA] at hk0
  clear hC hn hg ho hs hv hi hr hvb i0 i1
  obtain ⟨S0, hS0⟩ : ∃ S0, S0 = List.replicate c.next.length false := ⟨_, rfl⟩
  have hS0l : S0.length = c.next.length := by rw [hS0]; simp
  rw [← hS0]
  have HS0 := Lib.hid hS0
  clear hS0
  go_enter Try.func27, Try.ntmps27
  go_upto_region 1 with fail
  rw [← hA]
  clear hA
  revert hb0 hk0
  generalize w.alloc (.cells #[.int .i64 ni, .slice sn c.next.length cn, .slice sg c.gates.length cg, .slice so c.outs.length co] 26) = W1
  intro hb0 hk0
  have H1 := Lib.hid (And.intro hb0 hk0)
  clear hb0 hk0
  go_upto_region 4 with (go_at_call 80; ((with_reducible refine (rowsFit_any A sn sg so s cn cg co cap ni c rows _ H1.out.2 (HB.out _ H1.out.1).1 (HB.out _ H1.out.1).2.2.2.2 HVB.out n4 hl HV.out.2.2).mono ?_); rintro e w2 ⟨rfl, hq⟩; have H2 := Lib.hid (And.intro (H1.out.1.trans (hq.mono H1.out.1.size)) (blk_below hq (blk_lt H1.out.2) H1.out.2)); clear hq; have cb := (blk_all H2.out.2).1))
  have q1 := H2.out.1.alloc H2.out.1.size (.cells (bools (List.replicate c.next.length false)).toArray 4)
  have q2 : Sl (w2.alloc (.cells (bools (List.replicate c.next.length false)).toArray 4)) (some ⟨w2.heap.size, 0, none⟩) (bools (List.replicate c.next.length false)) := Sl.blk (blk_new _ _)
  have q3 := blk_old (o := .cells (bools (List.replicate c.next.length false)).toArray 4) H2.out.2
  have hS0 := HS0.out
  obtain ⟨G, hG⟩ : ∃ G, G = w2.heap.size := ⟨_, rfl⟩
  rw [← hS0] at q1 q2 q3 ⊢
  rw [← hG] at q2 ⊢
  clear hS0 hG hmk cb
  revert q1 q2 q3
  generalize w2.alloc (.cells (bools S0).toArray 4) = W3
  intro q1 q3 q2
  have H3 := Lib.hid (And.intro q1 (And.intro q2 q3))
  clear q1 q2 q3 H1 H2
  go_wp2_with fail
  go_loopw [19, 5, 6] (fun i x5 x6 wr => ∃ (k : Nat) (ss : Option Addr) (cs : Nat) (s' : Option Addr) (cc : Nat) (vs : List Value), k ≤ rows.length ∧ i = .int .i64 k ∧ x5 = .slice ss c.next.length cs ∧ Sl wr ss (bools (stS c S0 (rows.take k))) ∧ (stS c S0 (rows.take k)).length = c.next.length ∧ x6 = .slice s' k cc ∧ OwnSB wr w.heap.size (.slice s' k cc) vs (outS c S0 (rows.take k)) ∧ Below w.heap.size w wr ∧ wr.heap[A]? = some (.cells #[.int .i64 ni, .slice sn c.next.length cn, .slice sg c.gates.length cg, .slice so c.outs.length co] 26 (0, 0))) (fun i _ _ _ => rows.length - (intOf i).toNat)
  case atStart => exact ⟨0, _, _, _, _, [], Nat.zero_le _, rfl, rfl, by rw [List.take_zero]; exact H3.out.2.1, by rw [List.take_zero]; exact hS0l, rfl, by rw [List.take_zero]; exact OwnSB.nil _ _, H3.out.1, H3.out.2.2⟩
  case round =>
    obtain ⟨k, ss, cs, s', cc, vs, hk, rfl, rfl, hst, hsl, rfl, hO, hbl, hka⟩ := hrel
    have cb := (blk_all hka).1
    have hol : (outS c S0 (rows.take k)).length = k := by rw [outS_length]; simp; omega
    by_cases hlt : k < rows.length
    · obtain ⟨r, hr⟩ := get_of_lt hlt
      have hrl : r.length = ni := HV.out.2.2 r (List.mem_of_getElem? hr)
      have htk : rows.take (k + 1) = rows.take k ++ [r] := by rw [List.take_add_one, hr]; rfl
      obtain ⟨rb, ro, rs, rc, rfl, -, zr, hrs⟩ := (HB.out _ hbl).2.2.2.2.row (Below.refl _ _) hr
      rw [hrl] at zr
      have HST : Hid (Calls Try.prog 43 #[.agg #[.int .i64 ni, .slice sn c.next.length cn, .slice sg c.gates.length cg, .slice so c.outs.length co], .slice ss c.next.length cs, .slice rs ni rc] wr fun e w' => ∃ s1 c1 s2 c2, e = .returned (.agg #[.slice s1 c.outs.length c1, .slice s2 c.next.length c2]) ∧ w'.ownsRow wr.heap.size 4 1 (.slice s1 c.outs.length c1) c.outs.length (bools (simQ c (stS c S0 (rows.take k)) r)) ∧ w'.ownsRow wr.heap.size 4 1 (.slice s2 c.next.length c2) c.next.length (bools (simN c (stS c S0 (rows.take k)) r)) ∧ Below wr.heap.size wr w') := by
        obtain ⟨g1, g2, g3, g4, g5⟩ := HB.out _ hbl
        exact Step_own c sn sg so ss rs cn cg co cs rc (stS c S0 (rows.take k)) r wr ni HV.out.2.1 (by rw [HV.out.2.1]; exact g1) g2 g3 g4 HV.out.1 hst hrs hsl hrl (simV c (stS c S0 (rows.take k)) r) rfl (simV_length HV.out.2.1 hsl hrl)
      have hbz := hbl.size
      have HR := Lib.hid (And.intro hO (And.intro hbl (And.intro hka (And.intro hol htk))))
      clear hst hsl hO hbl hka hol htk hr hrs hrl
      go_upto_region 9 with (go_at_call 43; ((with_reducible refine HST.out.mono ?_); rintro e w4 ⟨s1, c1, s2, c2, rfl, h1, h2, hq⟩; have H4 := Lib.hid (And.intro h1 (And.intro h2 hq)); clear h1 h2 hq cb zr))
      have hka4 := blk_below H4.out.2.2 (blk_lt HR.out.2.2.1) HR.out.2.2.1
      have hO4 := HR.out.1.below H4.out.2.2
      have e4 := (Below.refl w4.heap.size w4).alloc (Nat.le_refl _) (.cells #[.slice s1 c.outs.length c1, .slice s2 c.next.length c2] 54)
      have hx4 := blk_new w4 (.cells #[.slice s1 c.outs.length c1, .slice s2 c.next.length c2] 54)
      obtain ⟨X, hX⟩ : ∃ X, X = w4.heap.size := ⟨_, rfl⟩
      have p1 := own_below H4.out.1 e4
      have p2 := own_below H4.out.2.1 e4
      have p3 := hO4.below e4
      have p4 := blk_below e4 (blk_lt hka4) hka4
      have p5 := (HR.out.2.1.trans (H4.out.2.2.mono hbz)).trans (e4.mono (Nat.le_trans hbz H4.out.2.2.size))
      have p6 : wr.heap.size ≤ X := by rw [hX]; exact H4.out.2.2.size
      rw [← hX] at hx4 ⊢
      clear hX e4 hka4 hO4 HST
      revert hx4 p1 p2 p3 p4 p5
      generalize w4.alloc (.cells #[.slice s1 c.outs.length c1, .slice s2 c.next.length c2] 54) = W5
      intro hx4 p1 p2 p3 p4 p5
      have H5 := Lib.hid (And.intro p1 (And.intro p2 (And.intro p3 (And.intro p4 (And.intro p5 hx4)))))
      clear p1 p2 p3 p4 p5 hx4 H4
      have cx := (blk_all H5.out.2.2.2.2.2).1
      have hOut : W5.ownsRow w.heap.size 39 1 (.slice s' k cc) k vs := by have h9 := H5.out.2.2.1.out; rwa [HR.out.2.2.2.1] at h9
      have HOut := Lib.hid hOut
      clear hOut
      have hz5 : w.heap.size ≤ W5.heap.size := H5.out.2.2.2.2.1.size
      go_wp2_with (at_builtin; refine wpl_app rfl _ _ rfl elem_bss2 (own_below HOut.out ((Below.refl _ _).alloc (Nat.le_refl _) _)) rfl rfl rfl (Sl.new _ _ _) (by simp [Value.oneCell']) (k + 1) rfl _ rfl (by unfold maxLen; omega) (by omega) (by simp; omega) ?_; intro s6 c6 w6 h6 hb6 hg6 _; have H6 := Lib.hid (And.intro h6 (And.intro hb6 hg6)); clear h6 hb6 hg6; clear cx; have hx6 : w6.heap[X]? = some (.cells #[.slice s1 c.outs.length c1, .slice s2 c.next.length c2] 54 (0, 0)) := (Chg.of_grown H6.out.2.2).blk (blk_old H5.out.2.2.2.2.2) (fun e => own_tyb HOut.out H5.out.2.2.2.2.2 (by decide) e); have cx : w6.cell? ⟨X, 1, none⟩ = some (.slice s2 c.next.length c2) := blk_cell hx6; clear hx6)
      go_roundw
      case rel =>
        have hq : (simQ c (stS c S0 (rows.take k)) r).length = c.outs.length := by simp [simQ]
        have hal := (Below.refl W5.heap.size W5).alloc (Nat.le_refl _) (.cells #[.slice s1 c.outs.length c1] 39)
        refine ⟨k + 1, s2, c2, s6, c6, vs ++ [.slice s1 c.outs.length c1], by omega, by go_num, rfl, ?_, ?_, rfl, ?_, ?_, ?_⟩
        · rw [HR.out.2.2.2.2, stS_snoc]
          exact own_sl ((Chg.of_grown H6.out.2.2).own (own_below H5.out.2.1 hal) (fun q hq => own_ty H5.out.2.1 HOut.out (by decide) hq))
        · rw [HR.out.2.2.2.2, stS_snoc]; exact simN_length _ _ _
        · rw [HR.out.2.2.2.2, outS_snoc]
          refine OwnSB.push (H5.out.2.2.1.below hal) (by rw [hq]; exact own_base (own_below H5.out.1 hal) hbz) (fun q u' hq hm e => ?_) H6.out.2.2 (by rw [HR.out.2.2.2.1]; exact H6.out.1)
          obtain ⟨i, hi⟩ := List.mem_iff_getElem?.1 hm
          obtain ⟨r', hr'⟩ := HR.out.1.rget hi
          have h1 := (own_blk (HR.out.1.row i u' r' hi hr') e).2
          have h2 := (own_blk H5.out.1 hq).1
          omega
        · exact (H5.out.2.2.2.2.1.alloc hz5 _).trans H6.out.2.1
        · exact (Chg.of_grown H6.out.2.2).blk (blk_old H5.out.2.2.2.1) (fun e => own_tyb HOut.out H5.out.2.2.2.1 (by decide) e)
      case measure => simp [intOf]; omega
    · obtain rfl : k = rows.length := by omega
      have HR := Lib.hid (And.intro hO hbl)
      clear hO hbl hka hst cb
      go_wp2_with fail
      go_ret
      exact ⟨s', cc, vs, rfl, by have h9 := HR.out.1; rw [List.take_length] at h9; exact h9, HR.out.2⟩

end Go.Proofs.Ytbcolcchchgldaa
