import Derived.Test.YtbcolcchchgldaaZZ8DW
import Derived.Test.YtbcolcchchgldaaZZ8OS
namespace Go.Proofs.Ytbcolcchchgldaa
set_option linter.unusedVariables false
set_option linter.unusedSimpArgs false
open Go.RowKit

/-! Part of the proof of one law. -/

theorem drw_cell {w w' : World} (h : Drew w w') (a : Addr) : w'.cell? a = w.cell? a := by obtain ⟨n, rfl⟩ := h; rfl

theorem drw_frozen {w w' : World} (h : Drew w w') (a : Addr) : w'.frozen? a = w.frozen? a := by obtain ⟨n, rfl⟩ := h; rfl

/-- How many latches are kept below a variable. -/
def kpt (c : Cir) (ni k : Nat) : Nat := kpW c (min (k - (1 + ni)) c.next.length)

theorem kpt_le (c : Cir) (ni k : Nat) : kpt c ni k ≤ c.next.length := by have := kpW_le c (min (k - (1 + ni)) c.next.length); unfold kpt; omega

theorem kpt_zero (c : Cir) (ni : Nat) : kpt c ni 0 = 0 := by
  unfold kpt
  rw [show min (0 - (1 + ni)) c.next.length = 0 by omega]; rfl

theorem kpt_low {c : Cir} {ni k : Nat} (h : k ≤ ni) : kpt c ni (k + 1) = kpt c ni k := by
  unfold kpt
  rw [show k + 1 - (1 + ni) = k - (1 + ni) by omega]

theorem kpt_eq {c : Cir} {ni k : Nat} (h : k ≤ 1 + ni + c.next.length) : kpt c ni k = kpW c (k - (1 + ni)) := by
  unfold kpt
  rw [Nat.min_eq_left (by omega)]

theorem kpt_mid {c : Cir} {ni k : Nat} (h : 1 + ni ≤ k) (h2 : k < 1 + ni + c.next.length) : kpt c ni (k + 1) = kpt c ni k + if (usedW c).getD (1 + c.inp.toNat + (k - (1 + ni))) false then 1 else 0 := by
  rw [kpt_eq (by omega), kpt_eq (by omega), show k + 1 - (1 + ni) = k - (1 + ni) + 1 by omega, kpW_succ]

theorem kpt_high {c : Cir} {ni k : Nat} (h : 1 + ni + c.next.length ≤ k) : kpt c ni (k + 1) = kpt c ni k := by
  unfold kpt
  rw [Nat.min_eq_right (by omega), Nat.min_eq_right (by omega)]

theorem kpt_all {c : Cir} {ni k : Nat} (h : 1 + ni + c.next.length ≤ k) : kpt c ni k = kpW c c.next.length := by
  unfold kpt
  rw [Nat.min_eq_right (by omega)]

set_option maxRecDepth 100000 in
set_option maxHeartbeats 12800000 in
theorem RemoveLatches_i (v : Value) (c : Cir) (w : World) (h : CirV w v c) :
    Calls Try.prog 29 #[v] w fun e w' => ∃ vn vg vo, e = .returned (.agg #[.int .i64 (rmR c).inp, vn, vg, vo]) ∧ CirOwn w' w.heap.size (rmR c) vn vg vo ∧ Below w.heap.size w w' := by
  have HG := Lib.hid h
  obtain ⟨sn, cn, sg, cg, so, co, rfl, h1, h2, h3, -, -, -⟩ := h
  have HSL : Hid (∀ W, Below w.heap.size w W → Sl W sn (ints c.next) ∧ Sl W sg (gcells c.gates) ∧ Sl W so (ints c.outs)) := fun W hW => ⟨h1.mono hW, h2.mono hW, h3.mono hW⟩
  clear h1 h2 h3
  obtain ⟨W0, hW0⟩ : ∃ W0, W0 = (w.alloc (.cells #[.int .i64 c.inp, .slice sn c.next.length cn, .slice sg c.gates.length cg, .slice so c.outs.length co] 26)).alloc (.cells #[.int .i64 0, .slice none 0 0, .slice none 0 0, .slice none 0 0] 26) := ⟨_, rfl⟩
  obtain ⟨A, hA⟩ : ∃ A, A = w.heap.size := ⟨_, rfl⟩
  have z1 : W0.heap.size = A + 2 := by rw [hW0, hA]; simp
  have z2 : W0.heap[A]? = some (.cells #[.int .i64 c.inp, .slice sn c.next.length cn, .slice sg c.gates.length cg, .slice so c.outs.length co] 26 (0, 0)) := by rw [hW0, hA]; exact blk_old (blk_new w _)
  have z3 : W0.heap[A + 1]? = some (.cells #[.int .i64 0, .slice none 0 0, .slice none 0 0, .slice none 0 0] 26 (0, 0)) := by rw [hW0, hA]; exact blk_at (by simp)
  have z4 : Below w.heap.size w W0 := by rw [hW0]; exact ((Below.refl _ _).alloc (Nat.le_refl _) _).alloc (by simp) _
  have HW := Lib.hid (And.intro hW0 (And.intro hA z1))
  have HB : Hid (∀ W, Below W0.heap.size W0 W → (∀ o, W.cell? ⟨A, o, none⟩ = #[Value.int .i64 c.inp, .slice sn c.next.length cn, .slice sg c.gates.length cg, .slice so c.outs.length co][o]?) ∧ W.heap[A + 1]? = some (.cells #[.int .i64 0, .slice none 0 0, .slice none 0 0, .slice none 0 0] 26 (0, 0)) ∧ CirV W (.agg #[.int .i64 c.inp, .slice sn c.next.length cn, .slice sg c.gates.length cg, .slice so c.outs.length co]) c ∧ Below w.heap.size w W) := fun W hW => ⟨(blk_all (blk_below hW (by omega) z2)).1, blk_below hW (by omega) z3, HG.out.mono (z4.trans (hW.mono z4.size)), z4.trans (hW.mono z4.size)⟩
  clear hW0 hA z1 z2 z3 z4
  cases hv : c.validB
  · rw [rmR_no hv]
    have HV := Lib.hid hv
    clear hv
    go_enter Try.func29, Try.ntmps29
    go_upto_region 1 with fail
    rw [← HW.out.1, ← HW.out.2.1]
    have cb := (HB.out _ (Below.refl _ _)).1
    go_upto_region 2 with (go_at_call 18; ((with_reducible refine (CircuitValid_i _ c _ (HB.out _ (Below.refl _ _)).2.2.1).mono ?_); rintro e w1 ⟨rfl, hq⟩; rw [HV.out]; have H1 := Lib.hid hq; clear hq cb; obtain ⟨rc, rf⟩ := blk_all (HB.out _ H1.out).2.1))
    go_wp2_with fail
    have hZ : ((((w1.setCell ⟨A + 1, 0, none⟩ (.int .i64 0)).setCell ⟨A + 1, 1, none⟩ (.slice none 0 0)).setCell ⟨A + 1, 2, none⟩ (.slice none 0 0)).setCell ⟨A + 1, 3, none⟩ (.slice none 0 0)).heap[A + 1]? = some (.cells #[.int .i64 0, .slice none 0 0, .slice none 0 0, .slice none 0 0] 26 (0, 0)) := by
      simpa using blk_set (o := 3) (v := .slice none 0 0) (blk_set (o := 2) (v := .slice none 0 0) (blk_set (o := 1) (v := .slice none 0 0) (blk_set (o := 0) (v := .int .i64 0) (HB.out _ H1.out).2.1)))
    have hA2 := HW.out.2.1
    have hbz := ((((HB.out _ H1.out).2.2.2.setCell (p := ⟨A + 1, 0, none⟩) (by simp; omega) (.int .i64 0)).setCell (p := ⟨A + 1, 1, none⟩) (by simp; omega) (.slice none 0 0)).setCell (p := ⟨A + 1, 2, none⟩) (by simp; omega) (.slice none 0 0)).setCell (p := ⟨A + 1, 3, none⟩) (by simp; omega) (.slice none 0 0)
    clear rc rf
    revert hZ hbz
    generalize ((((w1.setCell ⟨A + 1, 0, none⟩ (.int .i64 0)).setCell ⟨A + 1, 1, none⟩ (.slice none 0 0)).setCell ⟨A + 1, 2, none⟩ (.slice none 0 0)).setCell ⟨A + 1, 3, none⟩ (.slice none 0 0)) = WZ
    intro hZ hbz
    have cr := (blk_all hZ).1
    exact bodyPost_ret (v := .agg #[.int .i64 0, .slice none 0 0, .slice none 0 0, .slice none 0 0]) (by simp [results, Try.results29, go_sem, cr]) rfl ⟨_, _, _, rfl, ⟨World.ownsRow_nil _ _ _ _, World.ownsRow_nil _ _ _ _, World.ownsRow_nil _ _ _ _, fun k h => by simp [Value.ownBlock] at h, by simp, by simp, by simp⟩, hbz⟩
  · rw [rmR_yes hv]
    have HV := Lib.hid hv
    have hval := c.validB_iff.1 hv
    obtain ⟨i0, i1, l1, l2, l3⟩ := id hval.lim
    obtain ⟨ni, hni⟩ : ∃ ni : Nat, c.inp = ni := ⟨c.inp.toNat, by omega⟩
    have n4 : ni ≤ 4 := by omega
    obtain ⟨V, hV⟩ : ∃ V : Nat, c.vars = V := ⟨c.vars.toNat, by unfold Cir.vars; omega⟩
    obtain ⟨F, hF⟩ : ∃ F : Nat, F = 1 + ni + c.next.length := ⟨_, rfl⟩
    have hVF : V = F + c.gates.length := by unfold Cir.vars at hV; omega
    have HNL : Hid (∀ W, Below W0.heap.size W0 W → Calls Try.prog 82 #[.pointer (some ⟨A, 0, none⟩)] W fun e w' => ∃ M, e = .returned (.slice (some ⟨M, 0, none⟩) V V) ∧ w'.heap[M]? = some (.cells (bools (usedW c)).toArray 4 (0, 0)) ∧ W.heap.size ≤ M ∧ Below W.heap.size W w') := fun W hW => by
      have h1 := HSL.out W (HB.out W hW).2.2.2
      have h2 := (HB.out W hW).1
      have h9 := neededLatches_any A sn sg so cn cg co c W ⟨h2 0, h2 1, h2 2, h2 3⟩ h1.1 h1.2.1 h1.2.2 hval
      rw [show c.vars.toNat = V by omega] at h9
      exact h9
    have HN := Lib.hid (And.intro hni (And.intro hV (And.intro hF (And.intro hVF hval))))
    have HEV : Hid (1 + (ni : Int) + (c.next.length : Int) + (c.gates.length : Int) = (V : Int)) := by
      show 1 + (ni : Int) + (c.next.length : Int) + (c.gates.length : Int) = (V : Int)
      omega
    have HEF : Hid (1 + (ni : Int) + (c.next.length : Int) = (F : Int)) := by
      show 1 + (ni : Int) + (c.next.length : Int) = (F : Int)
      omega
    have f8 : F ≤ 8 := by omega
    have v22 : V ≤ 22 := by omega
    have fV1 : F + c.gates.length ≤ V := by omega
    have fV2 : V ≤ F + c.gates.length := by omega
    have fn1 : 1 + ni + c.next.length ≤ F := by omega
    have fn2 : F ≤ 1 + ni + c.next.length := by omega
    rw [hni] at HW HB HG
    have eopt : (optC (rmC c)).inp = ni := by rw [← hni]; rfl
    have HCA : Hid (∀ W, Below W0.heap.size W0 W → CirAt W A ni (.slice sn c.next.length cn) (.slice sg c.gates.length cg) (.slice so c.outs.length co)) := fun W hW => by
      have h2 := (HB.out W hW).1
      exact ⟨h2 0, h2 1, h2 2, h2 3⟩
    clear hv hval hV hF hVF i0 i1
    rw [hni]
    clear hni
    have hmk := fun W => mkInts W V (by omega)
    go_enter Try.func29, Try.ntmps29
    go_upto_region 1 with fail
    rw [← HW.out.1, ← HW.out.2.1]
    have cb := (HB.out _ (Below.refl _ _)).1
    go_upto_region 3 with (go_at_call 18; ((with_reducible refine (CircuitValid_i _ c _ (HB.out _ (Below.refl _ _)).2.2.1).mono ?_); rintro e w1 ⟨rfl, hq⟩; rw [HV.out]; have H1 := Lib.hid hq; clear hq cb; have cb := (HB.out _ H1.out).1))
    go_upto_region 4 with (go_at_call 82; ((with_reducible refine (HNL.out _ H1.out).mono ?_); rintro e w2 ⟨M, rfl, hm, hms, hq⟩; have H2 := Lib.hid (And.intro hm (And.intro (H1.out.trans (hq.mono H1.out.size)) (show w1.heap.size ≤ M from hms))); clear hm hq hms cb; have cb := (HB.out _ H2.out.2.1).1))
    go_upto_region 5 with (go_at_call 69; ((with_reducible refine (vars_any _ _ _ _ _ _ _ _ _ _ (HCA.out _ H2.out.2.1) (by omega) (by omega) (by omega)).mono ?_); rintro e w3 ⟨rfl, hd⟩; rw [HEV.out]; have H3 := Lib.hid (And.intro (show w3.heap[M]? = some (.cells (bools (usedW c)).toArray 4 (0, 0)) by rw [hd.heap]; exact H2.out.1) (show Below W0.heap.size W0 w3 from H2.out.2.1.trans (hd.below _))); clear hd cb; have cb := (HB.out _ H3.out.2).1))
    obtain ⟨PL, hPL⟩ : ∃ PL, PL = w3.heap.size := ⟨_, rfl⟩
    have hMP : M < PL := by rw [hPL]; exact blk_lt H3.out.1
    have z1 : ((w3.alloc (.cells (ints (List.replicate V 0)).toArray 3)).alloc (.cells #[.slice (some ⟨w3.heap.size, 0, none⟩) V V] 23)).heap[PL]? = some (.cells (ints (plJ c V F 0)).toArray 3 (0, 0)) := by rw [hPL, plJ_zero]; exact blk_old (blk_new _ _)
    have z2 : ((w3.alloc (.cells (ints (List.replicate V 0)).toArray 3)).alloc (.cells #[.slice (some ⟨w3.heap.size, 0, none⟩) V V] 23)).heap[PL + 1]? = some (.cells #[.slice (some ⟨PL, 0, none⟩) V V] 23 (0, 0)) := by rw [hPL]; exact blk_at (by simp)
    have z3 : Below w3.heap.size w3 ((w3.alloc (.cells (ints (List.replicate V 0)).toArray 3)).alloc (.cells #[.slice (some ⟨w3.heap.size, 0, none⟩) V V] 23)) := ((Below.refl w3.heap.size w3).alloc (Nat.le_refl _) _).alloc (by simp) _
    rw [← hPL] at z1 z2 z3
    rw [← hPL]
    clear hmk cb
    have HX : Hid (∀ W, Below PL w3 W → W.heap[M]? = some (.cells (bools (usedW c)).toArray 4 (0, 0)) ∧ Below W0.heap.size W0 W) := fun W hW => by
      rw [hPL] at hW
      exact ⟨blk_below hW (blk_lt H3.out.1) H3.out.1, H3.out.2.trans (hW.mono H3.out.2.size)⟩
    have HWP : Hid (W0.heap.size ≤ PL) := by rw [hPL]; exact H3.out.2.size
    clear hPL H1 H2 H3
    revert z1 z2 z3
    generalize ((w3.alloc (.cells (ints (List.replicate V 0)).toArray 3)).alloc (.cells #[.slice (some ⟨PL, 0, none⟩) V V] 23)) = W4
    intro z1 z2 z3
    have cb := (HB.out _ (HX.out _ z3).2).1
    obtain ⟨X, hX⟩ : ∃ X, X = W4.heap.size := ⟨_, rfl⟩
    have hPX : PL + 1 < X := by rw [hX]; exact blk_lt z2
    have y1 := blk_old (o := .cells #[.int .i64 ni, .slice none 0 0, .slice none 0 0, .slice none 0 0] 26) z1
    have y2 := blk_old (o := .cells #[.int .i64 ni, .slice none 0 0, .slice none 0 0, .slice none 0 0] 26) z2
    have y3 := blk_new W4 (.cells #[.int .i64 ni, .slice none 0 0, .slice none 0 0, .slice none 0 0] 26)
    have y4 := z3.alloc (by omega) (.cells #[.int .i64 ni, .slice none 0 0, .slice none 0 0, .slice none 0 0] 26)
    rw [← hX] at y3
    clear z1 z2 z3
    go_upto_region 6 with fail
    rw [← hX]
    clear hX cb
    revert y1 y2 y3 y4
    generalize W4.alloc (.cells #[.int .i64 ni, .slice none 0 0, .slice none 0 0, .slice none 0 0] 26) = W5
    intro y1 y2 y3 y4
    obtain ⟨Y, hY⟩ : ∃ Y, Y = W5.heap.size := ⟨_, rfl⟩
    have hXY : X < Y := by rw [hY]; exact blk_lt y3
    have HNX : Hid (∀ W, OneB PL Y W5 W → Below PL w3 W) := fun W h => y4.trans (h.below2 (Nat.le_refl _) (by omega))
    have HPV : Hid (∀ W, OneB PL Y W5 W → W.heap[PL + 1]? = some (.cells #[.slice (some ⟨PL, 0, none⟩) V V] 23 (0, 0)) ∧ W.heap[X]? = some (.cells #[.int .i64 ni, .slice none 0 0, .slice none 0 0, .slice none 0 0] 26 (0, 0))) := fun W h =>
      ⟨h.1.blk y2 (fun e => by rcases e with e | e <;> omega), h.1.blk y3 (fun e => by rcases e with e | e <;> omega)⟩
    have HI := Lib.hid (And.intro y1 (OneB.refl (X := PL) (Y := Y) (w := W5) (Nat.le_of_eq hY)))
    clear y1 y2 y3 y4 hY
    have cb := (HB.out _ (HX.out _ (HNX.out _ HI.out.2)).2).1
    have cv : W5.cell? ⟨PL + 1, 0, none⟩ = some (.slice (some ⟨PL, 0, none⟩) V V) := blk_cell (HPV.out _ HI.out.2).1
    go_upto_region 8 with fail
    clear cb cv
    go_loopw [31, 6] (fun i kp wr => ∃ k : Nat, k ≤ V ∧ i = .int .i64 k ∧ kp = .int .i64 (1 + (ni : Int) + (kpt c ni k : Int)) ∧ wr.heap[PL]? = some (.cells (ints (plJ c V F k)).toArray 3 (0, 0)) ∧ OneB PL Y W5 wr) (fun i _ _ => V - (intOf i).toNat)
    case atStart => exact ⟨0, Nat.zero_le _, rfl, by rw [kpt_zero]; simp, HI.out.1, HI.out.2⟩
    case round =>
      obtain ⟨k, hk, rfl, rfl, hb, hz⟩ := hrel
      have cb := (HB.out _ (HX.out _ (HNX.out _ hz)).2).1
      have cv : wr.cell? ⟨PL + 1, 0, none⟩ = some (.slice (some ⟨PL, 0, none⟩) V V) := blk_cell (HPV.out _ hz).1
      obtain ⟨kq, hkq⟩ : ∃ kq, kq = kpt c ni k := ⟨_, rfl⟩
      have hkq3 : kq ≤ 3 := by rw [hkq]; have := kpt_le c ni k; omega
      by_cases hlt : k < V
      · obtain ⟨x, hx⟩ := get_of_lt (l := plJ c V F k) (k := k) (by rw [plJ_length]; exact hlt)
        have zp := ints_cell hb hx
        have zf : wr.frozen? ⟨PL, k, none⟩ = false := blk_free hb
        by_cases hni : k ≤ ni
        · have hpl : plW c k = k := by unfold plW; rw [if_pos (by have := HN.out.1; omega)]
          have hkn : kpt c ni (k + 1) = kq := by rw [hkq]; exact kpt_low hni
          have hlow : (k : Int) < 1 + (ni : Int) := by omega
          rw [← hkq]
          have HR := Lib.hid (And.intro hb (And.intro hz (And.intro hpl hkn)))
          clear hb hz hpl hkn hkq hx
          go_wp2_with fail
          clear cb cv zp zf
          go_roundw
          case rel => exact ⟨k + 1, by omega, by go_num, by rw [HR.out.2.2.2], by rw [← plJ_set (by omega), HR.out.2.2.1]; exact ints_blk_set HR.out.1 k (k : Int), HR.out.2.1.set k _⟩
          case measure => simp [intOf]; omega
        · have hlow : ¬ (k : Int) < 1 + (ni : Int) := by omega
          by_cases hF : k < F
          · obtain ⟨ub, hxu⟩ := get_of_lt (l := usedW c) (k := k) (by rw [usedW_length]; have := HN.out.2.1; omega)
            have zu := bools_cell (HX.out _ (HNX.out _ hz)).1 hxu
            have hue : (usedW c).getD (1 + c.inp.toNat + (k - (1 + ni))) false = ub := by
              rw [show 1 + c.inp.toNat + (k - (1 + ni)) = k by have := HN.out.1; omega, List.getD_eq_getElem?_getD, hxu]; rfl
            have hkn := kpt_mid (c := c) (ni := ni) (k := k) (by omega) (by omega)
            rw [hue, ← hkq] at hkn
            have hpl : plW c k = if ub = true then 1 + ni + kq else 0 := by
              have h9 := HN.out.1
              have e : (usedW c).getD k false = ub := by rw [← hue, show 1 + c.inp.toNat + (k - (1 + ni)) = k by omega]
              have e2 : kq = kpW c (k - (1 + c.inp.toNat)) := by rw [hkq, kpt_eq (by omega)]; congr 1; omega
              unfold plW
              rw [if_neg (by omega), if_pos (by omega), e, ← e2, show 1 + c.inp.toNat = 1 + ni by omega]
            have hll : (ni : Int) < (k : Int) ∧ (k : Int) < 1 + (ni : Int) + (c.next.length : Int) := by omega
            rw [← hkq]
            have HR := Lib.hid (And.intro hb (And.intro hz (And.intro hpl (And.intro hkn hll))))
            have HCW : Hid (CirAt wr A ni (.slice sn c.next.length cn) (.slice sg c.gates.length cg) (.slice so c.outs.length co)) := HCA.out _ (HX.out _ (HNX.out _ hz)).2
            clear hb hz hpl hkn hkq hx hue hxu hll
            cases ub
            · go_wp2_with (go_at_call 81; ((with_reducible refine (isLatch_any _ _ _ _ _ _ _ _ _ HCW.out (by omega) (by omega)).mono ?_); rintro e w6 ⟨rfl, hd⟩; rw [decide_eq_true HR.out.2.2.2.2]; replace zu := (drw_cell hd _).trans zu; replace zp := (drw_cell hd _).trans zp; replace zf := (drw_frozen hd _).trans zf; have H6 := Lib.hid (And.intro (show w6.heap[PL]? = some (.cells (ints (plJ c V F k)).toArray 3 (0, 0)) by rw [hd.heap]; exact HR.out.1) (show OneB PL Y W5 w6 from HR.out.2.1.below (hd.below _))); clear hd cb cv))
              clear zu zp zf
              go_roundw
              case rel => exact ⟨k + 1, by omega, by go_num, by have := HR.out.2.2.2.1; simp at this; rw [this], by rw [plJ_same (.inl (by have := HR.out.2.2.1; simpa using this))]; exact H6.out.1, H6.out.2⟩
              case measure => simp [intOf]; omega
            · go_wp2_with (go_at_call 81; ((with_reducible refine (isLatch_any _ _ _ _ _ _ _ _ _ HCW.out (by omega) (by omega)).mono ?_); rintro e w6 ⟨rfl, hd⟩; rw [decide_eq_true HR.out.2.2.2.2]; replace zu := (drw_cell hd _).trans zu; replace zp := (drw_cell hd _).trans zp; replace zf := (drw_frozen hd _).trans zf; replace cv := (drw_cell hd _).trans cv; have H6 := Lib.hid (And.intro (show w6.heap[PL]? = some (.cells (ints (plJ c V F k)).toArray 3 (0, 0)) by rw [hd.heap]; exact HR.out.1) (show OneB PL Y W5 w6 from HR.out.2.1.below (hd.below _))); clear hd cb))
              clear zu zp zf cv
              go_roundw
              case rel => exact ⟨k + 1, by omega, by go_num, by have := HR.out.2.2.2.1; simp at this; rw [this]; go_num, by rw [← plJ_set hF, show plW c k = 1 + ni + kq from by have := HR.out.2.2.1; simpa using this, show ((1 + ni + kq : Nat) : Int) = 1 + (ni : Int) + (kq : Int) by omega]; exact ints_blk_set H6.out.1 k _, H6.out.2.set k _⟩
              case measure => simp [intOf]; omega
          · have hkn : kpt c ni (k + 1) = kq := by rw [hkq]; exact kpt_high (by omega)
            have hll : ¬ ((ni : Int) < (k : Int) ∧ (k : Int) < 1 + (ni : Int) + (c.next.length : Int)) := by omega
            rw [← hkq]
            have HR := Lib.hid (And.intro hb (And.intro hz (And.intro hkn hll)))
            have HCW : Hid (CirAt wr A ni (.slice sn c.next.length cn) (.slice sg c.gates.length cg) (.slice so c.outs.length co)) := HCA.out _ (HX.out _ (HNX.out _ hz)).2
            clear hb hz hkn hkq hx hll
            go_wp2_with (go_at_call 81; ((with_reducible refine (isLatch_any _ _ _ _ _ _ _ _ _ HCW.out (by omega) (by omega)).mono ?_); rintro e w6 ⟨rfl, hd⟩; rw [decide_eq_false HR.out.2.2.2]; have H6 := Lib.hid (And.intro (show w6.heap[PL]? = some (.cells (ints (plJ c V F k)).toArray 3 (0, 0)) by rw [hd.heap]; exact HR.out.1) (show OneB PL Y W5 w6 from HR.out.2.1.below (hd.below _))); clear hd cb cv zp zf))
            go_roundw
            case rel => exact ⟨k + 1, by omega, by go_num, by rw [HR.out.2.2.1], by rw [plJ_same (.inr (by omega))]; exact H6.out.1, H6.out.2⟩
            case measure => simp [intOf]; omega
      · obtain rfl : V = k := by omega
        have hkn : kq = kpW c c.next.length := by rw [hkq]; exact kpt_all (by omega)
        rw [← hkq]
        rw [plJ_done] at hb
        have HKN := Lib.hid hkn
        have HI2 := Lib.hid (And.intro hb hz)
        clear hkn hkq hb hz cv
        have HCV : Hid (∀ W, OneB PL Y W5 W → W.cell? ⟨PL + 1, 0, none⟩ = some (.slice (some ⟨PL, 0, none⟩) V V)) := fun W h => blk_cell (HPV.out W h).1
        go_upto_region 17 with (go_at_call 73; ((with_reducible refine (firstGate_any _ _ _ _ _ _ _ _ (HCA.out _ (HX.out _ (HNX.out _ HI2.out.2)).2) (by omega) (by omega)).mono ?_); rintro e w6 ⟨rfl, hd⟩; rw [HEF.out]; have HI3 := Lib.hid (And.intro (show w6.heap[PL]? = some (.cells (ints (plL c V F)).toArray 3 (0, 0)) by rw [hd.heap]; exact HI2.out.1) (show OneB PL Y W5 w6 from HI2.out.2.below (hd.below _))); clear hd cb))
        go_loopw [8] (fun i wr => ∃ k : Nat, F ≤ k ∧ k ≤ V ∧ i = .int .i64 k ∧ wr.heap[PL]? = some (.cells (ints (plL c V k)).toArray 3 (0, 0)) ∧ OneB PL Y W5 wr) (fun i _ => V - (intOf i).toNat)
        case atStart => exact ⟨F, Nat.le_refl _, by omega, rfl, HI3.out.1, HI3.out.2⟩
        case round =>
          obtain ⟨k, hk1, hk, rfl, hb, hz⟩ := hrel
          have cv := HCV.out _ hz
          by_cases hlt : k < V
          · obtain ⟨x, hx⟩ := get_of_lt (l := plL c V k) (k := k) (by rw [plL_length]; exact hlt)
            obtain ⟨T, hT⟩ : ∃ T : Nat, 1 + (ni : Int) + (kq : Int) + (k : Int) = T := ⟨1 + ni + kq + k, by omega⟩
            obtain ⟨R, hR⟩ : ∃ R : Nat, (T : Int) - (F : Int) = R := ⟨T - F, by omega⟩
            have hpl : plW c k = R := by
              have h1 := HN.out.1; have h3 := HKN.out
              unfold plW
              rw [if_neg (by omega), if_neg (by omega)]
              omega
            have wT : IntKind.i64.wrap (T : Int) = (T : Int) := IntWalk.i64_in _ ⟨by omega, by omega⟩
            have wR : IntKind.i64.wrap (R : Int) = (R : Int) := IntWalk.i64_in _ ⟨by omega, by omega⟩
            have HR := Lib.hid (And.intro hb (And.intro hz (And.intro hpl hx)))
            clear hb hz hpl hx
            go_upto_region 19 with fail
            clear cv
            refine wp_region_T (fun w' => w'.cell? ⟨PL + 1, 0, none⟩ = some (.slice (some ⟨PL, 0, none⟩) V V)) (.q 0 (.q 1 (.q 2 (.q 3 (.q 4 (.e 5 (.q 6 (.q 7 (.e 8 .nil))))))))) (by kernel_rfl) (by kernel_rfl) (by kernel_rfl) (HCV.out _ HR.out.2.1.drewZ) ?_
            repeat (first | (refine ordt_s (o := ?_) ?_ ?_ ?_; rotate_left 1; (focus ((simp only [zD, zE, zF]) <;> rfl)); (focus rfl); simp only [Act.put, zA, zB, zC]) | (refine ordt_q (o := ?_) (v := ?_) ?_ ?_ ?_ ?_; rotate_left 2; (focus ((simp only [zD, zE, zF]) <;> rfl)); (focus rfl); (focus (intro w' hS; (try dsimp only at hS); go_split_ands; go_simp; (try (with_reducible rfl)))); simp only [Act.put, zA, zB, zC]))
            refine ordt_e ?_
            (refine op_e (o := ?_) ?_ ?_ (fun K hK => ?_); rotate_left 1; (focus ((simp only [zD, zE, zF]) <;> rfl)); (focus rfl); go_simp)
            refine (firstGate_any _ _ _ _ _ _ _ _ (HCA.out _ (HX.out _ (HNX.out _ HR.out.2.1.drewZ)).2) (by omega) (by omega)).mono ?_
            rintro e w6 ⟨rfl, hd⟩
            rw [HEF.out]
            have h6 : w6.heap[PL]? = some (.cells (ints (plL c V k)).toArray 3 (0, 0)) := by rw [hd.heap]; exact HR.out.1
            have hz6 : OneB PL Y W5 w6 := HR.out.2.1.drewZ.below (hd.below _)
            refine hK.out _ _ (HCV.out _ hz6) ?_
            clear hK K hd
            have zp := ints_cell h6 HR.out.2.2.2
            have zf : w6.frozen? ⟨PL, k, none⟩ = false := blk_free h6
            have H6 := Lib.hid (And.intro (ints_blk_set h6 k (R : Int)) (hz6.set k (.int .i64 (R : Int))))
            clear h6 hz6
            (try simp only [Act.put, zA, zB, zC])
            repeat (first | (refine ordt_s (o := ?_) ?_ ?_ ?_; rotate_left 1; (focus ((simp only [zD, zE, zF]) <;> rfl)); (focus rfl); simp only [Act.put, zA, zB, zC]) | (refine ordt_q (o := ?_) (v := ?_) ?_ ?_ ?_ ?_; rotate_left 2; (focus ((simp only [zD, zE, zF]) <;> rfl)); (focus rfl); (focus (intro w' hS; (try dsimp only at hS); go_split_ands; go_simp; (try (with_reducible rfl)))); simp only [Act.put, zA, zB, zC]))
            refine ordt_e ?_
            (refine op_e (o := ?_) ?_ ?_ (fun K hK => ?_); rotate_left 1; (focus ((simp only [zD, zE, zF]) <;> rfl)); (focus rfl); go_simp)
            refine hK.out _ _ (HCV.out _ H6.out.2) ?_
            clear hK K zp zf
            (try simp only [Act.put, zA, zB, zC])
            refine ordt_nil ?_
            go_wp2_with fail
            go_roundw
            case rel => exact ⟨k + 1, by omega, by omega, by go_num, by rw [← plL_set, HR.out.2.2.1]; exact H6.out.1, H6.out.2⟩
            case measure => simp [intOf]; omega
          · obtain rfl : V = k := by omega
            obtain ⟨Z, rfl⟩ : ∃ Z, Z = wr := ⟨_, rfl⟩
            obtain ⟨Y3, hY3⟩ : ∃ Y, Y = Z.heap.size := ⟨_, rfl⟩
            have hYY : Y ≤ Y3 := by rw [hY3]; exact hz.size
            have HNZ : Hid (∀ W, OneB X Y3 Z W → Below PL w3 W) := fun W h => (HNX.out Z hz).trans (h.below2 (by omega) (by omega))
            have HPZ : Hid (∀ W, OneB X Y3 Z W → W.heap[PL + 1]? = some (.cells #[.slice (some ⟨PL, 0, none⟩) V V] 23 (0, 0)) ∧ W.heap[PL]? = some (.cells (ints (plL c V V)).toArray 3 (0, 0))) := fun W h =>
              ⟨h.1.blk (HPV.out Z hz).1 (fun e => by rcases e with e | e <;> omega), h.1.blk hb (fun e => by rcases e with e | e <;> omega)⟩
            have HUSE : Hid (∀ W, OneB X Y3 Z W → ∀ l : Int, 0 ≤ l → l / 2 < (V : Int) → Calls Try.prog 83 #[.int .i64 l, .pointer (some ⟨PL + 1, 0, none⟩)] W fun e w' => e = .returned (.int .i64 (rmL c l)) ∧ W = w') := fun W h l l0 l1 =>
              useRm_any c (PL + 1) PL V l W (blk_cell (HPZ.out W h).1) (HPZ.out W h).2 l0 l1 v22
            have HZ0 := Lib.hid (And.intro (HPV.out Z hz).2 (And.intro (World.ownsRow_nil Z Y3 3 1) (OneB.refl (X := X) (Y := Y3) (w := Z) (Nat.le_of_eq hY3))))
            clear hb hz hY3 cv
            have cb := (HB.out _ (HX.out _ (HNZ.out _ HZ0.out.2.2)).2).1
            have cv : Z.cell? ⟨PL + 1, 0, none⟩ = some (.slice (some ⟨PL, 0, none⟩) V V) := blk_cell (HPZ.out _ HZ0.out.2.2).1
            go_wp2_with fail
            clear cb cv
            go_loopw [79] (fun i wr => ∃ (k : Nat) (s : Option Addr) (cc : Nat), k ≤ c.next.length ∧ i = .int .i64 k ∧ wr.heap[X]? = some (.cells #[.int .i64 ni, .slice s (kpW c k) cc, .slice none 0 0, .slice none 0 0] 26 (0, 0)) ∧ wr.ownsRow Y3 3 1 (.slice s (kpW c k) cc) (kpW c k) (ints (nxW c k)) ∧ OneB X Y3 Z wr) (fun i _ => c.next.length - (intOf i).toNat)
            case atStart => exact ⟨0, _, _, Nat.zero_le _, rfl, HZ0.out.1, HZ0.out.2.1, HZ0.out.2.2⟩
            case round =>
              obtain ⟨k, s, cc, hk, rfl, hxb, ho, hz⟩ := hrel
              have cb := (HB.out _ (HX.out _ (HNZ.out _ hz)).2).1
              by_cases hlt : k < c.next.length
              · obtain ⟨q, hq⟩ : ∃ q : Nat, 1 + (ni : Int) + (k : Int) = q := ⟨1 + ni + k, by omega⟩
                have hqV : q < V := by omega
                obtain ⟨ubit, hxu⟩ := get_of_lt (l := usedW c) (k := q) (by rw [usedW_length]; have := HN.out.2.1; omega)
                have zu := bools_cell (HX.out _ (HNZ.out _ hz)).1 hxu
                have hue : (usedW c).getD (1 + c.inp.toNat + k) false = ubit := by
                  rw [show 1 + c.inp.toNat + k = q by have := HN.out.1; omega, List.getD_eq_getElem?_getD, hxu]; rfl
                obtain ⟨x, hx⟩ := get_of_lt hlt
                have hkp := kpW_succ c k
                have hnx := nxW_some hx
                rw [hue] at hkp hnx
                obtain ⟨xb, xf, rfl, -, zx⟩ := (HSL.out _ (HB.out _ (HX.out _ (HNZ.out _ hz)).2).2.2.2).1.int (Below.refl _ _) hx
                obtain ⟨x0, x1⟩ : 0 ≤ x ∧ x / 2 < (V : Int) := by
                  have h1 : 0 ≤ x ∧ x < 2 * c.vars := HN.out.2.2.2.2.next x (List.mem_of_getElem? hx)
                  have h2 := HN.out.2.1
                  omega
                have hkk : kpW c (k + 1) ≤ k + 1 := kpW_le c (k + 1)
                have HR := Lib.hid (And.intro hxb (And.intro ho hz))
                clear hxb ho hz hx hue hxu
                cases ubit
                · have HRK := Lib.hid (And.intro hkp hnx)
                  clear hkp hnx
                  go_wp2_with fail
                  clear cb zu hq zx
                  go_roundw
                  case rel => exact ⟨k + 1, s, cc, by omega, by go_num, by have := HRK.out.1; simp at this; rw [this]; exact HR.out.1, by have h1 := HRK.out.1; have h2 := HRK.out.2; simp at h1 h2; rw [h1, h2]; exact HR.out.2.1, HR.out.2.2⟩
                  case measure => simp [intOf]; omega
                · have HRK : Hid (kpW c (k + 1) = kpW c k + 1 ∧ nxW c (k + 1) = nxW c k ++ [rmL c x]) := ⟨by rw [hkp]; rfl, by rw [hnx]; rfl⟩
                  clear hkp hnx
                  go_upto_region 25 with fail
                  clear cb
                  refine wp_region_E (fun w' => ∀ o, w'.cell? ⟨X, o, none⟩ = #[Value.int .i64 ni, .slice s (kpW c k) cc, .slice none 0 0, .slice none 0 0][o]?) 8 (.q 0 (.q 1 (.q 2 (.q 3 (.e 4 (.e 5 (.e 6 (.q 7 (.z 8))))))))) (by kernel_rfl) (by kernel_rfl) (by kernel_rfl) (by kernel_rfl) (by kernel_rfl) (by kernel_rfl) (blk_all HR.out.1).1 ?_
                  repeat (first | (refine orde_s (o := ?_) ?_ ?_ ?_; rotate_left 1; (focus ((simp only [zD, zE, zF]) <;> rfl)); (focus rfl); simp only [Act.put, zA, zB, zC]) | (refine orde_q (o := ?_) (v := ?_) ?_ ?_ ?_ ?_; rotate_left 2; (focus ((simp only [zD, zE, zF]) <;> rfl)); (focus rfl); (focus (intro w' hS; (try dsimp only at hS); go_split_ands; go_simp; (try (with_reducible rfl)))); simp only [Act.put, zA, zB, zC]))
                  refine orde_e ?_
                  (refine ope_e (o := ?_) ?_ ?_ (fun K hK => ?_); rotate_left 1; (focus ((simp only [zD, zE, zF]) <;> rfl)); (focus rfl); go_simp)
                  refine (HUSE.out _ (HR.out.2.2.below (Below.refl _ _).drew) x x0 x1).mono ?_
                  rintro e wa ⟨rfl, rfl⟩
                  refine hK.out _ _ (blk_all HR.out.1).1 ?_
                  clear hK K
                  (try simp only [Act.put, zA, zB, zC])
                  refine orde_e ?_
                  (refine ope_e (o := ?_) ?_ ?_ (fun K hK => ?_); rotate_left 1; (focus ((simp only [zD, zE, zF]) <;> rfl)); (focus rfl); go_simp)
                  have hb1 : Below wr.heap.size wr (wr.alloc (.cells #[.int .i64 (rmL c x)] 3)).drew := ((Below.refl _ _).alloc (Nat.le_refl _) _).drew
                  have hs1 : Sl (wr.alloc (.cells #[.int .i64 (rmL c x)] 3)).drew (some ⟨wr.heap.size, 0, none⟩) [.int .i64 (rmL c x)] := (Sl.new wr _ _).drew
                  revert hb1 hs1
                  generalize (wr.alloc (.cells #[.int .i64 (rmL c x)] 3)).drew = W7
                  intro hb1 hs1
                  have hx7 := blk_below hb1 (blk_lt HR.out.1) HR.out.1
                  have ho7 := own_below HR.out.2.1 hb1
                  have hz7 := HR.out.2.2.below (hb1.mono HR.out.2.2.size)
                  refine hK.out _ _ (blk_all hx7).1 ?_
                  clear hK K
                  have H7 := Lib.hid (And.intro hx7 (And.intro ho7 (And.intro hz7 hs1)))
                  clear hx7 ho7 hz7 hs1 hb1
                  (try simp only [Act.put, zA, zB, zC])
                  refine orde_e ?_
                  (refine ope_e (o := ?_) ?_ ?_ (fun K hK => ?_); rotate_left 1; (focus ((simp only [zD, zE, zF]) <;> rfl)); (focus rfl))
                  refine wp_app (.tmp 93) (.tmp 97) rfl elem_int H7.out.2.1 rfl rfl (by simp) H7.out.2.2.2 (by simp [Value.oneCell']) (kpW c (k + 1)) (HRK.out.1.symm) (ints (nxW c (k + 1))) (by rw [HRK.out.2]; exact ints_snoc rfl) (by unfold maxLen; omega) (by omega) H7.out.2.2.1.size ?_
                  intro s7 c7 W8 ho8 hb8 hg8 hob8
                  have hx8 := (Chg.of_grown hg8).blk H7.out.1 (fun e => own_tyb H7.out.2.1 H7.out.1 (by decide) e)
                  have hz8 := H7.out.2.2.1.below hb8
                  refine hK.out _ _ (blk_all hx8).1 ?_
                  clear hK K
                  have y1 : W8.cell? ⟨X, 1, none⟩ = some (.slice s (kpW c k) cc) := blk_cell hx8
                  have y2 : W8.frozen? ⟨X, 1, none⟩ = false := blk_free hx8
                  have hz9 := hz8.set 1 (.slice s7 (kpW c (k + 1)) c7)
                  have ho9 := own_set_ne (o := 1) ho8 (own_tyb ho8 hx8 (by decide)) (.slice s7 (kpW c (k + 1)) c7)
                  have hx9 : (W8.setCell ⟨X, 1, none⟩ (.slice s7 (kpW c (k + 1)) c7)).heap[X]? = some (.cells #[.int .i64 ni, .slice s7 (kpW c (k + 1)) c7, .slice none 0 0, .slice none 0 0] 26 (0, 0)) := by simpa using blk_set (o := 1) (v := .slice s7 (kpW c (k + 1)) c7) hx8
                  have H8 := Lib.hid (And.intro hx9 (And.intro ho9 hz9))
                  clear hx8 hz8 hz9 ho9 hx9 ho8 hb8 hg8 hob8
                  (try simp only [Act.put, zA, zB, zC])
                  repeat (first | (refine orde_s (o := ?_) ?_ ?_ ?_; rotate_left 1; (focus ((simp only [zD, zE, zF]) <;> rfl)); (focus rfl); simp only [Act.put, zA, zB, zC]) | (refine orde_q (o := ?_) (v := ?_) ?_ ?_ ?_ ?_; rotate_left 2; (focus ((simp only [zD, zE, zF]) <;> rfl)); (focus rfl); (focus (intro w' hS; (try dsimp only at hS); go_split_ands; go_simp; (try (with_reducible rfl)))); simp only [Act.put, zA, zB, zC]))
                  (refine orde_z (o := ?_) ?_ ?_ (fun K hK => ?_); rotate_left 1; (focus ((simp only [zD, zE, zF]) <;> rfl)); (focus rfl); go_simp)
                  refine hK.out _ _ ?_
                  clear hK K y1 y2
                  go_wp2_with fail
                  go_roundw
                  case rel => exact ⟨k + 1, s7, c7, by omega, by go_num, H8.out.1, H8.out.2.1, H8.out.2.2⟩
                  case measure => simp [intOf]; omega
              · obtain rfl : k = c.next.length := by omega
                obtain ⟨sN, rfl⟩ : ∃ sN, sN = s := ⟨_, rfl⟩
                obtain ⟨cN, rfl⟩ : ∃ cN, cN = cc := ⟨_, rfl⟩
                obtain ⟨Z4, rfl⟩ : ∃ Z, Z = wr := ⟨_, rfl⟩
                obtain ⟨Y4, hY4⟩ : ∃ Y, Y = Z4.heap.size := ⟨_, rfl⟩
                have hYY4 : Y3 ≤ Y4 := by rw [hY4]; exact hz.size
                have HUP4 : Hid (∀ W, OneB X Y4 Z4 W → OneB X Y3 Z W) := fun W h => hz.trans (h.up hYY4)
                have HNO : Hid (∀ W, OneB X Y4 Z4 W → W.ownsRow Y3 3 1 (.slice sN (kpW c c.next.length) cN) (kpW c c.next.length) (ints (nxW c c.next.length))) := fun W h => h.own ho (own_tyb ho hxb (by decide)) (fun k hk => by rw [hY4]; exact (own_blk ho hk).2)
                have HNB : Hid (∀ k, (Value.slice sN (kpW c c.next.length) cN).ownBlock = some k → k < Y4) := fun k hk => by rw [hY4]; exact (own_blk ho hk).2
                have HZ1 := Lib.hid (And.intro hxb (And.intro (World.ownsRow_nil Z4 Y4 38 2) (OneB.refl (X := X) (Y := Y4) (w := Z4) (Nat.le_of_eq hY4))))
                have hXY4 : X < Y4 := by omega
                clear ho hxb hz hY4
                go_upto_region 28 with fail
                clear cb
                go_loopw [104] (fun i wr => ∃ (k : Nat) (s : Option Addr) (cc : Nat), k ≤ c.gates.length ∧ i = .int .i64 k ∧ wr.heap[X]? = some (.cells #[.int .i64 ni, .slice sN (kpW c c.next.length) cN, .slice s k cc, .slice none 0 0] 26 (0, 0)) ∧ wr.ownsRow Y4 38 2 (.slice s k cc) k (gcells (mapG (rmL c) (c.gates.take k))) ∧ OneB X Y4 Z4 wr) (fun i _ => c.gates.length - (intOf i).toNat)
                case atStart => exact ⟨0, _, _, Nat.zero_le _, rfl, HZ1.out.1, HZ1.out.2.1, HZ1.out.2.2⟩
                case round =>
                  obtain ⟨k, s, cc, hk, rfl, hxb, ho, hz⟩ := hrel
                  have cb := (HB.out _ (HX.out _ (HNZ.out _ (HUP4.out _ hz))).2).1
                  by_cases hlt : k < c.gates.length
                  · obtain ⟨g, hg⟩ := get_of_lt hlt
                    have hcF : c.first = F := by have h1 := HN.out.1; have h2 := HN.out.2.2.1; unfold Cir.first; omega
                    obtain ⟨⟨a0, a1⟩, b0, b1⟩ := valid_gate HN.out.2.2.2.2 hg
                    rw [hcF] at a1 b1
                    obtain ⟨gb, gf, rfl, -, zx, zy⟩ := (HSL.out _ (HB.out _ (HX.out _ (HNZ.out _ (HUP4.out _ hz))).2).2.2.2).2.1.gate (Below.refl _ _) hg
                    have ha2 : g.a / 2 < (V : Int) := by omega
                    have hb2 : g.b / 2 < (V : Int) := by omega
                    have HG2 := Lib.hid hg
                    obtain ⟨GB, hGB⟩ : ∃ GB, GB = wr.heap.size := ⟨_, rfl⟩
                    have q1 := (Below.refl wr.heap.size wr).alloc (Nat.le_refl _) (.cells #[.int .i64 g.a, .int .i64 g.b] 38)
                    have q2 := blk_new wr (.cells #[.int .i64 g.a, .int .i64 g.b] 38)
                    have q3 := own_below ho q1
                    have q4 := blk_below q1 (blk_lt hxb) hxb
                    have q5 := hz.below (q1.mono hz.size)
                    have q6 : (Value.slice s k cc).ownBlock ≠ some GB := fun e => by have := (own_blk ho e).2; omega
                    have q7 : Y4 ≤ GB := by rw [hGB]; exact hz.size
                    rw [← hGB] at q2
                    clear ho hxb hz hg a1 b1 hcF q1
                    go_upto_region 30 with fail
                    rw [← hGB]
                    clear cb zx zy hGB
                    revert q2 q3 q4 q5
                    generalize wr.alloc (.cells #[.int .i64 g.a, .int .i64 g.b] 38) = W6
                    intro q2 q3 q4 q5
                    have H6 := Lib.hid (And.intro q4 (And.intro q3 (And.intro q5 (And.intro q2 (And.intro q6 q7)))))
                    clear q2 q3 q4 q5 q6 q7
                    refine wp_region_E (fun w' => (∀ o, w'.cell? ⟨X, o, none⟩ = #[Value.int .i64 ni, .slice sN (kpW c c.next.length) cN, .slice s k cc, .slice none 0 0][o]?) ∧ (∀ o, w'.cell? ⟨GB, o, none⟩ = #[Value.int .i64 g.a, .int .i64 g.b][o]?)) 14 (.q 0 (.q 1 (.q 2 (.q 3 (.q 4 (.q 6 (.q 7 (.q 8 (.e 5 (.e 9 (.q 10 (.e 11 (.e 12 (.q 13 (.z 14))))))))))))))) (by kernel_rfl) (by kernel_rfl) (by kernel_rfl) (by kernel_rfl) (by kernel_rfl) (by kernel_rfl) ⟨(blk_all H6.out.1).1, (blk_all H6.out.2.2.2.1).1⟩ ?_
                    repeat (first | (refine orde_s (o := ?_) ?_ ?_ ?_; rotate_left 1; (focus ((simp only [zD, zE, zF]) <;> rfl)); (focus rfl); simp only [Act.put, zA, zB, zC]) | (refine orde_q (o := ?_) (v := ?_) ?_ ?_ ?_ ?_; rotate_left 2; (focus ((simp only [zD, zE, zF]) <;> rfl)); (focus rfl); (focus (intro w' hS; (try dsimp only at hS); go_split_ands; go_simp; (try (with_reducible rfl)))); simp only [Act.put, zA, zB, zC]))
                    refine orde_e ?_
                    (refine ope_e (o := ?_) ?_ ?_ (fun K hK => ?_); rotate_left 1; (focus ((simp only [zD, zE, zF]) <;> rfl)); (focus rfl); go_simp)
                    refine (HUSE.out _ (HUP4.out _ (H6.out.2.2.1.below (Below.refl _ _).drew)) g.a a0 ha2).mono ?_
                    rintro e wa ⟨rfl, rfl⟩
                    refine hK.out _ _ ⟨(blk_all H6.out.1).1, (blk_all H6.out.2.2.2.1).1⟩ ?_
                    clear hK K
                    (try simp only [Act.put, zA, zB, zC])
                    refine orde_e ?_
                    (refine ope_e (o := ?_) ?_ ?_ (fun K hK => ?_); rotate_left 1; (focus ((simp only [zD, zE, zF]) <;> rfl)); (focus rfl); go_simp)
                    refine (HUSE.out _ (HUP4.out _ (H6.out.2.2.1.below (Below.refl _ _).drew)) g.b b0 hb2).mono ?_
                    rintro e wa ⟨rfl, rfl⟩
                    refine hK.out _ _ ⟨(blk_all H6.out.1).1, (blk_all H6.out.2.2.2.1).1⟩ ?_
                    clear hK K
                    (try simp only [Act.put, zA, zB, zC])
                    repeat (first | (refine orde_s (o := ?_) ?_ ?_ ?_; rotate_left 1; (focus ((simp only [zD, zE, zF]) <;> rfl)); (focus rfl); simp only [Act.put, zA, zB, zC]) | (refine orde_q (o := ?_) (v := ?_) ?_ ?_ ?_ ?_; rotate_left 2; (focus ((simp only [zD, zE, zF]) <;> rfl)); (focus rfl); (focus (intro w' hS; (try dsimp only at hS); go_split_ands; go_simp; (try (with_reducible rfl)))); simp only [Act.put, zA, zB, zC]))
                    refine orde_e ?_
                    (refine ope_e (o := ?_) ?_ ?_ (fun K hK => ?_); rotate_left 1; (focus ((simp only [zD, zE, zF]) <;> rfl)); (focus rfl); go_simp)
                    have hb1 : Below W6.heap.size W6 (W6.alloc (.cells #[.int .i64 (rmL c g.a), .int .i64 (rmL c g.b)] 38)).drew := ((Below.refl _ _).alloc (Nat.le_refl _) _).drew
                    have hs1 : Sl (W6.alloc (.cells #[.int .i64 (rmL c g.a), .int .i64 (rmL c g.b)] 38)).drew (some ⟨W6.heap.size, 0, none⟩) [.int .i64 (rmL c g.a), .int .i64 (rmL c g.b)] := (Sl.new W6 _ _).drew
                    revert hb1 hs1
                    generalize (W6.alloc (.cells #[.int .i64 (rmL c g.a), .int .i64 (rmL c g.b)] 38)).drew = W7
                    intro hb1 hs1
                    have hx7 := blk_below hb1 (blk_lt H6.out.1) H6.out.1
                    have hg7 := blk_below hb1 (blk_lt H6.out.2.2.2.1) H6.out.2.2.2.1
                    have ho7 := own_below H6.out.2.1 hb1
                    have hz7 := H6.out.2.2.1.below (hb1.mono H6.out.2.2.1.size)
                    refine hK.out _ _ ⟨(blk_all hx7).1, (blk_all hg7).1⟩ ?_
                    clear hK K
                    have H7 := Lib.hid (And.intro hx7 (And.intro ho7 (And.intro hz7 (And.intro hs1 hg7))))
                    clear hx7 ho7 hz7 hs1 hb1 hg7
                    (try simp only [Act.put, zA, zB, zC])
                    refine orde_e ?_
                    (refine ope_e (o := ?_) ?_ ?_ (fun K hK => ?_); rotate_left 1; (focus ((simp only [zD, zE, zF]) <;> rfl)); (focus rfl))
                    refine wp_app (.tmp 109) (.tmp 119) rfl elem_gate H7.out.2.1 rfl rfl (by simp) H7.out.2.2.2.1 (by simp [Value.oneCell']) (k + 1) rfl (gcells (mapG (rmL c) (c.gates.take (k + 1)))) (by rw [mapG_snoc HG2.out, ← gcells_append]; rfl) (by unfold maxLen; omega) (by omega) H7.out.2.2.1.size ?_
                    intro s7 c7 W8 ho8 hb8 hg8 hob8
                    have hx8 := (Chg.of_grown hg8).blk H7.out.1 (fun e => own_tyb H7.out.2.1 H7.out.1 (by decide) e)
                    have hgg8 := (Chg.of_grown hg8).blk H7.out.2.2.2.2 (fun e => H6.out.2.2.2.2.1 e)
                    have hz8 := H7.out.2.2.1.below hb8
                    refine hK.out _ _ ⟨(blk_all hx8).1, (blk_all hgg8).1⟩ ?_
                    clear hK K
                    have y1 : W8.cell? ⟨X, 2, none⟩ = some (.slice s k cc) := blk_cell hx8
                    have y2 : W8.frozen? ⟨X, 2, none⟩ = false := blk_free hx8
                    have hz9 := hz8.set 2 (.slice s7 (k + 1) c7)
                    have ho9 := own_set_ne (o := 2) ho8 (own_tyb ho8 hx8 (by decide)) (.slice s7 (k + 1) c7)
                    have hx9 : (W8.setCell ⟨X, 2, none⟩ (.slice s7 (k + 1) c7)).heap[X]? = some (.cells #[.int .i64 ni, .slice sN (kpW c c.next.length) cN, .slice s7 (k + 1) c7, .slice none 0 0] 26 (0, 0)) := by simpa using blk_set (o := 2) (v := .slice s7 (k + 1) c7) hx8
                    have H8 := Lib.hid (And.intro hx9 (And.intro ho9 hz9))
                    clear hx8 hz8 hz9 ho9 hx9 ho8 hb8 hg8 hob8 hgg8
                    (try simp only [Act.put, zA, zB, zC])
                    repeat (first | (refine orde_s (o := ?_) ?_ ?_ ?_; rotate_left 1; (focus ((simp only [zD, zE, zF]) <;> rfl)); (focus rfl); simp only [Act.put, zA, zB, zC]) | (refine orde_q (o := ?_) (v := ?_) ?_ ?_ ?_ ?_; rotate_left 2; (focus ((simp only [zD, zE, zF]) <;> rfl)); (focus rfl); (focus (intro w' hS; (try dsimp only at hS); go_split_ands; go_simp; (try (with_reducible rfl)))); simp only [Act.put, zA, zB, zC]))
                    (refine orde_z (o := ?_) ?_ ?_ (fun K hK => ?_); rotate_left 1; (focus ((simp only [zD, zE, zF]) <;> rfl)); (focus rfl); go_simp)
                    refine hK.out _ _ ?_
                    clear hK K y1 y2
                    go_wp2_with fail
                    go_roundw
                    case rel => exact ⟨k + 1, s7, c7, by omega, by go_num, H8.out.1, H8.out.2.1, H8.out.2.2⟩
                    case measure => simp [intOf]; omega
                  · obtain rfl : k = c.gates.length := by omega
                    rw [List.take_length] at ho
                    obtain ⟨sG, rfl⟩ : ∃ sN, sN = s := ⟨_, rfl⟩
                    obtain ⟨cG, rfl⟩ : ∃ cN, cN = cc := ⟨_, rfl⟩
                    obtain ⟨Z5, rfl⟩ : ∃ Z, Z = wr := ⟨_, rfl⟩
                    obtain ⟨Y5, hY5⟩ : ∃ Y, Y = Z5.heap.size := ⟨_, rfl⟩
                    have hYY5 : Y4 ≤ Y5 := by rw [hY5]; exact hz.size
                    have HUP5 : Hid (∀ W, OneB X Y5 Z5 W → OneB X Y4 Z4 W) := fun W h => hz.trans (h.up hYY5)
                    have HGO : Hid (∀ W, OneB X Y5 Z5 W → W.ownsRow Y4 38 2 (.slice sG c.gates.length cG) c.gates.length (gcells (mapG (rmL c) c.gates))) := fun W h => h.own ho (own_tyb ho hxb (by decide)) (fun k hk => by rw [hY5]; exact (own_blk ho hk).2)
                    have HUS5 : Hid (∀ W, OneB X Y5 Z5 W → ∀ l : Int, 0 ≤ l → l / 2 < (V : Int) → Calls Try.prog 83 #[.int .i64 l, .pointer (some ⟨PL + 1, 0, none⟩)] W fun e w' => e = .returned (.int .i64 (rmL c l)) ∧ W = w') := fun W h => HUSE.out W (HUP4.out W (HUP5.out W h))
                    have HZ2 := Lib.hid (And.intro hxb (And.intro (World.ownsRow_nil Z5 Y5 3 1) (OneB.refl (X := X) (Y := Y5) (w := Z5) (Nat.le_of_eq hY5))))
                    clear ho hxb hz hY5
                    go_upto_region 33 with fail
                    clear cb
                    go_loopw [126] (fun i wr => ∃ (k : Nat) (s : Option Addr) (cc : Nat), k ≤ c.outs.length ∧ i = .int .i64 k ∧ wr.heap[X]? = some (.cells #[.int .i64 ni, .slice sN (kpW c c.next.length) cN, .slice sG c.gates.length cG, .slice s k cc] 26 (0, 0)) ∧ wr.ownsRow Y5 3 1 (.slice s k cc) k (ints ((c.outs.take k).map (rmL c))) ∧ OneB X Y5 Z5 wr) (fun i _ => c.outs.length - (intOf i).toNat)
                    case atStart => exact ⟨0, _, _, Nat.zero_le _, rfl, HZ2.out.1, HZ2.out.2.1, HZ2.out.2.2⟩
                    case round =>
                      obtain ⟨k, s, cc, hk, rfl, hxb, ho, hz⟩ := hrel
                      have cb := (HB.out _ (HX.out _ (HNZ.out _ (HUP4.out _ (HUP5.out _ hz)))).2).1
                      by_cases hlt : k < c.outs.length
                      · obtain ⟨x, hx⟩ := get_of_lt hlt
                        obtain ⟨xb, xf, rfl, -, zx⟩ := (HSL.out _ (HB.out _ (HX.out _ (HNZ.out _ (HUP4.out _ (HUP5.out _ hz)))).2).2.2.2).2.2.int (Below.refl _ _) hx
                        obtain ⟨x0, x1⟩ : 0 ≤ x ∧ x / 2 < (V : Int) := by
                          have h1 : 0 ≤ x ∧ x < 2 * c.vars := HN.out.2.2.2.2.outs x (List.mem_of_getElem? hx)
                          have h2 := HN.out.2.1
                          omega
                        have HR := Lib.hid (And.intro hxb (And.intro ho hz))
                        have HRK := Lib.hid hx
                        clear hxb ho hz hx
                        go_upto_region 35 with fail
                        clear cb
                        refine wp_region_E (fun w' => ∀ o, w'.cell? ⟨X, o, none⟩ = #[Value.int .i64 ni, .slice sN (kpW c c.next.length) cN, .slice sG c.gates.length cG, .slice s k cc][o]?) 8 (.q 0 (.q 1 (.q 2 (.q 3 (.e 4 (.e 5 (.e 6 (.q 7 (.z 8))))))))) (by kernel_rfl) (by kernel_rfl) (by kernel_rfl) (by kernel_rfl) (by kernel_rfl) (by kernel_rfl) (blk_all HR.out.1).1 ?_
                        repeat (first | (refine orde_s (o := ?_) ?_ ?_ ?_; rotate_left 1; (focus ((simp only [zD, zE, zF]) <;> rfl)); (focus rfl); simp only [Act.put, zA, zB, zC]) | (refine orde_q (o := ?_) (v := ?_) ?_ ?_ ?_ ?_; rotate_left 2; (focus ((simp only [zD, zE, zF]) <;> rfl)); (focus rfl); (focus (intro w' hS; (try dsimp only at hS); go_split_ands; go_simp; (try (with_reducible rfl)))); simp only [Act.put, zA, zB, zC]))
                        refine orde_e ?_
                        (refine ope_e (o := ?_) ?_ ?_ (fun K hK => ?_); rotate_left 1; (focus ((simp only [zD, zE, zF]) <;> rfl)); (focus rfl); go_simp)
                        refine (HUS5.out _ (HR.out.2.2.below (Below.refl _ _).drew) x x0 x1).mono ?_
                        rintro e wa ⟨rfl, rfl⟩
                        refine hK.out _ _ (blk_all HR.out.1).1 ?_
                        clear hK K
                        (try simp only [Act.put, zA, zB, zC])
                        refine orde_e ?_
                        (refine ope_e (o := ?_) ?_ ?_ (fun K hK => ?_); rotate_left 1; (focus ((simp only [zD, zE, zF]) <;> rfl)); (focus rfl); go_simp)
                        have hb1 : Below wr.heap.size wr (wr.alloc (.cells #[.int .i64 (rmL c x)] 3)).drew := ((Below.refl _ _).alloc (Nat.le_refl _) _).drew
                        have hs1 : Sl (wr.alloc (.cells #[.int .i64 (rmL c x)] 3)).drew (some ⟨wr.heap.size, 0, none⟩) [.int .i64 (rmL c x)] := (Sl.new wr _ _).drew
                        revert hb1 hs1
                        generalize (wr.alloc (.cells #[.int .i64 (rmL c x)] 3)).drew = W7
                        intro hb1 hs1
                        have hx7 := blk_below hb1 (blk_lt HR.out.1) HR.out.1
                        have ho7 := own_below HR.out.2.1 hb1
                        have hz7 := HR.out.2.2.below (hb1.mono HR.out.2.2.size)
                        refine hK.out _ _ (blk_all hx7).1 ?_
                        clear hK K
                        have H7 := Lib.hid (And.intro hx7 (And.intro ho7 (And.intro hz7 hs1)))
                        clear hx7 ho7 hz7 hs1 hb1
                        (try simp only [Act.put, zA, zB, zC])
                        refine orde_e ?_
                        (refine ope_e (o := ?_) ?_ ?_ (fun K hK => ?_); rotate_left 1; (focus ((simp only [zD, zE, zF]) <;> rfl)); (focus rfl))
                        refine wp_app (.tmp 131) (.tmp 135) rfl elem_int H7.out.2.1 rfl rfl (by simp) H7.out.2.2.2 (by simp [Value.oneCell']) (k + 1) (rfl) (ints ((c.outs.take (k + 1)).map (rmL c))) (by rw [map_snoc HRK.out, ← ints_append]; rfl) (by unfold maxLen; omega) (by omega) H7.out.2.2.1.size ?_
                        intro s7 c7 W8 ho8 hb8 hg8 hob8
                        have hx8 := (Chg.of_grown hg8).blk H7.out.1 (fun e => own_tyb H7.out.2.1 H7.out.1 (by decide) e)
                        have hz8 := H7.out.2.2.1.below hb8
                        refine hK.out _ _ (blk_all hx8).1 ?_
                        clear hK K
                        have y1 : W8.cell? ⟨X, 3, none⟩ = some (.slice s k cc) := blk_cell hx8
                        have y2 : W8.frozen? ⟨X, 3, none⟩ = false := blk_free hx8
                        have hz9 := hz8.set 3 (.slice s7 (k + 1) c7)
                        have ho9 := own_set_ne (o := 3) ho8 (own_tyb ho8 hx8 (by decide)) (.slice s7 (k + 1) c7)
                        have hx9 : (W8.setCell ⟨X, 3, none⟩ (.slice s7 (k + 1) c7)).heap[X]? = some (.cells #[.int .i64 ni, .slice sN (kpW c c.next.length) cN, .slice sG c.gates.length cG, .slice s7 (k + 1) c7] 26 (0, 0)) := by simpa using blk_set (o := 3) (v := .slice s7 (k + 1) c7) hx8
                        have H8 := Lib.hid (And.intro hx9 (And.intro ho9 hz9))
                        clear hx8 hz8 hz9 ho9 hx9 ho8 hb8 hg8 hob8
                        (try simp only [Act.put, zA, zB, zC])
                        repeat (first | (refine orde_s (o := ?_) ?_ ?_ ?_; rotate_left 1; (focus ((simp only [zD, zE, zF]) <;> rfl)); (focus rfl); simp only [Act.put, zA, zB, zC]) | (refine orde_q (o := ?_) (v := ?_) ?_ ?_ ?_ ?_; rotate_left 2; (focus ((simp only [zD, zE, zF]) <;> rfl)); (focus rfl); (focus (intro w' hS; (try dsimp only at hS); go_split_ands; go_simp; (try (with_reducible rfl)))); simp only [Act.put, zA, zB, zC]))
                        (refine orde_z (o := ?_) ?_ ?_ (fun K hK => ?_); rotate_left 1; (focus ((simp only [zD, zE, zF]) <;> rfl)); (focus rfl); go_simp)
                        refine hK.out _ _ ?_
                        clear hK K y1 y2
                        go_wp2_with fail
                        go_roundw
                        case rel => exact ⟨k + 1, s7, c7, by omega, by go_num, H8.out.1, H8.out.2.1, H8.out.2.2⟩
                        case measure => simp [intOf]; omega
                      · obtain rfl : k = c.outs.length := by omega
                        rw [List.take_length] at ho
                        have hn := HNO.out _ (HUP5.out _ hz)
                        have hg := HGO.out _ hz
                        have hnn := rmC_next c
                        have hvv := rmC_valid HN.out.2.2.2.2
                        have hgg : (rmC c).gates.length = c.gates.length := by simp [rmC, mapG]
                        have hoo : (rmC c).outs.length = c.outs.length := by simp [rmC]
                        have hca : CirAt wr X (rmC c).inp (.slice sN (rmC c).next.length cN) (.slice sG (rmC c).gates.length cG) (.slice s (rmC c).outs.length cc) := by
                          rw [hnn, hgg, hoo, show (rmC c).inp = (ni : Int) from HN.out.1]
                          exact CirAt.of_blk hxb
                        have HOS : Hid (Calls Try.prog 84 #[.pointer (some ⟨X, 0, none⟩)] wr fun e w' => ∃ vn vg vo, e = .returned (.agg #[.int .i64 ni, vn, vg, vo]) ∧ CirOwn w' wr.heap.size (optC (rmC c)) vn vg vo ∧ Below wr.heap.size wr w') := by
                          have h9 := optimize_any X sN sG s cN cG cc (rmC c) wr hca (own_sl hn) (own_sl hg) (own_sl ho) hvv
                          rw [show (rmC c).inp = (ni : Int) from HN.out.1] at h9
                          exact h9
                        have HE := Lib.hid (HX.out _ (HNZ.out _ (HUP4.out _ (HUP5.out _ hz)))).2
                        clear hxb ho hz hn hg hnn hvv hgg hoo hca
                        go_wp2_with (go_at_call 84; refine HOS.out.mono ?_; rintro e w9 ⟨vn, vg, vo, rfl, hO, hq⟩; obtain ⟨s9n, c9n, rfl⟩ := own_shape hO.n; obtain ⟨s9g, c9g, rfl⟩ := own_shape hO.g; obtain ⟨s9o, c9o, rfl⟩ := own_shape hO.o; have H9 := Lib.hid (And.intro hO (HE.out.trans (hq.mono HE.out.size))); clear hO hq cb; obtain ⟨rc, rf⟩ := blk_all (HB.out _ H9.out.2).2.1)
                        clear rc rf
                        have hR := (HB.out _ H9.out.2).2.1
                        have hwz := HW.out.2.1
                        have hwz2 := HW.out.2.2
                        have hez := HE.out.size
                        have hO9 := (H9.out.1).sets4 (r := A + 1) (by omega) (base := w.heap.size) (by omega) (a := .int .i64 ni) (b' := .slice s9n (optC (rmC c)).next.length c9n) (c' := .slice s9g (optC (rmC c)).gates.length c9g) (d := .slice s9o (optC (rmC c)).outs.length c9o)
                        have hZ : (((((w9.setCell ⟨A + 1, 0, none⟩ (.int .i64 ni)).setCell ⟨A + 1, 1, none⟩ (.slice s9n (optC (rmC c)).next.length c9n)).setCell ⟨A + 1, 2, none⟩ (.slice s9g (optC (rmC c)).gates.length c9g)).setCell ⟨A + 1, 3, none⟩ (.slice s9o (optC (rmC c)).outs.length c9o))).heap[A + 1]? = some (.cells #[.int .i64 ni, .slice s9n (optC (rmC c)).next.length c9n, .slice s9g (optC (rmC c)).gates.length c9g, .slice s9o (optC (rmC c)).outs.length c9o] 26 (0, 0)) := by simpa using blk_set (o := 3) (v := .slice s9o (optC (rmC c)).outs.length c9o) (blk_set (o := 2) (v := .slice s9g (optC (rmC c)).gates.length c9g) (blk_set (o := 1) (v := .slice s9n (optC (rmC c)).next.length c9n) (blk_set (o := 0) (v := .int .i64 ni) hR)))
                        have hbz := (((((HB.out _ H9.out.2).2.2.2).setCell (p := ⟨A + 1, 0, none⟩) (by simp; omega) (.int .i64 ni)).setCell (p := ⟨A + 1, 1, none⟩) (by simp; omega) (.slice s9n (optC (rmC c)).next.length c9n)).setCell (p := ⟨A + 1, 2, none⟩) (by simp; omega) (.slice s9g (optC (rmC c)).gates.length c9g)).setCell (p := ⟨A + 1, 3, none⟩) (by simp; omega) (.slice s9o (optC (rmC c)).outs.length c9o)
                        clear hR hwz hwz2 hez
                        revert hZ hO9 hbz
                        generalize (((((w9.setCell ⟨A + 1, 0, none⟩ (.int .i64 ni)).setCell ⟨A + 1, 1, none⟩ (.slice s9n (optC (rmC c)).next.length c9n)).setCell ⟨A + 1, 2, none⟩ (.slice s9g (optC (rmC c)).gates.length c9g)).setCell ⟨A + 1, 3, none⟩ (.slice s9o (optC (rmC c)).outs.length c9o))) = WZ
                        intro hO9 hZ hbz
                        have cr := (blk_all hZ).1
                        exact bodyPost_ret (v := .agg #[.int .i64 ni, .slice s9n (optC (rmC c)).next.length c9n, .slice s9g (optC (rmC c)).gates.length c9g, .slice s9o (optC (rmC c)).outs.length c9o]) (by simp [results, Try.results29, go_sem, cr]) rfl ⟨_, _, _, by first | rfl | rw [eopt], hO9, hbz⟩

end Go.Proofs.Ytbcolcchchgldaa
