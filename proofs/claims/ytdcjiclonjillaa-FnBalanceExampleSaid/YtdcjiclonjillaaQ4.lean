import Derived.Test.YtdcjiclonjillaaQ2
namespace Go.Proofs.Ytdcjiclonjillaa
set_option linter.unusedVariables false
set_option linter.unusedSimpArgs false
open Go.RowKit

def lvOk (c : Cir) (x : Int) : Prop := c.validB = true ∧ c.first ≤ x ∧ x < c.vars
instance (c : Cir) (x : Int) : Decidable (lvOk c x) := inferInstanceAs (Decidable (_ ∧ _))
def leavesR (c : Cir) (x : Int) : List Int := if lvOk c x then Lv c (x - c.first).toNat else []
theorem leavesR_no {c : Cir} {x : Int} (h : ¬ lvOk c x) : leavesR c x = [] := by unfold leavesR; rw [if_neg h]
theorem leavesR_yes {c : Cir} {x : Int} (h : lvOk c x) : leavesR c x = Lv c (x - c.first).toNat := by unfold leavesR; rw [if_pos h]
theorem leavesR_len (c : Cir) (x : Int) : (leavesR c x).length ≤ 1000000 := by
  by_cases h : lvOk c x
  · rw [leavesR_yes h]
    have h1 := Lv_len c (x - c.first).toNat
    obtain ⟨f1, f2, f3, f4⟩ := valid_first (c.validB_iff.1 h.1)
    have h2 : 2 ^ ((x - c.first).toNat + 1) ≤ 2 ^ 15 := Nat.pow_le_pow_right (by omega) (by have := h.2; omega)
    omega
  · rw [leavesR_no h]; simp

set_option maxHeartbeats 800000 in
theorem Leaves_i (v : Value) (c : Cir) (x : Int) (w : World) (h : CirV w v c) (hx : -9223372036854775808 ≤ x ∧ x ≤ 9223372036854775807) :
    Calls Try.prog 10 #[v, .int .i64 x] w fun e w' => ∃ s cap, e = .returned (.slice s (leavesR c x).length cap) ∧ w'.ownsRow w.heap.size 3 1 (.slice s (leavesR c x).length cap) (leavesR c x).length (ints (leavesR c x)) ∧ Below w.heap.size w w' := by
  have HC : Hid (∀ w', Below w.heap.size w w' → CirV w' v c) := fun w' hb => h.mono hb
  obtain ⟨sn, cn, sg, cg, so, co, rfl, h1, h2, h3, hl1, hl2, hl3⟩ := h
  have hL : Below w.heap.size w (w.alloc (.cells #[.int .i64 c.inp, .slice sn c.next.length cn, .slice sg c.gates.length cg, .slice so c.outs.length co] 28)) := by go_grown
  have hN := blk_new w (.cells #[.int .i64 c.inp, .slice sn c.next.length cn, .slice sg c.gates.length cg, .slice so c.outs.length co] 28)
  have HL := Lib.hid (And.intro hL (And.intro hN (And.intro h1 (And.intro h2 h3))))
  clear hL hN h1 h2 h3
  obtain ⟨hx1, hx2⟩ := hx
  cases hv : c.validB
  · have e : leavesR c x = [] := leavesR_no fun h => by rw [h.1] at hv; cases hv
    rw [e]
    have HE := Lib.hid hv
    clear hv e
    go_enter Try.func10, Try.ntmps10
    go_wp2_with (go_at_call 27; ((with_reducible refine (CircuitValid_i _ _ _ (HC.out _ HL.out.1)).mono ?_); rintro e w1 ⟨rfl, hq⟩; have HQ := Lib.hid hq; clear hq; rw [HE.out]))
    go_ret
    exact ⟨none, 0, rfl, World.ownsRow_nil _ _ _ _, HL.out.1.trans (HQ.out.mono (by simp))⟩
  · have hval := c.validB_iff.1 hv
    obtain ⟨f1, f2, f3, f4⟩ := valid_first hval
    obtain ⟨q1, q2, q3, q4, q5⟩ := id hval.lim
    have eC : c.first = 1 + c.inp + c.next.length := rfl
    have eV : c.vars = 1 + c.inp + c.next.length + c.gates.length := rfl
    obtain ⟨F, hF⟩ : ∃ F : Nat, c.first = F := ⟨c.first.toNat, by omega⟩
    obtain ⟨V, hV⟩ : ∃ V : Nat, c.vars = V := ⟨c.vars.toNat, by omega⟩
    have HH := Lib.hid (And.intro hv (And.intro hval (And.intro hF (And.intro hV (And.intro eC (And.intro eV f3))))))
    have e1 : 1 + c.inp + (c.next.length : Int) = (F : Int) := by omega
    have e2 : 1 + c.inp + (c.next.length : Int) + (c.gates.length : Int) = (V : Int) := by omega
    have E1 := Lib.hid (And.intro e1 e2)
    clear hv hval f1 f2 f3 f4 eC eV hF hV e1 e2
    by_cases hok : (F : Int) ≤ x ∧ x < (V : Int)
    · have hlo : lvOk c x := ⟨HH.out.1, by rw [HH.out.2.2.1]; exact hok.1, by rw [HH.out.2.2.2.1]; exact hok.2⟩
      have er := leavesR_yes hlo
      obtain ⟨o1, o2⟩ := hok
      obtain ⟨i, hi⟩ : ∃ i : Nat, x = F + i := ⟨(x - F).toNat, by omega⟩
      have hin : (x - c.first).toNat = i := by rw [HH.out.2.2.1]; omega
      rw [hin] at er
      have hil : i < c.gates.length := by have := HH.out; omega
      have hlr := leavesR_len c x
      have hlv := Lv_len c i
      have hpw : 2 ^ (i + 1) ≤ 2 ^ 15 := Nat.pow_le_pow_right (by omega) (by omega)
      have HR := Lib.hid (And.intro er (And.intro hin (And.intro hil (And.intro hlr (And.intro hlv hpw)))))
      have HI := Lib.hid hi
      clear er hin hil hlr hlv hpw hlo hi
      go_enter Try.func10, Try.ntmps10
      go_wp2_with (first
        | (go_at_call 27; ((with_reducible refine (CircuitValid_i _ _ _ (HC.out _ HL.out.1)).mono ?_); rintro e w1 ⟨rfl, hq⟩; have HQ := Lib.hid (And.intro (blk_below hq (blk_lt HL.out.2.1) HL.out.2.1) (HL.out.1.trans (hq.mono (by simp)))); clear hq; rw [HH.out.1]))
        | (go_at_call 33; ((refine (firstGate_any _ _ _ _ _ _ _ _ (CirAt.of_blk HQ.out.1) (by omega) (by omega)).mono ?_); rintro e w2 ⟨rfl, hd⟩; rw [E1.out.1]; have HD := Lib.hid (And.intro (blk_below (hd.below _) (blk_lt HQ.out.1) HQ.out.1) (HQ.out.2.trans (hd.below _))); clear hd))
        | (go_at_call 38; ((refine (vars_any _ _ _ _ _ _ _ _ _ _ (CirAt.of_blk HD.out.1) (by omega) (by omega) (by omega)).mono ?_); rintro e w3 ⟨rfl, hd⟩; rw [E1.out.2]; have HD2 := Lib.hid (And.intro (blk_below (hd.below _) (blk_lt HD.out.1) HD.out.1) (HD.out.2.trans (hd.below _))); clear hd))
        | (go_at_call 31; ((refine (uses_any _ _ _ _ _ _ _ _ _ (CirAt.of_blk HD2.out.1) (HL.out.2.2.1.mono HD2.out.2) (HL.out.2.2.2.1.mono HD2.out.2) (HL.out.2.2.2.2.mono HD2.out.2) HH.out.2.1 V HH.out.2.2.2.1).mono ?_); rintro e w4 ⟨g, rfl, hg1, hg2, hq⟩; have HU := Lib.hid (And.intro hg2 (And.intro (blk_below hq (blk_lt HD2.out.1) HD2.out.1) (HD2.out.2.trans (hq.mono HD2.out.2.size)))); clear hq hg1 hg2)))
      have hcall := leaves_any w4 w.heap.size sn sg (some ⟨g, 0, none⟩) cn cg V (.slice so c.outs.length co) c V (CirAt.of_blk HU.out.2.1) (HL.out.2.2.2.1.mono HU.out.2.2) (by have := Sl.blk HU.out.1; simpa using this) HH.out.2.1 HH.out.2.2.2.1 i HR.out.2.2.1 w4 [] none 0 (Below.refl _ _) (World.ownsRow_nil _ _ _ _) (by have := HR.out.2.2.2.2.2; simp; omega)
      rw [HH.out.2.2.1, ← HI.out, List.nil_append, ← HR.out.1] at hcall
      refine hcall.mono ?_
      rintro e w5 ⟨s5, c5, rfl, ho5, hc5, -⟩
      have hs4 := HU.out.2.2.size
      have HF := Lib.hid (And.intro (own_base ho5 hs4) (HU.out.2.2.trans (hc5.below hs4 (fun k hk e => by cases e))))
      clear ho5 hc5 hs4 hcall
      go_wp2_with fail
      go_ret
      exact ⟨s5, c5, rfl, HF.out.1, HF.out.2⟩
    · have e : leavesR c x = [] := leavesR_no fun h => hok (by have h1 := h.2; rw [HH.out.2.2.1, HH.out.2.2.2.1] at h1; exact h1)
      rw [e]
      have HO := Lib.hid hok
      clear e hok
      go_enter Try.func10, Try.ntmps10
      go_wp2_with (first
        | (go_at_call 27; ((with_reducible refine (CircuitValid_i _ _ _ (HC.out _ HL.out.1)).mono ?_); rintro e w1 ⟨rfl, hq⟩; have HQ := Lib.hid (And.intro (blk_below hq (blk_lt HL.out.2.1) HL.out.2.1) (HL.out.1.trans (hq.mono (by simp)))); clear hq; rw [HH.out.1]))
        | (go_at_call 33; ((refine (firstGate_any _ _ _ _ _ _ _ _ (CirAt.of_blk HQ.out.1) (by omega) (by omega)).mono ?_); rintro e w2 ⟨rfl, hd⟩; rw [E1.out.1]; have HD := Lib.hid (And.intro (blk_below (hd.below _) (blk_lt HQ.out.1) HQ.out.1) (HQ.out.2.trans (hd.below _))); clear hd))
        | (go_at_call 38; ((refine (vars_any _ _ _ _ _ _ _ _ _ _ (CirAt.of_blk HD.out.1) (by omega) (by omega) (by omega)).mono ?_); rintro e w3 ⟨rfl, hd⟩; rw [E1.out.2]; have HD2 := Lib.hid (And.intro (blk_below (hd.below _) (blk_lt HD.out.1) HD.out.1) (HD.out.2.trans (hd.below _))); clear hd)))
      all_goals first
        | (go_ret; exact ⟨none, 0, rfl, World.ownsRow_nil _ _ _ _, by first | exact HD2.out.2 | exact HD.out.2⟩)
        | (exfalso; refine HO.out ⟨?_, ?_⟩ <;> omega)

/-! The leaves of a conjunction: the reference's. -/

def Cir.usesS (c : Cir) : List Int := (c.outs ++ c.next) ++ glits c.gates
theorem usesS_eq (c : Cir) (x : Int) : cntL c.usesS x = cntL c.usesI x := by
  unfold Cir.usesS Cir.usesI
  simp only [cntL_append]; omega
theorem cntL_snoc {L : List Int} {k : Nat} {y : Int} (h : L[k]? = some y) (x : Int) : cntL (L.take (k + 1)) x = cntL (L.take k) x + if y / 2 = x then 1 else 0 := by
  rw [List.take_add_one, h]
  show cntL (L.take k ++ [y]) x = _
  rw [cntL_append, cntL_one]

set_option maxHeartbeats 1600000 in
theorem l19Uses_any (v : Value) (c : Cir) (x : Int) (w : World) (h : CirV w v c) (hv : c.valid) :
    Calls Try.prog 82 #[v, .int .i64 x] w fun e w' => ∃ q : Nat, e = .returned (.int .i64 (q : Int)) ∧ q = cntL c.usesI x ∧ Below w.heap.size w w' := by
  obtain ⟨sn, cn, sg, cg, so, co, rfl, h1, h2, h3, hl1, hl2, hl3⟩ := h
  obtain ⟨q1, q2, q3, q4, q5⟩ := id hv.lim
  have hL : Below w.heap.size w (w.alloc (.cells #[.int .i64 c.inp, .slice sn c.next.length cn, .slice sg c.gates.length cg, .slice so c.outs.length co] 28)) := by go_grown
  have hN := blk_new w (.cells #[.int .i64 c.inp, .slice sn c.next.length cn, .slice sg c.gates.length cg, .slice so c.outs.length co] 28)
  have hz : (w.alloc (.cells #[.int .i64 c.inp, .slice sn c.next.length cn, .slice sg c.gates.length cg, .slice so c.outs.length co] 28)).heap.size = w.heap.size + 1 := by simp
  have H := Lib.hid (And.intro h1 (And.intro h2 (And.intro h3 hv)))
  clear h1 h2 h3 hv
  go_enter Try.func82, Try.ntmps82
  go_wp2_with fail
  revert hL hN hz
  generalize (w.alloc (.cells #[.int .i64 c.inp, .slice sn c.next.length cn, .slice sg c.gates.length cg, .slice so c.outs.length co] 28)) = WB
  intro hL hN hz
  have HW := Lib.hid (And.intro hL (And.intro hN hz))
  clear hL hN hz
  refine wp_region_T (fun w' => w'.cell? ⟨w.heap.size, 3, none⟩ = some (.slice so c.outs.length co) ∧ w'.cell? ⟨w.heap.size, 1, none⟩ = some (.slice sn c.next.length cn)) (.q 1 (.q 2 (.q 4 (.q 5 (.e 0 (.e 3 (.e 6 (.q 7 .nil)))))))) (by kernel_rfl) (by kernel_rfl) (by kernel_rfl) ⟨blk_cell HW.out.2.1, blk_cell HW.out.2.1⟩ ?_
  repeat (first | (refine ordt_s (o := ?_) ?_ ?_ ?_; rotate_left 1; (focus ((simp only [List.getElem?_toArray, List.getElem?_cons_succ, List.getElem?_cons_zero]) <;> rfl)); (focus rfl); simp only [Act.put, List.setIfInBounds_toArray, List.set_cons_zero, List.set_cons_succ]) | (refine ordt_q (o := ?_) (v := ?_) ?_ ?_ ?_ ?_; rotate_left 2; (focus ((simp only [List.getElem?_toArray, List.getElem?_cons_succ, List.getElem?_cons_zero]) <;> rfl)); (focus rfl); (focus (intro w' hS; (try dsimp only at hS); go_split_ands; go_simp; (try (with_reducible rfl)))); simp only [Act.put, List.setIfInBounds_toArray, List.set_cons_zero, List.set_cons_succ]))
  refine ordt_e ?_
  (refine op_e (o := ?_) ?_ ?_ (fun K hK => ?_); rotate_left 1; (focus ((simp only [List.getElem?_toArray, List.getElem?_cons_succ, List.getElem?_cons_zero]) <;> rfl)); (focus rfl); go_simp)
  have hb1 : Below (w.heap.size + 1) WB (WB.alloc (.cells #[] 3)).drew := ((Below.refl _ _).alloc (by have := HW.out.2.2; omega) _).drew
  have ho1 : (WB.alloc (.cells #[] 3)).drew.ownsRow (w.heap.size + 1) 3 1 (.slice (some ⟨WB.heap.size, 0, none⟩) 0 0) 0 [] := own_of_blk (n := 0) (cur := #[]) (blk_new WB _) (by have := HW.out.2.2; omega) (by simp) (by unfold maxLen; omega)
  revert hb1 ho1
  generalize (WB.alloc (.cells #[] 3)).drew = W1
  intro hb1 ho1
  have hbw := HW.out.1.trans (hb1.mono (by omega))
  refine hK.out _ _ ⟨blk_cell (blk_below hb1 (by omega) HW.out.2.1), blk_cell (blk_below hb1 (by omega) HW.out.2.1)⟩ ?_
  clear hK K
  have H1 := Lib.hid (And.intro hb1 (And.intro ho1 hbw))
  clear hb1 ho1 hbw
  (try simp only [Act.put, List.setIfInBounds_toArray, List.set_cons_zero, List.set_cons_succ])
  refine ordt_e ?_
  (refine op_e (o := ?_) ?_ ?_ (fun K hK => ?_); rotate_left 1; (focus ((simp only [List.getElem?_toArray, List.getElem?_cons_succ, List.getElem?_cons_zero]) <;> rfl)); (focus rfl))
  refine wp_app (.tmp 9) (.tmp 11) rfl elem_int H1.out.2.1 rfl rfl (by simp) (H.out.2.2.1.mono H1.out.2.2) (ints_one _) c.outs.length (by simp) (ints c.outs) (by simp) (by unfold maxLen; omega) (by omega) (by have := H1.out.1.size; have := HW.out.2.2; omega) ?_
  intro s2 c2 W2 ho2 hb2 _ _
  have hb2' := H1.out.1.trans hb2
  have hbw2 := H1.out.2.2.trans (hb2.mono (by omega))
  refine hK.out _ _ ⟨blk_cell (blk_below hb2' (by omega) HW.out.2.1), blk_cell (blk_below hb2' (by omega) HW.out.2.1)⟩ ?_
  clear hK K
  have H2 := Lib.hid (And.intro hb2' (And.intro ho2 hbw2))
  clear hb2 hb2' ho2 hbw2
  (try simp only [Act.put, List.setIfInBounds_toArray, List.set_cons_zero, List.set_cons_succ])
  refine ordt_e ?_
  (refine op_e (o := ?_) ?_ ?_ (fun K hK => ?_); rotate_left 1; (focus ((simp only [List.getElem?_toArray, List.getElem?_cons_succ, List.getElem?_cons_zero]) <;> rfl)); (focus rfl))
  refine wp_app (.tmp 12) (.tmp 14) rfl elem_int H2.out.2.1 rfl rfl (by simp) (H.out.1.mono H2.out.2.2) (ints_one _) (c.outs.length + c.next.length) (by simp) (ints (c.outs ++ c.next)) (by rw [ints_append]) (by unfold maxLen; omega) (by omega) (by have := H2.out.1.size; have := HW.out.2.2; omega) ?_
  intro s3 c3 W3 ho3 hb3 _ _
  have hb3' := H2.out.1.trans hb3
  have hbw3 := H2.out.2.2.trans (hb3.mono (by omega))
  refine hK.out _ _ ⟨blk_cell (blk_below hb3' (by omega) HW.out.2.1), blk_cell (blk_below hb3' (by omega) HW.out.2.1)⟩ ?_
  clear hK K
  have H3 := Lib.hid (And.intro hb3' (And.intro ho3 hbw3))
  clear hb3 hb3' ho3 hbw3
  (try simp only [Act.put, List.setIfInBounds_toArray, List.set_cons_zero, List.set_cons_succ])
  repeat (first | (refine ordt_s (o := ?_) ?_ ?_ ?_; rotate_left 1; (focus ((simp only [List.getElem?_toArray, List.getElem?_cons_succ, List.getElem?_cons_zero]) <;> rfl)); (focus rfl); simp only [Act.put, List.setIfInBounds_toArray, List.set_cons_zero, List.set_cons_succ]) | (refine ordt_q (o := ?_) (v := ?_) ?_ ?_ ?_ ?_; rotate_left 2; (focus ((simp only [List.getElem?_toArray, List.getElem?_cons_succ, List.getElem?_cons_zero]) <;> rfl)); (focus rfl); (focus (intro w' hS; (try dsimp only at hS); go_split_ands; go_simp; (try (with_reducible rfl)))); simp only [Act.put, List.setIfInBounds_toArray, List.set_cons_zero, List.set_cons_succ]))
  refine ordt_nil ?_
  go_wp2_with fail
  go_loopw [7, 6] (fun i v6 wr => ∃ (k : Nat) (s : Option Addr) (cc : Nat), k ≤ c.gates.length ∧ i = .int .i64 k ∧ v6 = .slice s (c.outs.length + c.next.length + 2 * k) cc ∧ wr.ownsRow (w.heap.size + 1) 3 1 v6 (c.outs.length + c.next.length + 2 * k) (ints ((c.outs ++ c.next) ++ glits (c.gates.take k))) ∧ Below (w.heap.size + 1) WB wr) (fun i _ _ => c.gates.length - (intOf i).toNat)
  case atStart => exact ⟨0, s3, c3, Nat.zero_le _, rfl, rfl, by simpa [glits] using H3.out.2.1, H3.out.1⟩
  case round =>
    obtain ⟨k, s, cc, hk, rfl, rfl, ho, hb⟩ := hrel
    have hbw := HW.out.1.trans (hb.mono (by omega))
    have c2' : wr.cell? ⟨w.heap.size, 2, none⟩ = some (.slice sg c.gates.length cg) := blk_cell (blk_below hb (by omega) HW.out.2.1)
    have hwz := HW.out.2.2
    by_cases hlt : k < c.gates.length
    · obtain ⟨g, hg⟩ := get_of_lt hlt
      obtain ⟨gb, off, rfl, hgb, z1, z2⟩ := H.out.2.1.gate hbw hg
      have hsn := glits_snoc hg
      have HR := Lib.hid (And.intro ho (And.intro hb (And.intro hbw hsn)))
      clear ho hb hbw hg hsn
      have i0 : (0 : Int) ≤ (k : Int) := by omega
      have i1 : (k : Int) < (c.gates.length : Int) := by omega
      go_wp2_with fail
      refine wp_region_T (fun w' => w'.cell? ⟨w.heap.size, 2, none⟩ = some (.slice (some ⟨gb, off, none⟩) c.gates.length cg) ∧ w'.cell? ⟨gb, off + k * 2, none⟩ = some (.int .i64 g.a) ∧ w'.cell? ⟨gb, off + k * 2 + 1, none⟩ = some (.int .i64 g.b)) (.q 0 (.q 1 (.q 2 (.q 3 (.q 4 (.q 5 (.q 6 (.q 7 (.q 8 (.q 9 (.q 10 (.q 11 (.q 12 (.e 13 (.e 14 (.q 15 .nil)))))))))))))))) (by kernel_rfl) (by kernel_rfl) (by kernel_rfl) ⟨c2', z1, z2⟩ ?_
      repeat (first | (refine ordt_s (o := ?_) ?_ ?_ ?_; rotate_left 1; (focus ((simp only [List.getElem?_toArray, List.getElem?_cons_succ, List.getElem?_cons_zero]) <;> rfl)); (focus rfl); simp only [Act.put, List.setIfInBounds_toArray, List.set_cons_zero, List.set_cons_succ]) | (refine ordt_q (o := ?_) (v := ?_) ?_ ?_ ?_ ?_; rotate_left 2; (focus ((simp only [List.getElem?_toArray, List.getElem?_cons_succ, List.getElem?_cons_zero]) <;> rfl)); (focus rfl); (focus (intro w' hS; (try dsimp only at hS); go_split_ands; go_simp; (try (with_reducible rfl)))); simp only [Act.put, List.setIfInBounds_toArray, List.set_cons_zero, List.set_cons_succ]))
      refine ordt_e ?_
      (refine op_e (o := ?_) ?_ ?_ (fun K hK => ?_); rotate_left 1; (focus ((simp only [List.getElem?_toArray, List.getElem?_cons_succ, List.getElem?_cons_zero]) <;> rfl)); (focus rfl); go_simp)
      have hb1 : Below wr.heap.size wr (wr.alloc (.cells #[.int .i64 g.a, .int .i64 g.b] 3)).drew := ((Below.refl _ _).alloc (Nat.le_refl _) _).drew
      have hn1 : (wr.alloc (.cells #[.int .i64 g.a, .int .i64 g.b] 3)).drew.heap[wr.heap.size]? = some (.cells #[.int .i64 g.a, .int .i64 g.b] 3 (0, 0)) := blk_new wr _
      revert hb1 hn1
      generalize (wr.alloc (.cells #[.int .i64 g.a, .int .i64 g.b] 3)).drew = W4
      intro hb1 hn1
      have hsz := HR.out.2.1.size
      have hc4 := (hb1.cell (p := ⟨w.heap.size, 2, none⟩) (by simp; omega)).trans c2'
      have hz4 := (hb1.cell (p := ⟨gb, off + k * 2, none⟩) (by have := HR.out.2.2.1.size; simp; omega)).trans z1
      have hz5 := (hb1.cell (p := ⟨gb, off + k * 2 + 1, none⟩) (by have := HR.out.2.2.1.size; simp; omega)).trans z2
      refine hK.out _ _ ⟨hc4, hz4, hz5⟩ ?_
      clear hK K hc4 hz4 hz5
      have H4 := Lib.hid (And.intro hb1 (And.intro (Sl.blk hn1) (own_below HR.out.1 hb1)))
      clear hb1 hn1
      (try simp only [Act.put, List.setIfInBounds_toArray, List.set_cons_zero, List.set_cons_succ])
      refine ordt_e ?_
      (refine op_e (o := ?_) ?_ ?_ (fun K hK => ?_); rotate_left 1; (focus ((simp only [List.getElem?_toArray, List.getElem?_cons_succ, List.getElem?_cons_zero]) <;> rfl)); (focus rfl))
      refine wp_app (.tmp 23) (.tmp 36) rfl elem_int H4.out.2.2 rfl rfl rfl H4.out.2.1 (by simp [Value.oneCell']) (c.outs.length + c.next.length + 2 * (k + 1)) (by omega) (ints ((c.outs ++ c.next) ++ glits (c.gates.take (k + 1)))) (by rw [HR.out.2.2.2]; simp [ints]) (by unfold maxLen; omega) (by omega) (by have := H4.out.1.size; omega) ?_
      intro s5 c5 W5 ho5 hb5 _ _
      have hb5' : Below (w.heap.size + 1) WB W5 := (HR.out.2.1.trans (H4.out.1.mono (by omega))).trans hb5
      have hbw5 := HW.out.1.trans (hb5'.mono (by omega))
      refine hK.out _ _ ⟨blk_cell (blk_below hb5' (by omega) HW.out.2.1), ?_, ?_⟩ ?_
      · exact (hb5.cell (p := ⟨gb, off + k * 2, none⟩) (by simp; omega)).trans ((H4.out.1.cell (p := ⟨gb, off + k * 2, none⟩) (by simp; omega)).trans z1)
      · exact (hb5.cell (p := ⟨gb, off + k * 2 + 1, none⟩) (by simp; omega)).trans ((H4.out.1.cell (p := ⟨gb, off + k * 2 + 1, none⟩) (by simp; omega)).trans z2)
      clear hK K
      have H5 := Lib.hid (And.intro ho5 hb5')
      clear ho5 hb5 hb5' hbw5
      (try simp only [Act.put, List.setIfInBounds_toArray, List.set_cons_zero, List.set_cons_succ])
      repeat (first | (refine ordt_s (o := ?_) ?_ ?_ ?_; rotate_left 1; (focus ((simp only [List.getElem?_toArray, List.getElem?_cons_succ, List.getElem?_cons_zero]) <;> rfl)); (focus rfl); simp only [Act.put, List.setIfInBounds_toArray, List.set_cons_zero, List.set_cons_succ]) | (refine ordt_q (o := ?_) (v := ?_) ?_ ?_ ?_ ?_; rotate_left 2; (focus ((simp only [List.getElem?_toArray, List.getElem?_cons_succ, List.getElem?_cons_zero]) <;> rfl)); (focus rfl); (focus (intro w' hS; (try dsimp only at hS); go_split_ands; go_simp; (try (with_reducible rfl)))); simp only [Act.put, List.setIfInBounds_toArray, List.set_cons_zero, List.set_cons_succ]))
      refine ordt_nil ?_
      go_wp2_with fail
      go_roundw
      case rel =>
        exact ⟨k + 1, by omega, by go_num, rfl, by simpa only [List.append_assoc] using H5.out.1, H5.out.2⟩
      case measure => simp [intOf]; omega
    · obtain rfl : k = c.gates.length := by omega
      rw [List.take_length] at ho
      have hlen : c.usesS.length = c.outs.length + c.next.length + 2 * c.gates.length := by unfold Cir.usesS; simp [glits_length]; try omega
      have hus : c.usesS = (c.outs ++ c.next) ++ glits c.gates := rfl
      rw [← hus, ← hlen] at ho
      rw [← hlen]
      have hul : c.usesS.length ≤ 100 := by omega
      have HR := Lib.hid (And.intro (own_sl ho) (And.intro hbw (And.intro hlen hus)))
      clear ho hb hbw hlen hus
      go_wp2_with fail
      clear c2'
      go_loop [8, 5] (fun i v5 => ∃ m : Nat, m ≤ c.usesS.length ∧ i = .int .i64 m ∧ v5 = .int .i64 (cntL (c.usesS.take m) x : Int)) (fun i _ => c.usesS.length - (intOf i).toNat)
      case atStart => exact ⟨0, Nat.zero_le _, rfl, by simp [cntL]⟩
      case round =>
        obtain ⟨m, hm, rfl, rfl⟩ := hrel
        have hcl := cntL_le (c.usesS.take m) x
        rw [List.length_take] at hcl
        by_cases hlt2 : m < c.usesS.length
        · obtain ⟨y, hy⟩ := get_of_lt hlt2
          obtain ⟨yb, yo, rfl, hyb, hyc⟩ := HR.out.1.int (Below.refl _ _) hy
          have hsn := cntL_snoc hy x
          have hyv : 0 ≤ y ∧ y ≤ 1000 := by
            have hval := H.out.2.2.2
            obtain ⟨f1, f2, f3, f4⟩ := valid_first hval
            have hmem := List.mem_of_getElem? hy
            rw [HR.out.2.2.2] at hmem
            rcases List.mem_append.1 hmem with h1 | h1
            · have h2 := (List.mem_append.1 h1).elim (hval.outs y) (hval.next y)
              unfold litP at h2; omega
            · unfold glits at h1
              obtain ⟨g, hg, hy2⟩ := List.mem_flatMap.1 h1
              obtain ⟨j, hj, rfl⟩ := List.getElem_of_mem hg
              obtain ⟨⟨a1, a2⟩, b1, b2⟩ := valid_gate hval (List.getElem?_eq_getElem hj)
              simp at hy2
              rcases hy2 with rfl | rfl <;> omega
          obtain ⟨y0, y1⟩ := hyv
          have HY := Lib.hid (And.intro hy hsn)
          clear hy hsn
          by_cases hyx : y / 2 = x
          · have hb1 : ((y / 2 : Int) == x) = true := by simpa using hyx
            have HYX := Lib.hid hyx
            clear hyx
            go_wp2
            go_round
            case rel => exact ⟨m + 1, by omega, by go_num, by rw [HY.out.2, if_pos HYX.out]; go_num⟩
            case measure => simp [intOf]; omega
          · have hb1 : ((y / 2 : Int) == x) = false := beq_eq_false_iff_ne.2 hyx
            have HYX := Lib.hid hyx
            clear hyx
            go_wp2
            go_round
            case rel => exact ⟨m + 1, by omega, by go_num, by rw [HY.out.2, if_neg HYX.out]; simp⟩
            case measure => simp [intOf]; omega
        · obtain rfl : m = c.usesS.length := by omega
          go_wp2
          go_ret
          exact ⟨cntL c.usesS x, rfl, usesS_eq c x, HR.out.2.1⟩

end Go.Proofs.Ytdcjiclonjillaa
