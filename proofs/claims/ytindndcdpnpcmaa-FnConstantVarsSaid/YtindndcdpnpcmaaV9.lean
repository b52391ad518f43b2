import Derived.Test.YtindndcdpnpcmaaV8
namespace Go.Proofs.Ytindndcdpnpcmaa
set_option linter.unusedVariables false
set_option linter.unusedSimpArgs false
open Go.RowKit

/-! ConstantVars, both. -/

theorem eqAll_comm (f g : Nat → Bool) (N : Nat) : eqAll f g N = eqAll g f N := by
  induction N with
  | zero => rfl
  | succ N ih => rw [eqAll_succ, eqAll_succ, ih]; cases f N <;> cases g N <;> rfl
theorem neAll_comm (f g : Nat → Bool) (N : Nat) : neAll f g N = neAll g f N := by
  induction N with
  | zero => rfl
  | succ N ih => rw [neAll_succ, neAll_succ, ih]; cases f N <;> cases g N <;> rfl
theorem sameV_comm (c : Cir) (p q : Nat) : sameV c p q = sameV c q p := by
  unfold sameV; rw [eqAll_comm, neAll_comm]
theorem sameV_cases (c : Cir) (p q : Nat) : sameV c p q = 1 ∨ sameV c p q = -1 ∨ sameV c p q = 0 := by
  unfold sameV
  split
  · exact .inl rfl
  · split
    · exact .inr (.inl rfl)
    · exact .inr (.inr rfl)
def cvStep (c : Cir) (out : List Int) (v : Nat) : List Int := if sameV c v 0 = 1 then out ++ [2 * (v : Int) + 1] else if sameV c v 0 = -1 then out ++ [2 * (v : Int)] else out
def cvL (c : Cir) (m : Nat) : List Int := (List.range m).foldl (fun out i => cvStep c out (i + 1)) []
theorem cvL_succ (c : Cir) (m : Nat) : cvL c (m + 1) = cvStep c (cvL c m) (m + 1) := by simp [cvL, List.range_succ, List.foldl_append]
theorem cvL_len (c : Cir) (m : Nat) : (cvL c m).length ≤ m := by
  induction m with
  | zero => simp [cvL]
  | succ m ih =>
    rw [cvL_succ]
    unfold cvStep
    split
    · simp; omega
    · split
      · simp; omega
      · omega
theorem cvL_1 {c : Cir} {m : Nat} (h : sameV c (m + 1) 0 = 1) : cvL c (m + 1) = cvL c m ++ [2 * ((m : Int) + 1) + 1] := by
  rw [cvL_succ]; unfold cvStep; rw [if_pos h]; simp
theorem cvL_m {c : Cir} {m : Nat} (h : sameV c (m + 1) 0 = -1) : cvL c (m + 1) = cvL c m ++ [2 * ((m : Int) + 1)] := by
  rw [cvL_succ]; unfold cvStep; rw [if_neg (by rw [h]; decide), if_pos h]; simp
theorem cvL_0 {c : Cir} {m : Nat} (h : sameV c (m + 1) 0 = 0) : cvL c (m + 1) = cvL c m := by
  rw [cvL_succ]; unfold cvStep; rw [if_neg (by rw [h]; decide), if_neg (by rw [h]; decide)]
def constR (c : Cir) : List Int := if c.validB = true then cvL c (c.vars.toNat - 1) else []
theorem constR_no {c : Cir} (h : c.validB = false) : constR c = [] := by unfold constR; rw [h]; rfl
theorem constR_yes {c : Cir} (h : c.validB = true) {V : Nat} (hV : c.vars = V) : constR c = cvL c (V - 1) := by unfold constR; rw [if_pos h, hV]; rfl
theorem constR_len (c : Cir) : (constR c).length ≤ 1000000 := by
  cases h : c.validB
  · rw [constR_no h]; simp
  · have hv := c.validB_iff.1 h
    obtain ⟨f1, f2, f3, f4⟩ := valid_first hv
    rw [constR_yes h (V := c.vars.toNat) (by omega)]
    have := cvL_len c (c.vars.toNat - 1)
    omega

set_option maxHeartbeats 1600000 in
theorem ConstantVars_s (v : Value) (c : Cir) (w : World) (h : CirV w v c) :
    Calls Try.prog 35 #[v] w fun e w' => ∃ s cap, e = .returned (.slice s (constR c).length cap) ∧ Sl w' s (ints (constR c)) ∧ Below w.heap.size w w' := by
  have HC : Hid (∀ w', Below w.heap.size w w' → CirV w' v c) := fun w' hb => h.mono hb
  obtain ⟨sn, cn, sg, cg, so, co, rfl, h1, h2, h3, hl1, hl2, hl3⟩ := h
  have hL : Below w.heap.size w (w.alloc (.cells #[.int .i64 c.inp, .slice sn c.next.length cn, .slice sg c.gates.length cg, .slice so c.outs.length co] 29)) := by go_grown
  have hN := blk_new w (.cells #[.int .i64 c.inp, .slice sn c.next.length cn, .slice sg c.gates.length cg, .slice so c.outs.length co] 29)
  have hL2 := hL.alloc hL.size (.cells #[] 3)
  have hN2 := blk_old (o := .cells #[] 3) hN
  have ho2 : ((w.alloc (.cells #[.int .i64 c.inp, .slice sn c.next.length cn, .slice sg c.gates.length cg, .slice so c.outs.length co] 29)).alloc (.cells #[] 3)).ownsRow (w.heap.size + 1) 3 1 (.slice (some ⟨w.heap.size + 1, 0, none⟩) 0 0) 0 [] := own_of_blk (n := 0) (cur := #[]) (blk_at (by simp)) (Nat.le_refl _) (by simp) (by unfold maxLen; omega)
  have hz2 : ((w.alloc (.cells #[.int .i64 c.inp, .slice sn c.next.length cn, .slice sg c.gates.length cg, .slice so c.outs.length co] 29)).alloc (.cells #[] 3)).heap.size = w.heap.size + 2 := by simp
  have HL := Lib.hid (And.intro hL2 (And.intro hN2 (And.intro ho2 hz2)))
  clear hL hN hL2 hN2 ho2 hz2 h1 h2 h3
  cases hv : c.validB
  · rw [constR_no hv]
    have HE := Lib.hid hv
    clear hv
    go_enter Try.func35, Try.ntmps35
    go_wp2_with (go_at_call 26; ((with_reducible refine (CircuitValid_s _ _ _ (HC.out _ HL.out.1)).mono ?_); rintro e w1 ⟨rfl, hq⟩; have HQ := Lib.hid hq; clear hq; rw [HE.out]))
    go_ret
    exact ⟨_, _, rfl, Sl.nil _ _, HL.out.1.trans (HQ.out.mono (by have := HL.out.2.2.2; omega))⟩
  · have hval := c.validB_iff.1 hv
    obtain ⟨f1, f2, f3, f4⟩ := valid_first hval
    obtain ⟨q1, q2, q3, q4, q5⟩ := id hval.lim
    have eC : c.first = 1 + c.inp + c.next.length := rfl
    obtain ⟨F, hF⟩ : ∃ F : Nat, c.first = F := ⟨c.first.toNat, by omega⟩
    obtain ⟨V, hV⟩ : ∃ V : Nat, c.vars = V := ⟨c.vars.toNat, by omega⟩
    have HH := Lib.hid (And.intro hv (And.intro hval (And.intro hF (And.intro hV f3))))
    have e1 : 1 + c.inp + (c.next.length : Int) = (F : Int) := by omega
    have E1 := Lib.hid e1
    have w1' : IntKind.i64.wrap ((F : Int) + (c.gates.length : Int)) = (V : Int) := by rw [IntWalk.i64_in _ ⟨by omega, by omega⟩]; omega
    have v1 : 1 ≤ V := by omega
    have v2 : V ≤ 22 := by omega
    have v4 : F ≤ 8 := by omega
    rw [constR_yes hv hV]
    clear hv hval f1 f2 f3 f4 eC hF hV e1
    go_enter Try.func35, Try.ntmps35
    go_wp2_with (go_at_call 26; ((with_reducible refine (CircuitValid_s _ _ _ (HC.out _ HL.out.1)).mono ?_); rintro e w1 ⟨rfl, hq⟩; have HQ := Lib.hid (And.intro (HL.out.1.trans (hq.mono (by have := HL.out.2.2.2; omega))) (And.intro (blk_below hq (blk_lt HL.out.2.1) HL.out.2.1) (And.intro (own_below HL.out.2.2.1 hq) (show w.heap.size + 2 ≤ w1.heap.size by have h1 := hq.size; have h2 := HL.out.2.2.2; omega)))); clear hq; rw [HH.out.1]))
    go_loopw [4, 3] (fun i x wr => ∃ (m : Nat) (s : Option Addr) (cc : Nat), m + 1 ≤ V ∧ i = .int .i64 ((m : Int) + 1) ∧ x = .slice s (cvL c m).length cc ∧ wr.ownsRow (w.heap.size + 1) 3 1 x (cvL c m).length (ints (cvL c m)) ∧ Below (w.heap.size + 1) w1 wr) (fun i _ _ => V - (intOf i).toNat)
    case atStart => exact ⟨0, _, _, v1, rfl, rfl, HQ.out.2.2.1, Below.refl _ _⟩
    case round =>
      obtain ⟨m, s3, c3, hm, rfl, rfl, ho, hbl⟩ := hrel
      have hbw : Below w.heap.size w wr := HQ.out.1.trans (hbl.mono (Nat.le_succ _))
      have hblk := blk_below hbl (Nat.lt_succ_self _) HQ.out.2.1
      have hsz : w.heap.size + 2 ≤ wr.heap.size := by have h1 := hbl.size; have h2 := HQ.out.2.2.2; omega
      have hlen := cvL_len c m
      have hlt0 := blk_lt hblk
      have HR := Lib.hid (And.intro ho (And.intro hbl (And.intro hbw hblk)))
      clear ho hbl hbw hblk
      go_upto_region 5 with fail
      go_cut [18] from 11 to 18 (fun s18 wx => s18 = .bool (decide ((m : Int) + 1 < (V : Int))) ∧ Below wr.heap.size wr wx)
      case first =>
        refine wp_region_ord (fun w' => ∀ o, w'.cell? ⟨w.heap.size, o, none⟩ = #[Value.int .i64 c.inp, Value.slice sn c.next.length cn, Value.slice sg c.gates.length cg, Value.slice so c.outs.length co][o]?) ((0, false) :: (1, false) :: (3, false) :: (4, false) :: (5, false) :: (2, true) :: (6, false) :: (7, false) :: []) (by kernel_rfl) (by kernel_rfl) (by kernel_rfl) (by kernel_rfl) (blk_all HR.out.2.2.2).1 ?_
        repeat (first | (refine ord_es (o := ?_) ?_ ?_ (by assumption) ?_; rotate_left 1; (focus ((simp only [List.getElem?_toArray, List.getElem?_cons_succ, List.getElem?_cons_zero]) <;> rfl)); (focus rfl); simp only [Act.put, List.setIfInBounds_toArray, List.set_cons_zero, List.set_cons_succ]) | (refine ord_s (o := ?_) ?_ ?_ ?_; rotate_left 1; (focus ((simp only [List.getElem?_toArray, List.getElem?_cons_succ, List.getElem?_cons_zero]) <;> rfl)); (focus rfl); simp only [Act.put, List.setIfInBounds_toArray, List.set_cons_zero, List.set_cons_succ]) | (refine ord_q (o := ?_) (v := ?_) ?_ ?_ ?_ ?_; rotate_left 2; (focus ((simp only [List.getElem?_toArray, List.getElem?_cons_succ, List.getElem?_cons_zero]) <;> rfl)); (focus rfl); (focus (intro w' hS; (try dsimp only at hS); go_split_ands; go_simp; (try (with_reducible rfl)))); simp only [Act.put, List.setIfInBounds_toArray, List.set_cons_zero, List.set_cons_succ]))
        (refine ord_e (o := ?_) ?_ ?_ (fun K hK => ?_); rotate_left 1; (focus ((simp only [List.getElem?_toArray, List.getElem?_cons_succ, List.getElem?_cons_zero]) <;> rfl)); (focus rfl); go_simp)
        refine (l1First_any _ _ _ _ _ _ _ (by omega) (by omega)).mono ?_
        rintro e w2 ⟨rfl, hq⟩
        rw [E1.out]
        have hb2 : Below wr.heap.size wr w2 := (Below.refl _ _).drew.trans hq
        refine hK.out _ _ (blk_all (blk_below hb2 hlt0 HR.out.2.2.2)).1 ?_
        clear hK K hq
        have H2 := Lib.hid hb2
        clear hb2
        (try simp only [Act.put, List.setIfInBounds_toArray, List.set_cons_zero, List.set_cons_succ])
        repeat (first | (refine ord_es (o := ?_) ?_ ?_ (by assumption) ?_; rotate_left 1; (focus ((simp only [List.getElem?_toArray, List.getElem?_cons_succ, List.getElem?_cons_zero]) <;> rfl)); (focus rfl); simp only [Act.put, List.setIfInBounds_toArray, List.set_cons_zero, List.set_cons_succ]) | (refine ord_s (o := ?_) ?_ ?_ ?_; rotate_left 1; (focus ((simp only [List.getElem?_toArray, List.getElem?_cons_succ, List.getElem?_cons_zero]) <;> rfl)); (focus rfl); simp only [Act.put, List.setIfInBounds_toArray, List.set_cons_zero, List.set_cons_succ]) | (refine ord_q (o := ?_) (v := ?_) ?_ ?_ ?_ ?_; rotate_left 2; (focus ((simp only [List.getElem?_toArray, List.getElem?_cons_succ, List.getElem?_cons_zero]) <;> rfl)); (focus rfl); (focus (intro w' hS; (try dsimp only at hS); go_split_ands; go_simp; (try (with_reducible rfl)))); simp only [Act.put, List.setIfInBounds_toArray, List.set_cons_zero, List.set_cons_succ]))
        refine ord_nil ?_
        go_wp2_with fail
        go_meet
        exact ⟨rfl, H2.out⟩
      case rest =>
        obtain ⟨rfl, hb2⟩ := hcut
        have hx2 := blk_below hb2 hlt0 HR.out.2.2.2
        have HX := Lib.hid (And.intro (HR.out.2.2.1.trans (hb2.mono (by omega))) (And.intro hx2 (And.intro (own_below HR.out.1 hb2) (And.intro (HR.out.2.1.trans (hb2.mono (by omega))) (show w.heap.size + 2 ≤ wc.heap.size from Nat.le_trans hsz hb2.size)))))
        have ca := (blk_all hx2).1
        clear hb2 hx2 w1'
        by_cases hlt : (m : Int) + 1 < (V : Int)
        · rw [decide_eq_true hlt]
          have hmv : ((m + 1 : Nat) : Int) < c.vars := by have := HH.out.2.2.2.1; omega
          have h0v : ((0 : Nat) : Int) < c.vars := by have := HH.out.2.2.2.1; omega
          have HM := Lib.hid (And.intro hmv h0v)
          clear hmv h0v
          rcases sameV_cases c (m + 1) 0 with hs | hs | hs
          · have HS := Lib.hid hs
            clear hs
            go_wp2_with (first
              | (go_at_call 81; ((refine (l17Same_any _ c (m + 1) 0 _ (HC.out _ HX.out.1) HH.out.2.1 HM.out.1 HM.out.2).mono ?_); rintro e w5 ⟨rfl, hq5⟩; rw [HS.out]; have H5 := Lib.hid (And.intro (own_below HX.out.2.2.1 hq5) (And.intro (HX.out.2.2.2.1.trans (hq5.mono (by have := HX.out.2.2.2.2; omega))) (show w.heap.size + 2 ≤ w5.heap.size from Nat.le_trans HX.out.2.2.2.2 hq5.size))); have hs5 := H5.out.2.2; clear hq5))
              | (at_builtin; refine wpl_app rfl _ _ rfl elem_int (own_below H5.out.1 ((Below.refl _ _).alloc (Nat.le_refl _) _)) rfl rfl rfl (Sl.new _ _ _) (by simp [Value.oneCell']) ((cvL c m).length + 1) rfl _ rfl (by unfold maxLen; omega) (by omega) (by simp; omega) ?_; intro s6 c6 w6 h6 hb6 _ _; have HA := Lib.hid (And.intro h6 hb6); clear h6 hb6))
            go_roundw
            case rel =>
              have e := cvL_1 HS.out
              have el : (cvL c (m + 1)).length = (cvL c m).length + 1 := by rw [e]; simp
              refine ⟨m + 1, s6, c6, by omega, by go_num, by rw [el], ?_, (H5.out.2.1.alloc (by omega) _).trans HA.out.2⟩
              rw [el, e, ← ints_append]
              exact HA.out.1
            case measure => simp [intOf]; omega
          · have HS := Lib.hid hs
            clear hs
            go_wp2_with (first
              | (go_at_call 81; ((refine (l17Same_any _ c (m + 1) 0 _ (HC.out _ HX.out.1) HH.out.2.1 HM.out.1 HM.out.2).mono ?_); rintro e w5 ⟨rfl, hq5⟩; rw [HS.out]; have H5 := Lib.hid (And.intro (own_below HX.out.2.2.1 hq5) (And.intro (HX.out.2.2.2.1.trans (hq5.mono (by have := HX.out.2.2.2.2; omega))) (show w.heap.size + 2 ≤ w5.heap.size from Nat.le_trans HX.out.2.2.2.2 hq5.size))); have hs5 := H5.out.2.2; clear hq5))
              | (at_builtin; refine wpl_app rfl _ _ rfl elem_int (own_below H5.out.1 ((Below.refl _ _).alloc (Nat.le_refl _) _)) rfl rfl rfl (Sl.new _ _ _) (by simp [Value.oneCell']) ((cvL c m).length + 1) rfl _ rfl (by unfold maxLen; omega) (by omega) (by simp; omega) ?_; intro s6 c6 w6 h6 hb6 _ _; have HA := Lib.hid (And.intro h6 hb6); clear h6 hb6))
            go_roundw
            case rel =>
              have e := cvL_m HS.out
              have el : (cvL c (m + 1)).length = (cvL c m).length + 1 := by rw [e]; simp
              refine ⟨m + 1, s6, c6, by omega, by go_num, by rw [el], ?_, (H5.out.2.1.alloc (by omega) _).trans HA.out.2⟩
              rw [el, e, ← ints_append]
              exact HA.out.1
            case measure => simp [intOf]; omega
          · have HS := Lib.hid hs
            clear hs
            go_wp2_with (go_at_call 81; ((refine (l17Same_any _ c (m + 1) 0 _ (HC.out _ HX.out.1) HH.out.2.1 HM.out.1 HM.out.2).mono ?_); rintro e w5 ⟨rfl, hq5⟩; rw [HS.out]; have H5 := Lib.hid (And.intro (own_below HX.out.2.2.1 hq5) (And.intro (HX.out.2.2.2.1.trans (hq5.mono (by have := HX.out.2.2.2.2; omega))) (show w.heap.size + 2 ≤ w5.heap.size from Nat.le_trans HX.out.2.2.2.2 hq5.size))); have hs5 := H5.out.2.2; clear hq5))
            go_roundw
            case rel => exact ⟨m + 1, s3, c3, by omega, by go_num, by rw [cvL_0 HS.out], by rw [cvL_0 HS.out]; exact H5.out.1, H5.out.2.1⟩
            case measure => simp [intOf]; omega
        · rw [decide_eq_false hlt]
          obtain rfl : V = m + 1 := by omega
          go_wp2_with fail
          go_ret
          exact ⟨s3, ⟨c3, rfl⟩, own_sl HX.out.2.2.1, HX.out.1⟩

set_option maxHeartbeats 1600000 in
theorem ConstantVars_i (v : Value) (c : Cir) (w : World) (h : CirV w v c) :
    Calls Try.prog 33 #[v] w fun e w' => ∃ s cap, e = .returned (.slice s (constR c).length cap) ∧ w'.ownsRow w.heap.size 3 1 (.slice s (constR c).length cap) (constR c).length (ints (constR c)) ∧ Below w.heap.size w w' := by
  have HC : Hid (∀ w', Below w.heap.size w w' → CirV w' v c) := fun w' hb => h.mono hb
  obtain ⟨sn, cn, sg, cg, so, co, rfl, h1, h2, h3, hl1, hl2, hl3⟩ := h
  have hL : Below w.heap.size w (w.alloc (.cells #[.int .i64 c.inp, .slice sn c.next.length cn, .slice sg c.gates.length cg, .slice so c.outs.length co] 29)) := by go_grown
  have hN := blk_new w (.cells #[.int .i64 c.inp, .slice sn c.next.length cn, .slice sg c.gates.length cg, .slice so c.outs.length co] 29)
  have HL := Lib.hid (And.intro hL (And.intro hN h2))
  clear hL hN h1 h2 h3
  cases hv : c.validB
  · rw [constR_no hv]
    have HE := Lib.hid hv
    clear hv
    go_enter Try.func33, Try.ntmps33
    go_wp2_with (go_at_call 56; ((with_reducible refine (CircuitValid_i _ _ _ (HC.out _ HL.out.1)).mono ?_); rintro e w1 ⟨rfl, hq⟩; have HQ := Lib.hid hq; clear hq; rw [HE.out]))
    go_ret
    exact ⟨_, _, rfl, World.ownsRow_nil _ _ _ _, HL.out.1.trans (HQ.out.mono (by simp))⟩
  · have hval := c.validB_iff.1 hv
    obtain ⟨f1, f2, f3, f4⟩ := valid_first hval
    obtain ⟨q1, q2, q3, q4, q5⟩ := id hval.lim
    obtain ⟨V, hV⟩ : ∃ V : Nat, c.vars = V := ⟨c.vars.toNat, by omega⟩
    have e2 : 1 + c.inp + (c.next.length : Int) + (c.gates.length : Int) = (V : Int) := hV
    have v1 : 1 ≤ V := by omega
    have v22 : V ≤ 22 := by omega
    obtain ⟨n1, n2⟩ := asgN_le hval
    have HH := Lib.hid (And.intro hv (And.intro hval (And.intro hV (And.intro e2 n2))))
    rw [constR_yes hv hV]
    clear hv hval f1 f2 f3 f4 hV e2 n1 n2
    go_enter Try.func33, Try.ntmps33
    go_wp2_with (first
      | (go_at_call 56; ((with_reducible refine (CircuitValid_i _ _ _ (HC.out _ HL.out.1)).mono ?_); rintro e w1 ⟨rfl, hq⟩; have HQ := Lib.hid (And.intro (blk_below hq (blk_lt HL.out.2.1) HL.out.2.1) (HL.out.1.trans (hq.mono (by simp)))); clear hq; rw [HH.out.1]))
      | (go_at_call 70; ((refine (functions_any _ _ _ _ _ _ c _ (CirAt.of_blk HQ.out.1) (HL.out.2.2.mono HQ.out.2) HH.out.2.1 V HH.out.2.2.1).mono ?_); rintro e w4 ⟨s4, c4, rfl, hs4, hq⟩; have HF := Lib.hid (And.intro hs4 (And.intro (HQ.out.2.trans (hq.mono HQ.out.2.size)) (blk_below hq (blk_lt HQ.out.1) HQ.out.1))); clear hs4 hq)))
    go_loopw [5, 4] (fun i x wr => ∃ (m : Nat) (s : Option Addr) (cc : Nat), m + 1 ≤ V ∧ i = .int .i64 ((m : Int) + 1) ∧ x = .slice s (cvL c m).length cc ∧ wr.ownsRow w4.heap.size 3 1 x (cvL c m).length (ints (cvL c m)) ∧ Below w4.heap.size w4 wr) (fun i _ _ => V - (intOf i).toNat)
    case atStart => exact ⟨0, _, _, v1, rfl, rfl, World.ownsRow_nil _ _ _ _, Below.refl _ _⟩
    case round =>
      obtain ⟨m, s3, c3, hm, rfl, rfl, ho, hbl⟩ := hrel
      have hblk := blk_below hbl (blk_lt HF.out.2.2) HF.out.2.2
      have hbw : Below w.heap.size w wr := HF.out.2.1.trans (hbl.mono HF.out.2.1.size)
      have hsz := hbl.size
      have hlen := cvL_len c m
      have HR := Lib.hid (And.intro ho (And.intro hbl (And.intro hbw hblk)))
      clear ho hbl hbw hblk
      by_cases hlt : m + 1 < V
      · obtain ⟨fb, off, rfl, hfb, z1, z2⟩ := HF.out.1.two HR.out.2.1 (j := 0) (k := m + 1) (x := .string (bstr (colV c 0) (asgN c))) (y := .string (bstr (colV c (m + 1)) (asgN c))) (by rw [List.getElem?_map, List.getElem?_range (by omega)]; rfl) (by rw [List.getElem?_map, List.getElem?_range (by omega)]; rfl)
        rw [Nat.add_zero] at z1
        have hcc : Hid (∀ W, Calls Try.prog 73 #[.string (bstr (colV c 0) (asgN c)), .string (bstr (colV c (m + 1)) (asgN c))] W fun e w' => e = .returned (.int .i64 (sameV c (m + 1) 0)) ∧ Drew W w') := fun W => by
          rw [sameV_comm]; exact compareCols_any c 0 (m + 1) W (by have := HH.out.2.2.2.2; omega)
        go_wp2_with (go_at_call 78; ((refine (vars_any _ _ _ _ _ _ _ _ _ _ (CirAt.of_blk HR.out.2.2.2) (by omega) (by omega) (by omega)).mono ?_); rintro e w3 ⟨rfl, hd⟩; rw [HH.out.2.2.2.1]; have HD := Lib.hid hd; clear hd))
        have z3 : w3.cell? ⟨fb, off, none⟩ = some (.string (bstr (colV c 0) (asgN c))) := by rw [(HD.out.below wr.heap.size).cell (by simp; omega)]; exact z1
        have z4 : w3.cell? ⟨fb, off + (m + 1), none⟩ = some (.string (bstr (colV c (m + 1)) (asgN c))) := by rw [(HD.out.below wr.heap.size).cell (by simp; omega)]; exact z2
        clear z1 z2
        go_quiet ((go_at_call 73; exact Calls.quiet_of (hcc.out _)))
        clear z3 z4
        rcases sameV_cases c (m + 1) 0 with hs | hs | hs
        all_goals rw [hs]
        · have HS := Lib.hid hs
          clear hs
          have hob := own_below HR.out.1 (below_n (HD.out.below wr.heap.size) nq)
          have hbb := HR.out.2.1.trans (below_n (HD.out.below _) nq)
          have HB2 := Lib.hid (And.intro hob hbb)
          have hs5 : w4.heap.size ≤ w3.heap.size := by rw [HD.out.heap]; exact hsz
          clear hob hbb
          go_wp2_with (at_builtin; refine wpl_app rfl _ _ rfl elem_int (own_below HB2.out.1 ((Below.refl _ _).alloc (Nat.le_refl _) _)) rfl rfl rfl (Sl.new _ _ _) (by simp [Value.oneCell']) ((cvL c m).length + 1) rfl _ rfl (by unfold maxLen; omega) (by omega) (by simp; omega) ?_; intro s6 c6 w6 h6 hb6 _ _; have HA := Lib.hid (And.intro h6 hb6); clear h6 hb6)
          go_roundw
          case rel =>
            have e := cvL_1 HS.out
            have el : (cvL c (m + 1)).length = (cvL c m).length + 1 := by rw [e]; simp
            refine ⟨m + 1, s6, c6, by omega, by go_num, by rw [el], ?_, (HB2.out.2.alloc hs5 _).trans HA.out.2⟩
            rw [el, e, ← ints_append]
            exact HA.out.1
          case measure => simp [intOf]; omega
        · have HS := Lib.hid hs
          clear hs
          have hob := own_below HR.out.1 (below_n (HD.out.below wr.heap.size) nq)
          have hbb := HR.out.2.1.trans (below_n (HD.out.below _) nq)
          have HB2 := Lib.hid (And.intro hob hbb)
          have hs5 : w4.heap.size ≤ w3.heap.size := by rw [HD.out.heap]; exact hsz
          clear hob hbb
          go_wp2_with (at_builtin; refine wpl_app rfl _ _ rfl elem_int (own_below HB2.out.1 ((Below.refl _ _).alloc (Nat.le_refl _) _)) rfl rfl rfl (Sl.new _ _ _) (by simp [Value.oneCell']) ((cvL c m).length + 1) rfl _ rfl (by unfold maxLen; omega) (by omega) (by simp; omega) ?_; intro s6 c6 w6 h6 hb6 _ _; have HA := Lib.hid (And.intro h6 hb6); clear h6 hb6)
          go_roundw
          case rel =>
            have e := cvL_m HS.out
            have el : (cvL c (m + 1)).length = (cvL c m).length + 1 := by rw [e]; simp
            refine ⟨m + 1, s6, c6, by omega, by go_num, by rw [el], ?_, (HB2.out.2.alloc hs5 _).trans HA.out.2⟩
            rw [el, e, ← ints_append]
            exact HA.out.1
          case measure => simp [intOf]; omega
        · have HS := Lib.hid hs
          clear hs
          go_wp2_with fail
          go_roundw
          case rel => exact ⟨m + 1, s3, c3, by omega, by go_num, by rw [cvL_0 HS.out], by rw [cvL_0 HS.out]; exact own_below HR.out.1 (below_n (HD.out.below _) _), HR.out.2.1.trans (below_n (HD.out.below _) _)⟩
          case measure => simp [intOf]; omega
      · obtain rfl : V = m + 1 := by omega
        go_wp2_with (go_at_call 78; ((refine (vars_any _ _ _ _ _ _ _ _ _ _ (CirAt.of_blk HR.out.2.2.2) (by omega) (by omega) (by omega)).mono ?_); rintro e w3 ⟨rfl, hd⟩; rw [HH.out.2.2.2.1]; have HD := Lib.hid hd; clear hd))
        go_ret
        exact ⟨s3, c3, rfl, own_base (own_below HR.out.1 (HD.out.below _)) HF.out.2.1.size, HR.out.2.2.1.trans (HD.out.below _)⟩

end Go.Proofs.Ytindndcdpnpcmaa
