import Derived.Test.YtnmafbggpjglaaaZ7
import Derived.Test.YtnmafbggpjglaaaZ8
namespace Go.Proofs.Ytnmafbggpjglaaa
set_option linter.unusedVariables false
set_option linter.unusedSimpArgs false
open Go.RowKit

/-! The law FnTseitin. -/

theorem Sl.toI {w : World} {g : Nat} {xs : List Int} {t : TypeId} {fz : Nat × Nat} (h : w.heap[g]? = some (.cells (ints xs).toArray t fz)) : Sl w (some ⟨g, 0, none⟩) (ints xs) := by
  have := Sl.blk h; simpa using this

set_option maxRecDepth 100000 in
set_option maxHeartbeats 3200000 in
theorem FnTseitin_any (s : Option Addr) (cap : Nat) (xs : List Int) (w : World) (hs : Sl w s (u8s xs)) (hl : xs.length ≤ 9223372036854775807) (hcap : xs.length ≤ cap) (hcap2 : cap ≤ 9223372036854775807) (hr : ∀ x ∈ xs, 0 ≤ x ∧ x ≤ 255) :
    Calls Try.prog 6 #[.slice s xs.length cap] w fun e w' => e = .returned (.bool true) ∧ Below w.heap.size w w' := by
  by_cases hc : xs.length ≤ 1048576
  · have HD := Lib.hid (DrawTseitin_any s cap xs w hs hc hcap hcap2 hr)
    clear hs hr
    go_enter Try.func6, Try.ntmps6
    go_upto_region 4 with (go_at_call 27; (with_reducible refine HD.out.mono ?_); rintro e w1 ⟨C, i, vn, vg, vo, rfl, h1, h2, h3, h4⟩; obtain ⟨sn, cn, rfl⟩ := own_shape h1.n; obtain ⟨sg, cg, rfl⟩ := own_shape h1.g; obtain ⟨so, co, rfl⟩ := own_shape h1.o; have H1 := Lib.hid (And.intro h1 h4); obtain ⟨l1, l2, l3, l4, l5⟩ := h2; obtain ⟨i1, i2⟩ := h3; clear h1 h4)
    obtain ⟨B, hB⟩ : ∃ B, B = w1.heap.size := ⟨_, rfl⟩
    have hk := blk_new w1 (.cells #[.int .i64 C.inp, .slice sn C.next.length cn, .slice sg C.gates.length cg, .slice so C.outs.length co] 26)
    have hbb := below_alloc w1 (.cells #[.int .i64 C.inp, .slice sn C.next.length cn, .slice sg C.gates.length cg, .slice so C.outs.length co] 26)
    have hV : CirV (w1.alloc (.cells #[.int .i64 C.inp, .slice sn C.next.length cn, .slice sg C.gates.length cg, .slice so C.outs.length co] 26)) (.agg #[.int .i64 C.inp, .slice sn C.next.length cn, .slice sg C.gates.length cg, .slice so C.outs.length co]) C :=
      ⟨_, _, _, _, _, _, rfl, own_sl (own_below H1.out.1.n hbb), own_sl (own_below H1.out.1.g hbb), own_sl (own_below H1.out.1.o hbb), by omega, by omega, by omega⟩
    have hgs := own_sl (own_below H1.out.1.g hbb)
    have hbw := H1.out.2.trans (hbb.mono H1.out.2.size)
    rw [← hB] at hk
    rw [← hB]
    clear hbb hB H1
    revert hV hgs hbw hk
    generalize w1.alloc (.cells #[.int .i64 C.inp, .slice sn C.next.length cn, .slice sg C.gates.length cg, .slice so C.outs.length co] 26) = W1
    intro hk hV hgs hbw
    have HC : Hid (∀ W, Below W1.heap.size W1 W → CirV W (.agg #[.int .i64 C.inp, .slice sn C.next.length cn, .slice sg C.gates.length cg, .slice so C.outs.length co]) C ∧ Sl W sg (gcells C.gates) ∧ (∀ o, W.cell? ⟨B, o, none⟩ = #[Value.int .i64 C.inp, .slice sn C.next.length cn, .slice sg C.gates.length cg, .slice so C.outs.length co][o]?)) := fun W hW => ⟨hV.mono hW, hgs.mono hW, (blk_all (blk_below hW (blk_lt hk) hk)).1⟩
    have HW := Lib.hid hbw
    clear hV hgs hbw hk
    have cb := (HC.out _ (Below.refl _ _)).2.2
    obtain ⟨Rs, hRs⟩ : ∃ Rs, Rs = tsR C i := ⟨_, rfl⟩
    have hRl : Rs.length ≤ 44 := by rw [hRs]; exact (tsR_small C i).1
    have HRb : Hid (∀ r ∈ Rs, r.length ≤ 3) := by show ∀ r ∈ Rs, r.length ≤ 3; rw [hRs]; exact (tsR_small C i).2
    have HRs := Lib.hid hRs
    clear hRs
    by_cases hok : tsOk C i
    · have HT : Hid (decide (tsOk C i) = true) := decide_eq_true hok
      have hvB := hok.1
      have hval := C.validB_iff.1 hvB
      obtain ⟨q1, q2, q3, q4, q5⟩ := id hval.lim
      obtain ⟨n1, n2⟩ := asgN_le2 hval
      obtain ⟨ni, hni⟩ : ∃ ni : Nat, C.inp = ni := ⟨C.inp.toNat, by omega⟩
      obtain ⟨N, hN⟩ : ∃ N, N = asgN C := ⟨_, rfl⟩
      rw [← hN] at n1 n2
      have n4 : ni ≤ 4 := by omega
      have eV : C.vars = 1 + C.inp + C.next.length + C.gates.length := by unfold Cir.vars; rfl
      obtain ⟨V, hV⟩ : ∃ V : Nat, C.vars = V := ⟨C.vars.toNat, by omega⟩
      have v22 : V ≤ 22 := by omega
      have hEl : ∀ x, (evalV C x (-1) false).length = V := fun x => by have := evalV_length C x (-1) false; omega
      have hi0 : 0 ≤ i ∧ i < 2 * V := by have := hok.2; rw [hV] at this; exact this
      obtain ⟨i01, i02⟩ := hi0
      have hlen := tsR_len hok
      rw [← HRs.out] at hlen
      have hwp : wrap64 (2 ^ (ni + C.next.length)) = (N : Int) := by rw [wrap_pow (by omega), hN]; unfold asgN; rw [hni]; simp
      have hto : ((ni : Int) + (C.next.length : Int)).toNat = ni + C.next.length := by omega
      have HM : Hid ((∀ x, holdsV (vI (evalV C x (-1) false) V) Rs = litB (evalV C x (-1) false) i) ∧ (∀ r ∈ Rs, ∀ n ∈ r, lit25 n) ∧ clausesB Rs = true) := by
        refine ⟨fun x => ?_, ?_, ?_⟩
        · have h := tsR_holds hok x; rw [hEl x, ← HRs.out] at h; exact h
        · rw [HRs.out]; exact tsR_lits C i
        · rw [HRs.out]; exact tsR_clauses C i
      have HX := Lib.hid (And.intro hval (And.intro hni (And.intro hV (And.intro hEl (And.intro hvB hlen)))))
      rw [hni] at HC cb ⊢
      clear hok hval q1 q2 hni hN hV hEl eV hlen hvB l1 l2
      go_upto_region 10 with (first | (go_at_call 28; ((with_reducible refine (Tseitin_i _ _ _ _ (HC.out _ (Below.refl _ _)).1 ⟨by omega, by omega⟩).mono ?_); rintro e w2 ⟨s1, c1, bs, rfl, h1, hq⟩; rw [← HRs.out] at h1 ⊢; have H2 := Lib.hid (And.intro h1.sls hq); clear h1 hq cb; have cb := (HC.out _ H2.out.2).2.2)) | (go_at_call 30; ((with_reducible refine (Tseitin_s _ _ _ _ (HC.out _ H2.out.2).1 ⟨by omega, by omega⟩).mono ?_); rintro e w3 ⟨s2, c2, rfl, h1, hq⟩; rw [← HRs.out] at h1 ⊢; have H3 := Lib.hid (And.intro (H2.out.1.mono hq) (And.intro h1 (H2.out.2.trans (hq.mono H2.out.2.size)))); clear h1 hq cb; have cb := (HC.out _ H3.out.2.2).2.2)) | (go_at_call 29; ((with_reducible refine (sameClauses_any _ _ Rs _ _ _ H3.out.1 H3.out.2.1 (by omega) (fun r hr => Nat.le_trans (HRb.out r hr) (by decide))).mono ?_); rintro e w4 ⟨rfl, hd⟩; have H4 := Lib.hid (And.intro (H3.out.1.mono (hd.below _)) (H3.out.2.2.trans ((hd.below _).mono H3.out.2.2.size))); clear hd cb; have cb := (HC.out _ H4.out.2).2.2)) | (go_at_call 31; ((with_reducible refine (litExists_any _ C _ _ (HC.out _ H4.out.2).1 ⟨by omega, by omega⟩).mono ?_); rintro e w5 ⟨rfl, hq⟩; rw [HT.out]; have H5 := Lib.hid (And.intro (H4.out.1.mono hq) (H4.out.2.trans (hq.mono H4.out.2.size))); clear hq cb; have cb := (HC.out _ H5.out.2).2.2)))
      clear cb
      go_loopw [6] (fun v6 wr => ∃ k : Nat, k ≤ N ∧ v6 = .int .i64 k ∧ SlS wr s1 Rs ∧ Below W1.heap.size W1 wr) (fun v6 _ => N - (intOf v6).toNat)
      case atStart => exact ⟨0, Nat.zero_le _, rfl, H5.out.1, H5.out.2⟩
      case round =>
        obtain ⟨k, hk, rfl, hls, hbl⟩ := hrel
        have cb := (HC.out _ hbl).2.2
        have HR := Lib.hid (And.intro hls hbl)
        clear hls hbl
        by_cases hlt : k < N
        · obtain ⟨E, hE⟩ : ∃ E, E = evalV C (k : Int) (-1) false := ⟨_, rfl⟩
          have HE := Lib.hid hE
          have k1000 : (k : Int) ≤ 1000 := Int.ofNat_le.2 (show k ≤ 1000 from Nat.le_trans (Nat.le_of_lt hlt) (Nat.le_trans n2 (by decide)))
          have hpw : (1 : Int) ≤ 2 ^ ni := by have : (0 : Int) < 2 ^ ni := Int.pow_pos (by decide); omega
          have x1 : 0 ≤ (k : Int) / 2 ^ ni := Int.ediv_nonneg (Int.natCast_nonneg k) (by omega)
          have x2 : (k : Int) / 2 ^ ni ≤ 1000 := Int.le_trans (Int.ediv_le_self _ (Int.natCast_nonneg k)) k1000
          have he := evalV_eq C (k : Int) ni HX.out.2.1
          rw [← hE] at he
          have Hev := Lib.hid he
          clear hE he hpw
          go_upto_region 12 with fail
          clear cb hwp hto
          refine wp_region_T (fun w' => ∀ o, w'.cell? ⟨B, o, none⟩ = #[Value.int .i64 ni, .slice sn C.next.length cn, .slice sg C.gates.length cg, .slice so C.outs.length co][o]?) (.q 0 (.q 1 (.q 2 (.q 3 (.q 4 (.q 5 (.q 6 (.q 7 (.q 9 (.q 10 (.q 11 (.e 8 (.e 12 (.e 13 (.q 14 .nil))))))))))))))) (by kernel_rfl) (by kernel_rfl) (by kernel_rfl) (HC.out _ HR.out.2.drew).2.2 ?_
          repeat (first | (refine ordt_s (o := ?_) ?_ ?_ ?_; rotate_left 1; (focus ((simp only [List.getElem?_toArray, List.getElem?_cons_succ, List.getElem?_cons_zero]) <;> rfl)); (focus rfl); simp only [Act.put, List.setIfInBounds_toArray, List.set_cons_zero, List.set_cons_succ]) | (refine ordt_q (o := ?_) (v := ?_) ?_ ?_ ?_ ?_; rotate_left 2; (focus ((simp only [List.getElem?_toArray, List.getElem?_cons_succ, List.getElem?_cons_zero]) <;> rfl)); (focus rfl); (focus (intro w' hS; (try dsimp only at hS); go_split_ands; go_simp; (try (with_reducible rfl)))); simp only [Act.put, List.setIfInBounds_toArray, List.set_cons_zero, List.set_cons_succ]))
          refine ordt_e ?_
          (refine op_e (o := ?_) ?_ ?_ (fun K hK => ?_); rotate_left 1; (focus ((simp only [List.getElem?_toArray, List.getElem?_cons_succ, List.getElem?_cons_zero]) <;> rfl)); (focus rfl); go_simp)
          refine (bitsL_any ((k : Int) / 2 ^ ni) C.next.length _ x1 (by omega) (by omega)).mono ?_
          rintro e wa ⟨sa, ca, rfl, ha, hqa⟩
          have hba : Below W1.heap.size W1 wa := HR.out.2.trans (((Below.refl _ _).drew.trans hqa).mono HR.out.2.size)
          refine hK.out _ _ (HC.out _ hba).2.2 ?_
          clear hK K
          have HA := Lib.hid (And.intro ha (And.intro hba (HR.out.1.mono ((Below.refl _ _).drew.trans hqa))))
          clear ha hba hqa
          (try simp only [Act.put, List.setIfInBounds_toArray, List.set_cons_zero, List.set_cons_succ])
          repeat (first | (refine ordt_s (o := ?_) ?_ ?_ ?_; rotate_left 1; (focus ((simp only [List.getElem?_toArray, List.getElem?_cons_succ, List.getElem?_cons_zero]) <;> rfl)); (focus rfl); simp only [Act.put, List.setIfInBounds_toArray, List.set_cons_zero, List.set_cons_succ]) | (refine ordt_q (o := ?_) (v := ?_) ?_ ?_ ?_ ?_; rotate_left 2; (focus ((simp only [List.getElem?_toArray, List.getElem?_cons_succ, List.getElem?_cons_zero]) <;> rfl)); (focus rfl); (focus (intro w' hS; (try dsimp only at hS); go_split_ands; go_simp; (try (with_reducible rfl)))); simp only [Act.put, List.setIfInBounds_toArray, List.set_cons_zero, List.set_cons_succ]))
          refine ordt_e ?_
          (refine op_e (o := ?_) ?_ ?_ (fun K hK => ?_); rotate_left 1; (focus ((simp only [List.getElem?_toArray, List.getElem?_cons_succ, List.getElem?_cons_zero]) <;> rfl)); (focus rfl); go_simp)
          refine (bitsL_any (k : Int) ni _ (Int.natCast_nonneg k) (by omega) (by omega)).mono ?_
          rintro e wb ⟨sb, cb2, rfl, hb, hqb⟩
          have hbb : Below W1.heap.size W1 wb := HA.out.2.1.trans (hqb.mono HA.out.2.1.size)
          refine hK.out _ _ (HC.out _ hbb).2.2 ?_
          clear hK K
          have HB := Lib.hid (And.intro (HA.out.1.mono hqb) (And.intro hb (And.intro hbb (HA.out.2.2.mono hqb))))
          clear hb hqb hbb
          (try simp only [Act.put, List.setIfInBounds_toArray, List.set_cons_zero, List.set_cons_succ])
          refine ordt_e ?_
          (refine op_e (o := ?_) ?_ ?_ (fun K hK => ?_); rotate_left 1; (focus ((simp only [List.getElem?_toArray, List.getElem?_cons_succ, List.getElem?_cons_zero]) <;> rfl)); (focus rfl); go_simp)
          refine (EvalVars_any C sn sg so sa sb cn cg co ca cb2 _ _ wb ni HX.out.2.1 (by rw [HX.out.2.1]; exact (HC.out _ HB.out.2.2.1).1) (HC.out _ HB.out.2.2.1).2.1 HX.out.1 HB.out.1 HB.out.2.1 (bitsV_length _ _) (bitsV_length _ _) V HX.out.2.2.1).mono ?_
          rintro e wd ⟨gd, rfl, hd, hqd⟩
          rw [Hev.out] at hd
          have hbd : Below W1.heap.size W1 wd := HB.out.2.2.1.trans (hqd.mono HB.out.2.2.1.size)
          refine hK.out _ _ (HC.out _ hbd).2.2 ?_
          clear hK K
          have HD := Lib.hid (And.intro hd (And.intro hbd (HB.out.2.2.2.mono hqd)))
          clear hbd hd hqd
          (try simp only [Act.put, List.setIfInBounds_toArray, List.set_cons_zero, List.set_cons_succ])
          repeat (first | (refine ordt_s (o := ?_) ?_ ?_ ?_; rotate_left 1; (focus ((simp only [List.getElem?_toArray, List.getElem?_cons_succ, List.getElem?_cons_zero]) <;> rfl)); (focus rfl); simp only [Act.put, List.setIfInBounds_toArray, List.set_cons_zero, List.set_cons_succ]) | (refine ordt_q (o := ?_) (v := ?_) ?_ ?_ ?_ ?_; rotate_left 2; (focus ((simp only [List.getElem?_toArray, List.getElem?_cons_succ, List.getElem?_cons_zero]) <;> rfl)); (focus rfl); (focus (intro w' hS; (try dsimp only at hS); go_split_ands; go_simp; (try (with_reducible rfl)))); simp only [Act.put, List.setIfInBounds_toArray, List.set_cons_zero, List.set_cons_succ]))
          refine ordt_nil ?_
          have hmk : ∀ w, (Instr.makeSlice 23 (.int .i64 26) (.int .i64 26)).run Try.prog w = .ok (.slice (some ⟨w.heap.size, 0, none⟩) 26 26) (w.alloc (.cells (ints (vI E 0)).toArray 3)) := fun w => by rw [vI_zero]; exact mkInts w 26 (by omega)
          go_upto_region 14 with fail
          obtain ⟨bv, hbv⟩ : ∃ b, b = wd.heap.size := ⟨_, rfl⟩
          have hk0 := blk_new wd (.cells (ints (vI E 0)).toArray 3)
          have hbb0 := below_alloc wd (.cells (ints (vI E 0)).toArray 3)
          have hgb : gd < bv := by rw [hbv]; exact blk_lt HD.out.1
          have hWb : W1.heap.size ≤ bv := by rw [hbv]; exact HD.out.2.1.size
          rw [← hbv] at hk0 hbb0
          rw [← hbv]
          have HDB : Hid (∀ W, Below bv wd W → W.heap[gd]? = some (.cells (bools E).toArray 4 (0, 0)) ∧ SlS W s1 Rs ∧ Below W1.heap.size W1 W) := fun W hW => by
            have hW' : Below wd.heap.size wd W := by rw [← hbv]; exact hW
            exact ⟨blk_below hW hgb HD.out.1, HD.out.2.2.mono hW', HD.out.2.1.trans (hW'.mono HD.out.2.1.size)⟩
          clear hmk hbv
          revert hk0 hbb0
          generalize wd.alloc (.cells (ints (vI E 0)).toArray 3) = W2
          intro hk0 hbb0
          have H2W := Lib.hid (And.intro hk0 hbb0)
          clear hk0 hbb0
          have hEV := HX.out.2.2.2.1 (k : Int)
          rw [← HE.out] at hEV
          have HEV := Lib.hid hEV
          clear hEV
          go_upto_region 15 with fail
          go_loopw [9] (fun v9 wr => ∃ m : Nat, m ≤ V ∧ v9 = .int .i64 m ∧ wr.heap[bv]? = some (.cells (ints (vI E m)).toArray 3 (0, 0)) ∧ Below bv wd wr) (fun v9 _ => V - (intOf v9).toNat)
          case atStart => exact ⟨0, Nat.zero_le _, rfl, H2W.out.1, H2W.out.2⟩
          case round =>
            obtain ⟨m, hm, rfl, hvb, hbw⟩ := hrel
            by_cases hlt2 : m < V
            · obtain ⟨b, hb⟩ := get_of_lt (l := E) (k := m) (by rw [HEV.out]; exact hlt2)
              have hvl := vI_length E m (by rw [HEV.out]; exact hm) (by omega)
              obtain ⟨y, hy⟩ := get_of_lt (l := vI E m) (k := m + 1) (by rw [hvl]; omega)
              have y1 := ints_cell hvb hy
              have y2 : wr.frozen? ⟨bv, m + 1, none⟩ = false := blk_free hvb
              have hst := vI_step hb (by omega)
              have hs1 := ints_blk_set hvb (m + 1) (-1)
              have hb1 : Below bv wd (wr.setCell ⟨bv, m + 1, none⟩ (.int .i64 (-1))) := hbw.setCell (Nat.le_refl _) _
              have hl2 : m + 1 < ((vI E m).set (m + 1) (-1)).length := by rw [List.length_set, hvl]; omega
              have HQ := Lib.hid (And.intro hb hst)
              have HL2 := Lib.hid hl2
              clear hvb hbw hy hvl hb hst hl2
              go_upto_region 18 with fail
              clear y1 y2
              revert hs1 hb1
              generalize wr.setCell ⟨bv, m + 1, none⟩ (.int .i64 (-1)) = W3
              intro hs1 hb1
              obtain ⟨y3, hy3⟩ := get_of_lt HL2.out
              have y1 := ints_cell hs1 hy3
              have y2 : W3.frozen? ⟨bv, m + 1, none⟩ = false := blk_free hs1
              have zb := bools_cell (HDB.out _ hb1).1 HQ.out.1
              have hs2 := ints_blk_set hs1 (m + 1) 1
              have hb2 : Below bv wd (W3.setCell ⟨bv, m + 1, none⟩ (.int .i64 1)) := hb1.setCell (Nat.le_refl _) _
              rw [List.set_set] at hs2
              have HS1 := Lib.hid (And.intro hs1 hb1)
              have HS2 := Lib.hid (And.intro hs2 hb2)
              clear hs1 hb1 hs2 hb2 hy3
              cases b
              · go_wp2_with fail
                go_roundw
                case rel => exact ⟨m + 1, by omega, by go_num, by have h := HS1.out.1; rw [show (-1 : Int) = b2i false from rfl, HQ.out.2] at h; exact h, HS1.out.2⟩
                case measure => simp [intOf]; omega
              · go_wp2_with fail
                go_roundw
                case rel => exact ⟨m + 1, by omega, by go_num, by have h := HS2.out.1; rw [show (1 : Int) = b2i true from rfl, HQ.out.2] at h; exact h, HS2.out.2⟩
                case measure => simp [intOf]; omega
            · obtain rfl : V = m := by omega
              obtain ⟨-, hss, hbl⟩ := HDB.out _ hbw
              have HV := Lib.hid (And.intro hvb (And.intro hss hbl))
              clear hvb hbw hss hbl
              go_upto_region 20 with fail
              refine wp_region_T (fun w' => ∀ o, w'.cell? ⟨B, o, none⟩ = #[Value.int .i64 ni, .slice sn C.next.length cn, .slice sg C.gates.length cg, .slice so C.outs.length co][o]?) (.q 0 (.q 1 (.q 3 (.q 4 (.q 5 (.e 2 (.e 6 (.q 7 .nil)))))))) (by kernel_rfl) (by kernel_rfl) (by kernel_rfl) (HC.out _ HV.out.2.2.drew).2.2 ?_
              repeat (first | (refine ordt_s (o := ?_) ?_ ?_ ?_; rotate_left 1; (focus ((simp only [List.getElem?_toArray, List.getElem?_cons_succ, List.getElem?_cons_zero]) <;> rfl)); (focus rfl); simp only [Act.put, List.setIfInBounds_toArray, List.set_cons_zero, List.set_cons_succ]) | (refine ordt_q (o := ?_) (v := ?_) ?_ ?_ ?_ ?_; rotate_left 2; (focus ((simp only [List.getElem?_toArray, List.getElem?_cons_succ, List.getElem?_cons_zero]) <;> rfl)); (focus rfl); (focus (intro w' hS; (try dsimp only at hS); go_split_ands; go_simp; (try (with_reducible rfl)))); simp only [Act.put, List.setIfInBounds_toArray, List.set_cons_zero, List.set_cons_succ]))
              refine ordt_e ?_
              (refine op_e (o := ?_) ?_ ?_ (fun K hK => ?_); rotate_left 1; (focus ((simp only [List.getElem?_toArray, List.getElem?_cons_succ, List.getElem?_cons_zero]) <;> rfl)); (focus rfl); go_simp)
              have hh := holds_any s1 (some ⟨bv, 0, none⟩) c1 26 Rs (vI E V) wr.drew (HV.out.2.1.mono (Below.refl _ _).drew) ((Sl.toI HV.out.1).mono (Below.refl _ _).drew) (by omega) (fun r hr => Nat.le_trans (HRb.out r hr) (by decide)) (vI_length E V (Nat.le_of_eq HEV.out.symm) (by omega)) HM.out.2.1
              rw [HE.out, HM.out.1 (k : Int), ← HE.out] at hh
              refine hh.mono ?_
              rintro e we ⟨rfl, rfl⟩
              refine hK.out _ _ (HC.out _ HV.out.2.2.drew).2.2 ?_
              clear hK K hh
              obtain ⟨A, hA⟩ : ∃ A, A = litB E i := ⟨_, rfl⟩
              rw [← hA]
              have HA2 := Lib.hid hA
              clear hA
              (try simp only [Act.put, List.setIfInBounds_toArray, List.set_cons_zero, List.set_cons_succ])
              refine ordt_e ?_
              (refine op_e (o := ?_) ?_ ?_ (fun K hK => ?_); rotate_left 1; (focus ((simp only [List.getElem?_toArray, List.getElem?_cons_succ, List.getElem?_cons_zero]) <;> rfl)); (focus rfl); go_simp)
              refine (litValueL_any C sn sg so cn cg co ni HX.out.2.1 i (k : Int) _ (by rw [HX.out.2.1]; exact (HC.out _ HV.out.2.2.drew).1) (HC.out _ HV.out.2.2.drew).2.1 HX.out.1 i01 (by rw [HX.out.2.2.1]; omega) (Int.natCast_nonneg k) k1000).mono ?_
              rintro e wf ⟨rfl, hq⟩
              rw [← HE.out, ← HA2.out]
              have hbf : Below wr.heap.size wr wf := (Below.refl _ _).drew.trans hq
              have hbg := HV.out.2.2.trans (hbf.mono HV.out.2.2.size)
              refine hK.out _ _ (HC.out _ hbg).2.2 ?_
              clear hK K hq
              have HG := Lib.hid (And.intro (HV.out.2.1.mono hbf) hbg)
              clear hbf hbg
              (try simp only [Act.put, List.setIfInBounds_toArray, List.set_cons_zero, List.set_cons_succ])
              repeat (first | (refine ordt_s (o := ?_) ?_ ?_ ?_; rotate_left 1; (focus ((simp only [List.getElem?_toArray, List.getElem?_cons_succ, List.getElem?_cons_zero]) <;> rfl)); (focus rfl); simp only [Act.put, List.setIfInBounds_toArray, List.set_cons_zero, List.set_cons_succ]) | (refine ordt_q (o := ?_) (v := ?_) ?_ ?_ ?_ ?_; rotate_left 2; (focus ((simp only [List.getElem?_toArray, List.getElem?_cons_succ, List.getElem?_cons_zero]) <;> rfl)); (focus rfl); (focus (intro w' hS; (try dsimp only at hS); go_split_ands; go_simp; (try (with_reducible rfl)))); simp only [Act.put, List.setIfInBounds_toArray, List.set_cons_zero, List.set_cons_succ]))
              refine ordt_nil ?_
              go_wp2_with fail
              go_roundw
              case rel => exact ⟨k + 1, by omega, by go_num, HG.out.1, HG.out.2⟩
              case measure => simp [intOf]; omega
        · go_wp2_with (go_at_call 34; ((with_reducible refine (ClausesValid_i _ _ Rs _ HR.out.1 (by omega) (fun r hr => Nat.le_trans (HRb.out r hr) (by decide))).mono ?_); rintro e w9 ⟨rfl, rfl⟩; rw [HM.out.2.2]))
          go_ret
          have hlen := HX.out.2.2.2.2.2
          exact ⟨by simp; omega, HW.out.trans (HR.out.2.mono HW.out.size)⟩

    · have HN : Hid (Rs.length = 0) := by show _ = _; rw [HRs.out, tsR_no hok]; rfl
      have HT : Hid (decide (tsOk C i) = false) := decide_eq_false hok
      clear hok
      go_upto_region 8 with (first | (go_at_call 28; ((with_reducible refine (Tseitin_i _ _ _ _ (HC.out _ (Below.refl _ _)).1 ⟨by omega, by omega⟩).mono ?_); rintro e w2 ⟨s1, c1, bs, rfl, h1, hq⟩; rw [← HRs.out] at h1 ⊢; have H2 := Lib.hid (And.intro h1.sls hq); clear h1 hq cb; have cb := (HC.out _ H2.out.2).2.2)) | (go_at_call 30; ((with_reducible refine (Tseitin_s _ _ _ _ (HC.out _ H2.out.2).1 ⟨by omega, by omega⟩).mono ?_); rintro e w3 ⟨s2, c2, rfl, h1, hq⟩; rw [← HRs.out] at h1 ⊢; have H3 := Lib.hid (And.intro (H2.out.1.mono hq) (And.intro h1 (H2.out.2.trans (hq.mono H2.out.2.size)))); clear h1 hq cb; have cb := (HC.out _ H3.out.2.2).2.2)) | (go_at_call 29; ((with_reducible refine (sameClauses_any _ _ Rs _ _ _ H3.out.1 H3.out.2.1 (by omega) (fun r hr => Nat.le_trans (HRb.out r hr) (by decide))).mono ?_); rintro e w4 ⟨rfl, hd⟩; have H4 := Lib.hid (And.intro (H3.out.1.mono (hd.below _)) (H3.out.2.2.trans ((hd.below _).mono H3.out.2.2.size))); clear hd cb; have cb := (HC.out _ H4.out.2).2.2)) | (go_at_call 31; ((with_reducible refine (litExists_any _ C _ _ (HC.out _ H4.out.2).1 ⟨by omega, by omega⟩).mono ?_); rintro e w5 ⟨rfl, hq⟩; rw [HT.out]; have H5 := Lib.hid (And.intro (H4.out.1.mono hq) (H4.out.2.trans (hq.mono H4.out.2.size))); clear hq cb; have cb := (HC.out _ H5.out.2).2.2)))
      have hn0 := HN.out
      go_wp2_with (go_at_call 12; ((with_reducible refine (alive_any _).mono ?_); rintro e w7 ⟨rfl, hq⟩; have HA := Lib.hid (H5.out.2.trans (hq.mono H5.out.2.size)); clear hq))
      go_ret
      exact ⟨rfl, HW.out.trans (HA.out.mono HW.out.size)⟩
  · clear hs hr
    go_enter Try.func6, Try.ntmps6
    go_wp2
    go_ret
    exact ⟨rfl, Below.refl _ _⟩

end Go.Proofs.Ytnmafbggpjglaaa
