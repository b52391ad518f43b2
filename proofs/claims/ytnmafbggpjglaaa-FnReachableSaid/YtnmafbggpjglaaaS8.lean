import Derived.Test.YtnmafbggpjglaaaS7
import Derived.Test.YtnmafbggpjglaaaS9
import Derived.Test.YtnmafbggpjglaaaW6
import Derived.Test.YtnmafbggpjglaaaE1
import Derived.Test.YtnmafbggpjglaaaA4
namespace Go.Proofs.Ytnmafbggpjglaaa
set_option linter.unusedVariables false
set_option linter.unusedSimpArgs false
open Go.RowKit

/-! The law FnReachable. -/

theorem cyc_eq (c : Cir) (s x : Int) (ni : Nat) (li : c.inp = ni) : cycV c s x = valsV (-1) false (stuckB (-1) false (false :: (bitsV x ni ++ bitsV s c.next.length))) c.gates := by
  unfold cycV stuckB
  rw [li, Int.toNat_natCast]
  rfl
theorem own_cap {w : World} {base : Nat} {e : TypeId} {size : Nat} {s : Option Addr} {n c : Nat} {xs : List Value} (h : w.ownsRow base e size (.slice s n c) n xs) : n ≤ c := by
  rcases h.2 with ⟨e, h0⟩ | ⟨g, cap, cur, e, _, _, hn, _⟩
  · simp only [Value.slice.injEq] at e; omega
  · simp only [Value.slice.injEq] at e; omega
theorem Sl.takeI {w : World} {s : Option Addr} {xs : List Int} (h : Sl w s (ints xs)) (k : Nat) : Sl w s (ints (xs.take k)) := by
  rcases h with h | ⟨b, off, rfl, hz⟩
  · left
    have : xs = [] := by simpa [ints] using h
    subst this; simp [ints]
  · refine .inr ⟨b, off, rfl, fun j v hv => hz j v ?_⟩
    simp only [ints, List.getElem?_map, List.getElem?_take] at hv ⊢
    split at hv
    · exact hv
    · simp at hv

/-- What stays while the law looks at the states. -/
structure RcW (C : Cir) (ni : Nat) (sn sg so : Option Addr) (cn cg co B lb lo : Nat) (Ls : List Int) (W : World) : Prop where
  cv : CirV W (.agg #[.int .i64 ni, .slice sn C.next.length cn, .slice sg C.gates.length cg, .slice so C.outs.length co]) C
  an : Sl W sn (ints C.next)
  ag : Sl W sg (gcells C.gates)
  ao : Sl W so (ints C.outs)
  cb : ∀ o, W.cell? ⟨B, o, none⟩ = #[Value.int .i64 ni, .slice sn C.next.length cn, .slice sg C.gates.length cg, .slice so C.outs.length co][o]?
  sl : Sl W (some ⟨lb, lo, none⟩) (ints Ls)

theorem RcW.lc {C : Cir} {ni : Nat} {sn sg so : Option Addr} {cn cg co B lb lo : Nat} {Ls : List Int} {W : World} (h : RcW C ni sn sg so cn cg co B lb lo Ls W) {j : Nat} {s : Int} (hj : Ls[j]? = some s) : W.cell? ⟨lb, lo + j, none⟩ = some (.int .i64 s) := by
  obtain ⟨b, off, e, _, z⟩ := h.sl.int (Below.refl _ _) hj
  simp only [Option.some.injEq, Addr.mk.injEq] at e
  obtain ⟨rfl, rfl, _⟩ := e
  exact z

set_option maxRecDepth 100000 in
set_option maxHeartbeats 3200000 in
theorem FnReachable_any (s : Option Addr) (cap : Nat) (xs : List Int) (w : World) (hs : Sl w s (u8s xs)) (hl : xs.length ≤ 9223372036854775807) (hcap : xs.length ≤ cap) (hcap2 : cap ≤ 9223372036854775807) (hr : ∀ x ∈ xs, 0 ≤ x ∧ x ≤ 255) :
    Calls Try.prog 4 #[.slice s xs.length cap] w fun e w' => e = .returned (.bool true) ∧ Below w.heap.size w w' := by
  by_cases hc : xs.length ≤ 1048576
  · have HD := Lib.hid (DrawReachable_any s cap xs w hs hc hcap hcap2 hr)
    clear hs hr
    go_enter Try.func4, Try.ntmps4
    go_upto_region 4 with (go_at_call 13; (with_reducible refine HD.out.mono ?_); rintro e w1 ⟨C, vn, vg, vo, rfl, h1, h2, h4⟩; obtain ⟨sn, cn, rfl⟩ := own_shape h1.n; obtain ⟨sg, cg, rfl⟩ := own_shape h1.g; obtain ⟨so, co, rfl⟩ := own_shape h1.o; have H1 := Lib.hid (And.intro h1 h4); obtain ⟨l1, l2, l3, l4, l5⟩ := h2; clear h1 h4)
    obtain ⟨B, hB⟩ : ∃ B, B = w1.heap.size := ⟨_, rfl⟩
    have hk := blk_new w1 (.cells #[.int .i64 C.inp, .slice sn C.next.length cn, .slice sg C.gates.length cg, .slice so C.outs.length co] 26)
    have hbb := below_alloc w1 (.cells #[.int .i64 C.inp, .slice sn C.next.length cn, .slice sg C.gates.length cg, .slice so C.outs.length co] 26)
    have hV : CirV (w1.alloc (.cells #[.int .i64 C.inp, .slice sn C.next.length cn, .slice sg C.gates.length cg, .slice so C.outs.length co] 26)) (.agg #[.int .i64 C.inp, .slice sn C.next.length cn, .slice sg C.gates.length cg, .slice so C.outs.length co]) C :=
      ⟨_, _, _, _, _, _, rfl, own_sl (own_below H1.out.1.n hbb), own_sl (own_below H1.out.1.g hbb), own_sl (own_below H1.out.1.o hbb), by omega, by omega, by omega⟩
    have hns := own_sl (own_below H1.out.1.n hbb)
    have hgs := own_sl (own_below H1.out.1.g hbb)
    have hos := own_sl (own_below H1.out.1.o hbb)
    have hbw := H1.out.2.trans (hbb.mono H1.out.2.size)
    rw [← hB] at hk
    rw [← hB]
    clear hbb hB H1
    revert hV hns hgs hos hbw hk
    generalize w1.alloc (.cells #[.int .i64 C.inp, .slice sn C.next.length cn, .slice sg C.gates.length cg, .slice so C.outs.length co] 26) = W1
    intro hk hV hns hgs hos hbw
    have HC1 : Hid (∀ W, Below W1.heap.size W1 W → CirV W (.agg #[.int .i64 C.inp, .slice sn C.next.length cn, .slice sg C.gates.length cg, .slice so C.outs.length co]) C ∧ Sl W sn (ints C.next) ∧ Sl W sg (gcells C.gates) ∧ Sl W so (ints C.outs) ∧ (∀ o, W.cell? ⟨B, o, none⟩ = #[Value.int .i64 C.inp, .slice sn C.next.length cn, .slice sg C.gates.length cg, .slice so C.outs.length co][o]?)) := fun W hW => ⟨hV.mono hW, hns.mono hW, hgs.mono hW, hos.mono hW, (blk_all (blk_below hW (blk_lt hk) hk)).1⟩
    have HW := Lib.hid hbw
    clear hV hns hgs hos hbw hk
    have cb := (HC1.out _ (Below.refl _ _)).2.2.2.2
    obtain ⟨Ls, hLs⟩ : ∃ Ls, Ls = reachR C := ⟨_, rfl⟩
    have hLl : Ls.length ≤ 1000000 := by rw [hLs]; exact reachR_len _
    have HLs := Lib.hid hLs
    cases hv : C.validB
    · have HN : Hid (Ls.length = 0) := by show _ = _; rw [hLs, reachR_no hv]; rfl
      have HV := Lib.hid hv
      clear hv hLs
      go_upto_region 8 with (first
        | (go_at_call 14; ((with_reducible refine (Reachable_i _ _ _ (HC1.out _ (Below.refl _ _)).1).mono ?_); rintro e w2 ⟨s1, c1, rfl, h1, hq⟩; rw [← HLs.out] at h1 ⊢; have H2 := Lib.hid (And.intro (own_sl h1) hq); clear h1 hq cb; have cb := (HC1.out _ H2.out.2).2.2.2.2))
        | (go_at_call 16; ((with_reducible refine (Reachable_s _ _ _ (HC1.out _ H2.out.2).1).mono ?_); rintro e w3 ⟨s2, c2, rfl, h1, hq⟩; rw [← HLs.out] at h1 ⊢; have H3 := Lib.hid (And.intro (H2.out.1.mono hq) (And.intro h1 (H2.out.2.trans (hq.mono H2.out.2.size)))); clear h1 hq cb; have cb := (HC1.out _ H3.out.2.2).2.2.2.2))
        | (go_at_call 15; ((with_reducible refine (sameInts_any _ _ _ _ Ls Ls _ H3.out.1 H3.out.2.1 hLl hLl rfl).mono ?_); rintro e w4 ⟨rfl, hd⟩; have H4 := Lib.hid (H3.out.2.2.trans ((hd.below _).mono H3.out.2.2.size)); clear hd cb; have cb := (HC1.out _ H4.out).2.2.2.2))
        | (go_at_call 17; ((with_reducible refine (CircuitValid_s _ C _ (HC1.out _ H4.out).1).mono ?_); rintro e w5 ⟨rfl, hq⟩; rw [HV.out]; have H5 := Lib.hid (H4.out.trans (hq.mono H4.out.size)); clear hq cb)))
      have hn0 := HN.out
      go_wp2_with (go_at_call 12; ((with_reducible refine (alive_any _).mono ?_); rintro e w7 ⟨rfl, hq⟩; have HA := Lib.hid (H5.out.trans (hq.mono H5.out.size)); clear hq))
      go_ret
      exact ⟨rfl, HW.out.trans (HA.out.mono HW.out.size)⟩
    · have hval := C.validB_iff.1 hv
      obtain ⟨q1, q2, q3, q4, q5⟩ := id hval.lim
      obtain ⟨ni, hni⟩ : ∃ ni : Nat, C.inp = ni := ⟨C.inp.toNat, by omega⟩
      obtain ⟨hR, hG⟩ := reach_spec hv hni
      rw [← hLs] at hR hG
      obtain ⟨M, hM⟩ : ∃ M : Nat, M = 2 ^ ni := ⟨_, rfl⟩
      rw [← hM] at hR
      have n4 : ni ≤ 4 := by omega
      have hM16 : M ≤ 16 := by rw [hM]; exact Nat.pow_le_pow_right (by omega) n4
      have hwp : wrap64 (2 ^ ni) = (M : Int) := by rw [wrap_pow (by omega), hM]; simp
      have hL8 : Ls.length ≤ 8 := Nat.le_trans (goodR_len hG) (Nat.pow_le_pow_right (show 0 < 2 by omega) q3)
      have hLb : ∀ x ∈ Ls, 0 ≤ x ∧ x ≤ 8 := fun x hx => by
        have h := hG.2 x hx
        have : ((2 ^ C.next.length : Nat) : Int) ≤ 8 := Int.ofNat_le.2 (Nat.pow_le_pow_right (show 0 < 2 by omega) q3)
        exact ⟨h.1, Int.le_trans (Int.le_of_lt h.2) this⟩
      have hL1 : 0 < Ls.length := (List.getElem?_eq_some_iff.1 hR.zero).1
      have HX := Lib.hid (And.intro hval (And.intro hni (And.intro hR (And.intro hG (And.intro hLb hv)))))
      have hfd : ∀ w' a b, (Instr.field 41 (.agg #[a, b]) 1).run Try.prog w' = .ok b w' := by intro w' a b; kernel_rfl
      rw [hni] at HC1 cb ⊢
      clear hv hLs hval q1 hni hR hG hLb hM hLl l1 l2
      go_upto_region 10 with (first
        | (go_at_call 14; ((with_reducible refine (Reachable_i _ _ _ (HC1.out _ (Below.refl _ _)).1).mono ?_); rintro e w2 ⟨s1, c1, rfl, h1, hq⟩; rw [← HLs.out] at h1 ⊢; have hcap := own_cap h1; have H2 := Lib.hid (And.intro (own_sl h1) hq); clear h1 hq cb; have cb := (HC1.out _ H2.out.2).2.2.2.2))
        | (go_at_call 16; ((with_reducible refine (Reachable_s _ _ _ (HC1.out _ H2.out.2).1).mono ?_); rintro e w3 ⟨s2, c2, rfl, h1, hq⟩; rw [← HLs.out] at h1 ⊢; have H3 := Lib.hid (And.intro (H2.out.1.mono hq) (And.intro h1 (H2.out.2.trans (hq.mono H2.out.2.size)))); clear h1 hq cb; have cb := (HC1.out _ H3.out.2.2).2.2.2.2))
        | (go_at_call 15; ((with_reducible refine (sameInts_any _ _ _ _ Ls Ls _ H3.out.1 H3.out.2.1 (by omega) (by omega) rfl).mono ?_); rintro e w4 ⟨rfl, hd⟩; have H4 := Lib.hid (And.intro (H3.out.1.mono (hd.below _)) (H3.out.2.2.trans ((hd.below _).mono H3.out.2.2.size))); clear hd cb; have cb := (HC1.out _ H4.out.2).2.2.2.2))
        | (go_at_call 17; ((with_reducible refine (CircuitValid_s _ C _ (HC1.out _ H4.out.2).1).mono ?_); rintro e w5 ⟨rfl, hq⟩; rw [HX.out.2.2.2.2.2]; have H5 := Lib.hid (And.intro (H4.out.1.mono hq) (H4.out.2.trans (hq.mono H4.out.2.size))); clear hq cb)))
      obtain ⟨lb, lo, rfl, -, -⟩ := H5.out.1.int (Below.refl _ _) HX.out.2.2.1.zero
      have HC : Hid (∀ W, Below w5.heap.size w5 W → RcW C ni sn sg so cn cg co B lb lo Ls W) := fun W hW => by
        obtain ⟨a1, a2, a3, a4, a5⟩ := HC1.out W (H5.out.2.trans (hW.mono H5.out.2.size))
        exact ⟨a1, a2, a3, a4, a5, H5.out.1.mono hW⟩
      go_loopw [5] (fun v5 wr => ∃ k : Nat, k ≤ Ls.length ∧ v5 = .int .i64 k ∧ Below w5.heap.size w5 wr) (fun v5 _ => Ls.length - (intOf v5).toNat)
      case atStart => exact ⟨0, Nat.zero_le _, rfl, Below.refl _ _⟩
      case round =>
        obtain ⟨k, hk, rfl, hbl⟩ := hrel
        have HR := Lib.hid hbl
        clear hbl
        by_cases hlt : k < Ls.length
        · obtain ⟨xk, hxk⟩ := get_of_lt hlt
          have HK0 := Lib.hid hxk
          clear hxk
          go_upto_region 14 with fail
          go_loopw [6, 7] (fun v6 v7 wr => ∃ (j : Nat) (fb : Bool), j ≤ Ls.length ∧ v7 = .int .i64 j ∧ v6 = .bool fb ∧ (k = 0 → fb = true) ∧ (∀ (j' : Nat) (s : Int), j' < j → j' < k → Ls[j']? = some s → ∀ x : Nat, x < M → nextN C s x = xk → fb = true) ∧ Below w5.heap.size w5 wr) (fun _ v7 _ => Ls.length - (intOf v7).toNat)
          case atStart => exact ⟨0, _, Nat.zero_le _, rfl, rfl, fun h => by subst h; rfl, fun j' s h => by omega, HR.out⟩
          case round =>
            clear HR
            obtain ⟨j, fb, hj, rfl, rfl, hf0, hf1, hbl⟩ := hrel
            have HR := Lib.hid hbl
            have HF := Lib.hid (And.intro hf0 hf1)
            clear hf0 hf1 hbl
            by_cases hltj : j < Ls.length
            · obtain ⟨sj, hsj⟩ := get_of_lt hltj
              obtain ⟨sj0, sj8⟩ := HX.out.2.2.2.2.1 sj (List.mem_of_getElem? hsj)
              have HJ := Lib.hid hsj
              clear hsj
              go_upto_region 17 with fail
              go_loopw [6, 8] (fun v6 v8 wr => ∃ (x : Nat) (fb : Bool), x ≤ M ∧ v8 = .int .i64 x ∧ v6 = .bool fb ∧ (k = 0 → fb = true) ∧ (∀ (j' : Nat) (s : Int), j' < j → j' < k → Ls[j']? = some s → ∀ x : Nat, x < M → nextN C s x = xk → fb = true) ∧ (j < k → ∀ x' : Nat, x' < x → nextN C sj x' = xk → fb = true) ∧ Below w5.heap.size w5 wr) (fun _ v8 _ => M - (intOf v8).toNat)
              case atStart => exact ⟨0, fb, Nat.zero_le _, rfl, rfl, HF.out.1, HF.out.2, fun _ x' h => by omega, HR.out⟩
              case round =>
                clear HR HF
                obtain ⟨x, fb, hx, rfl, rfl, hf0, hf1, hf2, hbl⟩ := hrel
                have HR := Lib.hid hbl
                have HF := Lib.hid (And.intro hf0 (And.intro hf1 hf2))
                have cb := (HC.out _ hbl).cb
                clear hf0 hf1 hf2 hbl
                by_cases hltx : x < M
                · have hx16 : x ≤ 16 := by omega
                  go_upto_region 19 with fail
                  clear cb
                  have hS : Hid (∀ W, Below w5.heap.size w5 W → (∀ o, W.cell? ⟨B, o, none⟩ = #[Value.int .i64 ni, .slice sn C.next.length cn, .slice sg C.gates.length cg, .slice so C.outs.length co][o]?) ∧ W.cell? ⟨lb, lo + j, none⟩ = some (.int .i64 sj)) := fun W hW => ⟨(HC.out _ hW).cb, (HC.out _ hW).lc HJ.out⟩
                  refine wp_region_T (fun w' => (∀ o, w'.cell? ⟨B, o, none⟩ = #[Value.int .i64 ni, .slice sn C.next.length cn, .slice sg C.gates.length cg, .slice so C.outs.length co][o]?) ∧ w'.cell? ⟨lb, lo + j, none⟩ = some (.int .i64 sj)) (.q 0 (.q 1 (.q 2 (.q 3 (.q 4 (.q 5 (.q 6 (.q 7 (.q 9 (.q 10 (.q 11 (.e 8 (.e 12 (.e 13 (.q 14 (.e 15 (.q 16 .nil))))))))))))))))) (by kernel_rfl) (by kernel_rfl) (by kernel_rfl) (hS.out _ HR.out.drew) ?_
                  repeat (first | (refine ordt_s (o := ?_) ?_ ?_ ?_; rotate_left 1; (focus ((simp only [List.getElem?_toArray, List.getElem?_cons_succ, List.getElem?_cons_zero]) <;> rfl)); (focus rfl); simp only [Act.put, List.setIfInBounds_toArray, List.set_cons_zero, List.set_cons_succ]) | (refine ordt_q (o := ?_) (v := ?_) ?_ ?_ ?_ ?_; rotate_left 2; (focus ((simp only [List.getElem?_toArray, List.getElem?_cons_succ, List.getElem?_cons_zero]) <;> rfl)); (focus rfl); (focus (intro w' hS; (try dsimp only at hS); go_split_ands; go_simp; (try (with_reducible rfl)))); simp only [Act.put, List.setIfInBounds_toArray, List.set_cons_zero, List.set_cons_succ]))
                  refine ordt_e ?_
                  (refine op_e (o := ?_) ?_ ?_ (fun K hK => ?_); rotate_left 1; (focus ((simp only [List.getElem?_toArray, List.getElem?_cons_succ, List.getElem?_cons_zero]) <;> rfl)); (focus rfl); go_simp)
                  refine (bitsL_any sj C.next.length _ sj0 (by omega) (by omega)).mono ?_
                  rintro e wa ⟨sa, ca, rfl, ha, hqa⟩
                  have hba := HR.out.trans (((Below.refl _ _).drew.trans hqa).mono HR.out.size)
                  refine hK.out _ _ (hS.out _ hba) ?_
                  clear hK K hqa
                  have HA := Lib.hid (And.intro ha hba)
                  clear ha hba
                  (try simp only [Act.put, List.setIfInBounds_toArray, List.set_cons_zero, List.set_cons_succ])
                  refine ordt_e ?_
                  (refine op_e (o := ?_) ?_ ?_ (fun K hK => ?_); rotate_left 1; (focus ((simp only [List.getElem?_toArray, List.getElem?_cons_succ, List.getElem?_cons_zero]) <;> rfl)); (focus rfl); go_simp)
                  refine (bitsL_any (x : Int) ni _ (Int.natCast_nonneg x) (by omega) (by omega)).mono ?_
                  rintro e wb ⟨sb, cb2, rfl, hb, hqb⟩
                  have hbb := HA.out.2.trans (hqb.mono HA.out.2.size)
                  refine hK.out _ _ (hS.out _ hbb) ?_
                  clear hK K
                  have HB := Lib.hid (And.intro (HA.out.1.mono hqb) (And.intro hb hbb))
                  clear hb hqb hbb
                  (try simp only [Act.put, List.setIfInBounds_toArray, List.set_cons_zero, List.set_cons_succ])
                  refine ordt_e ?_
                  (refine op_e (o := ?_) ?_ ?_ (fun K hK => ?_); rotate_left 1; (focus ((simp only [List.getElem?_toArray, List.getElem?_cons_succ, List.getElem?_cons_zero]) <;> rfl)); (focus rfl); go_simp)
                  refine (Step_any C sn sg so sa sb cn cg co ca cb2 _ _ wb ni HX.out.2.1 (by rw [HX.out.2.1]; exact (HC.out _ HB.out.2.2).cv) (HC.out _ HB.out.2.2).an (HC.out _ HB.out.2.2).ag (HC.out _ HB.out.2.2).ao HX.out.1 HB.out.1 HB.out.2.1 (bitsV_length _ _) (bitsV_length _ _) (cycV C sj (x : Int)) (cyc_eq C sj (x : Int) ni HX.out.2.1) (by have h1 := cycV_length C sj (x : Int); have h2 := HX.out.2.1; unfold Cir.vars; omega)).mono ?_
                  rintro e wd ⟨s3, c3, s4, c4, rfl, -, hd, hqd⟩
                  have hbd := HB.out.2.2.trans (hqd.mono HB.out.2.2.size)
                  refine hK.out _ _ (hS.out _ hbd) ?_
                  clear hK K hqd
                  have hnum := stateNumber_any s4 c4 (C.next.map (litB (cycV C sj (x : Int)))) wd hd (by simp; omega)
                  rw [List.length_map] at hnum
                  have HD := Lib.hid (And.intro hnum hbd)
                  clear hd hbd hnum
                  obtain ⟨n, hn⟩ : ∃ n, n = nextN C sj (x : Int) := ⟨_, rfl⟩
                  have Hn := Lib.hid hn
                  clear hn
                  (try simp only [Act.put, List.setIfInBounds_toArray, List.set_cons_zero, List.set_cons_succ])
                  repeat (first | (refine ordt_s (o := ?_) ?_ ?_ ?_; rotate_left 1; (focus ((simp only [List.getElem?_toArray, List.getElem?_cons_succ, List.getElem?_cons_zero]) <;> rfl)); (focus rfl); simp only [Act.put, List.setIfInBounds_toArray, List.set_cons_zero, List.set_cons_succ]) | (refine ordt_q (o := ?_) (v := ?_) ?_ ?_ ?_ ?_; rotate_left 2; (focus ((simp only [List.getElem?_toArray, List.getElem?_cons_succ, List.getElem?_cons_zero]) <;> rfl)); (focus rfl); (focus (intro w' hS; (try dsimp only at hS); go_split_ands; go_simp; (try (with_reducible rfl)))); simp only [Act.put, List.setIfInBounds_toArray, List.set_cons_zero, List.set_cons_succ]))
                  refine ordt_e ?_
                  (refine op_e (o := ?_) ?_ ?_ (fun K hK => ?_); rotate_left 1; (focus ((simp only [List.getElem?_toArray, List.getElem?_cons_succ, List.getElem?_cons_zero]) <;> rfl)); (focus rfl); go_simp)
                  refine HD.out.1.mono ?_
                  rintro e we ⟨rfl, rfl⟩
                  rw [show numB (C.next.map (litB (cycV C sj (x : Int)))) = n from Hn.out.symm]
                  refine hK.out _ _ (hS.out _ HD.out.2) ?_
                  clear hK K
                  (try simp only [Act.put, List.setIfInBounds_toArray, List.set_cons_zero, List.set_cons_succ])
                  repeat (first | (refine ordt_s (o := ?_) ?_ ?_ ?_; rotate_left 1; (focus ((simp only [List.getElem?_toArray, List.getElem?_cons_succ, List.getElem?_cons_zero]) <;> rfl)); (focus rfl); simp only [Act.put, List.setIfInBounds_toArray, List.set_cons_zero, List.set_cons_succ]) | (refine ordt_q (o := ?_) (v := ?_) ?_ ?_ ?_ ?_; rotate_left 2; (focus ((simp only [List.getElem?_toArray, List.getElem?_cons_succ, List.getElem?_cons_zero]) <;> rfl)); (focus rfl); (focus (intro w' hS; (try dsimp only at hS); go_split_ands; go_simp; (try (with_reducible rfl)))); simp only [Act.put, List.setIfInBounds_toArray, List.set_cons_zero, List.set_cons_succ]))
                  refine ordt_nil ?_
                  have hmem : decide (n ∈ Ls) = true := decide_eq_true (by rw [Hn.out]; exact HX.out.2.2.1.succ j sj HJ.out x hltx)
                  have Hmem := Lib.hid hmem
                  clear hmem
                  go_upto_region 22 with (go_at_call 21; ((with_reducible refine (contains_any _ _ Ls n _ (HC.out _ HD.out.2).sl (by omega)).mono ?_); rintro e w6 ⟨rfl, rfl⟩; rw [Hmem.out]))
                  have zk := (HC.out _ HD.out.2).lc HK0.out
                  cases fb
                  · by_cases hjk : j < k
                    · by_cases hnx : n = xk
                      · subst hnx
                        go_wp2_with fail
                        go_roundw
                        case rel => exact ⟨x + 1, true, by omega, by go_num, rfl, fun _ => rfl, fun _ _ _ _ _ _ _ _ => rfl, fun _ _ _ _ => rfl, HD.out.2⟩
                        case measure => simp [intOf]; omega
                      · have hne : (n == xk) = false := beq_eq_false_iff_ne.2 hnx
                        go_wp2_with fail
                        go_roundw
                        case rel => exact ⟨x + 1, false, by omega, by go_num, rfl, HF.out.1, HF.out.2.1, fun h x' hx' he => (by
                          rcases Nat.lt_or_ge x' x with h1 | h1
                          · exact HF.out.2.2 h x' h1 he
                          · obtain rfl : x' = x := by omega
                            exact absurd (Hn.out.trans he) hnx), HD.out.2⟩
                        case measure => simp [intOf]; omega
                    · go_wp2_with fail
                      go_roundw
                      case rel => exact ⟨x + 1, false, by omega, by go_num, rfl, HF.out.1, HF.out.2.1, fun h => absurd h hjk, HD.out.2⟩
                      case measure => simp [intOf]; omega
                  · go_wp2_with fail
                    go_roundw
                    case rel => exact ⟨x + 1, true, by omega, by go_num, rfl, fun _ => rfl, fun _ _ _ _ _ _ _ _ => rfl, fun _ _ _ _ => rfl, HD.out.2⟩
                    case measure => simp [intOf]; omega
                · obtain rfl : x = M := by omega
                  go_wp2_with fail
                  go_roundw
                  case rel => exact ⟨j + 1, fb, by omega, by go_num, rfl, HF.out.1, fun j' s h1 h2 h3 x hx he => (by
                    rcases Nat.lt_or_ge j' j with h4 | h4
                    · exact HF.out.2.1 j' s h4 h2 h3 x hx he
                    · obtain rfl : j' = j := by omega
                      have h5 := HJ.out
                      rw [h3] at h5
                      simp only [Option.some.injEq] at h5
                      subst h5
                      exact HF.out.2.2 h2 x hx he), HR.out⟩
                  case measure => simp [intOf]; omega
            · obtain rfl : j = Ls.length := by omega
              have hft : fb = true := by
                by_cases h0 : k = 0
                · exact HF.out.1 h0
                · obtain ⟨j', s, a1, a2, x, a3, a4⟩ := HX.out.2.2.1.pred k xk HK0.out (by omega)
                  exact HF.out.2 j' s (by omega) a1 a2 x a3 a4
              subst hft
              have hS : Hid (∀ W, Below w5.heap.size w5 W → W.cell? ⟨lb, lo + k, none⟩ = some (.int .i64 xk)) := fun W hW => (HC.out _ hW).lc HK0.out
              have hkc : k ≤ c1 := by omega
              go_upto_region 23 with fail
              refine wp_region_T (fun w' => w'.cell? ⟨lb, lo + k, none⟩ = some (.int .i64 xk)) (.q 0 (.q 1 (.q 2 (.q 3 (.q 4 (.q 5 (.q 6 (.q 7 (.q 8 (.q 9 (.e 10 (.q 11 .nil)))))))))))) (by kernel_rfl) (by kernel_rfl) (by kernel_rfl) (hS.out _ HR.out.drew) ?_
              repeat (first | (refine ordt_s (o := ?_) ?_ ?_ ?_; rotate_left 1; (focus ((simp only [List.getElem?_toArray, List.getElem?_cons_succ, List.getElem?_cons_zero]) <;> rfl)); (focus rfl); simp only [Act.put, List.setIfInBounds_toArray, List.set_cons_zero, List.set_cons_succ]) | (refine ordt_q (o := ?_) (v := ?_) ?_ ?_ ?_ ?_; rotate_left 2; (focus ((simp only [List.getElem?_toArray, List.getElem?_cons_succ, List.getElem?_cons_zero]) <;> rfl)); (focus rfl); (focus (intro w' hS; (try dsimp only at hS); go_split_ands; go_simp; (try (with_reducible rfl)))); simp only [Act.put, List.setIfInBounds_toArray, List.set_cons_zero, List.set_cons_succ]))
              refine ordt_e ?_
              (refine op_e (o := ?_) ?_ ?_ (fun K hK => ?_); rotate_left 1; (focus ((simp only [List.getElem?_toArray, List.getElem?_cons_succ, List.getElem?_cons_zero]) <;> rfl)); (focus rfl); go_simp)
              have hcn := contains_any (some ⟨lb, lo, none⟩) c1 (Ls.take k) xk wr.drew ((HC.out _ HR.out.drew).sl.takeI k) (by simp; omega)
              rw [List.length_take, Nat.min_eq_left (by omega), decide_eq_false (good_take HX.out.2.2.2.1 HK0.out)] at hcn
              refine hcn.mono ?_
              rintro e we ⟨rfl, rfl⟩
              refine hK.out _ _ (hS.out _ HR.out.drew) ?_
              clear hK K hcn
              (try simp only [Act.put, List.setIfInBounds_toArray, List.set_cons_zero, List.set_cons_succ])
              repeat (first | (refine ordt_s (o := ?_) ?_ ?_ ?_; rotate_left 1; (focus ((simp only [List.getElem?_toArray, List.getElem?_cons_succ, List.getElem?_cons_zero]) <;> rfl)); (focus rfl); simp only [Act.put, List.setIfInBounds_toArray, List.set_cons_zero, List.set_cons_succ]) | (refine ordt_q (o := ?_) (v := ?_) ?_ ?_ ?_ ?_; rotate_left 2; (focus ((simp only [List.getElem?_toArray, List.getElem?_cons_succ, List.getElem?_cons_zero]) <;> rfl)); (focus rfl); (focus (intro w' hS; (try dsimp only at hS); go_split_ands; go_simp; (try (with_reducible rfl)))); simp only [Act.put, List.setIfInBounds_toArray, List.set_cons_zero, List.set_cons_succ]))
              refine ordt_nil ?_
              go_wp2_with fail
              go_roundw
              case rel => exact ⟨k + 1, by omega, by go_num, HR.out.drew⟩
              case measure => simp [intOf]; omega
        · have z0 := (HC.out _ HR.out).lc HX.out.2.2.1.zero
          rw [Nat.add_zero] at z0
          go_wp2_with fail
          go_ret
          exact ⟨rfl, HW.out.trans ((H5.out.2.trans (HR.out.mono H5.out.2.size)).mono HW.out.size)⟩
  · clear hs hr
    go_enter Try.func4, Try.ntmps4
    go_wp2
    go_ret
    exact ⟨rfl, Below.refl _ _⟩

end Go.Proofs.Ytnmafbggpjglaaa
