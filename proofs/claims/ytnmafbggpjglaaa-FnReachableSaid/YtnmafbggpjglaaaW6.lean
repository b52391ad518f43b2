import Derived.Test.YtnmafbggpjglaaaW5
namespace Go.Proofs.Ytnmafbggpjglaaa
set_option linter.unusedVariables false
set_option linter.unusedSimpArgs false
open Go.RowKit

/-! Reachable of the program: a list and a map of what is in it. -/

theorem own_nomap {w : World} {base : Nat} {e : TypeId} {size : Nat} {v : Value} {n : Nat} {xs : List Value} (h : w.ownsRow base e size v n xs) {b : Nat} {ks : List Int} (hm : MapI w b ks) : v.ownBlock ≠ some b := by
  intro he
  rcases h.2 with ⟨rfl, -⟩ | ⟨g, cap, cur, rfl, hb', hg, rest⟩
  · simp [Value.ownBlock] at he
  · simp [Value.ownBlock] at he
    subst he
    obtain ⟨es, clock, h1, h2⟩ := hm
    rw [hg] at h1; cases h1
theorem MapI.grow_below {w w' : World} {b B : Nat} (hg : w.grownBy w' (some b)) (hB : B ≤ b) (hb : b < w.heap.size) : Below B w w' :=
  ⟨hg.os, hg.tape, hg.output, hg.size, fun q hq => hg.block q (by omega) (by simp; omega)⟩

set_option maxRecDepth 100000 in
set_option maxHeartbeats 3200000 in
theorem Reachable_i (v : Value) (c : Cir) (w : World) (h : CirV w v c) :
    Calls Try.prog 14 #[v] w fun e w' => ∃ s cap, e = .returned (.slice s (reachR c).length cap) ∧ w'.ownsRow w.heap.size 3 1 (.slice s (reachR c).length cap) (reachR c).length (ints (reachR c)) ∧ Below w.heap.size w w' := by
  have HC : Hid (∀ w', Below w.heap.size w w' → CirV w' v c) := fun w' hb => h.mono hb
  obtain ⟨sn, cn, sg, cg, so, co, rfl, h1, h2, h3, hl1, hl2, hl3⟩ := h
  have hL : Below w.heap.size w (w.alloc (.cells #[.int .i64 c.inp, .slice sn c.next.length cn, .slice sg c.gates.length cg, .slice so c.outs.length co] 26)) := by go_grown
  have hN := blk_new w (.cells #[.int .i64 c.inp, .slice sn c.next.length cn, .slice sg c.gates.length cg, .slice so c.outs.length co] 26)
  have HS := Lib.hid (And.intro h1 (And.intro h2 h3))
  have HL := Lib.hid (And.intro hL hN)
  clear hL hN h1 h2 h3
  cases hv : c.validB
  · rw [reachR_no hv]
    have HE := Lib.hid hv
    clear hv
    go_enter Try.func14, Try.ntmps14
    go_wp2_with (go_at_call 45; ((with_reducible refine (CircuitValid_i _ _ _ (HC.out _ HL.out.1)).mono ?_); rintro e w1 ⟨rfl, hq⟩; have HQ := Lib.hid hq; clear hq; rw [HE.out]))
    go_ret
    exact ⟨_, _, rfl, World.ownsRow_nil _ _ _ _, HL.out.1.trans (HQ.out.mono (by simp))⟩
  · have hval := c.validB_iff.1 hv
    obtain ⟨q1, q2, q3, q4, q5⟩ := id hval.lim
    obtain ⟨ni, hni⟩ : ∃ ni : Nat, c.inp = ni := ⟨c.inp.toNat, by omega⟩
    have n4 : ni ≤ 4 := by omega
    rw [reachR_yes hv hni]
    obtain ⟨M, hM⟩ : ∃ M, M = 2 ^ ni := ⟨_, rfl⟩
    obtain ⟨N, hN⟩ : ∃ N, N = 2 ^ c.next.length := ⟨_, rfl⟩
    have hwp : wrap64 (2 ^ ni) = (M : Int) := by rw [wrap_pow (by omega), hM]; simp
    have M16 : M ≤ 16 := by have : 2 ^ ni ≤ 2 ^ 4 := Nat.pow_le_pow_right (by omega) n4; omega
    have N1000 : N ≤ 1000 := by have : 2 ^ c.next.length ≤ 2 ^ 8 := Nat.pow_le_pow_right (by omega) (by omega); omega
    have N0 : 0 < N := by rw [hN]; exact Nat.pow_pos (by omega)
    rw [← hM, ← hN]
    obtain ⟨R, hR⟩ : ∃ R, R = outR c M N 0 [0] := ⟨_, rfl⟩
    rw [← hR]
    have HH := Lib.hid (And.intro hv (And.intro hval (And.intro hN (And.intro hR hni))))
    rw [hni] at HL HC ⊢
    clear hv hval hM hN hR hni
    go_enter Try.func14, Try.ntmps14
    go_upto_region 4 with (go_at_call 45; ((with_reducible refine (CircuitValid_i _ _ _ (HC.out _ HL.out.1)).mono ?_); rintro e w1 ⟨rfl, hq⟩; have HQ := Lib.hid (And.intro (HL.out.1.trans (hq.mono HL.out.1.size)) (blk_below hq (blk_lt HL.out.2) HL.out.2)); clear hq; rw [HH.out.1]))
    have hW := HQ.out.1.alloc HQ.out.1.size (.cells #[.int .i64 0] 3)
    have hxW := blk_old (o := .cells #[.int .i64 0] 3) HQ.out.2
    have hoW : (w1.alloc (.cells #[.int .i64 0] 3)).ownsRow (w.heap.size + 1) 3 1 (.slice (some ⟨w1.heap.size, 0, none⟩) 1 1) 1 (ints [0]) := own_of_blk (n := 1) (cur := #[.int .i64 0]) (blk_new _ _) (blk_lt HQ.out.2) (by simp) (by unfold maxLen; omega)
    revert hW hxW hoW
    generalize w1.alloc (.cells #[.int .i64 0] 3) = W1
    intro hW hxW hoW
    obtain ⟨mb, hmb⟩ : ∃ mb, mb = W1.heap.size := ⟨_, rfl⟩
    have hmm : (Instr.makeMap 70 none).run Try.prog W1 = .ok (.map (some mb)) (W1.alloc (.map #[] 0)) := by rw [hmb]; kernel_rfl
    have hmb0 : w.heap.size < mb := by rw [hmb]; exact blk_lt hxW
    have hm0 := MapI.new W1
    rw [← hmb] at hm0
    have hA1 : Below mb W1 (W1.alloc (.map #[] 0)) := by rw [hmb]; exact (Below.refl _ _).alloc (Nat.le_refl _) _
    revert hmm hm0 hA1
    generalize W1.alloc (.map #[] 0) = W1m
    intro hmm hm0 hA1
    obtain ⟨W2, hrun, hmo, hgr, hsz⟩ := mapi_update hm0 0 (by simp)
    have hb2 : Below mb W1 W2 := hA1.trans (MapI.grow_below hgr (Nat.le_refl _) hm0.lt)
    have HW := Lib.hid (And.intro (hW.trans (hb2.mono (by omega))) (And.intro (blk_below hb2 hmb0 hxW) (And.intro (own_below hoW (by rw [← hmb]; exact hb2)) hmo)))
    have hW2s := blk_lt HW.out.2.1
    clear hW hxW hoW HQ HL hb2 hmo hgr hsz hA1 hm0 hmb
    go_wp2_with fail
    clear hmm hrun
    go_loopw [5, 3] (fun i x wr => ∃ (k : Nat) (xs : List Int) (s : Option Addr) (cc f : Nat), k + f = N ∧ i = .int .i64 k ∧ x = .slice s xs.length cc ∧ wr.ownsRow (w.heap.size + 1) 3 1 x xs.length (ints xs) ∧ goodR N xs ∧ outR c M f k xs = R ∧ MapI wr mb xs ∧ Below (w.heap.size + 1) W2 wr) (fun i _ _ => N - (intOf i).toNat)
    case atStart => exact ⟨0, [0], _, _, N, by omega, rfl, rfl, HW.out.2.2.1, goodR_zero N N0, HH.out.2.2.2.1.symm, HW.out.2.2.2, Below.refl _ _⟩
    case round =>
      obtain ⟨k, xs, s3, c3, f, hkf, rfl, rfl, ho, hgd, hrr, hmp, hbl⟩ := hrel
      have hlen := goodR_len hgd
      by_cases hlt : k < xs.length
      · obtain ⟨f, rfl⟩ : ∃ f', f = f' + 1 := ⟨f - 1, by omega⟩
        obtain ⟨sk, hsk⟩ := get_of_lt hlt
        rw [outR_step hsk] at hrr
        obtain ⟨k0, k1⟩ := hgd.2 sk (List.mem_of_getElem? hsk)
        obtain ⟨WO, hWO⟩ : ∃ WO, WO = wr := ⟨_, rfl⟩
        subst hWO
        have cbO := (blk_all (blk_below hbl (Nat.lt_succ_self _) HW.out.2.1)).1
        have HR := Lib.hid (And.intro ho (And.intro hgd (And.intro hrr (And.intro hbl (And.intro hsk hmp)))))
        clear ho hgd hrr hbl hsk hmp
        go_upto_region 9 with fail
        clear cbO
        rw [hwp]
        go_loopw [24, 3] (fun i x wr => ∃ (m : Nat) (ys : List Int) (s : Option Addr) (cc : Nat), m ≤ M ∧ i = .int .i64 m ∧ x = .slice s ys.length cc ∧ wr.ownsRow (w.heap.size + 1) 3 1 x ys.length (ints ys) ∧ ys = innR c sk xs m ∧ MapI wr mb ys ∧ Below (w.heap.size + 1) W2 wr) (fun i _ _ => M - (intOf i).toNat)
        case atStart => exact ⟨0, xs, _, _, Nat.zero_le _, rfl, rfl, HR.out.1, rfl, HR.out.2.2.2.2.2, HR.out.2.2.2.1⟩
        case round =>
          obtain ⟨m, ys, s4, c4, hm, rfl, rfl, ho, hys, hmp, hbl⟩ := hrel
          have hgy : goodR N ys := by rw [hys, HH.out.2.2.1]; exact goodR_inn (by rw [← HH.out.2.2.1]; exact HR.out.2.1) m
          have hly := goodR_len hgy
          have hyk : ys[k]? = some sk := by rw [hys]; exact innR_get HR.out.2.2.2.2.1 m
          have hbx := blk_below hbl (Nat.lt_succ_self _) HW.out.2.1
          have hbw : Below w.heap.size w wr := HW.out.1.trans (hbl.mono (Nat.le_succ _))
          have hxs := blk_lt hbx
          by_cases hlm : m < M
          · have hky : k < ys.length := (List.getElem?_eq_some_iff.1 hyk).1
            obtain ⟨yb, yo, rfl, hyb, zy⟩ := (own_sl ho).int (Below.refl _ _) hyk
            have HI := Lib.hid (And.intro ho (And.intro hys (And.intro hbl (And.intro hbx (And.intro hbw hmp)))))
            clear ho hys hbl hbx hbw hyb hgy hyk hmp
            obtain ⟨n, hn⟩ : ∃ n, n = nextN c sk m := ⟨_, rfl⟩
            have hnb := nextN_lt c sk m
            rw [← hn, ← HH.out.2.2.1] at hnb
            obtain ⟨n0, n1⟩ := hnb
            have HNn := Lib.hid hn
            clear hn
            go_upto_region 12 with (go_at_call 53; ((refine (cycle_any w.heap.size sn sg so cn cg co c sk m _ ⟨by rw [HH.out.2.2.2.2]; exact blk_cell HI.out.2.2.2.1, blk_cell HI.out.2.2.2.1, blk_cell HI.out.2.2.2.1, blk_cell HI.out.2.2.2.1⟩ (HS.out.1.mono HI.out.2.2.2.2.1) (HS.out.2.1.mono HI.out.2.2.2.2.1) (HS.out.2.2.mono HI.out.2.2.2.2.1) HH.out.2.1 k0 (by omega) (by omega) (by omega)).mono ?_); rintro e wn ⟨rfl, hq⟩; rw [← HNn.out]; have hsz := hq.size; have HN := Lib.hid (And.intro (own_below HI.out.1 hq) (And.intro (HI.out.2.2.1.trans (hq.mono (by omega))) (HI.out.2.2.2.2.2.below hq))); clear hq zy))
            have hlk := mapi_lookup HN.out.2.2 n
            by_cases hmem : n ∈ ys
            · rw [decide_eq_true hmem] at hlk
              have HM := Lib.hid hmem
              clear hmem
              go_wp2_with fail
              go_roundw
              case rel => exact ⟨m + 1, ys, _, _, by omega, by go_num, rfl, HN.out.1, by show _ = addR _ _; rw [← HI.out.2.1, ← HNn.out, addR_in HM.out], HN.out.2.2, HN.out.2.1⟩
              case measure => simp [intOf]; omega
            · rw [decide_eq_false hmem] at hlk
              obtain ⟨W4, hrun, hmo, hgr, hsz4⟩ := mapi_update HN.out.2.2 n hmem
              have hb4 : Below (w.heap.size + 1) wn W4 := MapI.grow_below hgr hmb0 HN.out.2.2.lt
              have ho4 := (Chg.of_grown hgr).own HN.out.1 (fun q hq e => own_nomap HN.out.1 HN.out.2.2 (by rw [hq]; exact e.symm))
              have HM := Lib.hid (And.intro hmem (And.intro ho4 (And.intro (HN.out.2.1.trans hb4) hmo)))
              clear hmem ho4 hb4 hmo hgr
              have hs4z : w.heap.size < W4.heap.size := by omega
              clear hsz4
              go_upto_region 14 with fail
              clear hlk hrun
              go_wp2_with (at_builtin; go_loud (refine wpl_app rfl _ _ rfl elem_int (own_below HM.out.2.1 ((Below.refl _ _).alloc (Nat.le_refl _) _)) rfl rfl rfl (Sl.new _ _ _) (by simp [Value.oneCell']) (ys.length + 1) rfl (ints (ys ++ [n])) (by rw [← ints_append]; rfl) (by unfold maxLen; omega) (by omega) (by have := hs4z; simp only [World.alloc, Array.size_push]; omega) ?_); intro s6 c6 w6 h6 hb6 hg6 _; have HA := Lib.hid (And.intro h6 (And.intro ((HM.out.2.2.1.alloc (by omega) _).trans hb6) ((HM.out.2.2.2.below ((Below.refl _ _).alloc (Nat.le_refl _) (.cells #[.int .i64 n] 3))).chgne hg6 (own_nomap (own_below HM.out.2.1 ((Below.refl _ _).alloc (Nat.le_refl _) (.cells #[.int .i64 n] 3))) (HM.out.2.2.2.below ((Below.refl _ _).alloc (Nat.le_refl _) (.cells #[.int .i64 n] 3))))))); clear h6 hb6 hg6)
              go_roundw
              case rel => exact ⟨m + 1, ys ++ [n], s6, c6, by omega, by go_num, by simp, by simpa using HA.out.1, by show _ = addR _ _; rw [← HI.out.2.1, ← HNn.out, addR_out HM.out.1], HA.out.2.2, HA.out.2.1⟩
              case measure => simp [intOf]; omega
          · obtain rfl : m = M := by omega
            have HI := Lib.hid (And.intro ho (And.intro hys (And.intro hbl (And.intro hgy hmp))))
            clear ho hys hbl hbx hbw hgy hyk hmp
            go_wp2_with fail
            go_roundw
            case rel => exact ⟨k + 1, ys, s4, c4, f, by omega, by go_num, rfl, HI.out.1, HI.out.2.2.2.1, by rw [HI.out.2.1]; exact HR.out.2.2.1, HI.out.2.2.2.2, HI.out.2.2.1⟩
            case measure => simp [intOf]; omega
      · rw [outR_end hlt] at hrr
        subst hrr
        have HR := Lib.hid (And.intro ho (And.intro hgd hbl))
        clear ho hgd hbl hmp
        go_wp2_with fail
        go_ret
        exact ⟨s3, c3, rfl, own_base HR.out.1 (Nat.le_succ _), HW.out.1.trans (HR.out.2.2.mono (Nat.le_succ _))⟩

end Go.Proofs.Ytnmafbggpjglaaa
