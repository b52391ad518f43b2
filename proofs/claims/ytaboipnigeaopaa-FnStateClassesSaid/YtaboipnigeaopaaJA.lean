import Derived.Test.YtaboipnigeaopaaDE
import Derived.Test.YtaboipnigeaopaaW5
namespace Go.Proofs.Ytaboipnigeaopaa
set_option linter.unusedVariables false
set_option linter.unusedSimpArgs false
open Go.RowKit

/-! The finer partition of the reference. -/

theorem keyR_same {c : Cir} {M s t : Nat} {cl : List Int} : keyR c M cl s = keyR c M cl t ↔ cl.getD s 0 = cl.getD t 0 ∧ ∀ x : Nat, x < M → cl.getD (nextN c (s : Int) (x : Int)).toNat 0 = cl.getD (nextN c (t : Int) (x : Int)).toNat 0 := keyR_iff

set_option maxRecDepth 100000 in
set_option maxHeartbeats 6400000 in
theorem l16Refine_any (v : Value) (c : Cir) (sc : Option Addr) (cap N M ni : Nat) (cl : List Int) (w : World) (h : CirV w v c) (hv : c.valid) (hni : c.inp = ni) (hM : M = 2 ^ ni) (hN : N = 2 ^ c.next.length) (hl : cl.length = N) (hs : Sl w sc (ints cl)) :
    Calls Try.prog 47 #[v, .slice sc N cap] w fun e w' => ∃ s cap', e = .returned (.slice s N cap') ∧ w'.ownsRow w.heap.size 3 1 (.slice s N cap') N (ints (refK c M N cl)) ∧ Below w.heap.size w w' := by
  have HC : Hid (∀ w', Below w.heap.size w w' → CirV w' v c) := fun w' hb => h.mono hb
  obtain ⟨sn, cn, sg, cg, so, co, rfl, h1, h2, h3, hl1, hl2, hl3⟩ := h
  obtain ⟨q1, q2, q3, q4, q5⟩ := id hv.lim
  have n4 : ni ≤ 4 := by omega
  have M16 : M ≤ 16 := by rw [hM]; exact Nat.le_trans (Nat.pow_le_pow_right (by decide) n4) (by decide)
  have N8 : N ≤ 8 := by rw [hN]; exact Nat.le_trans (Nat.pow_le_pow_right (by decide) q3) (by decide)
  have N0 : 0 < N := by rw [hN]; exact Nat.pow_pos (by decide)
  have hwp : wrap64 (2 ^ ni) = (M : Int) := by rw [wrap_pow (by omega), hM]; simp
  obtain ⟨yb, yo, rfl, HS⟩ : ∃ yb yo, sc = some ⟨yb, yo, none⟩ ∧ Hid (∀ W, Below w.heap.size w W → ∀ (j : Nat) (x : Int), cl[j]? = some x → W.cell? ⟨yb, yo + j, none⟩ = some (.int .i64 x)) := by
    rcases hs with h | ⟨b, off, rfl, hz⟩
    · exfalso
      have h0 : (ints cl).length = 0 := by rw [h]; rfl
      rw [ints_length] at h0
      omega
    · refine ⟨b, off, rfl, fun W hW j x hx => ?_⟩
      have h := hz j (.int .i64 x) (ints_get hx)
      exact (hW.cell (p := ⟨b, off + j, none⟩) (World.block_lt_of_cell? w _ h)).trans h
  have HX : Hid (∀ s i : Nat, ∃ p : Nat, nextN c (s : Int) (i : Int) = (p : Int) ∧ p < N ∧ ∃ x, cl[p]? = some x ∧ x = cl.getD (nextN c (s : Int) (i : Int)).toNat 0) := fun s i => by
    have hb := nextN_lt c (s : Int) (i : Int)
    rw [← hN] at hb
    refine ⟨(nextN c (s : Int) (i : Int)).toNat, by omega, by omega, ?_⟩
    obtain ⟨x, hx⟩ := get_of_lt (show (nextN c (s : Int) (i : Int)).toNat < cl.length by omega)
    exact ⟨x, hx, by rw [List.getD_eq_getElem?_getD, hx]; rfl⟩
  have hL : Below w.heap.size w ((w.alloc (.cells #[.int .i64 c.inp, .slice sn c.next.length cn, .slice sg c.gates.length cg, .slice so c.outs.length co] 26)).alloc (.cells #[] 3)) := by go_grown
  have hNb := blk_old (o := .cells #[] 3) (blk_new w (.cells #[.int .i64 c.inp, .slice sn c.next.length cn, .slice sg c.gates.length cg, .slice so c.outs.length co] 26))
  have hoW : ((w.alloc (.cells #[.int .i64 c.inp, .slice sn c.next.length cn, .slice sg c.gates.length cg, .slice so c.outs.length co] 26)).alloc (.cells #[] 3)).ownsRow (w.heap.size + 1) 3 1 (.slice (some ⟨w.heap.size + 1, 0, none⟩) 0 0) 0 (ints []) := own_of_blk (n := 0) (cur := #[]) (blk_at (by simp)) (Nat.le_refl _) (by simp) (by unfold maxLen; omega)
  have HW := Lib.hid (And.intro hL (And.intro hNb hoW))
  have HV := Lib.hid (And.intro hv (And.intro hM (And.intro hN hl)))
  clear hL hNb hoW hv hM hN h1 h2 h3 hs
  rw [hni] at HW HC ⊢
  clear hni
  go_enter Try.func47, Try.ntmps47
  go_upto_region 2 with fail
  revert HW
  generalize ((w.alloc (.cells #[.int .i64 ni, .slice sn c.next.length cn, .slice sg c.gates.length cg, .slice so c.outs.length co] 26)).alloc (.cells #[] 3)) = W2
  intro HW
  have HB : Hid (∀ W, Below (w.heap.size + 1) W2 W → (∀ o, W.cell? ⟨w.heap.size, o, none⟩ = #[Value.int .i64 ni, .slice sn c.next.length cn, .slice sg c.gates.length cg, .slice so c.outs.length co][o]?) ∧ Below w.heap.size w W ∧ w.heap.size + 1 ≤ W.heap.size) := fun W hW => ⟨(blk_all (blk_below hW (Nat.lt_succ_self _) HW.out.2.1)).1, HW.out.1.trans (hW.mono (Nat.le_succ _)), by have := blk_lt HW.out.2.1; have := hW.size; omega⟩
  go_wp2_with fail
  go_loopw [6, 5] (fun i x wr => ∃ (k : Nat) (s : Option Addr) (cc : Nat), k ≤ N ∧ i = .int .i64 k ∧ x = .slice s k cc ∧ wr.ownsRow (w.heap.size + 1) 3 1 x k (ints (clsK (keyR c M cl) k)) ∧ Below (w.heap.size + 1) W2 wr) (fun i _ _ => N - (intOf i).toNat)
  case atStart => exact ⟨0, _, _, Nat.zero_le _, rfl, rfl, HW.out.2.2, Below.refl _ _⟩
  case round =>
    obtain ⟨k, s5, c5, hk, rfl, rfl, ho, hbl⟩ := hrel
    by_cases hlt : k < N
    · obtain ⟨WO, hWO⟩ : ∃ WO, WO = wr := ⟨_, rfl⟩
      subst hWO
      have HO := Lib.hid (And.intro ho hbl)
      have HBO : Hid (∀ W, Below WO.heap.size WO W → Below (w.heap.size + 1) W2 W) := fun W hW => hbl.trans (hW.mono (HB.out _ hbl).2.2)
      clear ho hbl
      obtain ⟨f, hf⟩ : ∃ f, f = fstK (keyR c M cl) k := ⟨_, rfl⟩
      have hfk : f ≤ k := by rw [hf]; exact (fstK_spec _ _).1
      have HF := Lib.hid hf
      clear hf
      obtain ⟨x0, hx0⟩ := get_of_lt (show k < cl.length by omega)
      have HX0 := Lib.hid hx0
      clear hx0
      go_wp2_with fail
      go_loopw [8, 7] (fun t kv wr => ∃ (j : Nat) (z : Int), j ≤ k ∧ t = .int .i64 j ∧ kv = .int .i64 z ∧ (z = -1 ∧ (∀ t' : Nat, t' < j → keyR c M cl t' ≠ keyR c M cl k) ∨ z = (f : Int)) ∧ Below WO.heap.size WO wr) (fun t _ _ => k - (intOf t).toNat)
      case atStart => exact ⟨0, -1, Nat.zero_le _, rfl, rfl, Or.inl ⟨rfl, fun t' h => absurd h (by omega)⟩, Below.refl _ _⟩
      case round =>
        obtain ⟨j, z, hj, rfl, rfl, hz, hbl⟩ := hrel
        have HL := Lib.hid hbl
        clear hbl
        rcases hz with ⟨rfl, hz⟩ | rfl
        · have HZ := Lib.hid hz
          clear hz
          by_cases hjk : j < k
          · have hjN : j < N := by omega
            obtain ⟨x1, hx1⟩ := get_of_lt (show j < cl.length by omega)
            have HX1 := Lib.hid hx1
            clear hx1
            have hbw := HBO.out _ HL.out
            have z0 := HS.out _ (HB.out _ hbw).2.1 k x0 HX0.out
            have z1 := HS.out _ (HB.out _ hbw).2.1 j x1 HX1.out
            have HBW := Lib.hid hbw
            clear hbw
            go_upto_region 9 with fail
            refine wp_region_T (fun w' => w'.cell? ⟨yb, yo + k, none⟩ = some (.int .i64 x0) ∧ w'.cell? ⟨yb, yo + j, none⟩ = some (.int .i64 x1)) (.q 0 (.q 1 (.q 2 (.q 3 (.q 4 (.q 5 (.q 6 (.q 7 (.q 8 (.q 9 .nil)))))))))) (by kernel_rfl) (by kernel_rfl) (by kernel_rfl) ⟨z0, z1⟩ ?_
            repeat (first | (refine ordt_s (o := ?_) ?_ ?_ ?_; rotate_left 1; (focus ((simp only [List.getElem?_toArray, List.getElem?_cons_succ, List.getElem?_cons_zero]) <;> rfl)); (focus rfl); simp only [Act.put, List.setIfInBounds_toArray, List.set_cons_zero, List.set_cons_succ]) | (refine ordt_q (o := ?_) (v := ?_) ?_ ?_ ?_ ?_; rotate_left 2; (focus ((simp only [List.getElem?_toArray, List.getElem?_cons_succ, List.getElem?_cons_zero]) <;> rfl)); (focus rfl); (focus (intro w' hS; (try dsimp only at hS); go_split_ands; go_simp; (try (with_reducible rfl)))); simp only [Act.put, List.setIfInBounds_toArray, List.set_cons_zero, List.set_cons_succ]))
            refine ordt_nil ?_
            clear z0 z1
            go_upto_region 10 with fail
            have hbw : Below WO.heap.size WO wr.drew := HL.out.drew
            revert hbw
            generalize wr.drew = wq
            intro hbw
            have HQ := Lib.hid hbw
            clear hbw HL HBW
            go_wp2_with fail
            go_loopw [10, 9] (fun xv bv wr => ∃ (m : Nat) (b : Bool), m ≤ M ∧ xv = .int .i64 m ∧ bv = .bool b ∧ (b = true ∧ cl.getD k 0 = cl.getD j 0 ∧ (∀ y : Nat, y < m → cl.getD (nextN c (k : Int) (y : Int)).toNat 0 = cl.getD (nextN c (j : Int) (y : Int)).toNat 0) ∨ b = false ∧ keyR c M cl k ≠ keyR c M cl j) ∧ Below WO.heap.size WO wr) (fun xv _ _ => M - (intOf xv).toNat)
            case atStart => 
              refine ⟨0, x0 == x1, Nat.zero_le _, rfl, rfl, ?_, HQ.out⟩
              have g0 : cl.getD k 0 = x0 := by rw [List.getD_eq_getElem?_getD, HX0.out]; rfl
              have g1 : cl.getD j 0 = x1 := by rw [List.getD_eq_getElem?_getD, HX1.out]; rfl
              by_cases e : x0 = x1
              · exact Or.inl ⟨by simp [e], by rw [g0, g1, e], fun y hy => absurd hy (by omega)⟩
              · exact Or.inr ⟨by simp [e], fun he => e (by have := (keyR_same.1 he).1; rw [g0, g1] at this; exact this)⟩
            case round =>
              obtain ⟨m, b, hm, rfl, rfl, hb, hbl⟩ := hrel
              have HI := Lib.hid hbl
              clear hbl
              have hbw := HBO.out _ HI.out
              have cb := (HB.out _ hbw).1
              rcases hb with ⟨rfl, hb⟩ | ⟨rfl, hb⟩
              · have HE := Lib.hid hb
                clear hb
                by_cases hmM : m < M
                · obtain ⟨p1, e1, p1N, y1, hy1, g1⟩ := HX.out k m
                  obtain ⟨p2, e2, p2N, y2, hy2, g2⟩ := HX.out j m
                  have HPP := Lib.hid (And.intro e1 (And.intro e2 (And.intro hy1 (And.intro hy2 (And.intro g1 g2)))))
                  clear e1 e2 hy1 hy2 g1 g2
                  have HBW := Lib.hid hbw
                  clear hbw
                  have HCEL : Hid (∀ W, Below (w.heap.size + 1) W2 W → (∀ o, W.cell? ⟨w.heap.size, o, none⟩ = #[Value.int .i64 ni, .slice sn c.next.length cn, .slice sg c.gates.length cg, .slice so c.outs.length co][o]?) ∧ W.cell? ⟨yb, yo + p1, none⟩ = some (.int .i64 y1) ∧ W.cell? ⟨yb, yo + p2, none⟩ = some (.int .i64 y2)) := fun W hW => ⟨(HB.out W hW).1, HS.out _ (HB.out W hW).2.1 p1 y1 HPP.out.2.2.1, HS.out _ (HB.out W hW).2.1 p2 y2 HPP.out.2.2.2.1⟩
                  go_upto_region 13 with fail
                  clear cb
                  refine wp_region_T (fun w' => (∀ o, w'.cell? ⟨w.heap.size, o, none⟩ = #[Value.int .i64 ni, .slice sn c.next.length cn, .slice sg c.gates.length cg, .slice so c.outs.length co][o]?) ∧ w'.cell? ⟨yb, yo + p1, none⟩ = some (.int .i64 y1) ∧ w'.cell? ⟨yb, yo + p2, none⟩ = some (.int .i64 y2)) (.q 0 (.q 1 (.q 2 (.q 3 (.q 7 (.q 8 (.q 9 (.q 10 (.e 4 (.q 5 (.q 6 (.e 11 (.q 12 (.q 13 (.q 14 (.q 15 .nil)))))))))))))))) (by kernel_rfl) (by kernel_rfl) (by kernel_rfl) (HCEL.out _ HBW.out.drew) ?_
                  repeat (first | (refine ordt_s (o := ?_) ?_ ?_ ?_; rotate_left 1; (focus ((simp only [List.getElem?_toArray, List.getElem?_cons_succ, List.getElem?_cons_zero]) <;> rfl)); (focus rfl); simp only [Act.put, List.setIfInBounds_toArray, List.set_cons_zero, List.set_cons_succ]) | (refine ordt_q (o := ?_) (v := ?_) ?_ ?_ ?_ ?_; rotate_left 2; (focus ((simp only [List.getElem?_toArray, List.getElem?_cons_succ, List.getElem?_cons_zero]) <;> rfl)); (focus rfl); (focus (intro w' hS; (try dsimp only at hS); go_split_ands; go_simp; (try (with_reducible rfl)))); simp only [Act.put, List.setIfInBounds_toArray, List.set_cons_zero, List.set_cons_succ]))
                  refine ordt_e ?_
                  (refine op_e (o := ?_) ?_ ?_ (fun K hK => ?_); rotate_left 1; (focus ((simp only [List.getElem?_toArray, List.getElem?_cons_succ, List.getElem?_cons_zero]) <;> rfl)); (focus rfl); go_simp)
                  refine (l16Next_any _ c k m _ (HC.out _ (HB.out _ HBW.out.drew).2.1) HV.out.1 (by omega) (by omega) (by omega) (by omega)).mono ?_
                  rintro e wn ⟨rfl, hq⟩
                  rw [HPP.out.1]
                  have hbn : Below WO.heap.size WO wn := HI.out.drew.trans (hq.mono HI.out.drew.size)
                  refine hK.out _ _ (HCEL.out _ (HBO.out _ hbn)) ?_
                  clear hK K hq
                  have HN := Lib.hid hbn
                  clear hbn
                  (try simp only [Act.put, List.setIfInBounds_toArray, List.set_cons_zero, List.set_cons_succ])
                  repeat (first | (refine ordt_s (o := ?_) ?_ ?_ ?_; rotate_left 1; (focus ((simp only [List.getElem?_toArray, List.getElem?_cons_succ, List.getElem?_cons_zero]) <;> rfl)); (focus rfl); simp only [Act.put, List.setIfInBounds_toArray, List.set_cons_zero, List.set_cons_succ]) | (refine ordt_q (o := ?_) (v := ?_) ?_ ?_ ?_ ?_; rotate_left 2; (focus ((simp only [List.getElem?_toArray, List.getElem?_cons_succ, List.getElem?_cons_zero]) <;> rfl)); (focus rfl); (focus (intro w' hS; (try dsimp only at hS); go_split_ands; go_simp; (try (with_reducible rfl)))); simp only [Act.put, List.setIfInBounds_toArray, List.set_cons_zero, List.set_cons_succ]))
                  refine ordt_e ?_
                  (refine op_e (o := ?_) ?_ ?_ (fun K hK => ?_); rotate_left 1; (focus ((simp only [List.getElem?_toArray, List.getElem?_cons_succ, List.getElem?_cons_zero]) <;> rfl)); (focus rfl); go_simp)
                  refine (l16Next_any _ c j m _ (HC.out _ (HB.out _ (HBO.out _ HN.out)).2.1) HV.out.1 (by omega) (by omega) (by omega) (by omega)).mono ?_
                  rintro e wn2 ⟨rfl, hq⟩
                  rw [HPP.out.2.1]
                  have hbn : Below WO.heap.size WO wn2 := HN.out.trans (hq.mono HN.out.size)
                  refine hK.out _ _ (HCEL.out _ (HBO.out _ hbn)) ?_
                  clear hK K hq
                  have HN2 := Lib.hid hbn
                  clear hbn
                  (try simp only [Act.put, List.setIfInBounds_toArray, List.set_cons_zero, List.set_cons_succ])
                  repeat (first | (refine ordt_s (o := ?_) ?_ ?_ ?_; rotate_left 1; (focus ((simp only [List.getElem?_toArray, List.getElem?_cons_succ, List.getElem?_cons_zero]) <;> rfl)); (focus rfl); simp only [Act.put, List.setIfInBounds_toArray, List.set_cons_zero, List.set_cons_succ]) | (refine ordt_q (o := ?_) (v := ?_) ?_ ?_ ?_ ?_; rotate_left 2; (focus ((simp only [List.getElem?_toArray, List.getElem?_cons_succ, List.getElem?_cons_zero]) <;> rfl)); (focus rfl); (focus (intro w' hS; (try dsimp only at hS); go_split_ands; go_simp; (try (with_reducible rfl)))); simp only [Act.put, List.setIfInBounds_toArray, List.set_cons_zero, List.set_cons_succ]))
                  refine ordt_nil ?_
                  go_wp2_with fail
                  go_roundw
                  case rel =>
                    refine ⟨m + 1, y1 == y2, by omega, by go_num, rfl, ?_, HN2.out⟩
                    obtain ⟨e1, e2, hy1, hy2, g1, g2⟩ := HPP.out
                    by_cases e : y1 = y2
                    · refine Or.inl ⟨by simp [e], HE.out.1, fun y hy => ?_⟩
                      by_cases hym : y < m
                      · exact HE.out.2 y hym
                      · obtain rfl : y = m := by omega
                        rw [← g1, ← g2, e]
                    · exact Or.inr ⟨by simp [e], fun he => e (by have := (keyR_same.1 he).2 m hmM; rw [← g1, ← g2] at this; exact this)⟩
                  case measure => first | (simp [intOf]; done) | (simp [intOf]; omega)
                · obtain rfl : m = M := by omega
                  have hkey : keyR c m cl k = keyR c m cl j := keyR_same.2 HE.out
                  have hfj : f = j := by rw [HF.out]; exact fstK_eq (by omega) hkey.symm (HZ.out)
                  have HFJ := Lib.hid hfj
                  obtain ⟨g, hg⟩ : ∃ g, s5 = some ⟨g, 0, none⟩ := by
                    rcases own_some HO.out.1 with ⟨_, e, _⟩ | ⟨g, e⟩
                    · omega
                    · exact ⟨g, e⟩
                  subst hg
                  have hcell : wr.cell? ⟨g, j, none⟩ = some (.int .i64 f) := by
                    have h1 := (own_below HO.out.1 HI.out).cellAt j (by omega)
                    rw [h1]
                    simp only [ints, List.getElem?_map, clsK_get hjk, Option.map_some]
                    congr 2
                    rw [HF.out, fstK_iff.2 hkey.symm]
                  have HIN := Lib.hid hfj
                  clear hfj hkey hbw
                  go_wp2_with fail
                  go_roundw
                  case rel => exact ⟨j + 1, (f : Int), by omega, by go_num, rfl, Or.inr rfl, HI.out⟩
                  case measure => first | (simp [intOf]; done) | (simp [intOf]; omega)
              · have HE := Lib.hid hb
                clear hb hbw
                go_wp2_with fail
                go_roundw
                case rel =>
                  refine ⟨j + 1, -1, by omega, by go_num, rfl, Or.inl ⟨rfl, fun t' h => ?_⟩, HI.out⟩
                  by_cases h' : t' < j
                  · exact HZ.out t' h'
                  · obtain rfl : t' = j := by omega
                    exact fun e => HE.out e.symm
                case measure => first | (simp [intOf]; done) | (simp [intOf]; omega)
          · obtain rfl : j = k := by omega
            have hfk2 : f = j := by rw [HF.out]; exact fstK_eq (Nat.le_refl _) rfl HZ.out
            have HFK := Lib.hid hfk2
            clear hfk2
            have hsz := (HB.out _ (HBO.out _ HL.out)).2.2
            go_wp2_with (first
              | (at_builtin; refine wpl_app rfl _ _ rfl elem_int (own_below (own_below HO.out.1 HL.out) ((Below.refl _ _).alloc (Nat.le_refl _) _)) rfl rfl rfl (Sl.new _ _ _) (by simp [Value.oneCell']) (j + 1) rfl (ints (clsK (keyR c M cl) j ++ [(j : Int)])) (by rw [← ints_append]; rfl) (by unfold maxLen; omega) (by omega) (by simp; omega) ?_; intro s6 c6 w6 h6 hb6 _ _; have HA := Lib.hid (And.intro h6 (((HBO.out _ HL.out).alloc (HB.out _ (HBO.out _ HL.out)).2.2 _).trans hb6)); clear h6 hb6))
            go_roundw
            case rel => exact ⟨j + 1, s6, c6, by omega, by go_num, by simp, by have h := HA.out.1; rw [clsK_succ, ← HF.out, HFK.out]; simpa using h, HA.out.2⟩
            case measure => first | (simp [intOf]; done) | (simp [intOf]; omega)
        · have hf0 : decide ((f : Int) < 0) = false := by simp
          have hsz := (HB.out _ (HBO.out _ HL.out)).2.2
          by_cases hjk : j < k
          all_goals
            go_wp2_with (first
              | (at_builtin; refine wpl_app rfl _ _ rfl elem_int (own_below (own_below HO.out.1 HL.out) ((Below.refl _ _).alloc (Nat.le_refl _) _)) rfl rfl rfl (Sl.new _ _ _) (by simp [Value.oneCell']) (k + 1) rfl (ints (clsK (keyR c M cl) k ++ [(f : Int)])) (by rw [← ints_append]; rfl) (by unfold maxLen; omega) (by omega) (by simp; omega) ?_; intro s6 c6 w6 h6 hb6 _ _; have HA := Lib.hid (And.intro h6 (((HBO.out _ HL.out).alloc (HB.out _ (HBO.out _ HL.out)).2.2 _).trans hb6)); clear h6 hb6))
            go_roundw
            case rel => exact ⟨k + 1, s6, c6, by omega, by go_num, by simp, by have h := HA.out.1; rw [clsK_succ, ← HF.out]; simpa using h, HA.out.2⟩
            case measure => first | (simp [intOf]; done) | (simp [intOf]; omega)
    · obtain rfl : k = N := by omega
      have HO := Lib.hid (And.intro ho hbl)
      clear ho hbl
      go_wp2_with fail
      go_ret
      exact ⟨s5, c5, rfl, own_base HO.out.1 (Nat.le_succ _), (HB.out _ HO.out.2).2.1⟩

end Go.Proofs.Ytaboipnigeaopaa
