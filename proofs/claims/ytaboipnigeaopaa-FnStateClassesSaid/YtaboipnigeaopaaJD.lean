import Derived.Test.YtaboipnigeaopaaJC
import Derived.Test.YtaboipnigeaopaaL4
import Derived.Test.YtaboipnigeaopaaQ1
import Derived.Test.YtaboipnigeaopaaP2
namespace Go.Proofs.Ytaboipnigeaopaa
set_option linter.unusedVariables false
set_option linter.unusedSimpArgs false
open Go.RowKit

/-! Classes of states, of the program. -/

def keyN (c : Cir) (M : Nat) (s : Nat) : List Int := rowN c (s : Int) M
theorem nextN_nat (c : Cir) (N : Nat) (hN : N = 2 ^ c.next.length) (cl : List Int) (hl : cl.length = N) (s i : Nat) : ∃ p : Nat, nextN c (s : Int) (i : Int) = (p : Int) ∧ p < N ∧ ∃ x, cl[p]? = some x ∧ x = cl.getD (nextN c (s : Int) (i : Int)).toNat 0 := by
  have hb := nextN_lt c (s : Int) (i : Int)
  rw [← hN] at hb
  refine ⟨(nextN c (s : Int) (i : Int)).toNat, by omega, by omega, ?_⟩
  obtain ⟨x, hx⟩ := get_of_lt (show (nextN c (s : Int) (i : Int)).toNat < cl.length by omega)
  exact ⟨x, hx, by rw [List.getD_eq_getElem?_getD, hx]; rfl⟩

set_option maxRecDepth 100000 in
set_option maxHeartbeats 3200000 in
theorem alike_any (CV NB ca nb no N M cn a b : Nat) (c : Cir) (cl : List Int) (w : World) (hcv : w.cell? ⟨CV, 0, none⟩ = some (.slice (some ⟨ca, 0, none⟩) N N)) (hnb : w.cell? ⟨NB, 0, none⟩ = some (.slice (some ⟨nb, no, none⟩) N cn))
    (hcl : ∀ (j : Nat) (x : Int), cl[j]? = some x → w.cell? ⟨ca, j, none⟩ = some (.int .i64 x)) (hR : RowsK w nb no N M (keyN c M)) (hN : N = 2 ^ c.next.length) (hl : cl.length = N) (N8 : N ≤ 8) (M16 : M ≤ 16) (ha : a < N) (hb : b < N) :
    Calls Try.prog (72) #[.int .i64 a, .int .i64 b, .pointer (some ⟨CV, 0, none⟩), .pointer (some ⟨NB, 0, none⟩)] w fun e w' => e = .returned (.bool (decide (keyR c M cl a = keyR c M cl b))) ∧ Drew w w' := by
  obtain ⟨xa, hxa⟩ := get_of_lt (show a < cl.length by omega)
  obtain ⟨xb, hxb⟩ := get_of_lt (show b < cl.length by omega)
  obtain ⟨sa, da, za, ra, la⟩ := hR a ha
  obtain ⟨sb, db, zb, rb, lb⟩ := hR b hb
  have ga : cl.getD a 0 = xa := by rw [List.getD_eq_getElem?_getD, hxa]; rfl
  have gb : cl.getD b 0 = xb := by rw [List.getD_eq_getElem?_getD, hxb]; rfl
  have k1 := hcl a xa hxa
  have k2 := hcl b xb hxb
  have HX : Hid (∀ s i : Nat, ∃ p : Nat, nextN c (s : Int) (i : Int) = (p : Int) ∧ p < N ∧ ∃ x, cl[p]? = some x ∧ x = cl.getD (nextN c (s : Int) (i : Int)).toNat 0) := nextN_nat c N hN cl hl
  have H := Lib.hid (And.intro hcv (And.intro hnb (And.intro k1 (And.intro k2 (And.intro za zb)))))
  have HR := Lib.hid (And.intro ra rb)
  have HL := Lib.hid (And.intro hcl (And.intro ga gb))
  clear hxa hxb za zb ra rb la lb ga gb hcl hR hN hl
  go_enter Try.func72, Try.ntmps72
  go_upto_region 1 with fail
  refine wp_region_T (fun w' => w'.cell? ⟨CV, 0, none⟩ = some (.slice (some ⟨ca, 0, none⟩) N N) ∧ w'.cell? ⟨ca, a, none⟩ = some (.int .i64 xa) ∧ w'.cell? ⟨ca, b, none⟩ = some (.int .i64 xb)) (.q 0 (.q 1 (.q 2 (.q 3 (.q 4 (.q 5 (.q 6 (.q 7 (.q 8 .nil))))))))) (by kernel_rfl) (by kernel_rfl) (by kernel_rfl) ⟨hcv, k1, k2⟩ ?_
  by_cases e : xa = xb
  · subst e
    repeat (first | (refine ordt_s (o := ?_) ?_ ?_ ?_; rotate_left 1; (focus ((simp only [List.getElem?_toArray, List.getElem?_cons_succ, List.getElem?_cons_zero]) <;> rfl)); (focus rfl); simp only [Act.put, List.setIfInBounds_toArray, List.set_cons_zero, List.set_cons_succ]) | (refine ordt_q (o := ?_) (v := ?_) ?_ ?_ ?_ ?_; rotate_left 2; (focus ((simp only [List.getElem?_toArray, List.getElem?_cons_succ, List.getElem?_cons_zero]) <;> rfl)); (focus rfl); (focus (intro w' hS; (try dsimp only at hS); go_split_ands; go_simp; (try (with_reducible rfl)))); simp only [Act.put, List.setIfInBounds_toArray, List.set_cons_zero, List.set_cons_succ]))
    refine ordt_nil ?_
    clear hcv hnb k1 k2
    have c1 : w.drew.cell? ⟨NB, 0, none⟩ = some (.slice (some ⟨nb, no, none⟩) N cn) := H.out.2.1
    have c2 : w.drew.cell? ⟨nb, no + a, none⟩ = some (.slice sa M da) := H.out.2.2.2.2.1
    go_upto_region 4 with fail
    have hd0 : Drew w w.drew := ⟨1, rfl⟩
    revert hd0
    clear c1 c2
    generalize w.drew = wq
    intro hd0
    have HQ := Lib.hid hd0
    clear hd0
    go_loopw [22] (fun i wr => ∃ m : Nat, m ≤ M ∧ i = .int .i64 m ∧ (∀ y : Nat, y < m → cl.getD (nextN c (a : Int) (y : Int)).toNat 0 = cl.getD (nextN c (b : Int) (y : Int)).toNat 0) ∧ Drew w wr) (fun i _ => M - (intOf i).toNat)
    case atStart => exact ⟨0, Nat.zero_le _, rfl, fun y h => absurd h (by omega), HQ.out⟩
    case round =>
      obtain ⟨m, hm, rfl, hk, hd⟩ := hrel
      have HD := Lib.hid (And.intro hd hk)
      clear hd hk
      by_cases hlt : m < M
      · obtain ⟨p1, e1, p1N, y1, hy1, g1⟩ := HX.out a m
        obtain ⟨p2, e2, p2N, y2, hy2, g2⟩ := HX.out b m
        have r1 : (keyN c M a)[m]? = some (p1 : Int) := by rw [← e1]; exact rowN_get hlt
        have r2 : (keyN c M b)[m]? = some (p2 : Int) := by rw [← e2]; exact rowN_get hlt
        obtain ⟨n, hn⟩ := HD.out.1
        subst hn
        obtain ⟨ba, oa, rfl, -, z1⟩ := HR.out.1.int (below_n (Below.refl _ _) n) r1
        obtain ⟨bb, ob, rfl, -, z2⟩ := HR.out.2.int (below_n (Below.refl _ _) n) r2
        have k1 := HL.out.1 p1 y1 hy1
        have k2 := HL.out.1 p2 y2 hy2
        have HP := Lib.hid (And.intro g1 g2)
        clear e1 e2 hy1 hy2 g1 g2 r1 r2
        have hS : (w.drewN n).drew.cell? ⟨CV, 0, none⟩ = some (.slice (some ⟨ca, 0, none⟩) N N) ∧ (w.drewN n).drew.cell? ⟨NB, 0, none⟩ = some (.slice (some ⟨nb, no, none⟩) N cn) ∧ (w.drewN n).drew.cell? ⟨nb, no + a, none⟩ = some (.slice (some ⟨ba, oa, none⟩) M da) ∧ (w.drewN n).drew.cell? ⟨nb, no + b, none⟩ = some (.slice (some ⟨bb, ob, none⟩) M db) ∧ (w.drewN n).drew.cell? ⟨ba, oa + m, none⟩ = some (.int .i64 p1) ∧ (w.drewN n).drew.cell? ⟨bb, ob + m, none⟩ = some (.int .i64 p2) ∧ (w.drewN n).drew.cell? ⟨ca, p1, none⟩ = some (.int .i64 y1) ∧ (w.drewN n).drew.cell? ⟨ca, p2, none⟩ = some (.int .i64 y2) :=
          ⟨H.out.1, H.out.2.1, H.out.2.2.2.2.1, H.out.2.2.2.2.2, z1, z2, k1, k2⟩
        have HS := Lib.hid hS
        clear hS z1 z2 k1 k2
        by_cases e : y1 = y2
        · subst e
          go_upto_region 6 with fail
          refine wp_region_T (fun w' => w'.cell? ⟨CV, 0, none⟩ = some (.slice (some ⟨ca, 0, none⟩) N N) ∧ w'.cell? ⟨NB, 0, none⟩ = some (.slice (some ⟨nb, no, none⟩) N cn) ∧ w'.cell? ⟨nb, no + a, none⟩ = some (.slice (some ⟨ba, oa, none⟩) M da) ∧ w'.cell? ⟨nb, no + b, none⟩ = some (.slice (some ⟨bb, ob, none⟩) M db) ∧ w'.cell? ⟨ba, oa + m, none⟩ = some (.int .i64 p1) ∧ w'.cell? ⟨bb, ob + m, none⟩ = some (.int .i64 p2) ∧ w'.cell? ⟨ca, p1, none⟩ = some (.int .i64 y1) ∧ w'.cell? ⟨ca, p2, none⟩ = some (.int .i64 y1)) (.q 0 (.q 1 (.q 2 (.q 3 (.q 4 (.q 5 (.q 6 (.q 7 (.q 8 (.q 9 (.q 10 (.q 11 (.q 12 (.q 13 (.q 14 (.q 15 (.q 16 (.q 17 (.q 18 (.q 19 (.q 20 .nil))))))))))))))))))))) (by kernel_rfl) (by kernel_rfl) (by kernel_rfl) HS.out ?_
          repeat (first | (refine ordt_s (o := ?_) ?_ ?_ ?_; rotate_left 1; (focus ((simp only [List.getElem?_toArray, List.getElem?_cons_succ, List.getElem?_cons_zero]) <;> rfl)); (focus rfl); simp only [Act.put, List.setIfInBounds_toArray, List.set_cons_zero, List.set_cons_succ]) | (refine ordt_q (o := ?_) (v := ?_) ?_ ?_ ?_ ?_; rotate_left 2; (focus ((simp only [List.getElem?_toArray, List.getElem?_cons_succ, List.getElem?_cons_zero]) <;> rfl)); (focus rfl); (focus (intro w' hS; (try dsimp only at hS); go_split_ands; go_simp; (try (with_reducible rfl)))); simp only [Act.put, List.setIfInBounds_toArray, List.set_cons_zero, List.set_cons_succ]))
          refine ordt_nil ?_
          go_wp2_with fail
          go_roundw
          case rel =>
            refine ⟨m + 1, by omega, by go_num, fun y hy => ?_, HD.out.1.trans ⟨1, rfl⟩⟩
            by_cases hym : y < m
            · exact HD.out.2 y hym
            · obtain rfl : y = m := by omega
              rw [← HP.out.1, ← HP.out.2]
          case measure => simp [intOf]; omega
        · have hf : decide (keyR c M cl a = keyR c M cl b) = false := by
            rw [decide_eq_false_iff_not]; intro he; have := (keyR_same.1 he).2 m hlt; rw [← HP.out.1, ← HP.out.2] at this; exact e this
          have HF := Lib.hid hf
          clear hf
          go_upto_region 6 with fail
          refine wp_region_T (fun w' => w'.cell? ⟨CV, 0, none⟩ = some (.slice (some ⟨ca, 0, none⟩) N N) ∧ w'.cell? ⟨NB, 0, none⟩ = some (.slice (some ⟨nb, no, none⟩) N cn) ∧ w'.cell? ⟨nb, no + a, none⟩ = some (.slice (some ⟨ba, oa, none⟩) M da) ∧ w'.cell? ⟨nb, no + b, none⟩ = some (.slice (some ⟨bb, ob, none⟩) M db) ∧ w'.cell? ⟨ba, oa + m, none⟩ = some (.int .i64 p1) ∧ w'.cell? ⟨bb, ob + m, none⟩ = some (.int .i64 p2) ∧ w'.cell? ⟨ca, p1, none⟩ = some (.int .i64 y1) ∧ w'.cell? ⟨ca, p2, none⟩ = some (.int .i64 y2)) (.q 0 (.q 1 (.q 2 (.q 3 (.q 4 (.q 5 (.q 6 (.q 7 (.q 8 (.q 9 (.q 10 (.q 11 (.q 12 (.q 13 (.q 14 (.q 15 (.q 16 (.q 17 (.q 18 (.q 19 (.q 20 .nil))))))))))))))))))))) (by kernel_rfl) (by kernel_rfl) (by kernel_rfl) HS.out ?_
          repeat (first | (refine ordt_s (o := ?_) ?_ ?_ ?_; rotate_left 1; (focus ((simp only [List.getElem?_toArray, List.getElem?_cons_succ, List.getElem?_cons_zero]) <;> rfl)); (focus rfl); simp only [Act.put, List.setIfInBounds_toArray, List.set_cons_zero, List.set_cons_succ]) | (refine ordt_q (o := ?_) (v := ?_) ?_ ?_ ?_ ?_; rotate_left 2; (focus ((simp only [List.getElem?_toArray, List.getElem?_cons_succ, List.getElem?_cons_zero]) <;> rfl)); (focus rfl); (focus (intro w' hS; (try dsimp only at hS); go_split_ands; go_simp; (try (with_reducible rfl)))); simp only [Act.put, List.setIfInBounds_toArray, List.set_cons_zero, List.set_cons_succ]))
          refine ordt_nil ?_
          go_wp2_with fail
          go_ret
          exact ⟨ret_bool HF.out.symm, HD.out.1.trans ⟨1, rfl⟩⟩
      · obtain rfl : m = M := by omega
        have hf : decide (keyR c m cl a = keyR c m cl b) = true := decide_eq_true (keyR_same.2 ⟨by rw [HL.out.2.1, HL.out.2.2], HD.out.2⟩)
        have HF := Lib.hid hf
        clear hf
        go_wp2_with fail
        go_ret
        exact ⟨ret_bool HF.out.symm, HD.out.1⟩
  · have hf : decide (keyR c M cl a = keyR c M cl b) = false := by
      rw [decide_eq_false_iff_not]; intro he; have := (keyR_same.1 he).1; rw [HL.out.2.1, HL.out.2.2] at this; exact e this
    have HF := Lib.hid hf
    clear hf
    repeat (first | (refine ordt_s (o := ?_) ?_ ?_ ?_; rotate_left 1; (focus ((simp only [List.getElem?_toArray, List.getElem?_cons_succ, List.getElem?_cons_zero]) <;> rfl)); (focus rfl); simp only [Act.put, List.setIfInBounds_toArray, List.set_cons_zero, List.set_cons_succ]) | (refine ordt_q (o := ?_) (v := ?_) ?_ ?_ ?_ ?_; rotate_left 2; (focus ((simp only [List.getElem?_toArray, List.getElem?_cons_succ, List.getElem?_cons_zero]) <;> rfl)); (focus rfl); (focus (intro w' hS; (try dsimp only at hS); go_split_ands; go_simp; (try (with_reducible rfl)))); simp only [Act.put, List.setIfInBounds_toArray, List.set_cons_zero, List.set_cons_succ]))
    refine ordt_nil ?_
    clear hcv hnb k1 k2
    go_wp2_with fail
    go_ret
    exact ⟨ret_bool HF.out.symm, ⟨1, rfl⟩⟩

end Go.Proofs.Ytaboipnigeaopaa
