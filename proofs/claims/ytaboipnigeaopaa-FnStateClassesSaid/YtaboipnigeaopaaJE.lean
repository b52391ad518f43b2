import Derived.Test.YtaboipnigeaopaaJD
namespace Go.Proofs.Ytaboipnigeaopaa
set_option linter.unusedVariables false
set_option linter.unusedSimpArgs false
open Go.RowKit

/-! Classes of the program: the loops. -/

/-- The list that the variable in block CV holds. -/
def classOf (CV : Nat) (W : World) : List Int :=
  match W.cell? ⟨CV, 0, none⟩ with
  | some (.slice (some a) n _) => (List.range n).map fun j => match W.cell? ⟨a.block, j, none⟩ with
    | some (.int _ x) => x
    | _ => 0
  | _ => []
theorem classOf_eq {CV ca N cap : Nat} {cl : List Int} {W : World} {t : TypeId} (h : W.cell? ⟨CV, 0, none⟩ = some (.slice (some ⟨ca, 0, none⟩) N cap)) (h2 : W.heap[ca]? = some (.cells (ints cl).toArray t (0, 0))) (hl : cl.length = N) : classOf CV W = cl := by
  unfold classOf
  rw [h]
  simp only
  apply List.ext_getElem (by simp [hl])
  intro j h3 h4
  simp only [List.getElem_map, List.getElem_range]
  rw [ints_cell h2 (List.getElem?_eq_getElem h4)]
theorem clsK_fill {key : Nat → List Int} {k N : Nat} (h : k < N) (v : Int) : (clsK key k ++ List.replicate (N - k) (0 : Int)).set k v = clsK key k ++ v :: List.replicate (N - (k + 1)) 0 := by
  obtain ⟨d, hd⟩ : ∃ d, N - k = d + 1 := ⟨N - k - 1, by omega⟩
  rw [hd, show N - (k + 1) = d by omega, List.replicate_succ, List.set_append_right _ _ (by rw [clsK_length]; exact Nat.le_refl _), clsK_length, Nat.sub_self]
  rfl
theorem clsK_fill2 {key : Nat → List Int} {k : Nat} {u v : Int} {tl : List Int} : (clsK key k ++ u :: tl).set k v = clsK key k ++ v :: tl := by
  rw [List.set_append_right _ _ (by rw [clsK_length]; exact Nat.le_refl _), clsK_length, Nat.sub_self]
  rfl
theorem clsK_at {key : Nat → List Int} {k : Nat} {u : Int} {tl : List Int} : (clsK key k ++ u :: tl)[k]? = some u := by
  rw [List.getElem?_append_right (by rw [clsK_length]; exact Nat.le_refl _), clsK_length, Nat.sub_self]
  rfl
theorem clsK_zero {key : Nat → List Int} {k N : Nat} (h : k < N) : (clsK key k ++ List.replicate (N - k) (0 : Int))[k]? = some 0 := by
  obtain ⟨d, hd⟩ : ∃ d, N - k = d + 1 := ⟨N - k - 1, by omega⟩
  rw [hd, List.replicate_succ]; exact clsK_at
theorem clsK_z0 {key : Nat → List Int} {k N : Nat} (h : k < N) : clsK key k ++ List.replicate (N - k) (0 : Int) = clsK key k ++ ((0 : Nat) : Int) :: List.replicate (N - (k + 1)) 0 := by
  obtain ⟨d, hd⟩ : ∃ d, N - k = d + 1 := ⟨N - k - 1, by omega⟩
  rw [hd, List.replicate_succ, show N - (k + 1) = d by omega]; rfl
theorem clsK_next {key : Nat → List Int} {k : Nat} {tl : List Int} : clsK key k ++ ((fstK key k : Nat) : Int) :: tl = clsK key (k + 1) ++ tl := by
  rw [clsK_succ]; simp

set_option maxRecDepth 100000 in
set_option maxHeartbeats 6400000 in
theorem classes_any (nb no ob oo N M cn co : Nat) (c : Cir) (w : World) (hRn : RowsK w nb no N M (keyN c M)) (hRo : RowsK w ob oo N M (keyO c M)) (hN : N = 2 ^ c.next.length) (N8 : N ≤ 8) (N0 : 0 < N) (M16 : M ≤ 16) :
    Calls Try.prog 44 #[.slice (some ⟨nb, no, none⟩) N cn, .slice (some ⟨ob, oo, none⟩) N co] w fun e w' => ∃ s cap, e = .returned (.slice s N cap) ∧ w'.ownsRow w.heap.size 3 1 (.slice s N cap) N (ints (iterK c M N N)) ∧ Below w.heap.size w w' := by
  obtain ⟨W2, hW2⟩ : ∃ W2, W2 = (w.alloc (.cells #[.slice (some ⟨nb, no, none⟩) N cn] 69)).alloc (.cells #[.slice (some ⟨ob, oo, none⟩) N co] 69) := ⟨_, rfl⟩
  obtain ⟨A, hA⟩ : ∃ A, A = w.heap.size := ⟨_, rfl⟩
  have z1 : W2.heap.size = A + 2 := by rw [hW2, hA]; simp
  have z2 : W2.heap[A]? = some (.cells #[.slice (some ⟨nb, no, none⟩) N cn] 69 (0, 0)) := by rw [hW2, hA]; exact blk_old (blk_new w _)
  have z3 : W2.heap[A + 1]? = some (.cells #[.slice (some ⟨ob, oo, none⟩) N co] 69 (0, 0)) := by rw [hW2, hA]; exact blk_at (by simp)
  have z4 : Below w.heap.size w W2 := by rw [hW2]; go_grown
  have HB : Hid (∀ W, Below (A + 2) W2 W → W.cell? ⟨A, 0, none⟩ = some (.slice (some ⟨nb, no, none⟩) N cn) ∧ W.cell? ⟨A + 1, 0, none⟩ = some (.slice (some ⟨ob, oo, none⟩) N co) ∧ RowsK W nb no N M (keyN c M) ∧ RowsK W ob oo N M (keyO c M) ∧ Below w.heap.size w W ∧ A + 2 ≤ W.heap.size) := fun W hW => by
    have hb := z4.trans (hW.mono (by omega))
    exact ⟨by simpa using (blk_all (blk_below hW (by omega) z2)).1 0, by simpa using (blk_all (blk_below hW (by omega) z3)).1 0, hRn.mono hb, hRo.mono hb, hb, by have := hW.size; omega⟩
  have HW := Lib.hid (And.intro hW2 (And.intro hA z1))
  have HN := Lib.hid hN
  clear hW2 z1 z2 z3 z4 hRn hRo hN hA
  have hmk := fun w => mkInts w N (by omega)
  go_enter Try.func44, Try.ntmps44
  go_upto_region 1 with fail
  rw [← HW.out.1]
  try rw [← HW.out.2.1]
  have c1 := (HB.out _ (Below.refl _ _)).1
  have c2 := (HB.out _ (Below.refl _ _)).2.1
  go_upto_region 2 with fail
  have x1 : ((W2.alloc (.cells (ints (List.replicate N 0)).toArray 3)).alloc (.cells #[.slice (some ⟨W2.heap.size, 0, none⟩) N N] 23)).heap[W2.heap.size]? = some (.cells (ints (List.replicate N 0)).toArray 3 (0, 0)) := blk_old (blk_new _ _)
  have x2 : ((W2.alloc (.cells (ints (List.replicate N 0)).toArray 3)).alloc (.cells #[.slice (some ⟨W2.heap.size, 0, none⟩) N N] 23)).heap[W2.heap.size + 1]? = some (.cells #[.slice (some ⟨W2.heap.size, 0, none⟩) N N] 23 (0, 0)) := blk_at (by simp)
  have x3 : Below (A + 2) W2 ((W2.alloc (.cells (ints (List.replicate N 0)).toArray 3)).alloc (.cells #[.slice (some ⟨W2.heap.size, 0, none⟩) N N] 23)) := by rw [← HW.out.2.2]; go_grown
  clear c1 c2
  revert x1 x2 x3
  generalize ((W2.alloc (.cells (ints (List.replicate N 0)).toArray 3)).alloc (.cells #[.slice (some ⟨W2.heap.size, 0, none⟩) N N] 23)) = W3
  rw [HW.out.2.2]
  intro x1 x2 x3
  obtain ⟨CV, hCV⟩ : ∃ CV, CV = A + 2 + 1 := ⟨_, rfl⟩
  rw [← hCV] at x2
  rw [← hCV]
  have hCV2 : A + 2 < CV := by omega
  clear hCV
  have c5 := (blk_all x2).1
  have H3 := Lib.hid (And.intro x1 (And.intro x2 x3))
  clear x1 x2 x3
  go_wp2_with fail
  clear c5
  go_loopw [15] (fun i wr => ∃ k : Nat, k ≤ N ∧ i = .int .i64 k ∧ wr.heap[CV]? = some (.cells #[.slice (some ⟨A + 2, 0, none⟩) N N] 23 (0, 0)) ∧ wr.heap[A + 2]? = some (.cells (ints (clsK (keyO c M) k ++ List.replicate (N - k) 0)).toArray 3 (0, 0)) ∧ Below (A + 2) W2 wr) (fun i _ => N - (intOf i).toNat)
  case atStart => exact ⟨0, Nat.zero_le _, rfl, H3.out.2.1, H3.out.1, H3.out.2.2⟩
  case round =>
    obtain ⟨k, hk, rfl, hv, ha, hbl⟩ := hrel
    by_cases hlt : k < N
    · obtain ⟨sb, hsb⟩ : ∃ sb, sb = wr.heap.size := ⟨_, rfl⟩
      have hs1 : sb > CV := by rw [hsb]; exact blk_lt hv
      have hs2 : sb > A + 2 := by rw [hsb]; exact blk_lt ha
      have y1 := blk_old (o := .cells #[.int .i64 (k : Int)] 3) hv
      have y2 := blk_old (o := .cells #[.int .i64 (k : Int)] 3) ha
      have y3 := blk_new wr (.cells #[.int .i64 (k : Int)] 3)
      have y4 := hbl.alloc (HB.out _ hbl).2.2.2.2.2 (.cells #[.int .i64 (k : Int)] 3)
      rw [← hsb] at y3
      clear hv ha hbl
      go_upto_region 5 with fail
      rw [← hsb]
      clear hsb
      revert y1 y2 y3 y4
      generalize wr.alloc (.cells #[.int .i64 (k : Int)] 3) = WA
      intro y1 y2 y3 y4
      have HS : Hid (∀ W, Drew WA W → (W.cell? ⟨CV, 0, none⟩ = some (.slice (some ⟨A + 2, 0, none⟩) N N) ∧ W.cell? ⟨sb, 0, none⟩ = some (.int .i64 k) ∧ W.cell? ⟨A + 1, 0, none⟩ = some (.slice (some ⟨ob, oo, none⟩) N co)) ∧ W.heap[CV]? = some (.cells #[.slice (some ⟨A + 2, 0, none⟩) N N] 23 (0, 0)) ∧ W.heap[A + 2]? = some (.cells (ints (clsK (keyO c M) k ++ List.replicate (N - k) 0)).toArray 3 (0, 0)) ∧ Below (A + 2) W2 W) := fun W hW => by
        obtain ⟨n, rfl⟩ := hW
        have h1 : Below WA.heap.size WA (WA.drewN n) := below_n (Below.refl _ _) n
        have h4 : Below (A + 2) W2 (WA.drewN n) := below_n y4 n
        exact ⟨⟨by simpa using (blk_all (blk_below h1 (blk_lt y1) y1)).1 0, by simpa using (blk_all (blk_below h1 (blk_lt y3) y3)).1 0, (HB.out _ h4).2.1⟩, blk_below h1 (blk_lt y1) y1, blk_below h1 (blk_lt y2) y2, h4⟩
      have HY := Lib.hid (And.intro y1 (And.intro y2 (And.intro y3 y4)))
      clear y1 y2 y3 y4
      refine wp_region_E (fun w' => w'.cell? ⟨CV, 0, none⟩ = some (.slice (some ⟨A + 2, 0, none⟩) N N) ∧ w'.cell? ⟨sb, 0, none⟩ = some (.int .i64 k) ∧ w'.cell? ⟨A + 1, 0, none⟩ = some (.slice (some ⟨ob, oo, none⟩) N co)) 6 (.q 0 (.q 1 (.q 2 (.q 3 (.e 4 (.q 5 (.z 6))))))) (by kernel_rfl) (by kernel_rfl) (by kernel_rfl) (by kernel_rfl) (by kernel_rfl) (by kernel_rfl) (HS.out _ ⟨1, rfl⟩).1 ?_
      repeat (first | (refine orde_s (o := ?_) ?_ ?_ ?_; rotate_left 1; (focus ((simp only [List.getElem?_toArray, List.getElem?_cons_succ, List.getElem?_cons_zero]) <;> rfl)); (focus rfl); simp only [Act.put, List.setIfInBounds_toArray, List.set_cons_zero, List.set_cons_succ]) | (refine orde_q (o := ?_) (v := ?_) ?_ ?_ ?_ ?_; rotate_left 2; (focus ((simp only [List.getElem?_toArray, List.getElem?_cons_succ, List.getElem?_cons_zero]) <;> rfl)); (focus rfl); (focus (intro w' hS; (try dsimp only at hS); go_split_ands; go_simp; (try (with_reducible rfl)))); simp only [Act.put, List.setIfInBounds_toArray, List.set_cons_zero, List.set_cons_succ]))
      refine orde_e ?_
      (refine ope_e (o := ?_) ?_ ?_ (fun K hK => ?_); rotate_left 1; (focus ((simp only [List.getElem?_toArray, List.getElem?_cons_succ, List.getElem?_cons_zero]) <;> rfl)); (focus rfl); go_simp)
      have hd1 : Drew WA WA.drew := ⟨1, rfl⟩
      revert hd1
      generalize WA.drew = WB
      intro hd1
      refine (idxRows_any (A + 1) sb ob oo N M k co (keyO c M) _ (HS.out _ hd1).1.2.2 (HS.out _ hd1).1.2.1 hlt (by omega) (by omega) (HB.out _ (HS.out _ hd1).2.2.2).2.2.2.1).mono ?_
      rintro e wd ⟨rfl, hq⟩
      have hd2 := hd1.trans hq
      refine hK.out _ _ (HS.out _ hd2).1 ?_
      clear hK K hq hd1
      have HD := Lib.hid hd2
      clear hd2
      (try simp only [Act.put, List.setIfInBounds_toArray, List.set_cons_zero, List.set_cons_succ])
      have q1 : wd.cell? ⟨A + 2, k, none⟩ = some (.int .i64 0) := ints_cell (HS.out _ HD.out).2.2.1 (clsK_zero hlt)
      have q2 : wd.frozen? ⟨A + 2, k, none⟩ = false := blk_free (HS.out _ HD.out).2.2.1
      repeat (first | (refine orde_s (o := ?_) ?_ ?_ ?_; rotate_left 1; (focus ((simp only [List.getElem?_toArray, List.getElem?_cons_succ, List.getElem?_cons_zero]) <;> rfl)); (focus rfl); simp only [Act.put, List.setIfInBounds_toArray, List.set_cons_zero, List.set_cons_succ]) | (refine orde_q (o := ?_) (v := ?_) ?_ ?_ ?_ ?_; rotate_left 2; (focus ((simp only [List.getElem?_toArray, List.getElem?_cons_succ, List.getElem?_cons_zero]) <;> rfl)); (focus rfl); (focus (intro w' hS; (try dsimp only at hS); go_split_ands; go_simp; (try (with_reducible rfl)))); simp only [Act.put, List.setIfInBounds_toArray, List.set_cons_zero, List.set_cons_succ]))
      (refine orde_z (o := ?_) ?_ ?_ (fun K hK => ?_); rotate_left 1; (focus ((simp only [List.getElem?_toArray, List.getElem?_cons_succ, List.getElem?_cons_zero]) <;> rfl)); (focus rfl); go_simp)
      refine hK.out _ _ ?_
      clear hK K q1 q2
      have r1 : (wd.setCell ⟨A + 2, k, none⟩ (.int .i64 (fstK (keyO c M) k : Nat))).heap[A + 2]? = some (.cells (ints (clsK (keyO c M) (k + 1) ++ List.replicate (N - (k + 1)) 0)).toArray 3 (0, 0)) := by
        have h := ints_blk_set (HS.out _ HD.out).2.2.1 k (fstK (keyO c M) k : Nat)
        rw [clsK_fill hlt, clsK_next] at h
        exact h
      have r2 : (wd.setCell ⟨A + 2, k, none⟩ (.int .i64 (fstK (keyO c M) k : Nat))).heap[CV]? = some (.cells #[.slice (some ⟨A + 2, 0, none⟩) N N] 23 (0, 0)) := by
        rw [blk_set_ne (b := CV) (c := A + 2) (x := wd.heap[CV]?) (by omega) rfl]; exact (HS.out _ HD.out).2.1
      have r3 : Below (A + 2) W2 (wd.setCell ⟨A + 2, k, none⟩ (.int .i64 (fstK (keyO c M) k : Nat))) := (HS.out _ HD.out).2.2.2.setCell (p := ⟨A + 2, k, none⟩) (Nat.le_refl _) _
      revert r1 r2 r3
      generalize wd.setCell ⟨A + 2, k, none⟩ (.int .i64 (fstK (keyO c M) k : Nat)) = W9
      intro r1 r2 r3
      have H9 := Lib.hid (And.intro r2 (And.intro r1 r3))
      clear r1 r2 r3
      go_wp2_with fail
      go_roundw
      case rel => exact ⟨k + 1, by omega, by go_num, H9.out.1, H9.out.2.1, H9.out.2.2⟩
      case measure => simp [intOf]; omega
    · obtain rfl : k = N := by omega
      rw [Nat.sub_self, List.replicate_zero, List.append_nil] at ha
      have H4 := Lib.hid (And.intro hv (And.intro ha hbl))
      clear hv ha hbl
      go_wp2_with fail
      go_loopw [8] (fun _ wr => ∃ (n ca : Nat) (cl : List Int), n ≤ k ∧ cl = iterK c M k n ∧ A + 2 ≤ ca ∧ ca ≠ CV ∧ wr.heap[CV]? = some (.cells #[.slice (some ⟨ca, 0, none⟩) k k] 23 (0, 0)) ∧ wr.heap[ca]? = some (.cells (ints cl).toArray 3 (0, 0)) ∧ Below (A + 2) W2 wr) (fun _ W => k + 1 - cntK k (classOf CV W))
      case atStart => exact ⟨0, A + 2, _, Nat.zero_le _, rfl, Nat.le_refl _, by omega, H4.out.1, H4.out.2.1, H4.out.2.2⟩
      case round =>
        obtain ⟨n, ca, cl, hnk, hcl, hca, hcc, hv, ha, hbl⟩ := hrel
        have hlc : cl.length = k := by rw [hcl]; exact iterK_length _ _ _ _
        obtain ⟨WO, hWO⟩ : ∃ WO, WO = wr := ⟨_, rfl⟩
        subst hWO
        obtain ⟨FA, hFA⟩ : ∃ FA, FA = WO.heap.size := ⟨_, rfl⟩
        have hf1 : FA > CV := by rw [hFA]; exact blk_lt hv
        have hf2 : FA > ca := by rw [hFA]; exact blk_lt ha
        have cv1 := (blk_all hv).1
        have HOO := Lib.hid (And.intro hv (And.intro ha (And.intro hbl (And.intro hcl (And.intro hlc hFA)))))
        have x1 := blk_new WO (.cells (ints (List.replicate k 0)).toArray 3)
        have x2 := (Below.refl WO.heap.size WO).alloc (Nat.le_refl _) (.cells (ints (List.replicate k 0)).toArray 3)
        clear hv ha hbl hcl hlc
        go_upto_region 9 with fail
        rw [← hFA] at x1 x2
        rw [← hFA]
        clear hFA cv1
        revert x1 x2
        generalize WO.alloc (.cells (ints (List.replicate k 0)).toArray 3) = W5
        intro x1 x2
        have H5 := Lib.hid (And.intro x1 x2)
        clear x1 x2
        have HV : Hid (∀ W, Below FA WO W → W.cell? ⟨CV, 0, none⟩ = some (.slice (some ⟨ca, 0, none⟩) k k) ∧ W.heap[CV]? = some (.cells #[.slice (some ⟨ca, 0, none⟩) k k] 23 (0, 0)) ∧ W.heap[ca]? = some (.cells (ints cl).toArray 3 (0, 0)) ∧ Below (A + 2) W2 W) := fun W hW => by
          obtain ⟨hv, ha, hbl, hcl, hlc, hFA⟩ := HOO.out
          have h1 := blk_below hW (by omega) hv
          exact ⟨by simpa using (blk_all h1).1 0, h1, blk_below hW (by omega) ha, hbl.trans (hW.mono (by omega))⟩
        go_wp2_with fail
        go_loopw [31] (fun i wr2 => ∃ j : Nat, j ≤ k ∧ i = .int .i64 j ∧ wr2.heap[FA]? = some (.cells (ints (clsK (keyR c M cl) j ++ List.replicate (k - j) 0)).toArray 3 (0, 0)) ∧ Below FA WO wr2) (fun i _ => k - (intOf i).toNat)
        case atStart => exact ⟨0, Nat.zero_le _, rfl, H5.out.1, H5.out.2⟩
        case round =>
          obtain ⟨j, hj, rfl, hf, hbl⟩ := hrel
          by_cases hlt : j < k
          · have hc := HV.out _ hbl
            obtain ⟨f, hff⟩ : ∃ f, f = fstK (keyR c M cl) j := ⟨_, rfl⟩
            have HFF := Lib.hid hff
            have HI := Lib.hid (And.intro hf hbl)
            clear hf hbl hc hff
            go_upto_region 12 with fail
            go_loopw [34] (fun _ wr2 => ∃ t : Nat, t ≤ j ∧ (∀ t' : Nat, t' < t → keyR c M cl t' ≠ keyR c M cl j) ∧ wr2.heap[FA]? = some (.cells (ints (clsK (keyR c M cl) j ++ (t : Int) :: List.replicate (k - (j + 1)) 0)).toArray 3 (0, 0)) ∧ Below FA WO wr2) (fun _ W => k - (intOf ((W.cell? ⟨FA, j, none⟩).getD (.bool true))).toNat)
            case atStart => exact ⟨0, Nat.zero_le _, fun t' h => absurd h (by omega), by have h := HI.out.1; rw [← clsK_z0 hlt]; exact h, HI.out.2⟩
            case round =>
              obtain ⟨t, ht, hne, hf, hbl⟩ := hrel
              have hc := HV.out _ hbl
              have z0 : wr.cell? ⟨FA, j, none⟩ = some (.int .i64 t) := ints_cell hf clsK_at
              have q2 : wr.frozen? ⟨FA, j, none⟩ = false := blk_free hf
              have hRn := (HB.out _ hc.2.2.2).2.2.1
              have hA := (HB.out _ hc.2.2.2).1
              have HK := Lib.hid (And.intro hne (And.intro hf (And.intro hbl (And.intro hc (And.intro hRn hA)))))
              clear hne hf hbl hc hRn hA
              by_cases htj : t < j
              · have hal := alike_any CV A ca nb no k M cn t j c cl wr HK.out.2.2.2.1.1 HK.out.2.2.2.2.2 (fun p x hx => ints_cell HK.out.2.2.2.1.2.2.1 hx) HK.out.2.2.2.2.1 HN.out HOO.out.2.2.2.2.1 N8 M16 (by omega) hlt
                have HAL := Lib.hid hal
                clear hal
                by_cases e : keyR c M cl t = keyR c M cl j
                · have he : decide (keyR c M cl t = keyR c M cl j) = true := decide_eq_true e
                  have hft : f = t := by rw [HFF.out]; exact fstK_eq ht e HK.out.1
                  have HE := Lib.hid (And.intro he hft)
                  clear e he hft
                  go_wp2_with fail
                  refine HAL.out.mono ?_
                  rintro e w3 ⟨rfl, hq⟩
                  rw [HE.out.1]
                  have H3 := Lib.hid hq
                  clear hq q2 z0
                  go_wp2_with fail
                  go_roundw
                  case rel =>
                    refine ⟨j + 1, by omega, by go_num, ?_, HK.out.2.2.1.trans (H3.out.below _)⟩
                    have h := blk_below (H3.out.below _) (blk_lt HK.out.2.1) HK.out.2.1
                    rw [← HE.out.2, HFF.out, clsK_next] at h
                    exact h
                  case measure => simp [intOf]; omega
                · have he : decide (keyR c M cl t = keyR c M cl j) = false := decide_eq_false e
                  have HE := Lib.hid (And.intro he e)
                  clear e he
                  go_wp2_with fail
                  refine HAL.out.mono ?_
                  rintro e w3 ⟨rfl, hq⟩
                  rw [HE.out.1]
                  have h3 := blk_below (hq.below _) (blk_lt HK.out.2.1) HK.out.2.1
                  have H3 := Lib.hid (And.intro (HK.out.2.2.1.trans (hq.below _)) h3)
                  clear hq q2 z0 h3
                  have z0 : w3.cell? ⟨FA, j, none⟩ = some (.int .i64 t) := ints_cell H3.out.2 clsK_at
                  have q2 : w3.frozen? ⟨FA, j, none⟩ = false := blk_free H3.out.2
                  go_wp2_with fail
                  clear z0 q2
                  have h5 := ints_blk_set H3.out.2 j ((t : Int) + 1)
                  rw [clsK_fill2] at h5
                  have e5 : ((t + 1 : Nat) : Int) = (t : Int) + 1 := by omega
                  have h6 : Below FA WO (w3.setCell ⟨FA, j, none⟩ (.int .i64 ((t : Int) + 1))) := H3.out.1.setCell (p := ⟨FA, j, none⟩) (Nat.le_refl _) _
                  go_roundw
                  case rel =>
                    refine ⟨t + 1, by omega, fun t' h => ?_, by rw [e5]; exact h5, h6⟩
                    by_cases h' : t' < t
                    · exact HK.out.1 t' h'
                    · obtain rfl : t' = t := by omega
                      exact HE.out.2
                  case measure =>
                    rw [ints_cell h5 clsK_at, ints_cell HK.out.2.1 clsK_at]
                    simp [intOf]; omega
              · obtain rfl : t = j := by omega
                have hft : f = t := by rw [HFF.out]; exact fstK_eq (Nat.le_refl _) rfl HK.out.1
                have HE := Lib.hid hft
                clear hft
                go_wp2_with fail
                go_roundw
                case rel =>
                  refine ⟨t + 1, by omega, by go_num, ?_, HK.out.2.2.1⟩
                  have h := HK.out.2.1
                  have e2 : clsK (keyR c M cl) t ++ (t : Int) :: List.replicate (k - (t + 1)) 0 = clsK (keyR c M cl) (t + 1) ++ List.replicate (k - (t + 1)) 0 := by rw [← clsK_next, ← HFF.out, HE.out]
                  rw [← e2]
                  exact h
                case measure => simp [intOf]; omega
          · obtain rfl : j = k := by omega
            rw [Nat.sub_self, List.replicate_zero, List.append_nil] at hf
            have hc := HV.out _ hbl
            have cv := hc.1
            have HJ := Lib.hid (And.intro hf (And.intro hbl hc))
            clear hf hbl hc
            have hlr : (clsK (keyR c M cl) j).length = j := clsK_length _ _
            have hsl1 : Sl wr (some ⟨FA, 0, none⟩) (ints (clsK (keyR c M cl) j)) := Sl.toA HJ.out.1
            have hsl2 : Sl wr (some ⟨ca, 0, none⟩) (ints cl) := Sl.toA HJ.out.2.2.2.2.1
            have HSL := Lib.hid (And.intro hsl1 (And.intro hsl2 hlr))
            clear hsl1 hsl2 hlr
            by_cases e : clsK (keyR c M cl) j = cl
            · have he : decide (clsK (keyR c M cl) j = cl) = true := decide_eq_true e
              have HE := Lib.hid (And.intro he e)
              clear he e
              go_upto_region 16 with (go_at_call 71; ((with_reducible refine (slicesEqI_any _ _ _ _ j _ _ _ HSL.out.1 HSL.out.2.1 HSL.out.2.2 HOO.out.2.2.2.2.1 (by omega)).mono ?_); rintro e w1 ⟨rfl, hd⟩; rw [HE.out.1]; have HD := Lib.hid (HJ.out.2.1.trans (hd.below _)); clear hd cv; have cv := (HV.out _ HD.out).1))
              go_wp2_with fail
              go_ret
              have hfin : iterK c M j n = iterK c M j j := iterK_last hnk (by show refK c M j (iterK c M j n) = _; rw [← HOO.out.2.2.2.1]; exact HE.out.2)
              have ho := own_of_blk (base := w.heap.size) (size := 1) (n := j) (HV.out _ HD.out).2.2.1 (by have := HW.out.2.1; omega) (by simp [HOO.out.2.2.2.2.1]) (by unfold maxLen; omega)
              rw [HOO.out.2.2.2.1, hfin] at ho
              exact ⟨some ⟨ca, 0, none⟩, j, rfl, by simpa using ho, (HB.out _ (HV.out _ HD.out).2.2.2).2.2.2.2.1⟩
            · have he : decide (clsK (keyR c M cl) j = cl) = false := decide_eq_false e
              have HE := Lib.hid (And.intro he e)
              clear he e
              go_upto_region 17 with (go_at_call 71; ((with_reducible refine (slicesEqI_any _ _ _ _ j _ _ _ HSL.out.1 HSL.out.2.1 HSL.out.2.2 HOO.out.2.2.2.2.1 (by omega)).mono ?_); rintro e w1 ⟨rfl, hd⟩; rw [HE.out.1]; have HD := Lib.hid (And.intro (HJ.out.2.1.trans (hd.below _)) (blk_below (hd.below _) (blk_lt HJ.out.1) HJ.out.1)); clear hd cv; have cv := blk_all (HV.out _ HD.out.1).2.1))
              obtain ⟨cv, cf⟩ := cv
              go_wp2_with fail
              clear cv cf
              have h1 : (w1.setCell ⟨CV, 0, none⟩ (.slice (some ⟨FA, 0, none⟩) j j)).heap[CV]? = some (.cells #[.slice (some ⟨FA, 0, none⟩) j j] 23 (0, 0)) := by simpa using blk_set (o := 0) (v := .slice (some ⟨FA, 0, none⟩) j j) (HV.out _ HD.out.1).2.1
              have h2 : (w1.setCell ⟨CV, 0, none⟩ (.slice (some ⟨FA, 0, none⟩) j j)).heap[FA]? = some (.cells (ints (clsK (keyR c M cl) j)).toArray 3 (0, 0)) := by
                rw [blk_set_ne (b := FA) (c := CV) (x := w1.heap[FA]?) (by omega) rfl]; exact HD.out.2
              have h3 : Below (A + 2) W2 (w1.setCell ⟨CV, 0, none⟩ (.slice (some ⟨FA, 0, none⟩) j j)) := (HV.out _ HD.out.1).2.2.2.setCell (p := ⟨CV, 0, none⟩) (by simp only; omega) _
              have hit : iterK c M j (n + 1) = clsK (keyR c M cl) j := by show refK c M j (iterK c M j n) = _; rw [← HOO.out.2.2.2.1]; rfl
              have hlt2 : n + 1 < j := iterK_lt N0 (by rw [hit, ← HOO.out.2.2.2.1]; exact HE.out.2)
              go_roundw
              case rel => exact ⟨n + 1, FA, _, by omega, hit.symm, by omega, by omega, h1, h2, h3⟩
              case measure =>
                have g1 := classOf_eq (by simpa using (blk_all h1).1 0) h2 HSL.out.2.2
                have g2 := classOf_eq (by simpa using (blk_all HOO.out.1).1 0) HOO.out.2.1 HOO.out.2.2.2.2.1
                rw [g1, g2]
                obtain ⟨key, hkey⟩ := iterK_cls c M j n
                have hcc2 : cl = clsK key j := by rw [HOO.out.2.2.2.1]; exact hkey
                have hle : ¬ cntK j (refK c M j (clsK key j)) ≤ cntK j (clsK key j) := fun h => HE.out.2 (by have := refK_same h; rw [← hcc2] at this; exact this)
                rw [← hcc2] at hle
                have hh : cntK j (clsK (keyR c M cl) j) = cntK j (refK c M j cl) := rfl
                have := cntK_le j (refK c M j cl)
                omega

/-- Rows of numbers that the call made, by a key. -/
structure OwR (w : World) (base : Nat) (v : Value) (xs : List Value) (k M : Nat) (key : Nat → List Int) : Prop where
  out : w.ownsRow base 23 1 v k xs
  row : ∀ (t : Nat) (u : Value), xs[t]? = some u → w.ownsRow base 3 1 u M (ints (key t))
theorem OwR.below {w w' : World} {base : Nat} {v : Value} {xs : List Value} {k M : Nat} {key : Nat → List Int} (h : OwR w base v xs k M key) (hb : Below w.heap.size w w') : OwR w' base v xs k M key :=
  ⟨own_below h.out hb, fun t u e => own_below (h.row t u e) hb⟩
theorem OwR.grow {w w2 : World} {base : Nat} {v v2 : Value} {xs ys : List Value} {k M n : Nat} {key : Nat → List Int} (h : OwR w base v xs k M key) (h2 : w.ownsRow base 23 1 v2 n ys) (hne : ∀ b, v2.ownBlock = some b → v.ownBlock ≠ some b) (hg : w.grownBy w2 v2.ownBlock) : OwR w2 base v xs k M key :=
  have hc := Chg.of_grown hg
  ⟨hc.own h.out (fun b hb e => hne b e hb), fun t u e => hc.own (h.row t u e) (fun b hb e' => own_ty (h.row t u e) h2 (by decide) hb e')⟩
theorem OwR.push {w w2 : World} {base : Nat} {v v' u : Value} {xs : List Value} {k M : Nat} {key : Nat → List Int} (h : OwR w base v xs k M key) (hu : w.ownsRow base 3 1 u M (ints (key k))) (hg : w.grownBy w2 v.ownBlock) (ho : w2.ownsRow base 23 1 v' (k + 1) (xs ++ [u])) : OwR w2 base v' (xs ++ [u]) (k + 1) M key := by
  have hc := Chg.of_grown hg
  have hl : xs.length = k := by simpa using h.out.1
  refine ⟨ho, fun t x e => ?_⟩
  by_cases hlt : t < k
  · rw [List.getElem?_append_left (by omega)] at e
    exact hc.own (h.row t x e) (fun b hb e' => own_ty (h.row t x e) h.out (by decide) hb e')
  · have ht := (List.getElem?_eq_some_iff.1 e).1
    rw [List.length_append, hl] at ht
    obtain rfl : t = k := by simp at ht; omega
    rw [List.getElem?_append_right (by omega), hl, Nat.sub_self] at e
    cases e
    exact hc.own hu (fun b hb e' => own_ty hu h.out (by decide) hb e')
theorem ne_grow {w : World} {base n size : Nat} {e : TypeId} {vx vx' vy : Value} {ys : List Value} (ho : vx'.ownBlock = vx.ownBlock ∨ vx'.ownBlock = some w.heap.size) (hne : ∀ b, vx.ownBlock = some b → vy.ownBlock ≠ some b) (hy : w.ownsRow base e size vy n ys) : ∀ b, vx'.ownBlock = some b → vy.ownBlock ≠ some b := fun b e1 e2 => by
  rcases ho with h | h
  · exact hne b (h ▸ e1) e2
  · rw [h] at e1; cases e1
    have := (own_blk hy e2).2
    omega
theorem OwR.rows {w : World} {base g N c M : Nat} {xs : List Value} {key : Nat → List Int} (h : OwR w base (.slice (some ⟨g, 0, none⟩) N c) xs N M key) (hk : ∀ t, (key t).length = M) : RowsK w g 0 N M key := fun t ht => by
  have hl : xs.length = N := by simpa using h.out.1
  obtain ⟨u, hu⟩ := get_of_lt (l := xs) (k := t) (by omega)
  have ho := h.row t u hu
  obtain ⟨st, ct, rfl⟩ := own_shape ho
  exact ⟨st, ct, by rw [Nat.zero_add, h.out.cellAt t (by omega)]; exact hu, own_sl ho, hk t⟩

set_option maxRecDepth 100000 in
set_option maxHeartbeats 3200000 in
theorem StateClasses_i (v : Value) (c : Cir) (w : World) (h : CirV w v c) :
    Calls Try.prog 14 #[v] w fun e w' => ∃ s cap, e = .returned (.slice s (clsR c).length cap) ∧ w'.ownsRow w.heap.size 3 1 (.slice s (clsR c).length cap) (clsR c).length (ints (clsR c)) ∧ Below w.heap.size w w' := by
  have HC : Hid (∀ w', Below w.heap.size w w' → CirV w' v c) := fun w' hb => h.mono hb
  obtain ⟨sn, cn, sg, cg, so, co, rfl, h1, h2, h3, hl1, hl2, hl3⟩ := h
  have hL : Below w.heap.size w (w.alloc (.cells #[.int .i64 c.inp, .slice sn c.next.length cn, .slice sg c.gates.length cg, .slice so c.outs.length co] 26)) := by go_grown
  have hN := blk_new w (.cells #[.int .i64 c.inp, .slice sn c.next.length cn, .slice sg c.gates.length cg, .slice so c.outs.length co] 26)
  have HL := Lib.hid (And.intro hL hN)
  have HS := Lib.hid (And.intro h1 (And.intro h2 h3))
  clear hL hN h1 h2 h3
  cases hv : c.validB
  · rw [clsR_no hv]
    have HE := Lib.hid hv
    clear hv
    go_enter Try.func14, Try.ntmps14
    go_wp2_with (go_at_call 10; ((with_reducible refine (CircuitValid_i _ _ _ (HC.out _ HL.out.1)).mono ?_); rintro e w1 ⟨rfl, hq⟩; have HQ := Lib.hid hq; clear hq; rw [HE.out]))
    go_ret
    exact ⟨_, _, rfl, World.ownsRow_nil _ _ _ _, HL.out.1.trans (HQ.out.mono (by simp))⟩
  · have hval := c.validB_iff.1 hv
    obtain ⟨q1, q2, q3, q4, q5⟩ := id hval.lim
    obtain ⟨ni, hni⟩ : ∃ ni : Nat, c.inp = ni := ⟨c.inp.toNat, by omega⟩
    have n4 : ni ≤ 4 := by omega
    rw [clsR_yes hv hni]
    obtain ⟨M, hM⟩ : ∃ M, M = 2 ^ ni := ⟨_, rfl⟩
    obtain ⟨N, hN⟩ : ∃ N, N = 2 ^ c.next.length := ⟨_, rfl⟩
    have M16 : M ≤ 16 := by rw [hM]; exact Nat.le_trans (Nat.pow_le_pow_right (by decide) n4) (by decide)
    have N8 : N ≤ 8 := by rw [hN]; exact Nat.le_trans (Nat.pow_le_pow_right (by decide) q3) (by decide)
    have N0 : 0 < N := by rw [hN]; exact Nat.pow_pos (by decide)
    have hwq : wrap64 (2 ^ c.next.length) = (N : Int) := by rw [wrap_pow (by omega), hN]; simp
    rw [← hM, ← hN]
    have hlI : (iterK c M N N).length = N := iterK_length _ _ _ _
    rw [hlI]
    have HH := Lib.hid (And.intro hv (And.intro hval (And.intro hN (And.intro hM hni))))
    clear hv hval hM hN hni hlI
    have hW1 : w.heap.size < (w.alloc (.cells #[.int .i64 c.inp, .slice sn c.next.length cn, .slice sg c.gates.length cg, .slice so c.outs.length co] 26)).heap.size := by simp
    go_enter Try.func14, Try.ntmps14
    go_upto_region 3 with (go_at_call 10; ((with_reducible refine (CircuitValid_i _ _ _ (HC.out _ HL.out.1)).mono ?_); rintro e w1 ⟨rfl, hq⟩; have HQ := Lib.hid (And.intro (HL.out.1.trans (hq.mono HL.out.1.size)) (blk_below hq (blk_lt HL.out.2) HL.out.2)); clear hq; rw [HH.out.1]))
    have hz1 := blk_lt HQ.out.2
    have HB : Hid (∀ W, Below (w.heap.size + 1) w1 W → (∀ o, W.cell? ⟨w.heap.size, o, none⟩ = #[Value.int .i64 c.inp, .slice sn c.next.length cn, .slice sg c.gates.length cg, .slice so c.outs.length co][o]?) ∧ Below w.heap.size w W ∧ w.heap.size + 1 ≤ W.heap.size) := fun W hW => ⟨(blk_all (blk_below hW (Nat.lt_succ_self _) HQ.out.2)).1, HQ.out.1.trans (hW.mono (Nat.le_succ _)), by have := hW.size; omega⟩
    have HRW : Hid (∀ W (s : Nat), Below (w.heap.size + 1) w1 W → s < N → Calls Try.prog 43 #[.pointer (some ⟨w.heap.size, 0, none⟩), .int .i64 (s : Int)] W fun e w' => ∃ s1 c1 s2 c2, e = .returned (.tuple #[.slice s1 M c1, .slice s2 M c2]) ∧ w'.ownsRow W.heap.size 3 1 (.slice s1 M c1) M (ints (keyN c M s)) ∧ w'.ownsRow W.heap.size 3 1 (.slice s2 M c2) M (ints (keyO c M s)) ∧ Below W.heap.size W w') := fun W s hW hs => by
      obtain ⟨hc, hb, -⟩ := HB.out W hW
      refine (stateRows_any w.heap.size M ni sn sg so cn cg co c (s : Int) W ⟨by simpa using hc 0, by simpa using hc 1, by simpa using hc 2, by simpa using hc 3⟩ (HS.out.1.mono hb) (HS.out.2.1.mono hb) (HS.out.2.2.mono hb) HH.out.2.1 (by omega) (by omega) HH.out.2.2.2.2 HH.out.2.2.2.1).mono ?_
      rintro e w' ⟨s1, c1, s2, c2, h⟩
      exact ⟨s1, c1, s2, c2, h⟩
    have hc0 := (HB.out _ (Below.refl _ _)).1
    go_upto_region 5 with fail
    rw [hwq]
    clear hc0 hwq
    go_loopw [15, 3, 4] (fun i x y wr => ∃ (k : Nat) (s3 s4 : Option Addr) (c3 c4 : Nat) (xs ys : List Value), k ≤ N ∧ i = .int .i64 k ∧ x = .slice s3 k c3 ∧ y = .slice s4 k c4 ∧ OwR wr (w.heap.size + 1) x xs k M (keyN c M) ∧ OwR wr (w.heap.size + 1) y ys k M (keyO c M) ∧ (∀ b, x.ownBlock = some b → y.ownBlock ≠ some b) ∧ Below (w.heap.size + 1) w1 wr) (fun i _ _ _ => N - (intOf i).toNat)
    case atStart => exact ⟨0, none, none, 0, 0, [], [], Nat.zero_le _, rfl, rfl, rfl, ⟨World.ownsRow_nil _ _ _ _, fun t u e => by simp at e⟩, ⟨World.ownsRow_nil _ _ _ _, fun t u e => by simp at e⟩, by simp [Value.ownBlock], Below.refl _ _⟩
    case round =>
      obtain ⟨k, s3, s4, c3, c4, xs, ys, hk, rfl, rfl, rfl, hx, hy, hne, hbl⟩ := hrel
      have hsz := (HB.out _ hbl).2.2
      have HR := Lib.hid (And.intro hx (And.intro hy (And.intro hne hbl)))
      clear hx hy hne hbl
      by_cases hlt : k < N
      · go_upto_region 8 with (go_at_call 43; ((with_reducible refine (HRW.out _ k HR.out.2.2.2 hlt).mono ?_); rintro e w2 ⟨s1, d1, s2, d2, rfl, g1, g2, hq⟩; have H2 := Lib.hid (And.intro (HR.out.1.below hq) (And.intro (HR.out.2.1.below hq) (And.intro (own_base g1 hsz) (And.intro (own_base g2 hsz) (HR.out.2.2.2.trans (hq.mono hsz)))))); clear hq g1 g2))
        have hsz2 := (HB.out _ H2.out.2.2.2.2).2.2
        go_upto_region 9 with (at_builtin; refine wpl_app rfl _ _ rfl elem_ints (own_below H2.out.1.out ((Below.refl _ _).alloc (Nat.le_refl _) _)) rfl rfl rfl (Sl.new _ _ _) (by simp [Value.oneCell']) (k + 1) rfl (xs ++ [.slice s1 M d1]) rfl (by unfold maxLen; omega) (by omega) (by simp; omega) ?_; intro s9 c9 w9 h9 hb9 hg9 ho9; have hal := (Below.refl w2.heap.size w2).alloc (Nat.le_refl _) (.cells #[.slice s1 M d1] 23); have HP := Lib.hid (And.intro ((H2.out.1.below hal).push (own_below H2.out.2.2.1 hal) hg9 h9) (And.intro ((H2.out.2.1.below hal).grow (own_below H2.out.1.out hal) HR.out.2.2.1 hg9) (And.intro ((Chg.of_grown hg9).own (own_below H2.out.2.2.2.1 hal) (fun b hb e => own_ty H2.out.2.2.2.1 H2.out.1.out (by decide) hb e)) (And.intro (ne_grow ho9 HR.out.2.2.1 (own_below H2.out.2.1.out hal)) ((H2.out.2.2.2.2.alloc hsz2 _).trans hb9))))); have hw9 := (HB.out _ HP.out.2.2.2.2).2.2; clear h9 hb9 hg9 ho9; clear hal)
        go_wp2_with (at_builtin; refine wpl_app rfl _ _ rfl elem_ints (own_below HP.out.2.1.out ((Below.refl _ _).alloc (Nat.le_refl _) _)) rfl rfl rfl (Sl.new _ _ _) (by simp [Value.oneCell']) (k + 1) rfl (ys ++ [.slice s2 M d2]) rfl (by unfold maxLen; omega) (by omega) (by simp; omega) ?_; intro s10 c10 w10 h9 hb9 hg9 ho9; have hal := (Below.refl w9.heap.size w9).alloc (Nat.le_refl _) (.cells #[.slice s2 M d2] 23); have HP2 := Lib.hid (And.intro ((HP.out.2.1.below hal).push (own_below HP.out.2.2.1 hal) hg9 h9) (And.intro ((HP.out.1.below hal).grow (own_below HP.out.2.1.out hal) (fun b e1 e2 => HP.out.2.2.2.1 b e2 e1) hg9) (And.intro (ne_grow ho9 (fun b e1 e2 => HP.out.2.2.2.1 b e2 e1) (own_below HP.out.1.out hal)) ((HP.out.2.2.2.2.alloc hw9 _).trans hb9)))); clear h9 hb9 hg9 ho9 hal)
        go_roundw
        case rel => exact ⟨k + 1, s9, s10, c9, c10, _, _, by omega, by go_num, by simp, by simp, HP2.out.2.1, HP2.out.1, fun b e1 e2 => HP2.out.2.2.1 b e2 e1, HP2.out.2.2.2⟩
        case measure => simp [intOf]; omega
      · obtain rfl : k = N := by omega
        obtain ⟨g3, rfl⟩ : ∃ g, s3 = some ⟨g, 0, none⟩ := by
          rcases own_some HR.out.1.out with ⟨_, e, _⟩ | ⟨g, e⟩
          · omega
          · exact ⟨g, e⟩
        obtain ⟨g4, rfl⟩ : ∃ g, s4 = some ⟨g, 0, none⟩ := by
          rcases own_some HR.out.2.1.out with ⟨_, e, _⟩ | ⟨g, e⟩
          · omega
          · exact ⟨g, e⟩
        have HRR := Lib.hid (And.intro (HR.out.1.rows (fun t => rowN_length _ _ _)) (HR.out.2.1.rows (fun t => by simp [keyO])))
        go_wp2_with (go_at_call 44; ((with_reducible refine (classes_any g3 0 g4 0 k M c3 c4 c _ HRR.out.1 HRR.out.2 HH.out.2.2.1 N8 N0 M16).mono ?_); rintro e w5 ⟨s, cap, rfl, ho, hq⟩; have H5 := Lib.hid (And.intro ho hq); clear ho hq))
        go_ret
        exact ⟨s, cap, rfl, own_base H5.out.1 (by omega), (HB.out _ HR.out.2.2.2).2.1.trans (H5.out.2.mono (by omega))⟩

end Go.Proofs.Ytaboipnigeaopaa
