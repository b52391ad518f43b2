import Derived.Test.YtaboipnigeaopaaW2
import Derived.Test.YtaboipnigeaopaaM3
namespace Go.Proofs.Ytaboipnigeaopaa
set_option linter.unusedVariables false
set_option linter.unusedSimpArgs false
open Go.RowKit

/-! One step of the reference, its next state and outputs. -/

theorem Sl.sets {w w' : World} {s : Option Addr} {cs : List Value} (h : Sl w s cs) {r : Nat} (hr : ∀ v ∈ cs, ∀ o, w.cell? ⟨r, o, none⟩ ≠ some v) (hw : ∀ b, b ≠ r → w'.heap[b]? = w.heap[b]?) : Sl w' s cs := by
  rcases h with h | ⟨b, off, rfl, h⟩
  · exact .inl h
  · refine .inr ⟨b, off, rfl, fun j v hv => ?_⟩
    have hne : b ≠ r := fun e => hr v (List.mem_of_getElem? hv) _ (e ▸ h j v hv)
    have := h j v hv
    simpa [World.cell?, hw b hne] using this
theorem Sl.boolsets {w w' : World} {s : Option Addr} {bs : List Bool} (h : Sl w s (bools bs)) {r : Nat} {a b : Option Addr} {n m c d : Nat} {t : TypeId} {fz : Nat × Nat} (hr : w.heap[r]? = some (.cells #[.slice a n c, .slice b m d] t fz)) (hw : ∀ b, b ≠ r → w'.heap[b]? = w.heap[b]?) : Sl w' s (bools bs) :=
  h.sets (fun v hv o e => by
    obtain ⟨x, _, rfl⟩ := List.mem_map.1 hv
    rw [blk_cell hr] at e
    rcases o with _ | _ | o <;> simp at e) hw

set_option maxRecDepth 100000 in
set_option maxHeartbeats 3200000 in
theorem l2Step_any (v : Value) (c : Cir) (ss si : Option Addr) (cs ci : Nat) (S I : List Bool) (w : World) (h : CirV w v c) (hv : c.valid) (hS : Sl w ss (bools S)) (hI : Sl w si (bools I))
    (lS : S.length = c.next.length) (ni : Nat) (lI : I.length = ni) (li : c.inp = ni) :
    Calls Try.prog 73 #[v, .slice ss c.next.length cs, .slice si ni ci] w fun e w' => ∃ so co sn cn, e = .returned (.agg #[.slice so c.outs.length co, .slice sn c.next.length cn]) ∧
      Sl w' so (bools (c.outs.map (litB (valsV (-1) false (false :: (I ++ S)) c.gates)))) ∧ Sl w' sn (bools (c.next.map (litB (valsV (-1) false (false :: (I ++ S)) c.gates)))) ∧ Below w.heap.size w w' := by
  have HC : Hid (∀ w', Below w.heap.size w w' → CirV w' v c) := fun w' hb => h.mono hb
  obtain ⟨sn, cn, sg, cg, so, co, rfl, h1, h2, h3, hl1, hl2, hl3⟩ := h
  obtain ⟨f1, f2, f3, f4⟩ := valid_first hv
  obtain ⟨q1, q2, q3, q4, q5⟩ := id hv.lim
  obtain ⟨V, hV⟩ : ∃ V : Nat, c.vars = V := ⟨c.vars.toNat, by omega⟩
  have n4 : ni ≤ 4 := by omega
  obtain ⟨B, hB⟩ : ∃ B, B = valsV (-1) false (false :: (I ++ S)) c.gates := ⟨_, rfl⟩
  have hBl : B.length = V := by
    have h1 := hV; unfold Cir.vars at h1
    rw [hB, valsV_length]; simp [lS, lI]; omega
  have hlit : ∀ x ∈ c.next ++ c.outs, 0 ≤ x ∧ x ≤ 1000000 ∧ x / 2 < B.length := fun x hx => by have := roots_lits hv x hx; rw [hBl]; rw [hV] at this; exact this
  rw [← hB]
  have hL : Below w.heap.size w ((w.alloc (.cells #[.int .i64 c.inp, .slice sn c.next.length cn, .slice sg c.gates.length cg, .slice so c.outs.length co] 26)).alloc (.cells #[.slice none 0 0, .slice none 0 0] 36)) := by go_grown
  have hN := blk_old (o := .cells #[.slice none 0 0, .slice none 0 0] 36) (blk_new w (.cells #[.int .i64 c.inp, .slice sn c.next.length cn, .slice sg c.gates.length cg, .slice so c.outs.length co] 26))
  have hM : ((w.alloc (.cells #[.int .i64 c.inp, .slice sn c.next.length cn, .slice sg c.gates.length cg, .slice so c.outs.length co] 26)).alloc (.cells #[.slice none 0 0, .slice none 0 0] 36)).heap[w.heap.size + 1]? = some (.cells #[.slice none 0 0, .slice none 0 0] 36 (0, 0)) := blk_at (by simp)
  have hZ : ((w.alloc (.cells #[.int .i64 c.inp, .slice sn c.next.length cn, .slice sg c.gates.length cg, .slice so c.outs.length co] 26)).alloc (.cells #[.slice none 0 0, .slice none 0 0] 36)).heap.size = w.heap.size + 2 := by simp
  have H := Lib.hid (And.intro h1 (And.intro h3 (And.intro hv (And.intro hS (And.intro hI (And.intro lS (And.intro lI (And.intro li (And.intro hB (And.intro hBl hlit))))))))))
  have HL := Lib.hid (And.intro hL (And.intro hN (And.intro hM hZ)))
  clear h1 h2 h3 hv hS hI lS lI li hB hBl hlit hL hN hM hZ hV f1 f2 f3 f4
  go_enter Try.func73, Try.ntmps73
  go_wp2_with fail
  revert HL
  generalize ((w.alloc (.cells #[.int .i64 c.inp, .slice sn c.next.length cn, .slice sg c.gates.length cg, .slice so c.outs.length co] 26)).alloc (.cells #[.slice none 0 0, .slice none 0 0] 36)) = W0
  intro HL
  have ca := (blk_all HL.out.2.1).1
  go_upto_region 2 with (go_at_call 88; ((refine (l2Values_any _ c ss si cs ci S I _ (HC.out _ HL.out.1) H.out.2.2.1 (H.out.2.2.2.1.mono HL.out.1) (H.out.2.2.2.2.1.mono HL.out.1) H.out.2.2.2.2.2.1 ni H.out.2.2.2.2.2.2.1 H.out.2.2.2.2.2.2.2.1).mono ?_); rintro e wd ⟨sd, nd, cd, rfl, hnd, hd, hqd⟩; rw [← H.out.2.2.2.2.2.2.2.2.1] at hnd hd; subst hnd; have hz := HL.out.2.2.2; have HD := Lib.hid (And.intro (HL.out.1.trans (hqd.mono HL.out.1.size)) (And.intro (blk_below hqd (by omega) HL.out.2.1) (And.intro (blk_below hqd (by omega) HL.out.2.2.1) (And.intro hd (show w.heap.size + 2 ≤ wd.heap.size by rw [← hz]; exact hqd.size))))); clear hd hqd hz ca; have ca := (blk_all HD.out.2.1).1))
  refine wp_region_E (fun w' => ∀ o, w'.cell? ⟨w.heap.size, o, none⟩ = #[Value.int .i64 c.inp, .slice sn c.next.length cn, .slice sg c.gates.length cg, .slice so c.outs.length co][o]?) 9 (.q 0 (.q 1 (.q 2 (.q 4 (.q 5 (.q 6 (.e 3 (.e 7 (.q 8 (.z 9)))))))))) (by kernel_rfl) (by kernel_rfl) (by kernel_rfl) (by kernel_rfl) (by kernel_rfl) (by kernel_rfl) ca ?_
  repeat (first | (refine orde_s (o := ?_) ?_ ?_ ?_; rotate_left 1; (focus ((simp only [List.getElem?_toArray, List.getElem?_cons_succ, List.getElem?_cons_zero]) <;> rfl)); (focus rfl); simp only [Act.put, List.setIfInBounds_toArray, List.set_cons_zero, List.set_cons_succ]) | (refine orde_q (o := ?_) (v := ?_) ?_ ?_ ?_ ?_; rotate_left 2; (focus ((simp only [List.getElem?_toArray, List.getElem?_cons_succ, List.getElem?_cons_zero]) <;> rfl)); (focus rfl); (focus (intro w' hS; (try dsimp only at hS); go_split_ands; go_simp; (try (with_reducible rfl)))); simp only [Act.put, List.setIfInBounds_toArray, List.set_cons_zero, List.set_cons_succ]))
  refine orde_e ?_
  (refine ope_e (o := ?_) ?_ ?_ (fun K hK => ?_); rotate_left 1; (focus ((simp only [List.getElem?_toArray, List.getElem?_cons_succ, List.getElem?_cons_zero]) <;> rfl)); (focus rfl); go_simp)
  refine (l2Lits_any sd so B cd co c.outs _ (HD.out.2.2.2.1.mono (Below.refl _ _).drew) (H.out.2.1.mono HD.out.1.drew) (fun x hx => H.out.2.2.2.2.2.2.2.2.2.2 x (by simp [hx])) (by omega)).mono ?_
  rintro e we ⟨so', co', rfl, hso, hqe⟩
  have hbe : Below wd.heap.size wd we := (Below.refl _ _).drew.trans hqe
  have hxe := blk_below hbe (blk_lt HD.out.2.1) HD.out.2.1
  refine hK.out _ _ (blk_all hxe).1 ?_
  clear hK K hqe ca
  have HE := Lib.hid (And.intro (HD.out.1.trans (hbe.mono HD.out.1.size)) (And.intro hxe (And.intro (blk_below hbe (blk_lt HD.out.2.2.1) HD.out.2.2.1) (And.intro (HD.out.2.2.2.1.mono hbe) hso))))
  clear hbe hxe hso
  (try simp only [Act.put, List.setIfInBounds_toArray, List.set_cons_zero, List.set_cons_succ])
  refine orde_e ?_
  (refine ope_e (o := ?_) ?_ ?_ (fun K hK => ?_); rotate_left 1; (focus ((simp only [List.getElem?_toArray, List.getElem?_cons_succ, List.getElem?_cons_zero]) <;> rfl)); (focus rfl); go_simp)
  refine (l2Lits_any sd sn B cd cn c.next _ HE.out.2.2.2.1 (H.out.1.mono HE.out.1) (fun x hx => H.out.2.2.2.2.2.2.2.2.2.2 x (by simp [hx])) (by omega)).mono ?_
  rintro e wf ⟨sn', cn', rfl, hsn, hqf⟩
  have hxf := blk_below hqf (blk_lt HE.out.2.1) HE.out.2.1
  have hrf := blk_below hqf (blk_lt HE.out.2.2.1) HE.out.2.2.1
  refine hK.out _ _ (blk_all hxf).1 ?_
  clear hK K
  obtain ⟨rc, rf⟩ := blk_all hrf
  have HF := Lib.hid (And.intro (HE.out.1.trans (hqf.mono HE.out.1.size)) (And.intro hrf (And.intro (HE.out.2.2.2.2.mono hqf) hsn)))
  clear hqf hxf hrf hsn
  (try simp only [Act.put, List.setIfInBounds_toArray, List.set_cons_zero, List.set_cons_succ])
  repeat (first | (refine orde_s (o := ?_) ?_ ?_ ?_; rotate_left 1; (focus ((simp only [List.getElem?_toArray, List.getElem?_cons_succ, List.getElem?_cons_zero]) <;> rfl)); (focus rfl); simp only [Act.put, List.setIfInBounds_toArray, List.set_cons_zero, List.set_cons_succ]) | (refine orde_q (o := ?_) (v := ?_) ?_ ?_ ?_ ?_; rotate_left 2; (focus ((simp only [List.getElem?_toArray, List.getElem?_cons_succ, List.getElem?_cons_zero]) <;> rfl)); (focus rfl); (focus (intro w' hS; (try dsimp only at hS); go_split_ands; go_simp; (try (with_reducible rfl)))); simp only [Act.put, List.setIfInBounds_toArray, List.set_cons_zero, List.set_cons_succ]))
  (refine orde_z (o := ?_) ?_ ?_ (fun K hK => ?_); rotate_left 1; (focus ((simp only [List.getElem?_toArray, List.getElem?_cons_succ, List.getElem?_cons_zero]) <;> rfl)); (focus rfl); go_simp)
  refine hK.out _ _ ?_
  clear hK K
  go_wp2_with fail
  have hZ : ((wf.setCell ⟨w.heap.size + 1, 0, none⟩ (.slice so' c.outs.length co')).setCell ⟨w.heap.size + 1, 1, none⟩ (.slice sn' c.next.length cn')).heap[w.heap.size + 1]? = some (.cells #[.slice so' c.outs.length co', .slice sn' c.next.length cn'] 36 (0, 0)) := by
    simpa using blk_set (o := 1) (v := .slice sn' c.next.length cn') (blk_set (o := 0) (v := .slice so' c.outs.length co') HF.out.2.1)
  have hO : ∀ b, b ≠ w.heap.size + 1 → ((wf.setCell ⟨w.heap.size + 1, 0, none⟩ (.slice so' c.outs.length co')).setCell ⟨w.heap.size + 1, 1, none⟩ (.slice sn' c.next.length cn')).heap[b]? = wf.heap[b]? := fun b hb => blk_set_ne (Ne.symm hb) (blk_set_ne (Ne.symm hb) rfl)
  have h1 := HF.out.2.2.1.boolsets HF.out.2.1 hO
  have h2 := HF.out.2.2.2.boolsets HF.out.2.1 hO
  have hB := (HF.out.1.setCell (p := ⟨w.heap.size + 1, 0, none⟩) (by simp) (.slice so' c.outs.length co')).setCell (p := ⟨w.heap.size + 1, 1, none⟩) (by simp) (.slice sn' c.next.length cn')
  revert hZ h1 h2 hB
  generalize ((wf.setCell ⟨w.heap.size + 1, 0, none⟩ (.slice so' c.outs.length co')).setCell ⟨w.heap.size + 1, 1, none⟩ (.slice sn' c.next.length cn')) = WZ
  intro hZ h1 h2 hB
  have cr := (blk_all hZ).1
  exact bodyPost_ret (v := .agg #[.slice so' c.outs.length co', .slice sn' c.next.length cn']) (by simp [results, Try.results73, go_sem, cr]) rfl ⟨_, _, _, _, rfl, h1, h2, hB⟩

end Go.Proofs.Ytaboipnigeaopaa
