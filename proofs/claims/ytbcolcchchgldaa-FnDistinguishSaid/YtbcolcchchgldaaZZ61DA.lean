import Derived.Test.YtbcolcchchgldaaZZ61V3
import Derived.Test.YtbcolcchchgldaaZZ61OA
import Derived.Test.YtbcolcchchgldaaZZ61OH
namespace Go.Proofs.Ytbcolcchchgldaa
set_option linter.unusedVariables false
set_option linter.unusedSimpArgs false
open Go.RowKit

/-! Part of the proof of one law. -/

def cycV (c : Cir) (s i : Int) : List Bool := valsV (-1) false (false :: (bitsV i c.inp.toNat ++ bitsV s c.next.length)) c.gates

theorem cycV_length (c : Cir) (s i : Int) : (cycV c s i).length = 1 + c.inp.toNat + c.next.length + c.gates.length := by
  unfold cycV; rw [valsV_length]; simp [bitsV_length]; omega

def nextN (c : Cir) (s i : Int) : Int := numB (c.next.map (litB (cycV c s i)))

def outN (c : Cir) (s i : Int) : Int := numB (c.outs.map (litB (cycV c s i)))

theorem nextN_bd (c : Cir) (s i : Int) : 0 ≤ nextN c s i ∧ nextN c s i < 2 ^ c.next.length := by
  have := numB_bd (c.next.map (litB (cycV c s i)))
  simpa [nextN] using this

set_option maxHeartbeats 1600000 in
theorem cycle_any (b : Nat) (sn sg so : Option Addr) (cn cg co : Nat) (c : Cir) (s i : Int) (w : World)
    (h : CirAt w b c.inp (.slice sn c.next.length cn) (.slice sg c.gates.length cg) (.slice so c.outs.length co)) (hn : Sl w sn (ints c.next)) (hg : Sl w sg (gcells c.gates)) (ho : Sl w so (ints c.outs)) (hv : c.valid)
    (hs : 0 ≤ s) (hs2 : s ≤ 1000) (hi : 0 ≤ i) (hi2 : i ≤ 1000) :
    Calls Try.prog 104 #[.pointer (some ⟨b, 0, none⟩), .int .i64 s, .int .i64 i] w fun e w' => e = .returned (.tuple #[.int .i64 (nextN c s i), .int .i64 (outN c s i)]) ∧ Below w.heap.size w w' := by
  have HB : Hid (b < w.heap.size) := World.block_lt_of_cell? w _ h.h0
  obtain ⟨f1, f2, f3, f4⟩ := valid_first hv
  obtain ⟨q1, q2, q3, q4, q5⟩ := id hv.lim
  obtain ⟨V, hV⟩ : ∃ V : Nat, c.vars = V := ⟨c.vars.toNat, by omega⟩
  obtain ⟨ni, hni⟩ : ∃ ni : Nat, c.inp = ni := ⟨c.inp.toNat, by omega⟩
  have n4 : ni ≤ 4 := by omega
  have v1 : 1 ≤ V := by omega
  have hlV : (cycV c s i).length = V := by
    have h1 := hV; unfold Cir.vars at h1
    rw [cycV_length]; omega
  have hle : valsV (-1) false (stuckB (-1) false (false :: (bitsV i ni ++ bitsV s c.next.length))) c.gates = cycV c s i := by
    unfold cycV stuckB; rw [if_neg (by omega), hni]; simp
  have hlit : ∀ x ∈ c.next ++ c.outs, 0 ≤ x ∧ x ≤ 1000000 ∧ x / 2 < (cycV c s i).length := fun x hx => by have := roots_lits hv x hx; rw [hlV]; rw [hV] at this; exact this
  have H := Lib.hid (And.intro h (And.intro hn (And.intro hg (And.intro ho (And.intro hv (And.intro hV (And.intro hni (And.intro hlV (And.intro hle hlit)))))))))
  have HM : Hid (∀ W, Below w.heap.size w W → CirAt W b c.inp (.slice sn c.next.length cn) (.slice sg c.gates.length cg) (.slice so c.outs.length co)) := fun W hb => ⟨(hb.cell (p := ⟨b, 0, none⟩) HB.out).trans H.out.1.h0, (hb.cell (p := ⟨b, 1, none⟩) HB.out).trans H.out.1.h1, (hb.cell (p := ⟨b, 2, none⟩) HB.out).trans H.out.1.h2, (hb.cell (p := ⟨b, 3, none⟩) HB.out).trans H.out.1.h3⟩
  have HS : Hid (∀ W, Below w.heap.size w W → W.cell? ⟨b, 0, none⟩ = some (.int .i64 ni) ∧ W.cell? ⟨b, 1, none⟩ = some (.slice sn c.next.length cn) ∧ W.cell? ⟨b, 3, none⟩ = some (.slice so c.outs.length co)) := fun W hb => ⟨by rw [← H.out.2.2.2.2.2.2.1]; exact (HM.out W hb).h0, (HM.out W hb).h1, (HM.out W hb).h3⟩
  clear h hn hg ho hv hV hni hlV hle hlit f1 f2 f3 f4
  go_enter Try.func104, Try.ntmps104
  go_wp2_with fail
  go_cut [8] from 9 to 23 (fun s8 wx => ∃ g, s8 = .slice (some ⟨g, 0, none⟩) V V ∧ Sl wx (some ⟨g, 0, none⟩) (bools (cycV c s i)) ∧ Below w.heap.size w wx)
  case first =>
    refine wp_region_T (fun w' => w'.cell? ⟨b, 0, none⟩ = some (.int .i64 ni) ∧ w'.cell? ⟨b, 1, none⟩ = some (.slice sn c.next.length cn) ∧ w'.cell? ⟨b, 3, none⟩ = some (.slice so c.outs.length co)) (.q 0 (.q 1 (.q 2 (.q 3 (.q 4 (.q 5 (.q 6 (.q 8 (.q 9 (.q 10 (.q 11 (.q 12 (.e 7 (.e 13 (.e 14 (.q 15 .nil)))))))))))))))) (by kernel_rfl) (by kernel_rfl) (by kernel_rfl) (HS.out _ (Below.refl _ _).drew) ?_
    repeat (first | (refine ordt_s (o := ?_) ?_ ?_ ?_; rotate_left 1; (focus ((simp only [zD, zE, zF]) <;> rfl)); (focus rfl); simp only [Act.put, zA, zB, zC]) | (refine ordt_q (o := ?_) (v := ?_) ?_ ?_ ?_ ?_; rotate_left 2; (focus ((simp only [zD, zE, zF]) <;> rfl)); (focus rfl); (focus (intro w' hS; (try dsimp only at hS); go_split_ands; go_simp; (try (with_reducible rfl)))); simp only [Act.put, zA, zB, zC]))
    refine ordt_e ?_
    (refine op_e (o := ?_) ?_ ?_ (fun K hK => ?_); rotate_left 1; (focus ((simp only [zD, zE, zF]) <;> rfl)); (focus rfl); go_simp)
    refine (bitsOf_any s c.next.length _ hs (by omega) (by omega)).mono ?_
    rintro e wa ⟨sa, rfl, ha, hqa⟩
    have hba : Below w.heap.size w wa := (Below.refl _ _).drew.trans hqa
    refine hK.out _ _ (HS.out _ hba) ?_
    clear hK K hqa
    have HA := Lib.hid (And.intro hba ha)
    clear hba ha
    (try simp only [Act.put, zA, zB, zC])
    refine ordt_e ?_
    (refine op_e (o := ?_) ?_ ?_ (fun K hK => ?_); rotate_left 1; (focus ((simp only [zD, zE, zF]) <;> rfl)); (focus rfl); go_simp)
    refine (bitsOf_any i ni _ hi (by omega) (by omega)).mono ?_
    rintro e wb ⟨sb, rfl, hb, hqb⟩
    have hbb : Below w.heap.size w wb := HA.out.1.trans (hqb.mono HA.out.1.size)
    refine hK.out _ _ (HS.out _ hbb) ?_
    clear hK K
    have HB2 := Lib.hid (And.intro hbb (And.intro (HA.out.2.mono hqb) hb))
    clear hbb hb hqb
    (try simp only [Act.put, zA, zB, zC])
    refine ordt_e ?_
    (refine op_e (o := ?_) ?_ ?_ (fun K hK => ?_); rotate_left 1; (focus ((simp only [zD, zE, zF]) <;> rfl)); (focus rfl); go_simp)
    refine (evaluate_any _ _ _ _ _ _ c sa sb _ _ (bitsV s c.next.length) (bitsV i ni) (-1) false _ (HM.out _ HB2.out.1) (H.out.2.2.1.mono HB2.out.1) H.out.2.2.2.2.1 HB2.out.2.1 HB2.out.2.2 (bitsV_length _ _) ni (bitsV_length _ _) H.out.2.2.2.2.2.2.1 V H.out.2.2.2.2.2.1 (by omega) (by omega)).mono ?_
    rintro e we ⟨gv, rfl, hgv, hqe⟩
    rw [H.out.2.2.2.2.2.2.2.2.1] at hgv
    have hbe : Below w.heap.size w we := HB2.out.1.trans (hqe.mono HB2.out.1.size)
    refine hK.out _ _ (HS.out _ hbe) ?_
    clear hK K hqe
    have HE := Lib.hid (And.intro hbe (Sl.toB hgv))
    clear hbe hgv
    (try simp only [Act.put, zA, zB, zC])
    repeat (first | (refine ordt_s (o := ?_) ?_ ?_ ?_; rotate_left 1; (focus ((simp only [zD, zE, zF]) <;> rfl)); (focus rfl); simp only [Act.put, zA, zB, zC]) | (refine ordt_q (o := ?_) (v := ?_) ?_ ?_ ?_ ?_; rotate_left 2; (focus ((simp only [zD, zE, zF]) <;> rfl)); (focus rfl); (focus (intro w' hS; (try dsimp only at hS); go_split_ands; go_simp; (try (with_reducible rfl)))); simp only [Act.put, zA, zB, zC]))
    refine ordt_nil ?_
    go_wp2_with fail
    go_meet
    exact ⟨gv, rfl, HE.out.2, HE.out.1⟩
  case rest =>
    obtain ⟨g, rfl, hsl, hb⟩ := hcut
    have HX := Lib.hid (And.intro hsl hb)
    clear hsl hb
    obtain ⟨N, hN⟩ : ∃ N, N = nextN c s i := ⟨_, rfl⟩
    obtain ⟨O, hO⟩ : ∃ O, O = outN c s i := ⟨_, rfl⟩
    have HNO := Lib.hid (And.intro hN hO)
    clear hN hO
    go_wp2_with fail
    refine wp_region_T (fun w' => w'.cell? ⟨b, 0, none⟩ = some (.int .i64 ni) ∧ w'.cell? ⟨b, 1, none⟩ = some (.slice sn c.next.length cn) ∧ w'.cell? ⟨b, 3, none⟩ = some (.slice so c.outs.length co)) (.q 0 (.q 1 (.q 2 (.q 3 (.q 4 (.q 7 (.q 8 (.q 9 (.q 10 (.q 11 (.e 5 (.e 6 (.e 12 (.e 13 (.q 14 (.q 15 .nil)))))))))))))))) (by kernel_rfl) (by kernel_rfl) (by kernel_rfl) (HS.out _ HX.out.2.drew) ?_
    repeat (first | (refine ordt_s (o := ?_) ?_ ?_ ?_; rotate_left 1; (focus ((simp only [zD, zE, zF]) <;> rfl)); (focus rfl); simp only [Act.put, zA, zB, zC]) | (refine ordt_q (o := ?_) (v := ?_) ?_ ?_ ?_ ?_; rotate_left 2; (focus ((simp only [zD, zE, zF]) <;> rfl)); (focus rfl); (focus (intro w' hS; (try dsimp only at hS); go_split_ands; go_simp; (try (with_reducible rfl)))); simp only [Act.put, zA, zB, zC]))
    refine ordt_e ?_
    (refine op_e (o := ?_) ?_ ?_ (fun K hK => ?_); rotate_left 1; (focus ((simp only [zD, zE, zF]) <;> rfl)); (focus rfl); go_simp)
    have hl1 := fun W (hW : Below w.heap.size w W) (hs : Sl W (some ⟨g, 0, none⟩) (bools (cycV c s i))) => litValues_any (some ⟨g, 0, none⟩) sn (cycV c s i) V cn c.next W hs (H.out.2.1.mono hW) (fun x hx => H.out.2.2.2.2.2.2.2.2.2 x (by simp [hx])) (by omega)
    have hl2 := fun W (hW : Below w.heap.size w W) (hs : Sl W (some ⟨g, 0, none⟩) (bools (cycV c s i))) => litValues_any (some ⟨g, 0, none⟩) so (cycV c s i) V co c.outs W hs (H.out.2.2.2.1.mono hW) (fun x hx => H.out.2.2.2.2.2.2.2.2.2 x (by simp [hx])) (by omega)
    rw [H.out.2.2.2.2.2.2.2.1] at hl1 hl2
    refine (hl1 _ HX.out.2.drew HX.out.1.drew).mono ?_
    rintro e wf ⟨sf, cf, rfl, hf, hqf⟩
    have hbf : Below wc.heap.size wc wf := (Below.refl _ _).drew.trans hqf
    have hbw := HX.out.2.trans (hbf.mono HX.out.2.size)
    refine hK.out _ _ (HS.out _ hbw) ?_
    clear hK K hqf
    have HF := Lib.hid (And.intro hbw (And.intro hf (HX.out.1.mono hbf)))
    clear hbf hf hbw
    (try simp only [Act.put, zA, zB, zC])
    refine ordt_e ?_
    (refine op_e (o := ?_) ?_ ?_ (fun K hK => ?_); rotate_left 1; (focus ((simp only [zD, zE, zF]) <;> rfl)); (focus rfl); go_simp)
    have hnum1 := number_any sf cf (c.next.map (litB (cycV c s i))) wf HF.out.2.1 (by simp; omega)
    rw [List.length_map] at hnum1
    refine hnum1.mono ?_
    rintro e wg ⟨rfl, rfl⟩
    rw [show numB (c.next.map (litB (cycV c s i))) = N from HNO.out.1.symm]
    refine hK.out _ _ (HS.out _ HF.out.1) ?_
    clear hK K hnum1
    (try simp only [Act.put, zA, zB, zC])
    refine ordt_e ?_
    (refine op_e (o := ?_) ?_ ?_ (fun K hK => ?_); rotate_left 1; (focus ((simp only [zD, zE, zF]) <;> rfl)); (focus rfl); go_simp)
    refine (hl2 _ HF.out.1 HF.out.2.2).mono ?_
    rintro e wh ⟨sh, ch, rfl, hh, hqh⟩
    have hbw := HF.out.1.trans (hqh.mono HF.out.1.size)
    refine hK.out _ _ (HS.out _ hbw) ?_
    clear hK K hqh hl1 hl2
    have HH := Lib.hid (And.intro hbw hh)
    clear hbw hh
    (try simp only [Act.put, zA, zB, zC])
    refine ordt_e ?_
    (refine op_e (o := ?_) ?_ ?_ (fun K hK => ?_); rotate_left 1; (focus ((simp only [zD, zE, zF]) <;> rfl)); (focus rfl); go_simp)
    have hnum2 := number_any sh ch (c.outs.map (litB (cycV c s i))) wh HH.out.2 (by simp; omega)
    rw [List.length_map] at hnum2
    refine hnum2.mono ?_
    rintro e wk ⟨rfl, rfl⟩
    rw [show numB (c.outs.map (litB (cycV c s i))) = O from HNO.out.2.symm]
    refine hK.out _ _ (HS.out _ HH.out.1) ?_
    clear hK K hnum2
    (try simp only [Act.put, zA, zB, zC])
    repeat (first | (refine ordt_s (o := ?_) ?_ ?_ ?_; rotate_left 1; (focus ((simp only [zD, zE, zF]) <;> rfl)); (focus rfl); simp only [Act.put, zA, zB, zC]) | (refine ordt_q (o := ?_) (v := ?_) ?_ ?_ ?_ ?_; rotate_left 2; (focus ((simp only [zD, zE, zF]) <;> rfl)); (focus rfl); (focus (intro w' hS; (try dsimp only at hS); go_split_ands; go_simp; (try (with_reducible rfl)))); simp only [Act.put, zA, zB, zC]))
    refine ordt_nil ?_
    go_wp2_with fail
    go_ret2
    exact ⟨by rw [← HNO.out.1, ← HNO.out.2]; rfl, HH.out.1⟩

theorem Sl.sets {w w' : World} {s : Option Addr} {cs : List Value} (h : Sl w s cs) {r : Nat} (hr : ∀ v ∈ cs, ∀ o, w.cell? ⟨r, o, none⟩ ≠ some v) (hw : ∀ b, b ≠ r → w'.heap[b]? = w.heap[b]?) : Sl w' s cs := by
  rcases h with h | ⟨b, off, rfl, h⟩
  · exact .inl h
  · refine .inr ⟨b, off, rfl, fun j v hv => ?_⟩
    have hne : b ≠ r := fun e => hr v (List.mem_of_getElem? hv) _ (e ▸ h j v hv)
    have := h j v hv
    simpa [World.cell?, hw b hne] using this

theorem Sl.boolsets {w w' : World} {s : Option Addr} {bs : List Bool} (h : Sl w s (bools bs)) {r : Nat} {a b : Option Addr} {n m c d : Nat} {t : TypeId} {fz : Nat × Nat} (hr : w.heap[r]? = some (.cells #[.slice a n c, .slice b m d] t fz)) (hw : ∀ b, b ≠ r → w'.heap[b]? = w.heap[b]?) : Sl w' s (bools bs) :=
  h.sets (fun v hv o e => by
    obtain ⟨x, _, rfl⟩ := List.mem_map.1 hv
    rw [blk_cell hr] at e
    rcases o with _ | _ | o <;> simp at e) hw

set_option maxRecDepth 100000 in
set_option maxHeartbeats 3200000 in
theorem l2Step_any (v : Value) (c : Cir) (ss si : Option Addr) (cs ci : Nat) (S I : List Bool) (w : World) (h : CirV w v c) (hv : c.valid) (hS : Sl w ss (bools S)) (hI : Sl w si (bools I))
    (lS : S.length = c.next.length) (ni : Nat) (lI : I.length = ni) (li : c.inp = ni) :
    Calls Try.prog 130 #[v, .slice ss c.next.length cs, .slice si ni ci] w fun e w' => ∃ so co sn cn, e = .returned (.agg #[.slice so c.outs.length co, .slice sn c.next.length cn]) ∧
      Sl w' so (bools (c.outs.map (litB (valsV (-1) false (false :: (I ++ S)) c.gates)))) ∧ Sl w' sn (bools (c.next.map (litB (valsV (-1) false (false :: (I ++ S)) c.gates)))) ∧ Below w.heap.size w w' := by
  have HC : Hid (∀ w', Below w.heap.size w w' → CirV w' v c) := fun w' hb => h.mono hb
  obtain ⟨sn, cn, sg, cg, so, co, rfl, h1, h2, h3, hl1, hl2, hl3⟩ := h
  obtain ⟨f1, f2, f3, f4⟩ := valid_first hv
  obtain ⟨q1, q2, q3, q4, q5⟩ := id hv.lim
  obtain ⟨V, hV⟩ : ∃ V : Nat, c.vars = V := ⟨c.vars.toNat, by omega⟩
  have n4 : ni ≤ 4 := by omega
  obtain ⟨B, hB⟩ : ∃ B, B = valsV (-1) false (false :: (I ++ S)) c.gates := ⟨_, rfl⟩
  have hBl : B.length = V := by
    have h1 := hV; unfold Cir.vars at h1
    rw [hB, valsV_length]; simp [lS, lI]; omega
  have hlit : ∀ x ∈ c.next ++ c.outs, 0 ≤ x ∧ x ≤ 1000000 ∧ x / 2 < B.length := fun x hx => by have := roots_lits hv x hx; rw [hBl]; rw [hV] at this; exact this
  rw [← hB]
  have hL : Below w.heap.size w ((w.alloc (.cells #[.int .i64 c.inp, .slice sn c.next.length cn, .slice sg c.gates.length cg, .slice so c.outs.length co] 26)).alloc (.cells #[.slice none 0 0, .slice none 0 0] 54)) := by go_grown
  have hN := blk_old (o := .cells #[.slice none 0 0, .slice none 0 0] 54) (blk_new w (.cells #[.int .i64 c.inp, .slice sn c.next.length cn, .slice sg c.gates.length cg, .slice so c.outs.length co] 26))
  have hM : ((w.alloc (.cells #[.int .i64 c.inp, .slice sn c.next.length cn, .slice sg c.gates.length cg, .slice so c.outs.length co] 26)).alloc (.cells #[.slice none 0 0, .slice none 0 0] 54)).heap[w.heap.size + 1]? = some (.cells #[.slice none 0 0, .slice none 0 0] 54 (0, 0)) := blk_at (by simp)
  have hZ : ((w.alloc (.cells #[.int .i64 c.inp, .slice sn c.next.length cn, .slice sg c.gates.length cg, .slice so c.outs.length co] 26)).alloc (.cells #[.slice none 0 0, .slice none 0 0] 54)).heap.size = w.heap.size + 2 := by simp
  have H := Lib.hid (And.intro h1 (And.intro h3 (And.intro hv (And.intro hS (And.intro hI (And.intro lS (And.intro lI (And.intro li (And.intro hB (And.intro hBl hlit))))))))))
  have HL := Lib.hid (And.intro hL (And.intro hN (And.intro hM hZ)))
  clear h1 h2 h3 hv hS hI lS lI li hB hBl hlit hL hN hM hZ hV f1 f2 f3 f4
  go_enter Try.func130, Try.ntmps130
  go_wp2_with fail
  revert HL
  generalize ((w.alloc (.cells #[.int .i64 c.inp, .slice sn c.next.length cn, .slice sg c.gates.length cg, .slice so c.outs.length co] 26)).alloc (.cells #[.slice none 0 0, .slice none 0 0] 54)) = W0
  intro HL
  have ca := (blk_all HL.out.2.1).1
  go_upto_region 2 with (go_at_call 154; ((refine (l2Values_any _ c ss si cs ci S I _ (HC.out _ HL.out.1) H.out.2.2.1 (H.out.2.2.2.1.mono HL.out.1) (H.out.2.2.2.2.1.mono HL.out.1) H.out.2.2.2.2.2.1 ni H.out.2.2.2.2.2.2.1 H.out.2.2.2.2.2.2.2.1).mono ?_); rintro e wd ⟨sd, nd, cd, rfl, hnd, hd, hqd⟩; rw [← H.out.2.2.2.2.2.2.2.2.1] at hnd hd; subst hnd; have hz := HL.out.2.2.2; have HD := Lib.hid (And.intro (HL.out.1.trans (hqd.mono HL.out.1.size)) (And.intro (blk_below hqd (by omega) HL.out.2.1) (And.intro (blk_below hqd (by omega) HL.out.2.2.1) (And.intro hd (show w.heap.size + 2 ≤ wd.heap.size by rw [← hz]; exact hqd.size))))); clear hd hqd hz ca; have ca := (blk_all HD.out.2.1).1))
  refine wp_region_E (fun w' => ∀ o, w'.cell? ⟨w.heap.size, o, none⟩ = #[Value.int .i64 c.inp, .slice sn c.next.length cn, .slice sg c.gates.length cg, .slice so c.outs.length co][o]?) 9 (.q 0 (.q 1 (.q 2 (.q 4 (.q 5 (.q 6 (.e 3 (.e 7 (.q 8 (.z 9)))))))))) (by kernel_rfl) (by kernel_rfl) (by kernel_rfl) (by kernel_rfl) (by kernel_rfl) (by kernel_rfl) ca ?_
  repeat (first | (refine orde_s (o := ?_) ?_ ?_ ?_; rotate_left 1; (focus ((simp only [zD, zE, zF]) <;> rfl)); (focus rfl); simp only [Act.put, zA, zB, zC]) | (refine orde_q (o := ?_) (v := ?_) ?_ ?_ ?_ ?_; rotate_left 2; (focus ((simp only [zD, zE, zF]) <;> rfl)); (focus rfl); (focus (intro w' hS; (try dsimp only at hS); go_split_ands; go_simp; (try (with_reducible rfl)))); simp only [Act.put, zA, zB, zC]))
  refine orde_e ?_
  (refine ope_e (o := ?_) ?_ ?_ (fun K hK => ?_); rotate_left 1; (focus ((simp only [zD, zE, zF]) <;> rfl)); (focus rfl); go_simp)
  refine (l2Lits_any sd so B cd co c.outs _ (HD.out.2.2.2.1.mono (Below.refl _ _).drew) (H.out.2.1.mono HD.out.1.drew) (fun x hx => H.out.2.2.2.2.2.2.2.2.2.2 x (by simp [hx])) (by omega)).mono ?_
  rintro e we ⟨so', co', rfl, hso, hqe⟩
  have hbe : Below wd.heap.size wd we := (Below.refl _ _).drew.trans hqe
  have hxe := blk_below hbe (blk_lt HD.out.2.1) HD.out.2.1
  refine hK.out _ _ (blk_all hxe).1 ?_
  clear hK K hqe ca
  have HE := Lib.hid (And.intro (HD.out.1.trans (hbe.mono HD.out.1.size)) (And.intro hxe (And.intro (blk_below hbe (blk_lt HD.out.2.2.1) HD.out.2.2.1) (And.intro (HD.out.2.2.2.1.mono hbe) hso))))
  clear hbe hxe hso
  (try simp only [Act.put, zA, zB, zC])
  refine orde_e ?_
  (refine ope_e (o := ?_) ?_ ?_ (fun K hK => ?_); rotate_left 1; (focus ((simp only [zD, zE, zF]) <;> rfl)); (focus rfl); go_simp)
  refine (l2Lits_any sd sn B cd cn c.next _ HE.out.2.2.2.1 (H.out.1.mono HE.out.1) (fun x hx => H.out.2.2.2.2.2.2.2.2.2.2 x (by simp [hx])) (by omega)).mono ?_
  rintro e wf ⟨sn', cn', rfl, hsn, hqf⟩
  have hxf := blk_below hqf (blk_lt HE.out.2.1) HE.out.2.1
  have hrf := blk_below hqf (blk_lt HE.out.2.2.1) HE.out.2.2.1
  refine hK.out _ _ (blk_all hxf).1 ?_
  clear hK K
  obtain ⟨rc, rf⟩ := blk_all hrf
  have HF := Lib.hid (And.intro (HE.out.1.trans (hqf.mono HE.out.1.size)) (And.intro hrf (And.intro (HE.out.2.2.2.2.mono hqf) hsn)))
  clear hqf hxf hrf hsn
  (try simp only [Act.put, zA, zB, zC])
  repeat (first | (refine orde_s (o := ?_) ?_ ?_ ?_; rotate_left 1; (focus ((simp only [zD, zE, zF]) <;> rfl)); (focus rfl); simp only [Act.put, zA, zB, zC]) | (refine orde_q (o := ?_) (v := ?_) ?_ ?_ ?_ ?_; rotate_left 2; (focus ((simp only [zD, zE, zF]) <;> rfl)); (focus rfl); (focus (intro w' hS; (try dsimp only at hS); go_split_ands; go_simp; (try (with_reducible rfl)))); simp only [Act.put, zA, zB, zC]))
  (refine orde_z (o := ?_) ?_ ?_ (fun K hK => ?_); rotate_left 1; (focus ((simp only [zD, zE, zF]) <;> rfl)); (focus rfl); go_simp)
  refine hK.out _ _ ?_
  clear hK K
  go_wp2_with fail
  have hZ : ((wf.setCell ⟨w.heap.size + 1, 0, none⟩ (.slice so' c.outs.length co')).setCell ⟨w.heap.size + 1, 1, none⟩ (.slice sn' c.next.length cn')).heap[w.heap.size + 1]? = some (.cells #[.slice so' c.outs.length co', .slice sn' c.next.length cn'] 54 (0, 0)) := by
    simpa using blk_set (o := 1) (v := .slice sn' c.next.length cn') (blk_set (o := 0) (v := .slice so' c.outs.length co') HF.out.2.1)
  have hO : ∀ b, b ≠ w.heap.size + 1 → ((wf.setCell ⟨w.heap.size + 1, 0, none⟩ (.slice so' c.outs.length co')).setCell ⟨w.heap.size + 1, 1, none⟩ (.slice sn' c.next.length cn')).heap[b]? = wf.heap[b]? := fun b hb => blk_set_ne (Ne.symm hb) (blk_set_ne (Ne.symm hb) rfl)
  have h1 := HF.out.2.2.1.boolsets HF.out.2.1 hO
  have h2 := HF.out.2.2.2.boolsets HF.out.2.1 hO
  have hB := (HF.out.1.setCell (p := ⟨w.heap.size + 1, 0, none⟩) (by simp) (.slice so' c.outs.length co')).setCell (p := ⟨w.heap.size + 1, 1, none⟩) (by simp) (.slice sn' c.next.length cn')
  revert hZ h1 h2 hB
  generalize ((wf.setCell ⟨w.heap.size + 1, 0, none⟩ (.slice so' c.outs.length co')).setCell ⟨w.heap.size + 1, 1, none⟩ (.slice sn' c.next.length cn')) = WZ
  intro hZ h1 h2 hB
  have cr := (blk_all hZ).1
  exact bodyPost_ret (v := .agg #[.slice so' c.outs.length co', .slice sn' c.next.length cn']) (by simp [results, Try.results130, go_sem, cr]) rfl ⟨_, _, _, _, rfl, h1, h2, hB⟩

set_option maxRecDepth 100000 in
set_option maxHeartbeats 1600000 in
theorem l16Next_any (v : Value) (c : Cir) (s i : Int) (w : World) (h : CirV w v c) (hv : c.valid) (hs : 0 ≤ s) (hs2 : s ≤ 1000) (hi : 0 ≤ i) (hi2 : i ≤ 1000) :
    Calls Try.prog 101 #[v, .int .i64 s, .int .i64 i] w fun e w' => e = .returned (.int .i64 (nextN c s i)) ∧ Below w.heap.size w w' := by
  have HC : Hid (∀ w', Below w.heap.size w w' → CirV w' v c) := fun w' hb => h.mono hb
  obtain ⟨sn, cn, sg, cg, so, co, rfl, h1, h2, h3, hl1, hl2, hl3⟩ := h
  obtain ⟨q1, q2, q3, q4, q5⟩ := id hv.lim
  obtain ⟨ni, hni⟩ : ∃ ni : Nat, c.inp = ni := ⟨c.inp.toNat, by omega⟩
  have n4 : ni ≤ 4 := by omega
  have hle : valsV (-1) false (false :: (bitsV i ni ++ bitsV s c.next.length)) c.gates = cycV c s i := by
    unfold cycV; rw [hni]; simp
  have hL : Below w.heap.size w (w.alloc (.cells #[.int .i64 c.inp, .slice sn c.next.length cn, .slice sg c.gates.length cg, .slice so c.outs.length co] 26)) := by go_grown
  have hN := blk_new w (.cells #[.int .i64 c.inp, .slice sn c.next.length cn, .slice sg c.gates.length cg, .slice so c.outs.length co] 26)
  have H := Lib.hid (And.intro hv (And.intro hni hle))
  have HL := Lib.hid (And.intro hL hN)
  clear h1 h2 h3 hv hle hL hN
  obtain ⟨N, hN⟩ : ∃ N, N = nextN c s i := ⟨_, rfl⟩
  have HNO := Lib.hid hN
  clear hN
  rw [hni] at HL HC ⊢
  clear hni
  go_enter Try.func101, Try.ntmps101
  go_upto_region 1 with fail
  revert HL
  generalize (w.alloc (.cells #[.int .i64 ni, .slice sn c.next.length cn, .slice sg c.gates.length cg, .slice so c.outs.length co] 26)) = W0
  intro HL
  have ca := (blk_all HL.out.2).1
  refine wp_region_T (fun w' => ∀ o, w'.cell? ⟨w.heap.size, o, none⟩ = #[Value.int .i64 ni, .slice sn c.next.length cn, .slice sg c.gates.length cg, .slice so c.outs.length co][o]?) (.q 0 (.q 1 (.q 2 (.q 3 (.q 4 (.q 6 (.q 7 (.q 8 (.e 5 (.e 9 (.e 10 (.q 11 (.e 12 (.q 13 .nil)))))))))))))) (by kernel_rfl) (by kernel_rfl) (by kernel_rfl) (fun o => ca o) ?_
  repeat (first | (refine ordt_s (o := ?_) ?_ ?_ ?_; rotate_left 1; (focus ((simp only [zD, zE, zF]) <;> rfl)); (focus rfl); simp only [Act.put, zA, zB, zC]) | (refine ordt_q (o := ?_) (v := ?_) ?_ ?_ ?_ ?_; rotate_left 2; (focus ((simp only [zD, zE, zF]) <;> rfl)); (focus rfl); (focus (intro w' hS; (try dsimp only at hS); go_split_ands; go_simp; (try (with_reducible rfl)))); simp only [Act.put, zA, zB, zC]))
  refine ordt_e ?_
  (refine op_e (o := ?_) ?_ ?_ (fun K hK => ?_); rotate_left 1; (focus ((simp only [zD, zE, zF]) <;> rfl)); (focus rfl); go_simp)
  refine (l4Bits_any s c.next.length _ hs (by omega) (by omega)).mono ?_
  rintro e wa ⟨sa, cca, rfl, ha, hqa⟩
  have hba : Below W0.heap.size W0 wa := (Below.refl _ _).drew.trans hqa
  have hxa := blk_below hba (blk_lt HL.out.2) HL.out.2
  refine hK.out _ _ (blk_all hxa).1 ?_
  clear hK K hqa ca
  have HA := Lib.hid (And.intro (HL.out.1.trans (hba.mono HL.out.1.size)) (And.intro hxa ha))
  clear hba hxa ha
  (try simp only [Act.put, zA, zB, zC])
  refine ordt_e ?_
  (refine op_e (o := ?_) ?_ ?_ (fun K hK => ?_); rotate_left 1; (focus ((simp only [zD, zE, zF]) <;> rfl)); (focus rfl); go_simp)
  refine (l4Bits_any i ni _ hi (by omega) (by omega)).mono ?_
  rintro e wb ⟨sb, cb, rfl, hb, hqb⟩
  have hxb := blk_below hqb (blk_lt HA.out.2.1) HA.out.2.1
  refine hK.out _ _ (blk_all hxb).1 ?_
  clear hK K
  have HB := Lib.hid (And.intro (HA.out.1.trans (hqb.mono HA.out.1.size)) (And.intro hxb (And.intro (HA.out.2.2.mono hqb) hb)))
  clear hqb hxb hb
  (try simp only [Act.put, zA, zB, zC])
  refine ordt_e ?_
  (refine op_e (o := ?_) ?_ ?_ (fun K hK => ?_); rotate_left 1; (focus ((simp only [zD, zE, zF]) <;> rfl)); (focus rfl); go_simp)
  refine (l2Step_any _ c sa sb cca cb (bitsV s c.next.length) (bitsV i ni) _ (HC.out _ HB.out.1) H.out.1 HB.out.2.2.1 HB.out.2.2.2 (bitsV_length _ _) ni (bitsV_length _ _) H.out.2.1).mono ?_
  rintro e wc ⟨so', co', sn', cn', rfl, hso, hsn, hqc⟩
  rw [H.out.2.2] at hso hsn
  have hxc := blk_below hqc (blk_lt HB.out.2.1) HB.out.2.1
  refine hK.out _ _ (blk_all hxc).1 ?_
  clear hK K
  have HX := Lib.hid (And.intro (HB.out.1.trans (hqc.mono HB.out.1.size)) (And.intro hxc (And.intro hso hsn)))
  clear hqc hxc hso hsn
  have hfd0 : ∀ (w' : World) (a b : Value), (Instr.field 54 (.agg #[a, b]) 0).run Try.prog w' = .ok a w' := fun w' a b => by kernel_rfl
  have hfd1 : ∀ (w' : World) (a b : Value), (Instr.field 54 (.agg #[a, b]) 1).run Try.prog w' = .ok b w' := fun w' a b => by kernel_rfl
  (try simp only [Act.put, zA, zB, zC])
  repeat (first | (refine ordt_s (o := ?_) ?_ ?_ ?_; rotate_left 1; (focus ((simp only [zD, zE, zF]) <;> rfl)); (focus rfl); simp only [Act.put, zA, zB, zC]) | (refine ordt_q (o := ?_) (v := ?_) ?_ ?_ ?_ ?_; rotate_left 2; (focus ((simp only [zD, zE, zF]) <;> rfl)); (focus rfl); (focus (intro w' hS; (try dsimp only at hS); go_split_ands; go_simp; (try (with_reducible rfl)))); simp only [Act.put, zA, zB, zC]))
  refine ordt_e ?_
  (refine op_e (o := ?_) ?_ ?_ (fun K hK => ?_); rotate_left 1; (focus ((simp only [zD, zE, zF]) <;> rfl)); (focus rfl); go_simp)
  have hnum := l16Number_any sn' cn' (c.next.map (litB (cycV c s i))) wc HX.out.2.2.2 (by simp; omega)
  rw [List.length_map] at hnum
  refine hnum.mono ?_
  rintro e wd ⟨rfl, rfl⟩
  rw [show numB (c.next.map (litB (cycV c s i))) = N from HNO.out.symm]
  refine hK.out _ _ (blk_all HX.out.2.1).1 ?_
  clear hK K hnum
  (try simp only [Act.put, zA, zB, zC])
  repeat (first | (refine ordt_s (o := ?_) ?_ ?_ ?_; rotate_left 1; (focus ((simp only [zD, zE, zF]) <;> rfl)); (focus rfl); simp only [Act.put, zA, zB, zC]) | (refine ordt_q (o := ?_) (v := ?_) ?_ ?_ ?_ ?_; rotate_left 2; (focus ((simp only [zD, zE, zF]) <;> rfl)); (focus rfl); (focus (intro w' hS; (try dsimp only at hS); go_split_ands; go_simp; (try (with_reducible rfl)))); simp only [Act.put, zA, zB, zC]))
  refine ordt_nil ?_
  go_wp2_with fail
  go_ret
  exact ⟨by rw [← HNO.out]; rfl, HX.out.1⟩

set_option maxRecDepth 100000 in
set_option maxHeartbeats 1600000 in
theorem l16Outs_any (v : Value) (c : Cir) (s i : Int) (w : World) (h : CirV w v c) (hv : c.valid) (hs : 0 ≤ s) (hs2 : s ≤ 1000) (hi : 0 ≤ i) (hi2 : i ≤ 1000) :
    Calls Try.prog 91 #[v, .int .i64 s, .int .i64 i] w fun e w' => ∃ s' cap, e = .returned (.slice s' c.outs.length cap) ∧ Sl w' s' (bools (c.outs.map (litB (cycV c s i)))) ∧ Below w.heap.size w w' := by
  have HC : Hid (∀ w', Below w.heap.size w w' → CirV w' v c) := fun w' hb => h.mono hb
  obtain ⟨sn, cn, sg, cg, so, co, rfl, h1, h2, h3, hl1, hl2, hl3⟩ := h
  obtain ⟨q1, q2, q3, q4, q5⟩ := id hv.lim
  obtain ⟨ni, hni⟩ : ∃ ni : Nat, c.inp = ni := ⟨c.inp.toNat, by omega⟩
  have n4 : ni ≤ 4 := by omega
  have hle : valsV (-1) false (false :: (bitsV i ni ++ bitsV s c.next.length)) c.gates = cycV c s i := by
    unfold cycV; rw [hni]; simp
  have hL : Below w.heap.size w (w.alloc (.cells #[.int .i64 c.inp, .slice sn c.next.length cn, .slice sg c.gates.length cg, .slice so c.outs.length co] 26)) := by go_grown
  have hN := blk_new w (.cells #[.int .i64 c.inp, .slice sn c.next.length cn, .slice sg c.gates.length cg, .slice so c.outs.length co] 26)
  have H := Lib.hid (And.intro hv (And.intro hni hle))
  have HL := Lib.hid (And.intro hL hN)
  clear h1 h2 h3 hv hle hL hN
  rw [hni] at HL HC ⊢
  clear hni
  go_enter Try.func91, Try.ntmps91
  go_upto_region 1 with fail
  revert HL
  generalize (w.alloc (.cells #[.int .i64 ni, .slice sn c.next.length cn, .slice sg c.gates.length cg, .slice so c.outs.length co] 26)) = W0
  intro HL
  have ca := (blk_all HL.out.2).1
  refine wp_region_T (fun w' => ∀ o, w'.cell? ⟨w.heap.size, o, none⟩ = #[Value.int .i64 ni, .slice sn c.next.length cn, .slice sg c.gates.length cg, .slice so c.outs.length co][o]?) (.q 0 (.q 1 (.q 2 (.q 3 (.q 4 (.q 6 (.q 7 (.q 8 (.e 5 (.e 9 (.e 10 (.q 11 (.q 12 .nil))))))))))))) (by kernel_rfl) (by kernel_rfl) (by kernel_rfl) (fun o => ca o) ?_
  repeat (first | (refine ordt_s (o := ?_) ?_ ?_ ?_; rotate_left 1; (focus ((simp only [zD, zE, zF]) <;> rfl)); (focus rfl); simp only [Act.put, zA, zB, zC]) | (refine ordt_q (o := ?_) (v := ?_) ?_ ?_ ?_ ?_; rotate_left 2; (focus ((simp only [zD, zE, zF]) <;> rfl)); (focus rfl); (focus (intro w' hS; (try dsimp only at hS); go_split_ands; go_simp; (try (with_reducible rfl)))); simp only [Act.put, zA, zB, zC]))
  refine ordt_e ?_
  (refine op_e (o := ?_) ?_ ?_ (fun K hK => ?_); rotate_left 1; (focus ((simp only [zD, zE, zF]) <;> rfl)); (focus rfl); go_simp)
  refine (l4Bits_any s c.next.length _ hs (by omega) (by omega)).mono ?_
  rintro e wa ⟨sa, cca, rfl, ha, hqa⟩
  have hba : Below W0.heap.size W0 wa := (Below.refl _ _).drew.trans hqa
  have hxa := blk_below hba (blk_lt HL.out.2) HL.out.2
  refine hK.out _ _ (blk_all hxa).1 ?_
  clear hK K hqa ca
  have HA := Lib.hid (And.intro (HL.out.1.trans (hba.mono HL.out.1.size)) (And.intro hxa ha))
  clear hba hxa ha
  (try simp only [Act.put, zA, zB, zC])
  refine ordt_e ?_
  (refine op_e (o := ?_) ?_ ?_ (fun K hK => ?_); rotate_left 1; (focus ((simp only [zD, zE, zF]) <;> rfl)); (focus rfl); go_simp)
  refine (l4Bits_any i ni _ hi (by omega) (by omega)).mono ?_
  rintro e wb ⟨sb, cb, rfl, hb, hqb⟩
  have hxb := blk_below hqb (blk_lt HA.out.2.1) HA.out.2.1
  refine hK.out _ _ (blk_all hxb).1 ?_
  clear hK K
  have HB := Lib.hid (And.intro (HA.out.1.trans (hqb.mono HA.out.1.size)) (And.intro hxb (And.intro (HA.out.2.2.mono hqb) hb)))
  clear hqb hxb hb
  (try simp only [Act.put, zA, zB, zC])
  refine ordt_e ?_
  (refine op_e (o := ?_) ?_ ?_ (fun K hK => ?_); rotate_left 1; (focus ((simp only [zD, zE, zF]) <;> rfl)); (focus rfl); go_simp)
  refine (l2Step_any _ c sa sb cca cb (bitsV s c.next.length) (bitsV i ni) _ (HC.out _ HB.out.1) H.out.1 HB.out.2.2.1 HB.out.2.2.2 (bitsV_length _ _) ni (bitsV_length _ _) H.out.2.1).mono ?_
  rintro e wc ⟨so', co', sn', cn', rfl, hso, hsn, hqc⟩
  rw [H.out.2.2] at hso hsn
  have hxc := blk_below hqc (blk_lt HB.out.2.1) HB.out.2.1
  refine hK.out _ _ (blk_all hxc).1 ?_
  clear hK K
  have HX := Lib.hid (And.intro (HB.out.1.trans (hqc.mono HB.out.1.size)) (And.intro hxc (And.intro hso hsn)))
  clear hqc hxc hso hsn
  have hfd0 : ∀ (w' : World) (a b : Value), (Instr.field 54 (.agg #[a, b]) 0).run Try.prog w' = .ok a w' := fun w' a b => by kernel_rfl
  have hfd1 : ∀ (w' : World) (a b : Value), (Instr.field 54 (.agg #[a, b]) 1).run Try.prog w' = .ok b w' := fun w' a b => by kernel_rfl
  (try simp only [Act.put, zA, zB, zC])
  repeat (first | (refine ordt_s (o := ?_) ?_ ?_ ?_; rotate_left 1; (focus ((simp only [zD, zE, zF]) <;> rfl)); (focus rfl); simp only [Act.put, zA, zB, zC]) | (refine ordt_q (o := ?_) (v := ?_) ?_ ?_ ?_ ?_; rotate_left 2; (focus ((simp only [zD, zE, zF]) <;> rfl)); (focus rfl); (focus (intro w' hS; (try dsimp only at hS); go_split_ands; go_simp; (try (with_reducible rfl)))); simp only [Act.put, zA, zB, zC]))
  refine ordt_nil ?_
  go_wp2_with fail
  go_ret
  exact ⟨_, _, rfl, HX.out.2.2.1, HX.out.1⟩

set_option maxHeartbeats 400000 in
theorem l16Has_any (s : Option Addr) (cap : Nat) (xs : List Int) (n : Int) (w : World) (h : Sl w s (ints xs)) (hl : xs.length ≤ 1000) :
    Calls Try.prog 102 #[.slice s xs.length cap, .int .i64 n] w fun e w' => e = .returned (.bool (decide (n ∈ xs))) ∧ w = w' := by
  have H := Lib.hid h
  clear h
  go_enter Try.func102, Try.ntmps102
  go_wp2
  go_loopw [5] (fun i wr => ∃ k : Nat, k ≤ xs.length ∧ i = .int .i64 k ∧ (∀ x ∈ xs.take k, x ≠ n) ∧ w = wr) (fun i _ => xs.length - (intOf i).toNat)
  case atStart => exact ⟨0, Nat.zero_le _, rfl, by simp, rfl⟩
  case round =>
    obtain ⟨k, hk, rfl, hne, rfl⟩ := hrel
    by_cases hlt : k < xs.length
    · obtain ⟨x, hx⟩ := get_of_lt hlt
      obtain ⟨b, off, rfl, hbw, hz⟩ := H.out.int (Below.refl _ _) hx
      have HX := Lib.hid (And.intro hx hne)
      clear hx hne hbw
      by_cases hxn : x = n
      · subst hxn
        go_wp2
        go_ret
        exact ⟨ret_bool (by simp; exact List.mem_of_getElem? HX.out.1), rfl⟩
      · have e1 : (x == n) = false := beq_eq_false_iff_ne.2 hxn
        go_wp2
        go_roundw
        case rel => exact ⟨k + 1, by omega, by go_num, fun y hy => by
          rw [List.take_add_one, HX.out.1] at hy
          rcases List.mem_append.1 hy with h | h
          · exact HX.out.2 y h
          · simp at h; rw [h]; exact hxn, trivial⟩
        case measure => first | (simp [intOf]; done) | (simp [intOf]; omega)
    · obtain rfl : k = xs.length := by omega
      rw [List.take_length] at hne
      have HX := Lib.hid hne
      clear hne
      go_wp2
      go_ret
      exact ⟨ret_bool (by simp; exact fun h => HX.out _ h rfl), rfl⟩

theorem nextN_lt (c : Cir) (s i : Int) : 0 ≤ nextN c s i ∧ nextN c s i < ((2 ^ c.next.length : Nat) : Int) := by
  have := nextN_bd c s i
  refine ⟨this.1, ?_⟩
  have h := this.2
  simpa using h

/-- A pair of states and the inputs that lead to it. -/
abbrev En := (Int × Int) × List Int

def hitD (a b : Cir) (s : Int × Int) (x : Int) : Bool := !decide (outN a s.1 x = outN b s.2 x)

def stpD (a b : Cir) (s : Int × Int) (x : Int) : Int × Int := (nextN a s.1 x, nextN b s.2 x)

def addD (es : List En) (n : Int × Int) (p : List Int) : List En := if n ∈ es.map (·.1) then es else es ++ [(n, p)]

theorem addD_in {es : List En} {n : Int × Int} {p : List Int} (h : n ∈ es.map (·.1)) : addD es n p = es := by unfold addD; rw [if_pos h]

theorem addD_out {es : List En} {n : Int × Int} {p : List Int} (h : ¬ n ∈ es.map (·.1)) : addD es n p = es ++ [(n, p)] := by unfold addD; rw [if_neg h]

def innD (a b : Cir) (e : En) (es : List En) : Nat → List En
  | 0 => es
  | m + 1 => addD (innD a b e es m) (stpD a b e.1 (m : Int)) (e.2 ++ [(m : Int)])

theorem innD_succ (a b : Cir) (e : En) (es : List En) (m : Nat) : innD a b e es (m + 1) = addD (innD a b e es m) (stpD a b e.1 (m : Int)) (e.2 ++ [(m : Int)]) := rfl

def outD (a b : Cir) (M : Nat) : Nat → Nat → List En → Option (List Int)
  | 0, _, _ => none
  | f + 1, k, es => match es[k]? with
    | none => none
    | some e => match (List.range M).find? (fun (x : Nat) => hitD a b e.1 (x : Int)) with
      | some x => some (e.2 ++ [(x : Int)])
      | none => outD a b M f (k + 1) (innD a b e es M)

theorem outD_end {a b : Cir} {M f k : Nat} {es : List En} (h : ¬ k < es.length) : outD a b M f k es = none := by
  cases f with
  | zero => rfl
  | succ f => unfold outD; rw [List.getElem?_eq_none (by omega)]

theorem outD_hit {a b : Cir} {M f k x : Nat} {es : List En} {e : En} (h : es[k]? = some e) (hx : x < M) (hh : hitD a b e.1 (x : Int) = true) (hn : ∀ y : Nat, y < x → hitD a b e.1 (y : Int) = false) :
    outD a b M (f + 1) k es = some (e.2 ++ [(x : Int)]) := by
  have e1 : (List.range M).find? (fun (x : Nat) => hitD a b e.1 (x : Int)) = some x := by
    rw [List.find?_range_eq_some]
    refine ⟨hh, List.mem_range.2 hx, fun j hj => by simp [hn j hj]⟩
  unfold outD; rw [h]; simp only []; rw [e1]

theorem outD_step {a b : Cir} {M f k : Nat} {es : List En} {e : En} (h : es[k]? = some e) (hn : ∀ y : Nat, y < M → hitD a b e.1 (y : Int) = false) :
    outD a b M (f + 1) k es = outD a b M f (k + 1) (innD a b e es M) := by
  have e1 : (List.range M).find? (fun (x : Nat) => hitD a b e.1 (x : Int)) = none := by
    rw [List.find?_eq_none]
    intro y hy
    simp [hn y (List.mem_range.1 hy)]
  conv => lhs; unfold outD
  rw [h]; simp only []; rw [e1]

/-- Two circuits that may be compared. -/
def cmpB (a b : Cir) : Bool := a.validB && (b.validB && (decide (a.inp = b.inp) && decide (a.outs.length = b.outs.length)))

theorem cmpB_iff {a b : Cir} : cmpB a b = true ↔ a.validB = true ∧ b.validB = true ∧ a.inp = b.inp ∧ a.outs.length = b.outs.length := by
  simp [cmpB]

def disD (a b : Cir) : Option (List Int) := outD a b (2 ^ a.inp.toNat) (2 ^ a.next.length * 2 ^ b.next.length) 0 [((0, 0), [])]

def disR (a b : Cir) : Option (List Int) := if cmpB a b then disD a b else none

theorem disR_no {a b : Cir} (h : cmpB a b = false) : disR a b = none := by unfold disR; rw [h]; rfl

theorem disR_yes {a b : Cir} (h : cmpB a b = true) : disR a b = disD a b := by unfold disR; rw [h]; rfl

/-- The pairs are different and within the numbers of states. -/
structure goodD (NA NB : Nat) (es : List En) : Prop where
  nd : (es.map (·.1)).Nodup
  bd : ∀ e ∈ es, (0 ≤ e.1.1 ∧ e.1.1 < NA) ∧ 0 ≤ e.1.2 ∧ e.1.2 < NB

theorem nodup_le : ∀ {xs ys : List Nat}, xs.Nodup → (∀ n ∈ xs, n ∈ ys) → xs.length ≤ ys.length
  | [], _, _, _ => Nat.zero_le _
  | x :: xs, ys, hn, hs => by
    obtain ⟨h1, h2⟩ := List.nodup_cons.1 hn
    have hx := hs x List.mem_cons_self
    have h3 : ∀ n ∈ xs, n ∈ ys.erase x := fun n hn' => by
      refine (List.mem_erase_of_ne ?_).2 (hs n (List.mem_cons_of_mem _ hn'))
      intro e; exact h1 (e ▸ hn')
    have h4 := nodup_le h2 h3
    rw [List.length_erase_of_mem hx] at h4
    have h5 := List.length_pos_of_mem hx
    simp only [List.length_cons]
    omega

theorem goodD_nd_len : ∀ {NA NB : Nat} {ps : List (Int × Int)}, ps.Nodup → (∀ s ∈ ps, (0 ≤ s.1 ∧ s.1 < NA) ∧ 0 ≤ s.2 ∧ s.2 < NB) → ps.length ≤ NA * NB := by
  intro NA NB ps hn hb
  have hnd : (ps.map fun (s : Int × Int) => s.1.toNat * NB + s.2.toNat).Nodup := by
    rw [List.Nodup, List.pairwise_map]
    refine List.Pairwise.imp_of_mem ?_ hn
    rintro ⟨p, q⟩ ⟨p', q'⟩ h1 h2 hne he
    obtain ⟨⟨a1, a2⟩, a3, a4⟩ := hb _ h1
    obtain ⟨⟨b1, b2⟩, b3, b4⟩ := hb _ h2
    simp only at a1 a2 a3 a4 b1 b2 b3 b4 he
    apply hne
    have q1 : q.toNat < NB := by omega
    have q2 : q'.toNat < NB := by omega
    have e1 : (p.toNat * NB + q.toNat) % NB = q.toNat := by rw [Nat.mul_comm, Nat.mul_add_mod, Nat.mod_eq_of_lt q1]
    have e2 : (p'.toNat * NB + q'.toNat) % NB = q'.toNat := by rw [Nat.mul_comm, Nat.mul_add_mod, Nat.mod_eq_of_lt q2]
    have e3 : q.toNat = q'.toNat := by rw [← e1, ← e2, he]
    have e4 : p.toNat * NB = p'.toNat * NB := by omega
    have e5 : p.toNat = p'.toNat := Nat.eq_of_mul_eq_mul_right (by omega) e4
    have : p = p' := by omega
    have : q = q' := by omega
    simp_all
  have hsub : ∀ n ∈ ps.map fun (s : Int × Int) => s.1.toNat * NB + s.2.toNat, n ∈ List.range (NA * NB) := by
    intro n hn
    obtain ⟨⟨p, q⟩, h1, rfl⟩ := List.mem_map.1 hn
    obtain ⟨⟨a1, a2⟩, a3, a4⟩ := hb _ h1
    simp only at a1 a2 a3 a4
    rw [List.mem_range]
    have h1 : p.toNat + 1 ≤ NA := by omega
    have h2 := Nat.mul_le_mul_right NB h1
    rw [Nat.add_mul] at h2
    simp only
    omega
  have h9 := nodup_le hnd hsub
  simpa using h9

theorem goodD_len {NA NB : Nat} {es : List En} (h : goodD NA NB es) : es.length ≤ NA * NB := by
  have := goodD_nd_len h.nd (fun s hs => by obtain ⟨e, he, rfl⟩ := List.mem_map.1 hs; exact h.bd e he)
  simpa using this

theorem goodD_add {NA NB : Nat} {es : List En} {n : Int × Int} {p : List Int} (h : goodD NA NB es) (hn : (0 ≤ n.1 ∧ n.1 < NA) ∧ 0 ≤ n.2 ∧ n.2 < NB) : goodD NA NB (addD es n p) := by
  by_cases hm : n ∈ es.map (·.1)
  · rw [addD_in hm]; exact h
  · rw [addD_out hm]
    refine ⟨?_, ?_⟩
    · rw [List.map_append]
      refine List.nodup_append.2 ⟨h.nd, by simp, ?_⟩
      intro u hu v hv e
      simp at hv
      subst hv; subst e
      exact hm hu
    · intro e he
      rcases List.mem_append.1 he with he | he
      · exact h.bd e he
      · simp at he; subst he; exact hn

theorem stpD_bd (a b : Cir) (s : Int × Int) (x : Int) : (0 ≤ (stpD a b s x).1 ∧ (stpD a b s x).1 < ((2 ^ a.next.length : Nat) : Int)) ∧ 0 ≤ (stpD a b s x).2 ∧ (stpD a b s x).2 < ((2 ^ b.next.length : Nat) : Int) :=
  ⟨nextN_lt a s.1 x, nextN_lt b s.2 x⟩

theorem goodD_inn {a b : Cir} {e : En} {es : List En} (h : goodD (2 ^ a.next.length) (2 ^ b.next.length) es) : ∀ m, goodD (2 ^ a.next.length) (2 ^ b.next.length) (innD a b e es m)
  | 0 => h
  | m + 1 => goodD_add (goodD_inn h m) (stpD_bd a b e.1 m)

theorem goodD_start (a b : Cir) : goodD (2 ^ a.next.length) (2 ^ b.next.length) [((0, 0), [])] :=
  ⟨by simp, fun e he => by
    simp at he; subst he
    have h1 : 0 < 2 ^ a.next.length := Nat.pow_pos (by omega)
    have h2 : 0 < 2 ^ b.next.length := Nat.pow_pos (by omega)
    simp only
    omega⟩

theorem addD_get {es : List En} {n : Int × Int} {p : List Int} {k : Nat} {e : En} (h : es[k]? = some e) : (addD es n p)[k]? = some e := by
  unfold addD; split
  · exact h
  · rw [List.getElem?_append_left (List.getElem?_eq_some_iff.1 h).1]; exact h

theorem innD_get {a b : Cir} {e x : En} {es : List En} {k : Nat} (h : es[k]? = some x) : ∀ m, (innD a b e es m)[k]? = some x
  | 0 => h
  | m + 1 => addD_get (innD_get h m)

theorem addD_sub {es : List En} {n : Int × Int} {p : List Int} {s : Int × Int} (h : s ∈ es.map (·.1)) : s ∈ (addD es n p).map (·.1) := by
  unfold addD; split
  · exact h
  · rw [List.map_append]; exact List.mem_append_left _ h

theorem addD_mem (es : List En) (n : Int × Int) (p : List Int) : n ∈ (addD es n p).map (·.1) := by
  unfold addD; split
  · assumption
  · simp

theorem innD_sub {a b : Cir} {e : En} {es : List En} {s : Int × Int} (h : s ∈ es.map (·.1)) : ∀ m, s ∈ (innD a b e es m).map (·.1)
  | 0 => h
  | m + 1 => addD_sub (innD_sub h m)

theorem innD_mem {a b : Cir} {e : En} {es : List En} : ∀ m i : Nat, i < m → stpD a b e.1 (i : Int) ∈ (innD a b e es m).map (·.1)
  | 0, _, h => by omega
  | m + 1, i, h => by
    by_cases hi : i = m
    · subst hi; exact addD_mem _ _ _
    · exact addD_sub (innD_mem m i (by omega))

theorem addD_all {es : List En} {n : Int × Int} {p : List Int} {P : En → Prop} (h : ∀ e ∈ es, P e) (hn : P (n, p)) : ∀ e ∈ addD es n p, P e := by
  unfold addD; split
  · exact h
  · intro e he
    rcases List.mem_append.1 he with he | he
    · exact h e he
    · simp at he; subst he; exact hn

theorem innD_all {a b : Cir} {e : En} {es : List En} {P : En → Prop} (h : ∀ e ∈ es, P e) : ∀ m, (∀ x : Nat, x < m → P (stpD a b e.1 (x : Int), e.2 ++ [(x : Int)])) → ∀ y ∈ innD a b e es m, P y
  | 0, _ => h
  | m + 1, hn => addD_all (innD_all h m fun x hx => hn x (by omega)) (hn m (by omega))

/-- No difference: a set of pairs that is closed under steps and in which the outputs agree. -/
structure BisD (a b : Cir) (M : Nat) (P : Int × Int → Prop) : Prop where
  start : P (0, 0)
  agree : ∀ s, P s → ∀ x : Nat, x < M → hitD a b s (x : Int) = false
  step : ∀ s, P s → ∀ x : Nat, x < M → P (stpD a b s (x : Int))

theorem outD_closed {a b : Cir} {M : Nat} : ∀ (f k : Nat) (es : List En), goodD (2 ^ a.next.length) (2 ^ b.next.length) es → 2 ^ a.next.length * 2 ^ b.next.length ≤ f + k → k ≤ es.length →
    (∀ (j : Nat) (e : En), j < k → es[j]? = some e → ∀ x : Nat, x < M → hitD a b e.1 (x : Int) = false ∧ stpD a b e.1 (x : Int) ∈ es.map (·.1)) → (0, 0) ∈ es.map (·.1) →
    outD a b M f k es = none → ∃ L : List (Int × Int), (0, 0) ∈ L ∧ (∀ s ∈ L, (0 ≤ s.1 ∧ s.1 < ((2 ^ a.next.length : Nat) : Int)) ∧ 0 ≤ s.2 ∧ s.2 < ((2 ^ b.next.length : Nat) : Int)) ∧ ∀ s ∈ L, ∀ x : Nat, x < M → hitD a b s (x : Int) = false ∧ stpD a b s (x : Int) ∈ L
  | f, k, es, hg, hf, hk, hcl, h0, hno => by
    have hlen := goodD_len hg
    by_cases hlt : k < es.length
    · obtain ⟨f, rfl⟩ : ∃ g, f = g + 1 := ⟨f - 1, by omega⟩
      obtain ⟨e, hke⟩ : ∃ e, es[k]? = some e := ⟨es[k], by simp [hlt]⟩
      by_cases hh : ∃ x : Nat, x < M ∧ hitD a b e.1 (x : Int) = true
      · exfalso
        obtain ⟨x, hx, hx2⟩ := hh
        unfold outD at hno
        rw [hke] at hno
        simp only at hno
        split at hno
        · cases hno
        · next hq =>
          rw [List.find?_eq_none] at hq
          exact hq x (List.mem_range.2 hx) hx2
      · have hn : ∀ y : Nat, y < M → hitD a b e.1 (y : Int) = false := fun y hy => by
          cases hq : hitD a b e.1 (y : Int)
          · rfl
          · exact absurd ⟨y, hy, hq⟩ hh
        rw [outD_step hke hn] at hno
        refine outD_closed f (k + 1) (innD a b e es M) (goodD_inn hg M) (by omega) ?_ ?_ (innD_sub h0 M) hno
        · have := (List.getElem?_eq_some_iff.1 (innD_get (a := a) (b := b) (e := e) hke M)).1
          omega
        · intro j e' hj hje x hx
          by_cases hjk : j = k
          · subst hjk
            rw [innD_get hke M] at hje
            cases hje
            exact ⟨hn x hx, innD_mem M x hx⟩
          · obtain ⟨e2, he2⟩ : ∃ x : En, es[j]? = some x := ⟨es[j]'(by omega), by simp⟩
            rw [innD_get he2 M] at hje
            cases hje
            obtain ⟨h1, h2⟩ := hcl j _ (by omega) he2 x hx
            exact ⟨h1, innD_sub h2 M⟩
    · refine ⟨es.map (·.1), h0, fun s hs => ?_, fun s hs x hx => ?_⟩
      · obtain ⟨e, he, rfl⟩ := List.mem_map.1 hs
        exact hg.bd e he
      · obtain ⟨e, he, rfl⟩ := List.mem_map.1 hs
        obtain ⟨j, hj⟩ := List.mem_iff_getElem?.1 he
        have hj2 := (List.getElem?_eq_some_iff.1 hj).1
        exact hcl j e (by omega) hj x hx

theorem disD_closed {a b : Cir} (h : disD a b = none) : ∃ L : List (Int × Int), (0, 0) ∈ L ∧ (∀ s ∈ L, (0 ≤ s.1 ∧ s.1 < ((2 ^ a.next.length : Nat) : Int)) ∧ 0 ≤ s.2 ∧ s.2 < ((2 ^ b.next.length : Nat) : Int)) ∧ ∀ s ∈ L, ∀ x : Nat, x < 2 ^ a.inp.toNat → hitD a b s (x : Int) = false ∧ stpD a b s (x : Int) ∈ L :=
  outD_closed _ 0 _ (goodD_start a b) (Nat.le_refl _) (Nat.zero_le _) (fun j e hj => by omega) (by simp) h

/-- The pair of states after some inputs. -/
def runD (a b : Cir) (s : Int × Int) (xs : List Int) : Int × Int := xs.foldl (stpD a b) s

theorem runD_snoc (a b : Cir) (s : Int × Int) (xs : List Int) (x : Int) : runD a b s (xs ++ [x]) = stpD a b (runD a b s xs) x := by simp [runD]

/-- Inputs for which the outputs agree at every step. -/
def cleanD (a b : Cir) (M : Nat) (xs : List Int) : Prop := (∀ x ∈ xs, 0 ≤ x ∧ x < M) ∧ ∀ (i : Nat) (x : Int), xs[i]? = some x → hitD a b (runD a b (0, 0) (xs.take i)) x = false

theorem cleanD_snoc {a b : Cir} {M : Nat} {xs : List Int} {x : Int} (h : cleanD a b M xs) (hx : 0 ≤ x ∧ x < M) (hn : hitD a b (runD a b (0, 0) xs) x = false) : cleanD a b M (xs ++ [x]) := by
  refine ⟨fun y hy => ?_, fun i y hy => ?_⟩
  · rcases List.mem_append.1 hy with hy | hy
    · exact h.1 y hy
    · simp at hy; subst hy; exact hx
  · by_cases hi : i < xs.length
    · rw [List.getElem?_append_left hi] at hy
      rw [List.take_append_of_le_length (by omega)]
      exact h.2 i y hy
    · have hi2 := (List.getElem?_eq_some_iff.1 hy).1
      simp at hi2
      obtain rfl : i = xs.length := by omega
      rw [List.take_append_of_le_length (Nat.le_refl _), List.take_length]
      simp at hy
      subst hy
      exact hn

def WayD (a b : Cir) (M : Nat) (e : En) : Prop := runD a b (0, 0) e.2 = e.1 ∧ cleanD a b M e.2

theorem outD_found {a b : Cir} {M : Nat} : ∀ (f k : Nat) (es : List En) (r : List Int), (∀ e ∈ es, WayD a b M e) → outD a b M f k es = some r →
    ∃ (xs : List Int) (x : Int), r = xs ++ [x] ∧ cleanD a b M xs ∧ (0 ≤ x ∧ x < M) ∧ hitD a b (runD a b (0, 0) xs) x = true
  | 0, _, _, _, _, h => by cases h
  | f + 1, k, es, r, he, h => by
    by_cases hk : k < es.length
    · obtain ⟨e, hke⟩ : ∃ e, es[k]? = some e := ⟨es[k], by simp [hk]⟩
      obtain ⟨hw1, hw2⟩ := he e (List.mem_of_getElem? hke)
      cases hq : (List.range M).find? (fun (x : Nat) => hitD a b e.1 (x : Int)) with
      | some x =>
        have h' := h
        unfold outD at h'
        rw [hke] at h'
        simp only at h'
        rw [hq] at h'
        simp at h'
        have hx := List.mem_range.1 (List.mem_of_find?_eq_some hq)
        have hx2 := List.find?_some hq
        exact ⟨e.2, x, h'.symm, hw2, ⟨by omega, by omega⟩, by rw [hw1]; exact hx2⟩
      | none =>
        have hn : ∀ y : Nat, y < M → hitD a b e.1 (y : Int) = false := fun y hy => by
          have := List.find?_eq_none.1 hq y (List.mem_range.2 hy)
          simpa using this
        rw [outD_step hke hn] at h
        refine outD_found f (k + 1) _ r (innD_all he M fun x hx => ⟨?_, ?_⟩) h
        · rw [runD_snoc, hw1]
        · exact cleanD_snoc hw2 ⟨by omega, by omega⟩ (by rw [hw1]; exact hn x hx)
    · rw [outD_end hk] at h; cases h

theorem disD_found {a b : Cir} {r : List Int} (h : disD a b = some r) : ∃ (xs : List Int) (x : Int), r = xs ++ [x] ∧ cleanD a b (2 ^ a.inp.toNat) xs ∧ (0 ≤ x ∧ x < ((2 ^ a.inp.toNat : Nat) : Int)) ∧ hitD a b (runD a b (0, 0) xs) x = true :=
  outD_found _ _ _ _ (fun e he => by
    simp at he; subst he
    exact ⟨rfl, fun x hx => by simp at hx, fun i x hx => by simp at hx⟩) h

end Go.Proofs.Ytbcolcchchgldaa
