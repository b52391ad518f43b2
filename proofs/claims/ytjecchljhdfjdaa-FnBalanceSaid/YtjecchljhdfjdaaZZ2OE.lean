import Derived.Test.YtjecchljhdfjdaaZZ2OK
import Derived.Test.YtjecchljhdfjdaaZZ2L4
import Derived.Test.YtjecchljhdfjdaaZZ2S1
namespace Go.Proofs.Ytjecchljhdfjdaa
set_option linter.unusedVariables false
set_option linter.unusedSimpArgs false
open Go.RowKit

/-! Part of the proof of one law. -/

theorem bStep_no {F : Int} {sh : Bool} {u : List Bool} {st : List Gt × List Int} {g : Gt} {i : Nat} (h : u[i]? = some false) : bStep F sh u st g i = (st.1, st.2 ++ [0]) := by
  unfold bStep; rw [List.getD_eq_getElem?_getD, h]; rfl

theorem bStep_sh {F : Int} {u : List Bool} {st : List Gt × List Int} {g : Gt} {i : Nat} (h : u[i]? = some true) : bStep F true u st g i = ((andL F st.1 (mapB st.2 g.a) (mapB st.2 g.b)).1, st.2 ++ [(andL F st.1 (mapB st.2 g.a) (mapB st.2 g.b)).2]) := by
  unfold bStep; rw [List.getD_eq_getElem?_getD, h]; rfl

theorem bStep_pl {F : Int} {u : List Bool} {st : List Gt × List Int} {g : Gt} {i : Nat} (h : u[i]? = some true) : bStep F false u st g i = (st.1 ++ [⟨mapB st.2 g.a, mapB st.2 g.b⟩], st.2 ++ [2 * (F + st.1.length)]) := by
  unfold bStep; rw [List.getD_eq_getElem?_getD, h]; rfl

theorem map_set {f : Int → Int} {xs : List Int} {k : Nat} {x : Int} (h : xs[k]? = some x) : ((xs.take k).map f ++ xs.drop k).set k (f x) = (xs.take (k + 1)).map f ++ xs.drop (k + 1) := by
  have hlt := (List.getElem?_eq_some_iff.1 h).1
  have e : xs.drop k = x :: xs.drop (k + 1) := by
    rw [List.drop_eq_getElem_cons hlt, (List.getElem?_eq_some_iff.1 h).2]
  have hl : ((xs.take k).map f).length = k := by simp; omega
  rw [e, List.set_append_right _ _ (by omega), hl, Nat.sub_self, List.set_cons_zero, List.take_add_one, h]
  simp

set_option maxRecDepth 100000 in
set_option maxHeartbeats 12800000 in
theorem l3Build_any (v : Value) (c : Cir) (sh : Bool) (w : World) (h : CirV w v c) (hv : c.wide) :
    Calls Try.prog 48 #[v, .bool sh] w fun e w' => ∃ vn vg vo, e = .returned (.agg #[.int .i64 c.inp, vn, vg, vo]) ∧ CirOwn w' w.heap.size (buildC sh c) vn vg vo ∧ Below w.heap.size w w' := by
  have HV := Lib.hid hv
  obtain ⟨i0, i1, n3, g14, o3⟩ := id hv.lim
  have HG := Lib.hid h
  obtain ⟨sn, cn, sg, cg, so, co, rfl, -, -, -, -, -, -⟩ := h
  have HS0 : Hid (∀ W, Below w.heap.size w W → Sl W sn (ints c.next) ∧ Sl W sg (gcells c.gates) ∧ Sl W so (ints c.outs)) := fun W hW => by
    obtain ⟨sn', cn', sg', cg', so', co', e, h1, h2, h3, -⟩ := HG.out.mono hW
    simp only [Value.agg.injEq, Array.mk.injEq, List.cons.injEq, Value.slice.injEq, and_true, true_and] at e
    obtain ⟨⟨rfl, rfl⟩, ⟨rfl, rfl⟩, rfl, rfl⟩ := e
    exact ⟨h1, h2, h3⟩
  clear hv
  obtain ⟨W0, hW0⟩ : ∃ W0, W0 = (w.alloc (.cells #[.int .i64 c.inp, .slice sn c.next.length cn, .slice sg c.gates.length cg, .slice so c.outs.length co] 28)).alloc (.cells #[.int .i64 0, .slice none 0 0, .slice none 0 0, .slice none 0 0] 28) := ⟨_, rfl⟩
  obtain ⟨A, hA⟩ : ∃ A, A = w.heap.size := ⟨_, rfl⟩
  have z1 : W0.heap.size = A + 2 := by rw [hW0, hA]; simp
  have z2 : W0.heap[A]? = some (.cells #[.int .i64 c.inp, .slice sn c.next.length cn, .slice sg c.gates.length cg, .slice so c.outs.length co] 28 (0, 0)) := by rw [hW0, hA]; exact blk_old (blk_new w _)
  have z3 : W0.heap[A + 1]? = some (.cells #[.int .i64 0, .slice none 0 0, .slice none 0 0, .slice none 0 0] 28 (0, 0)) := by rw [hW0, hA]; exact blk_at (by simp)
  have z4 : Below w.heap.size w W0 := by rw [hW0]; exact ((Below.refl _ _).alloc (Nat.le_refl _) _).alloc (by simp) _
  have HW := Lib.hid (And.intro hW0 (And.intro hA z1))
  obtain ⟨F, hF⟩ : ∃ F : Nat, 1 + c.inp + (c.next.length : Int) = F := ⟨(1 + c.inp + (c.next.length : Int)).toNat, by omega⟩
  have hF8 : F ≤ 8 := by omega
  have hF1 : 1 ≤ F := by omega
  have HB : Hid (∀ W, Below W0.heap.size W0 W → (∀ o, W.cell? ⟨A, o, none⟩ = #[Value.int .i64 c.inp, .slice sn c.next.length cn, .slice sg c.gates.length cg, .slice so c.outs.length co][o]?) ∧ W.heap[A + 1]? = some (.cells #[.int .i64 0, .slice none 0 0, .slice none 0 0, .slice none 0 0] 28 (0, 0)) ∧ CirV W (.agg #[.int .i64 c.inp, .slice sn c.next.length cn, .slice sg c.gates.length cg, .slice so c.outs.length co]) c ∧ Below w.heap.size w W) := fun W hW => ⟨(blk_all (blk_below hW (by omega) z2)).1, blk_below hW (by omega) z3, HG.out.mono (z4.trans (hW.mono z4.size)), z4.trans (hW.mono z4.size)⟩
  clear hW0 hA z1 z2 z3 z4
  have HFF := Lib.hid hF
  have HLT : Hid (∀ l, (l ∈ c.next ∨ l ∈ c.outs) → 0 ≤ l ∧ l / 2 < (F : Int) + c.gates.length) := fun l hl => by
    have eV : c.vars = 1 + c.inp + c.next.length + c.gates.length := rfl
    have : litP l c.vars := by
      rcases hl with h | h
      · exact HV.out.next l h
      · exact HV.out.outs l h
    obtain ⟨a, b⟩ := this
    have := HFF.out
    omega
  have eF : c.first = (F : Int) := HFF.out
  have HGT : Hid (∀ (i : Nat) (g : Gt), c.gates[i]? = some g → (0 ≤ g.a ∧ g.a / 2 < (F : Int) + i) ∧ 0 ≤ g.b ∧ g.b / 2 < (F : Int) + i) := fun i g hg => by
    have hlt := (List.getElem?_eq_some_iff.1 hg).1
    obtain ⟨⟨a, b⟩, d, e⟩ := gatesP_at HV.out.gates hg
    omega
  have HBL : Hid (∀ k, k ≤ c.gates.length → gatesP F (bldP c sh k).1 ∧ (bldP c sh k).1.length ≤ k ∧ (bldP c sh k).2.length = F + k ∧ (∀ x ∈ (bldP c sh k).2, 0 ≤ x ∧ x ≤ 300) ∧ ∀ x ∈ (bldP c sh k).2, litP x (F + (bldP c sh k).1.length)) := fun k hk => by
    have ho := bldP_ok HV.out sh k hk
    have h1 := ho.mlen
    have h2 := ho.glen
    rw [eF] at ho
    refine ⟨ho.gates, h2, by have := ho.mlen; omega, fun x hx => ?_, ho.lits⟩
    obtain ⟨a, b⟩ := ho.lits x hx
    omega
  have HSU : Hid (∀ (k : Nat) (g : Gt), c.gates[k]? = some g → bldP c sh (k + 1) = bStep (F : Int) sh (usedL c) (bldP c sh k) g k) := fun k g hg => by rw [← eF]; exact bldP_succ hg
  have HZ0 : Hid (bldP c sh 0 = ([], evE F)) := (by show (([] : List Gt), evE c.first.toNat) = _; rw [eF, Int.toNat_natCast] : bldP c sh 0 = ([], evE F))
  clear hF eF
  obtain ⟨n, hn⟩ : ∃ n, n = c.gates.length := ⟨_, rfl⟩
  obtain ⟨ln, hln⟩ : ∃ ln, ln = c.next.length := ⟨_, rfl⟩
  obtain ⟨lo, hlo⟩ : ∃ lo, lo = c.outs.length := ⟨_, rfl⟩
  have hn14 : n ≤ 120 := by omega
  have hln3 : ln ≤ 3 := by omega
  have hlo3 : lo ≤ 3 := by omega
  rw [← hn, ← hln, ← hlo] at HB HW ⊢
  rw [← hn] at HLT HBL
  rw [← hln] at HFF
  have HN := Lib.hid (And.intro hn (And.intro hln hlo))
  clear hn hln hlo g14 n3 o3
  go_enter Try.func48, Try.ntmps48
  go_upto_region 1 with fail
  rw [← HW.out.1, ← HW.out.2.1]
  have cb := (HB.out _ (Below.refl _ _)).1
  go_upto_region 2 with (go_at_call 86; ((with_reducible refine (l3Used_any _ c _ (HB.out _ (Below.refl _ _)).2.2.1 HV.out).mono ?_); rintro e w1 ⟨su, cu, rfl, h1, hq⟩; rw [← HN.out.1]; have H1 := Lib.hid (And.intro h1 hq); clear h1 hq cb; have cb := (HB.out _ H1.out.2).1))
  go_cut [6] from 17 to 23 (fun s6 wx => ∃ (B : Nat) (s2 : Option Addr) (c2 : Nat), s6 = .pointer (some ⟨B, 0, none⟩) ∧ wx.heap[B]? = some (.cells #[.int .i64 c.inp, .slice s2 ln c2, .slice none 0 0, .slice none 0 0] 28 (0, 0)) ∧ wx.ownsRow w1.heap.size 3 1 (.slice s2 ln c2) ln (ints c.next) ∧ Below w1.heap.size w1 wx ∧ w1.heap.size ≤ B)
  case first =>
    refine wp_region_T (fun w' => ∀ o, w'.cell? ⟨A, o, none⟩ = #[Value.int .i64 c.inp, .slice sn ln cn, .slice sg n cg, .slice so lo co][o]?) (.q 0 (.q 1 (.q 3 (.q 4 (.two 2 (.two 5 (.q 6 (.e 7 (.e 8 .nil))) 7 (.e 5 (.q 6 (.e 8 .nil)))) 7 (.e 2 (.e 5 (.q 6 (.e 8 .nil))))))))) (by kernel_rfl) (by kernel_rfl) (by kernel_rfl) (HB.out _ H1.out.2.drew).1 ?_
    have hd := (Below.refl w1.heap.size w1).drew
    revert hd
    generalize w1.drew = Wd
    intro hd
    have HD := Lib.hid hd
    clear hd cb
    repeat (first | (refine ordt_s (o := ?_) ?_ ?_ ?_; rotate_left 1; (focus ((simp only [zD, zE, zF]) <;> rfl)); (focus rfl); simp only [Act.put, zA, zB, zC]) | (refine ordt_q (o := ?_) (v := ?_) ?_ ?_ ?_ ?_; rotate_left 2; (focus ((simp only [zD, zE, zF]) <;> rfl)); (focus rfl); (focus (intro w' hS; (try dsimp only at hS); go_split_ands; go_simp; (try (with_reducible rfl)))); simp only [Act.put, zA, zB, zC]))
    refine ordt_two ?_ ?_
    · (refine op_e (o := ?_) ?_ ?_ (fun K hK => ?_); rotate_left 1; (focus ((simp only [zD, zE, zF]) <;> rfl)); (focus rfl); go_simp)
      have hb := (HD.out).alloc (HD.out).size (.cells #[] 3)
      have hown0 : World.ownsRow (Wd.alloc (.cells #[] 3)) w1.heap.size 3 1 (.slice (some ⟨Wd.heap.size, 0, none⟩) 0 0) 0 [] := own_of_blk (size := 1) (n := 0) (cur := #[]) (blk_new Wd _) (HD.out).size (by simp) (by unfold maxLen; omega)
      have hwz := belowA Wd (.cells #[] 3)
      obtain ⟨E, hE⟩ : ∃ E, E = Wd.heap.size := ⟨_, rfl⟩
      rw [← hE] at hown0
      rw [← hE]
      clear hE
      revert hb hown0 hwz
      generalize Wd.alloc (.cells #[] 3) = WE
      intro hb hwz hown0
      refine hK.out _ _ (HB.out _ (H1.out.2.trans (hb.mono H1.out.2.size))).1 ?_
      clear hK K
      have H2 := Lib.hid (And.intro hown0 hb)
      have HWZ := Lib.hid hwz
      clear hown0 hb hwz
      (try simp only [Act.put, zA, zB, zC])
      repeat (first | (refine ordt_s (o := ?_) ?_ ?_ ?_; rotate_left 1; (focus ((simp only [zD, zE, zF]) <;> rfl)); (focus rfl); simp only [Act.put, zA, zB, zC]) | (refine ordt_q (o := ?_) (v := ?_) ?_ ?_ ?_ ?_; rotate_left 2; (focus ((simp only [zD, zE, zF]) <;> rfl)); (focus rfl); (focus (intro w' hS; (try dsimp only at hS); go_split_ands; go_simp; (try (with_reducible rfl)))); simp only [Act.put, zA, zB, zC]))
      refine ordt_two ?_ ?_
      · (refine op_e (o := ?_) ?_ ?_ (fun K hK => ?_); rotate_left 1; (focus ((simp only [zD, zE, zF]) <;> rfl)); (focus rfl))
        refine wp_app (.tmp 19) (.tmp 21) rfl elem_int H2.out.1 rfl rfl (by simp; exact HN.out.2.1.symm) (HS0.out _ (HB.out _ (H1.out.2.trans (H2.out.2.mono H1.out.2.size))).2.2.2).1 (ints_one _) ln (by omega) (ints c.next) (by simp) (by unfold maxLen; omega) (by omega) H2.out.2.size ?_
        intro s6 c6 w6 h6 hb6 hg6 _
        have hq6 := H2.out.2.trans hb6
        refine hK.out _ _ (HB.out _ (H1.out.2.trans (hq6.mono H1.out.2.size))).1 ?_
        clear hK K
        have HGR := Lib.hid hg6
        have H6 := Lib.hid (And.intro h6 hq6)
        clear h6 hb6 hq6 hg6
        (try simp only [Act.put, zA, zB, zC])
        repeat (first | (refine ordt_s (o := ?_) ?_ ?_ ?_; rotate_left 1; (focus ((simp only [zD, zE, zF]) <;> rfl)); (focus rfl); simp only [Act.put, zA, zB, zC]) | (refine ordt_q (o := ?_) (v := ?_) ?_ ?_ ?_ ?_; rotate_left 2; (focus ((simp only [zD, zE, zF]) <;> rfl)); (focus rfl); (focus (intro w' hS; (try dsimp only at hS); go_split_ands; go_simp; (try (with_reducible rfl)))); simp only [Act.put, zA, zB, zC]))
        refine ordt_e ?_
        (refine op_e (o := ?_) ?_ ?_ (fun K hK => ?_); rotate_left 1; (focus ((simp only [zD, zE, zF]) <;> rfl)); (focus rfl); go_simp)
        have hb := (H6.out.2).alloc (H6.out.2).size (.cells #[.int .i64 0, .slice none 0 0, .slice none 0 0, .slice none 0 0] 28)
        have hk := blk_new w6 (.cells #[.int .i64 0, .slice none 0 0, .slice none 0 0, .slice none 0 0] 28)
        have hs := (H6.out.2).size
        have ho6 := own_below H6.out.1 (belowA w6 (.cells #[.int .i64 0, .slice none 0 0, .slice none 0 0, .slice none 0 0] 28))
        obtain ⟨B, hB⟩ : ∃ B, B = w6.heap.size := ⟨_, rfl⟩
        rw [← hB] at hk hs
        rw [← hB]
        clear hB
        revert hb hk ho6
        generalize w6.alloc (.cells #[.int .i64 0, .slice none 0 0, .slice none 0 0, .slice none 0 0] 28) = WA
        intro hb ho6 hk
        refine hK.out _ _ (HB.out _ (H1.out.2.trans (hb.mono H1.out.2.size))).1 ?_
        clear hK K
        have HA := Lib.hid (And.intro hk (And.intro hb hs))
        have H6 := Lib.hid (And.intro ho6 hb)
        clear ho6
        clear hb hk hs
        (try simp only [Act.put, zA, zB, zC])
        repeat (first | (refine ordt_s (o := ?_) ?_ ?_ ?_; rotate_left 1; (focus ((simp only [zD, zE, zF]) <;> rfl)); (focus rfl); simp only [Act.put, zA, zB, zC]) | (refine ordt_q (o := ?_) (v := ?_) ?_ ?_ ?_ ?_; rotate_left 2; (focus ((simp only [zD, zE, zF]) <;> rfl)); (focus rfl); (focus (intro w' hS; (try dsimp only at hS); go_split_ands; go_simp; (try (with_reducible rfl)))); simp only [Act.put, zA, zB, zC]))
        refine ordt_e ?_
        obtain ⟨rc, rf⟩ := blk_all HA.out.1
        (refine op_e (o := ?_) ?_ ?_ (fun K hK => ?_); rotate_left 1; (focus ((simp only [zD, zE, zF]) <;> rfl)); (focus rfl); go_simp)
        have hne := own_tyb H6.out.1 HA.out.1 (by decide)
        have hZ : ((((WA.setCell ⟨B, 0, none⟩ (.int .i64 c.inp)).setCell ⟨B, 1, none⟩ (.slice s6 ln c6)).setCell ⟨B, 2, none⟩ (.slice none 0 0)).setCell ⟨B, 3, none⟩ (.slice none 0 0)).heap[B]? = some (.cells #[.int .i64 c.inp, .slice s6 ln c6, .slice none 0 0, .slice none 0 0] 28 (0, 0)) := by
          simpa using blk_set (o := 3) (v := .slice none 0 0) (blk_set (o := 2) (v := .slice none 0 0) (blk_set (o := 1) (v := .slice s6 ln c6) (blk_set (o := 0) (v := .int .i64 c.inp) HA.out.1)))
        have hO := own_set_ne (own_set_ne (own_set_ne (own_set_ne (o := 0) H6.out.1 hne (.int .i64 c.inp)) (o := 1) hne (.slice s6 ln c6)) (o := 2) hne (.slice none 0 0)) (o := 3) hne (.slice none 0 0)
        have hbz := ((((HA.out.2.1).setCell (p := ⟨B, 0, none⟩) HA.out.2.2 (.int .i64 c.inp)).setCell (p := ⟨B, 1, none⟩) HA.out.2.2 (.slice s6 ln c6)).setCell (p := ⟨B, 2, none⟩) HA.out.2.2 (.slice none 0 0)).setCell (p := ⟨B, 3, none⟩) HA.out.2.2 (.slice none 0 0)
        clear rc rf hne
        revert hZ hO hbz
        generalize ((((WA.setCell ⟨B, 0, none⟩ (.int .i64 c.inp)).setCell ⟨B, 1, none⟩ (.slice s6 ln c6)).setCell ⟨B, 2, none⟩ (.slice none 0 0)).setCell ⟨B, 3, none⟩ (.slice none 0 0)) = WZ
        intro hZ hO hbz
        refine hK.out _ _ (HB.out _ (H1.out.2.trans (hbz.mono H1.out.2.size))).1 ?_
        clear hK K
        (try simp only [Act.put, zA, zB, zC])
        repeat (first | (refine ordt_s (o := ?_) ?_ ?_ ?_; rotate_left 1; (focus ((simp only [zD, zE, zF]) <;> rfl)); (focus rfl); simp only [Act.put, zA, zB, zC]) | (refine ordt_q (o := ?_) (v := ?_) ?_ ?_ ?_ ?_; rotate_left 2; (focus ((simp only [zD, zE, zF]) <;> rfl)); (focus rfl); (focus (intro w' hS; (try dsimp only at hS); go_split_ands; go_simp; (try (with_reducible rfl)))); simp only [Act.put, zA, zB, zC]))
        refine ordt_nil ?_
        go_wp2_with fail
        go_meet
        exact ⟨B, s6, c6, rfl, hZ, hO, hbz, HA.out.2.2⟩
      · (refine op_e (o := ?_) ?_ ?_ (fun K hK => ?_); rotate_left 1; (focus ((simp only [zD, zE, zF]) <;> rfl)); (focus rfl); go_simp)
        have hb := (H2.out.2).alloc (H2.out.2).size (.cells #[.int .i64 0, .slice none 0 0, .slice none 0 0, .slice none 0 0] 28)
        have hk := blk_new WE (.cells #[.int .i64 0, .slice none 0 0, .slice none 0 0, .slice none 0 0] 28)
        have hs := (H2.out.2).size
        have ho2 := own_below H2.out.1 (belowA WE (.cells #[.int .i64 0, .slice none 0 0, .slice none 0 0, .slice none 0 0] 28))
        obtain ⟨B, hB⟩ : ∃ B, B = WE.heap.size := ⟨_, rfl⟩
        rw [← hB] at hk hs
        rw [← hB]
        clear hB
        revert hb hk ho2
        generalize WE.alloc (.cells #[.int .i64 0, .slice none 0 0, .slice none 0 0, .slice none 0 0] 28) = WA
        intro hb ho2 hk
        refine hK.out _ _ (HB.out _ (H1.out.2.trans (hb.mono H1.out.2.size))).1 ?_
        clear hK K
        have HA := Lib.hid (And.intro hk (And.intro hb hs))
        have H2 := Lib.hid (And.intro ho2 hb)
        clear ho2
        clear hb hk hs
        (try simp only [Act.put, zA, zB, zC])
        repeat (first | (refine ordt_s (o := ?_) ?_ ?_ ?_; rotate_left 1; (focus ((simp only [zD, zE, zF]) <;> rfl)); (focus rfl); simp only [Act.put, zA, zB, zC]) | (refine ordt_q (o := ?_) (v := ?_) ?_ ?_ ?_ ?_; rotate_left 2; (focus ((simp only [zD, zE, zF]) <;> rfl)); (focus rfl); (focus (intro w' hS; (try dsimp only at hS); go_split_ands; go_simp; (try (with_reducible rfl)))); simp only [Act.put, zA, zB, zC]))
        refine ordt_e ?_
        (refine op_e (o := ?_) ?_ ?_ (fun K hK => ?_); rotate_left 1; (focus ((simp only [zD, zE, zF]) <;> rfl)); (focus rfl))
        refine wp_app (.tmp 19) (.tmp 21) rfl elem_int H2.out.1 rfl rfl (by simp; exact HN.out.2.1.symm) (HS0.out _ (HB.out _ (H1.out.2.trans (H2.out.2.mono H1.out.2.size))).2.2.2).1 (ints_one _) ln (by omega) (ints c.next) (by simp) (by unfold maxLen; omega) (by omega) H2.out.2.size ?_
        intro s6 c6 w6 h6 hb6 hg6 _
        have hq6 := H2.out.2.trans hb6
        refine hK.out _ _ (HB.out _ (H1.out.2.trans (hq6.mono H1.out.2.size))).1 ?_
        clear hK K
        have HGR := Lib.hid hg6
        have H6 := Lib.hid (And.intro h6 hq6)
        clear h6 hb6 hq6 hg6
        (try simp only [Act.put, zA, zB, zC])
        repeat (first | (refine ordt_s (o := ?_) ?_ ?_ ?_; rotate_left 1; (focus ((simp only [zD, zE, zF]) <;> rfl)); (focus rfl); simp only [Act.put, zA, zB, zC]) | (refine ordt_q (o := ?_) (v := ?_) ?_ ?_ ?_ ?_; rotate_left 2; (focus ((simp only [zD, zE, zF]) <;> rfl)); (focus rfl); (focus (intro w' hS; (try dsimp only at hS); go_split_ands; go_simp; (try (with_reducible rfl)))); simp only [Act.put, zA, zB, zC]))
        refine ordt_e ?_
        have hkb : w6.heap[B]? = some (.cells #[.int .i64 0, .slice none 0 0, .slice none 0 0, .slice none 0 0] 28 (0, 0)) := by
          rw [HGR.out.block B (blk_lt HA.out.1) (fun e => own_tyb H2.out.1 HA.out.1 (by decide) e.symm)]; exact HA.out.1
        have HA := Lib.hid (And.intro hkb (And.intro H6.out.2 HA.out.2.2))
        clear hkb
        obtain ⟨rc, rf⟩ := blk_all HA.out.1
        (refine op_e (o := ?_) ?_ ?_ (fun K hK => ?_); rotate_left 1; (focus ((simp only [zD, zE, zF]) <;> rfl)); (focus rfl); go_simp)
        have hne := own_tyb H6.out.1 HA.out.1 (by decide)
        have hZ : ((((w6.setCell ⟨B, 0, none⟩ (.int .i64 c.inp)).setCell ⟨B, 1, none⟩ (.slice s6 ln c6)).setCell ⟨B, 2, none⟩ (.slice none 0 0)).setCell ⟨B, 3, none⟩ (.slice none 0 0)).heap[B]? = some (.cells #[.int .i64 c.inp, .slice s6 ln c6, .slice none 0 0, .slice none 0 0] 28 (0, 0)) := by
          simpa using blk_set (o := 3) (v := .slice none 0 0) (blk_set (o := 2) (v := .slice none 0 0) (blk_set (o := 1) (v := .slice s6 ln c6) (blk_set (o := 0) (v := .int .i64 c.inp) HA.out.1)))
        have hO := own_set_ne (own_set_ne (own_set_ne (own_set_ne (o := 0) H6.out.1 hne (.int .i64 c.inp)) (o := 1) hne (.slice s6 ln c6)) (o := 2) hne (.slice none 0 0)) (o := 3) hne (.slice none 0 0)
        have hbz := ((((HA.out.2.1).setCell (p := ⟨B, 0, none⟩) HA.out.2.2 (.int .i64 c.inp)).setCell (p := ⟨B, 1, none⟩) HA.out.2.2 (.slice s6 ln c6)).setCell (p := ⟨B, 2, none⟩) HA.out.2.2 (.slice none 0 0)).setCell (p := ⟨B, 3, none⟩) HA.out.2.2 (.slice none 0 0)
        clear rc rf hne
        revert hZ hO hbz
        generalize ((((w6.setCell ⟨B, 0, none⟩ (.int .i64 c.inp)).setCell ⟨B, 1, none⟩ (.slice s6 ln c6)).setCell ⟨B, 2, none⟩ (.slice none 0 0)).setCell ⟨B, 3, none⟩ (.slice none 0 0)) = WZ
        intro hZ hO hbz
        refine hK.out _ _ (HB.out _ (H1.out.2.trans (hbz.mono H1.out.2.size))).1 ?_
        clear hK K
        (try simp only [Act.put, zA, zB, zC])
        repeat (first | (refine ordt_s (o := ?_) ?_ ?_ ?_; rotate_left 1; (focus ((simp only [zD, zE, zF]) <;> rfl)); (focus rfl); simp only [Act.put, zA, zB, zC]) | (refine ordt_q (o := ?_) (v := ?_) ?_ ?_ ?_ ?_; rotate_left 2; (focus ((simp only [zD, zE, zF]) <;> rfl)); (focus rfl); (focus (intro w' hS; (try dsimp only at hS); go_split_ands; go_simp; (try (with_reducible rfl)))); simp only [Act.put, zA, zB, zC]))
        refine ordt_nil ?_
        go_wp2_with fail
        go_meet
        exact ⟨B, s6, c6, rfl, hZ, hO, hbz, HA.out.2.2⟩
    · (refine op_e (o := ?_) ?_ ?_ (fun K hK => ?_); rotate_left 1; (focus ((simp only [zD, zE, zF]) <;> rfl)); (focus rfl); go_simp)
      have hb := (HD.out).alloc (HD.out).size (.cells #[.int .i64 0, .slice none 0 0, .slice none 0 0, .slice none 0 0] 28)
      have hk := blk_new Wd (.cells #[.int .i64 0, .slice none 0 0, .slice none 0 0, .slice none 0 0] 28)
      have hs := (HD.out).size
      obtain ⟨B, hB⟩ : ∃ B, B = Wd.heap.size := ⟨_, rfl⟩
      rw [← hB] at hk hs
      rw [← hB]
      clear hB
      revert hb hk
      generalize Wd.alloc (.cells #[.int .i64 0, .slice none 0 0, .slice none 0 0, .slice none 0 0] 28) = WA
      intro hb hk
      refine hK.out _ _ (HB.out _ (H1.out.2.trans (hb.mono H1.out.2.size))).1 ?_
      clear hK K
      have HA := Lib.hid (And.intro hk (And.intro hb hs))
      clear hb hk hs
      (try simp only [Act.put, zA, zB, zC])
      repeat (first | (refine ordt_s (o := ?_) ?_ ?_ ?_; rotate_left 1; (focus ((simp only [zD, zE, zF]) <;> rfl)); (focus rfl); simp only [Act.put, zA, zB, zC]) | (refine ordt_q (o := ?_) (v := ?_) ?_ ?_ ?_ ?_; rotate_left 2; (focus ((simp only [zD, zE, zF]) <;> rfl)); (focus rfl); (focus (intro w' hS; (try dsimp only at hS); go_split_ands; go_simp; (try (with_reducible rfl)))); simp only [Act.put, zA, zB, zC]))
      refine ordt_e ?_
      (refine op_e (o := ?_) ?_ ?_ (fun K hK => ?_); rotate_left 1; (focus ((simp only [zD, zE, zF]) <;> rfl)); (focus rfl); go_simp)
      have hb := (HA.out.2.1).alloc (HA.out.2.1).size (.cells #[] 3)
      have hown0 : World.ownsRow (WA.alloc (.cells #[] 3)) w1.heap.size 3 1 (.slice (some ⟨WA.heap.size, 0, none⟩) 0 0) 0 [] := own_of_blk (size := 1) (n := 0) (cur := #[]) (blk_new WA _) (HA.out.2.1).size (by simp) (by unfold maxLen; omega)
      have hwz := belowA WA (.cells #[] 3)
      obtain ⟨E, hE⟩ : ∃ E, E = WA.heap.size := ⟨_, rfl⟩
      rw [← hE] at hown0
      rw [← hE]
      clear hE
      revert hb hown0 hwz
      generalize WA.alloc (.cells #[] 3) = WE
      intro hb hwz hown0
      refine hK.out _ _ (HB.out _ (H1.out.2.trans (hb.mono H1.out.2.size))).1 ?_
      clear hK K
      have H2 := Lib.hid (And.intro hown0 hb)
      have HWZ := Lib.hid hwz
      clear hown0 hb hwz
      have HKE := Lib.hid (blk_below (show Below WA.heap.size WA WE from HWZ.out) (blk_lt HA.out.1) HA.out.1)
      (try simp only [Act.put, zA, zB, zC])
      repeat (first | (refine ordt_s (o := ?_) ?_ ?_ ?_; rotate_left 1; (focus ((simp only [zD, zE, zF]) <;> rfl)); (focus rfl); simp only [Act.put, zA, zB, zC]) | (refine ordt_q (o := ?_) (v := ?_) ?_ ?_ ?_ ?_; rotate_left 2; (focus ((simp only [zD, zE, zF]) <;> rfl)); (focus rfl); (focus (intro w' hS; (try dsimp only at hS); go_split_ands; go_simp; (try (with_reducible rfl)))); simp only [Act.put, zA, zB, zC]))
      refine ordt_e ?_
      (refine op_e (o := ?_) ?_ ?_ (fun K hK => ?_); rotate_left 1; (focus ((simp only [zD, zE, zF]) <;> rfl)); (focus rfl))
      refine wp_app (.tmp 19) (.tmp 21) rfl elem_int H2.out.1 rfl rfl (by simp; exact HN.out.2.1.symm) (HS0.out _ (HB.out _ (H1.out.2.trans (H2.out.2.mono H1.out.2.size))).2.2.2).1 (ints_one _) ln (by omega) (ints c.next) (by simp) (by unfold maxLen; omega) (by omega) H2.out.2.size ?_
      intro s6 c6 w6 h6 hb6 hg6 _
      have hq6 := H2.out.2.trans hb6
      refine hK.out _ _ (HB.out _ (H1.out.2.trans (hq6.mono H1.out.2.size))).1 ?_
      clear hK K
      have HGR := Lib.hid hg6
      have H6 := Lib.hid (And.intro h6 hq6)
      clear h6 hb6 hq6 hg6
      (try simp only [Act.put, zA, zB, zC])
      repeat (first | (refine ordt_s (o := ?_) ?_ ?_ ?_; rotate_left 1; (focus ((simp only [zD, zE, zF]) <;> rfl)); (focus rfl); simp only [Act.put, zA, zB, zC]) | (refine ordt_q (o := ?_) (v := ?_) ?_ ?_ ?_ ?_; rotate_left 2; (focus ((simp only [zD, zE, zF]) <;> rfl)); (focus rfl); (focus (intro w' hS; (try dsimp only at hS); go_split_ands; go_simp; (try (with_reducible rfl)))); simp only [Act.put, zA, zB, zC]))
      refine ordt_e ?_
      have hkb : w6.heap[B]? = some (.cells #[.int .i64 0, .slice none 0 0, .slice none 0 0, .slice none 0 0] 28 (0, 0)) := by
        rw [HGR.out.block B (blk_lt HKE.out) (fun e => own_tyb H2.out.1 HKE.out (by decide) e.symm)]; exact HKE.out
      have HA := Lib.hid (And.intro hkb (And.intro H6.out.2 HA.out.2.2))
      clear hkb
      obtain ⟨rc, rf⟩ := blk_all HA.out.1
      (refine op_e (o := ?_) ?_ ?_ (fun K hK => ?_); rotate_left 1; (focus ((simp only [zD, zE, zF]) <;> rfl)); (focus rfl); go_simp)
      have hne := own_tyb H6.out.1 HA.out.1 (by decide)
      have hZ : ((((w6.setCell ⟨B, 0, none⟩ (.int .i64 c.inp)).setCell ⟨B, 1, none⟩ (.slice s6 ln c6)).setCell ⟨B, 2, none⟩ (.slice none 0 0)).setCell ⟨B, 3, none⟩ (.slice none 0 0)).heap[B]? = some (.cells #[.int .i64 c.inp, .slice s6 ln c6, .slice none 0 0, .slice none 0 0] 28 (0, 0)) := by
        simpa using blk_set (o := 3) (v := .slice none 0 0) (blk_set (o := 2) (v := .slice none 0 0) (blk_set (o := 1) (v := .slice s6 ln c6) (blk_set (o := 0) (v := .int .i64 c.inp) HA.out.1)))
      have hO := own_set_ne (own_set_ne (own_set_ne (own_set_ne (o := 0) H6.out.1 hne (.int .i64 c.inp)) (o := 1) hne (.slice s6 ln c6)) (o := 2) hne (.slice none 0 0)) (o := 3) hne (.slice none 0 0)
      have hbz := ((((HA.out.2.1).setCell (p := ⟨B, 0, none⟩) HA.out.2.2 (.int .i64 c.inp)).setCell (p := ⟨B, 1, none⟩) HA.out.2.2 (.slice s6 ln c6)).setCell (p := ⟨B, 2, none⟩) HA.out.2.2 (.slice none 0 0)).setCell (p := ⟨B, 3, none⟩) HA.out.2.2 (.slice none 0 0)
      clear rc rf hne
      revert hZ hO hbz
      generalize ((((w6.setCell ⟨B, 0, none⟩ (.int .i64 c.inp)).setCell ⟨B, 1, none⟩ (.slice s6 ln c6)).setCell ⟨B, 2, none⟩ (.slice none 0 0)).setCell ⟨B, 3, none⟩ (.slice none 0 0)) = WZ
      intro hZ hO hbz
      refine hK.out _ _ (HB.out _ (H1.out.2.trans (hbz.mono H1.out.2.size))).1 ?_
      clear hK K
      (try simp only [Act.put, zA, zB, zC])
      repeat (first | (refine ordt_s (o := ?_) ?_ ?_ ?_; rotate_left 1; (focus ((simp only [zD, zE, zF]) <;> rfl)); (focus rfl); simp only [Act.put, zA, zB, zC]) | (refine ordt_q (o := ?_) (v := ?_) ?_ ?_ ?_ ?_; rotate_left 2; (focus ((simp only [zD, zE, zF]) <;> rfl)); (focus rfl); (focus (intro w' hS; (try dsimp only at hS); go_split_ands; go_simp; (try (with_reducible rfl)))); simp only [Act.put, zA, zB, zC]))
      refine ordt_nil ?_
      go_wp2_with fail
      go_meet
      exact ⟨B, s6, c6, rfl, hZ, hO, hbz, HA.out.2.2⟩
  case rest =>
    obtain ⟨B, s2, c2, rfl, hb1, hb2, hb3, hb4⟩ := hcut
    have HC := Lib.hid (And.intro hb1 (And.intro hb2 (And.intro hb3 hb4)))
    clear hb1 hb2 hb3 hb4
    have cb := (HB.out _ (H1.out.2.trans (HC.out.2.2.1.mono H1.out.2.size))).1
    obtain ⟨Wb, rfl⟩ : ∃ Wb, Wb = wc := ⟨_, rfl⟩
    obtain ⟨b2, hb2⟩ : ∃ b2, b2 = Wb.heap.size := ⟨_, rfl⟩
    have hBb : B < b2 := by rw [hb2]; exact blk_lt HC.out.1
    have HB1 : Hid (∀ W, Kp B b2 Wb W → (∀ o, W.cell? ⟨A, o, none⟩ = #[Value.int .i64 c.inp, .slice sn ln cn, .slice sg n cg, .slice so lo co][o]?) ∧ W.heap[A + 1]? = some (.cells #[.int .i64 0, .slice none 0 0, .slice none 0 0, .slice none 0 0] 28 (0, 0)) ∧ CirV W (.agg #[.int .i64 c.inp, .slice sn ln cn, .slice sg n cg, .slice so lo co]) c ∧ Below W0.heap.size W0 W ∧ Sl W su (bools (usedL c)) ∧ Below w.heap.size w W) := fun W hW => by
      have q1 : Below w1.heap.size w1 W := HC.out.2.2.1.trans (hW.below HC.out.2.2.2 (by rw [hb2]; exact HC.out.2.2.1.size))
      have q2 := H1.out.2.trans (q1.mono H1.out.2.size)
      have q3 := HB.out W q2
      exact ⟨q3.1, q3.2.1, q3.2.2.1, q2, H1.out.1.mono q1, q3.2.2.2⟩
    go_upto_region 4 with fail
    have hM : BS Wb B W0.heap.size b2 c.inp c.next (.slice s2 ln c2) [] (.slice none 0 0) (evE 0) (.slice (some ⟨Wb.heap.size, 0, none⟩) 0 0) (Wb.alloc (.cells #[] 3)) := by
      refine ⟨blk_old HC.out.1, ?_, World.ownsRow_nil _ _ _ _, own_of_blk (size := 1) (n := 0) (cur := #[]) (blk_new Wb _) (by rw [hb2]; exact Nat.le_refl _) (by simp) (by unfold maxLen; omega), Kp.of_below ((belowA Wb _).mono (by rw [hb2]; exact Nat.le_refl _)), hBb, fun k hk => by rw [hb2]; exact (own_blk HC.out.2.1 hk).2, by rw [hb2]; simp⟩
      rw [← HN.out.2.1]
      exact own_below (own_base HC.out.2.1 H1.out.2.size) (belowA _ _)
    have HM := Lib.hid hM
    clear hM cb
    rw [← hb2] at HM ⊢
    have HB2 := Lib.hid hb2
    clear hb2
    revert HM
    generalize Wb.alloc (.cells #[] 3) = WM
    intro HM
    go_upto_region 5 with fail
    go_loopw [7, 8] (fun s7 s8 wr => ∃ (k : Nat) (sm : Option Addr) (cm : Nat), k ≤ F ∧ s8 = .int .i64 k ∧ s7 = .slice sm k cm ∧ BS Wb B W0.heap.size b2 c.inp c.next (.slice s2 ln c2) [] (.slice none 0 0) (evE k) (.slice sm k cm) wr) (fun _ s8 _ => F - (intOf s8).toNat)
    case atStart => exact ⟨0, _, _, by omega, rfl, rfl, HM.out⟩
    case round =>
      obtain ⟨k, sm, cm, hk, rfl, rfl, hS⟩ := hrel
      have HS := Lib.hid hS
      clear hS
      have cb := (HB1.out _ HS.out.kp).1
      by_cases hlt : k < F
      · have HOM : Hid (∀ W, Below wr.heap.size wr W → W.ownsRow b2 3 1 (.slice sm k cm) k (ints (evE k))) := fun W hW => by have := (HS.out.below hW).m; rwa [evE_length] at this
        go_wp2_with (first
          | (go_at_call 44; ((with_reducible refine (l1First_any _ _ _ _ _ _ _ (by omega) (by omega)).mono ?_); rintro e w2 ⟨rfl, hq⟩; rw [HFF.out]; have H2 := Lib.hid hq; clear hq cb))
          | (at_builtin; refine wpl_app rfl _ _ rfl elem_int (HOM.out _ (H2.out.alloc H2.out.size _)) rfl rfl rfl (Sl.new _ _ _) (by simp [Value.oneCell']) (k + 1) rfl (ints (evE (k + 1))) (by rw [evE_succ, ← ints_append]; rfl) (by unfold maxLen; omega) (by omega) (Nat.le_trans HS.out.hs (H2.out.alloc H2.out.size _).size) ?_; intro s6 c6 w6 h6 hb6 hg6 _; have H6 := Lib.hid (BS.pushM (HS.out.below (H2.out.alloc H2.out.size _)) (m' := evE (k + 1)) (by rw [evE_length]; exact h6) hb6 hg6); clear h6 hb6 hg6))
        go_roundw
        case rel => exact ⟨k + 1, s6, c6, by omega, by go_num, rfl, H6.out⟩
        case measure => simp [intOf]; try omega
      · obtain rfl : F = k := by omega
        go_upto_region 9 with (go_at_call 44; ((with_reducible refine (l1First_any _ _ _ _ _ _ _ (by omega) (by omega)).mono ?_); rintro e w2 ⟨rfl, hq⟩; rw [HFF.out]; have H2 := Lib.hid hq; clear hq cb))
        have HS2 := Lib.hid (HS.out.below H2.out)
        clear H2 HS
        go_loopw [7, 9] (fun s7 s9 wr => ∃ (i : Nat) (sm : Option Addr) (cm : Nat) (gs : List Gt) (m : List Int) (vg : Value), i ≤ n ∧ s9 = .int .i64 i ∧ s7 = .slice sm (F + i) cm ∧ bldP c sh i = (gs, m) ∧ BS Wb B W0.heap.size b2 c.inp c.next (.slice s2 ln c2) gs vg m (.slice sm (F + i) cm) wr) (fun _ s9 _ => n - (intOf s9).toNat)
        case atStart => exact ⟨0, sm, cm, [], evE F, .slice none 0 0, by omega, rfl, rfl, HZ0.out, HS2.out⟩
        case round =>
          clear HS2 HM
          obtain ⟨i, sm, cm, gs, m, vg, hi, rfl, rfl, hst, hS⟩ := hrel
          obtain ⟨sg2, cg2, rfl⟩ := own_shape hS.g
          have HS := Lib.hid hS
          clear hS
          have hbl := HBL.out i hi
          rw [hst] at hbl
          obtain ⟨hgp, hgl, hml, hmb, hlb⟩ := hbl
          have HGP : Hid (gatesP (F : Int) gs) := hgp
          have HLM : Hid (∀ l, 0 ≤ l → l / 2 < ((F + i : Nat) : Int) → litP (mapB m l) ((F : Int) + gs.length)) := fun l h0 h1 => mapB_litP hlb h0 (by rw [show m.length = F + i from hml]; exact h1)
          clear hgp hlb
          have HMB := Lib.hid (And.intro hml hmb)
          have HST := Lib.hid hst
          clear hml hmb hst
          simp only at hgl
          have cA := (HB1.out _ HS.out.kp).1
          have cb := HS.out.cells.1
          by_cases hlt : i < n
          · obtain ⟨g, hg⟩ := get_of_lt (l := c.gates) (k := i) (by rw [← HN.out.1]; exact hlt)
            obtain ⟨x, hx⟩ := get_of_lt (l := usedL c) (k := i) (by rw [usedL_length, ← HN.out.1]; exact hlt)
            obtain ⟨⟨a0, a1⟩, b0, b1⟩ := HGT.out i g hg
            have hsu := HSU.out i g hg
            rw [HST.out] at hsu
            obtain ⟨b, off, rfl, hbw, y1, y2⟩ := (HS0.out _ (HB1.out _ HS.out.kp).2.2.2.2.2).2.1.gate (Below.refl _ _) hg
            obtain ⟨ub, uo, rfl, hub, u1⟩ := (HB1.out _ HS.out.kp).2.2.2.2.1.bool (Below.refl _ _) hx
            have HCS : Hid (∀ W, Below wr.heap.size wr W → (∀ o, W.cell? ⟨B, o, none⟩ = #[Value.int .i64 c.inp, .slice s2 ln c2, .slice sg2 gs.length cg2, .slice none 0 0][o]?) ∧ (∀ o, W.cell? ⟨A, o, none⟩ = #[Value.int .i64 c.inp, .slice sn ln cn, .slice (some ⟨b, off, none⟩) n cg, .slice so lo co][o]?) ∧ W.cell? ⟨b, off + i * 2, none⟩ = some (.int .i64 g.a) ∧ W.cell? ⟨b, off + i * 2 + 1, none⟩ = some (.int .i64 g.b)) := fun W hW =>
              ⟨(HS.out.below hW).cells.1, (HB1.out _ (HS.out.below hW).kp).1, by obtain ⟨b', off', e', -, z1', z2'⟩ := (HS0.out _ (HB1.out _ (HS.out.below hW).kp).2.2.2.2.2).2.1.gate (Below.refl _ _) hg; cases e'; exact ⟨z1', z2'⟩⟩
            have HOM : Hid (∀ W, Below wr.heap.size wr W → W.ownsRow b2 3 1 (.slice sm (F + i) cm) (F + i) (ints m)) := fun W hW => by have := (HS.out.below hW).m; rwa [show m.length = F + i from HMB.out.1] at this
            have HSG : Hid (∀ W, Below wr.heap.size wr W → W.ownsRow b2 24 2 (.slice sg2 gs.length cg2) gs.length (gcells gs)) := fun W hW => (HS.out.below hW).g
            have HX := Lib.hid (And.intro hx (And.intro hg hsu))
            clear hx hg hsu y1 y2
            cases x
            · have hR : bldP c sh (i + 1) = (gs, m ++ [0]) := by rw [HX.out.2.2]; exact bStep_no HX.out.1
              have HR := Lib.hid hR
              clear hR
              go_wp2_with (at_builtin; refine wpl_app rfl _ _ rfl elem_int (HOM.out _ ((Below.refl _ _).alloc (Nat.le_refl _) _)) rfl rfl rfl (Sl.new _ _ _) (by simp [Value.oneCell']) (F + i + 1) rfl (ints (m ++ [0])) (by rw [← ints_append]; rfl) (by unfold maxLen; omega) (by omega) (Nat.le_trans HS.out.hs ((Below.refl _ _).alloc (Nat.le_refl _) _).size) ?_; intro s6 c6 w6 h6 hb6 hg6 _; have H6 := Lib.hid (BS.pushM (HS.out.below ((Below.refl _ _).alloc (Nat.le_refl _) _)) (m' := m ++ [0]) (by rw [show (m ++ [(0 : Int)]).length = F + i + 1 by simp; exact HMB.out.1]; exact h6) hb6 hg6); clear h6 hb6 hg6)
              go_roundw
              case rel => exact ⟨i + 1, s6, c6, gs, m ++ [0], _, by omega, by go_num, rfl, HR.out, H6.out⟩
              case measure => simp [intOf]; try omega
            · cases sh
              · have hR : bldP c false (i + 1) = (gs ++ [⟨mapB m g.a, mapB m g.b⟩], m ++ [2 * ((F : Int) + gs.length)]) := by rw [HX.out.2.2]; exact bStep_pl HX.out.1
                have HR := Lib.hid hR
                clear hR
                go_upto_region 17 with fail
                refine wp_region_E (fun w' => (∀ o, w'.cell? ⟨B, o, none⟩ = #[Value.int .i64 c.inp, .slice s2 ln c2, .slice sg2 gs.length cg2, .slice none 0 0][o]?) ∧ (∀ o, w'.cell? ⟨A, o, none⟩ = #[Value.int .i64 c.inp, .slice sn ln cn, .slice (some ⟨b, off, none⟩) n cg, .slice so lo co][o]?) ∧ w'.cell? ⟨b, off + i * 2, none⟩ = some (.int .i64 g.a) ∧ w'.cell? ⟨b, off + i * 2 + 1, none⟩ = some (.int .i64 g.b)) 22 (.q 0 (.q 1 (.q 2 (.q 3 (.q 4 (.q 5 (.q 6 (.q 7 (.q 8 (.q 10 (.q 11 (.q 12 (.q 13 (.q 14 (.q 15 (.q 16 (.e 9 (.e 17 (.q 18 (.e 19 (.e 20 (.q 21 (.z 22))))))))))))))))))))))) (by kernel_rfl) (by kernel_rfl) (by kernel_rfl) (by kernel_rfl) (by kernel_rfl) (by kernel_rfl) (HCS.out _ (Below.refl _ _).drew) ?_
                have hd := (Below.refl wr.heap.size wr).drew
                revert hd
                generalize wr.drew = Wd
                intro hd
                have HD := Lib.hid hd
                clear hd cA cb
                repeat (first | (refine orde_s (o := ?_) ?_ ?_ ?_; rotate_left 1; (focus ((simp only [zD, zE, zF]) <;> rfl)); (focus rfl); simp only [Act.put, zA, zB, zC]) | (refine orde_q (o := ?_) (v := ?_) ?_ ?_ ?_ ?_; rotate_left 2; (focus ((simp only [zD, zE, zF]) <;> rfl)); (focus rfl); (focus (intro w' hS; (try dsimp only at hS); go_split_ands; go_simp; (try (with_reducible rfl)))); simp only [Act.put, zA, zB, zC]))
                refine orde_e ?_
                (refine ope_e (o := ?_) ?_ ?_ (fun K hK => ?_); rotate_left 1; (focus ((simp only [zD, zE, zF]) <;> rfl)); (focus rfl); go_simp)
                refine (l3MapM_any _ _ _ m g.a _ HMB.out.1 (own_sl (HOM.out _ HD.out)) a0 (by omega) (by omega) HMB.out.2).mono ?_
                rintro e wz ⟨rfl, rfl⟩
                refine hK.out _ _ (HCS.out _ HD.out) ?_
                clear hK K
                (try simp only [Act.put, zA, zB, zC])
                refine orde_e ?_
                (refine ope_e (o := ?_) ?_ ?_ (fun K hK => ?_); rotate_left 1; (focus ((simp only [zD, zE, zF]) <;> rfl)); (focus rfl); go_simp)
                refine (l3MapM_any _ _ _ m g.b _ HMB.out.1 (own_sl (HOM.out _ HD.out)) b0 (by omega) (by omega) HMB.out.2).mono ?_
                rintro e wz ⟨rfl, rfl⟩
                refine hK.out _ _ (HCS.out _ HD.out) ?_
                clear hK K
                (try simp only [Act.put, zA, zB, zC])
                repeat (first | (refine orde_s (o := ?_) ?_ ?_ ?_; rotate_left 1; (focus ((simp only [zD, zE, zF]) <;> rfl)); (focus rfl); simp only [Act.put, zA, zB, zC]) | (refine orde_q (o := ?_) (v := ?_) ?_ ?_ ?_ ?_; rotate_left 2; (focus ((simp only [zD, zE, zF]) <;> rfl)); (focus rfl); (focus (intro w' hS; (try dsimp only at hS); go_split_ands; go_simp; (try (with_reducible rfl)))); simp only [Act.put, zA, zB, zC]))
                refine orde_e ?_
                (refine ope_e (o := ?_) ?_ ?_ (fun K hK => ?_); rotate_left 1; (focus ((simp only [zD, zE, zF]) <;> rfl)); (focus rfl); go_simp)
                have hb := HD.out.alloc HD.out.size (.cells #[.int .i64 (mapB m g.a), .int .i64 (mapB m g.b)] 24)
                have hs := Sl.new Wd #[.int .i64 (mapB m g.a), .int .i64 (mapB m g.b)] 24
                revert hb hs
                generalize Wd.alloc (.cells #[.int .i64 (mapB m g.a), .int .i64 (mapB m g.b)] 24) = WA
                intro hb hs
                refine hK.out _ _ (HCS.out _ hb) ?_
                clear hK K HD
                have HD := Lib.hid hb
                have HT := Lib.hid hs
                clear hb hs
                (try simp only [Act.put, zA, zB, zC])
                refine orde_e ?_
                (refine ope_e (o := ?_) ?_ ?_ (fun K hK => ?_); rotate_left 1; (focus ((simp only [zD, zE, zF]) <;> rfl)); (focus rfl))
                refine wp_app (.tmp 78) (.tmp 96) rfl elem_gate (HSG.out _ HD.out) rfl rfl (by simp) HT.out (by simp [Value.oneCell']) (gs.length + 1) rfl (gcells (gs ++ [⟨mapB m g.a, mapB m g.b⟩])) (by rw [← gcells_append]; rfl) (by unfold maxLen; omega) (by omega) (Nat.le_trans HS.out.hs HD.out.size) ?_
                intro s7 c7 w7 h7 hb7 hg7 _
                obtain ⟨hk7, hS7⟩ := (HS.out.below HD.out).pushG (gs' := gs ++ [⟨mapB m g.a, mapB m g.b⟩]) (vg' := .slice s7 (gs.length + 1) c7) (by rw [show (gs ++ [(⟨mapB m g.a, mapB m g.b⟩ : Gt)]).length = gs.length + 1 by simp]; exact h7) hb7 hg7
                have hkp7 : Kp B b2 Wb w7 := (HS.out.below HD.out).kp.trans (Kp.of_below hb7)
                have hcs7 : (∀ o, w7.cell? ⟨B, o, none⟩ = #[Value.int .i64 c.inp, .slice s2 ln c2, .slice sg2 gs.length cg2, .slice none 0 0][o]?) ∧ (∀ o, w7.cell? ⟨A, o, none⟩ = #[Value.int .i64 c.inp, .slice sn ln cn, .slice (some ⟨b, off, none⟩) n cg, .slice so lo co][o]?) ∧ w7.cell? ⟨b, off + i * 2, none⟩ = some (.int .i64 g.a) ∧ w7.cell? ⟨b, off + i * 2 + 1, none⟩ = some (.int .i64 g.b) :=
                  ⟨(blk_all hk7).1, (HB1.out _ hkp7).1, by obtain ⟨b', off', e', -, z1', z2'⟩ := (HS0.out _ (HB1.out _ hkp7).2.2.2.2.2).2.1.gate (Below.refl _ _) HX.out.2.1; cases e'; exact ⟨z1', z2'⟩⟩
                refine hK.out _ _ hcs7 ?_
                clear hK K
                have y1 : w7.cell? ⟨B, 2, none⟩ = some (.slice sg2 gs.length cg2) := blk_cell hk7
                have y2 : w7.frozen? ⟨B, 2, none⟩ = false := blk_free hk7
                have HS7 := Lib.hid hS7
                clear hk7 hS7 hkp7 hcs7 h7 hb7 hg7
                (try simp only [Act.put, zA, zB, zC])
                repeat (first | (refine orde_s (o := ?_) ?_ ?_ ?_; rotate_left 1; (focus ((simp only [zD, zE, zF]) <;> rfl)); (focus rfl); simp only [Act.put, zA, zB, zC]) | (refine orde_q (o := ?_) (v := ?_) ?_ ?_ ?_ ?_; rotate_left 2; (focus ((simp only [zD, zE, zF]) <;> rfl)); (focus rfl); (focus (intro w' hS; (try dsimp only at hS); go_split_ands; go_simp; (try (with_reducible rfl)))); simp only [Act.put, zA, zB, zC]))
                (refine orde_z (o := ?_) ?_ ?_ (fun K hK => ?_); rotate_left 1; (focus ((simp only [zD, zE, zF]) <;> rfl)); (focus rfl); go_simp)
                refine hK.out _ _ ?_
                clear hK K y1 y2
                revert HS7
                generalize w7.setCell ⟨B, 2, none⟩ (.slice s7 (gs.length + 1) c7) = W8
                intro HS7
                go_upto_region 18 with fail
                have wa : IntKind.i64.wrap ((F : Int) + ((gs.length : Int) + 1)) = (F : Int) + ((gs.length : Int) + 1) := IntWalk.i64_in _ ⟨by omega, by omega⟩
                have wb : IntKind.i64.wrap ((F : Int) + ((gs.length : Int) + 1) - 1) = (F : Int) + (gs.length : Int) := by rw [IntWalk.i64_in _ ⟨by omega, by omega⟩]; omega
                have wd : IntKind.i64.wrap (2 * ((F : Int) + (gs.length : Int))) = 2 * ((F : Int) + (gs.length : Int)) := IntWalk.i64_in _ ⟨by omega, by omega⟩
                refine wp_region_T (fun w' => ∀ o, w'.cell? ⟨B, o, none⟩ = #[Value.int .i64 c.inp, .slice s2 ln c2, .slice s7 (gs.length + 1) c7, .slice none 0 0][o]?) (.q 0 (.q 2 (.q 3 (.q 4 (.e 1 (.q 5 (.q 6 (.q 7 (.q 8 .nil))))))))) (by kernel_rfl) (by kernel_rfl) (by kernel_rfl) (HS7.out.below (Below.refl _ _).drew).cells.1 ?_
                repeat (first | (refine ordt_s (o := ?_) ?_ ?_ ?_; rotate_left 1; (focus ((simp only [zD, zE, zF]) <;> rfl)); (focus rfl); simp only [Act.put, zA, zB, zC]) | (refine ordt_q (o := ?_) (v := ?_) ?_ ?_ ?_ ?_; rotate_left 2; (focus ((simp only [zD, zE, zF]) <;> rfl)); (focus rfl); (focus (intro w' hS; (try dsimp only at hS); go_split_ands; go_simp; (try (with_reducible rfl)))); simp only [Act.put, zA, zB, zC]))
                refine ordt_e ?_
                (refine op_e (o := ?_) ?_ ?_ (fun K hK => ?_); rotate_left 1; (focus ((simp only [zD, zE, zF]) <;> rfl)); (focus rfl); go_simp)
                refine (l1First_any _ _ _ _ _ _ _ (by omega) (by omega)).mono ?_
                rintro e w9 ⟨rfl, hq⟩
                rw [HFF.out]
                have hS9 := HS7.out.below ((Below.refl _ _).drew.trans hq)
                refine hK.out _ _ hS9.cells.1 ?_
                clear hK K hq
                have HSX := Lib.hid hS9
                clear hS9
                (try simp only [Act.put, zA, zB, zC])
                repeat (first | (refine ordt_s (o := ?_) ?_ ?_ ?_; rotate_left 1; (focus ((simp only [zD, zE, zF]) <;> rfl)); (focus rfl); simp only [Act.put, zA, zB, zC]) | (refine ordt_q (o := ?_) (v := ?_) ?_ ?_ ?_ ?_; rotate_left 2; (focus ((simp only [zD, zE, zF]) <;> rfl)); (focus rfl); (focus (intro w' hS; (try dsimp only at hS); go_split_ands; go_simp; (try (with_reducible rfl)))); simp only [Act.put, zA, zB, zC]))
                refine ordt_nil ?_
                have HOX : Hid (∀ W, Below w9.heap.size w9 W → W.ownsRow b2 3 1 (.slice sm (F + i) cm) (F + i) (ints m)) := fun W hW => by have := (HSX.out.below hW).m; rwa [show m.length = F + i from HMB.out.1] at this
                go_wp2_with (at_builtin; refine wpl_app rfl _ _ rfl elem_int (HOX.out _ ((Below.refl _ _).alloc (Nat.le_refl _) _)) rfl rfl rfl (Sl.new _ _ _) (by simp [Value.oneCell']) (F + i + 1) rfl (ints (m ++ [2 * ((F : Int) + gs.length)])) (by rw [← ints_append]; rfl) (by unfold maxLen; omega) (by omega) (Nat.le_trans HSX.out.hs ((Below.refl _ _).alloc (Nat.le_refl _) _).size) ?_; intro s6 c6 w6 h6 hb6 hg6 _; have H6 := Lib.hid (BS.pushM (HSX.out.below ((Below.refl _ _).alloc (Nat.le_refl _) _)) (m' := m ++ [2 * ((F : Int) + gs.length)]) (by rw [show (m ++ [2 * ((F : Int) + gs.length)]).length = F + i + 1 by simp; exact HMB.out.1]; exact h6) hb6 hg6); clear h6 hb6 hg6)
                go_roundw
                case rel => exact ⟨i + 1, s6, c6, gs ++ [⟨mapB m g.a, mapB m g.b⟩], m ++ [2 * ((F : Int) + gs.length)], .slice s7 (gs.length + 1) c7, by omega, by go_num, rfl, HR.out, H6.out⟩
                case measure => simp [intOf]; try omega
              · obtain ⟨r, hr⟩ : ∃ r, r = andL (F : Int) gs (mapB m g.a) (mapB m g.b) := ⟨_, rfl⟩
                have HRR := Lib.hid hr
                have hR : bldP c true (i + 1) = (r.1, m ++ [r.2]) := by rw [HX.out.2.2, hr]; exact bStep_sh HX.out.1
                have HR := Lib.hid hR
                have hma := HLM.out g.a a0 (by omega)
                have hmb := HLM.out g.b b0 (by omega)
                have hrb : litP r.2 (F + r.1.length) ∧ r.1.length ≤ gs.length + 1 := by
                  rw [hr]
                  have ho := andL_ok (F := (F : Int)) (by omega) HGP.out hma hmb
                  exact ⟨ho.lit, ho.len.2⟩
                have ma0 := hma.1
                have ma1 : mapB m g.a ≤ 300 := by have := hma.2; omega
                have mb0 := hmb.1
                have mb1 : mapB m g.b ≤ 300 := by have := hmb.2; omega
                have r0 : 0 ≤ r.2 := hrb.1.1
                have r1 : r.2 ≤ 300 := by have := hrb.1.2; have := hrb.2; omega
                clear hr hR hma hmb hrb
                go_upto_region 13 with fail
                go_cut [11, 12, 50] from 51 to 70 (fun s11 s12 _ wx => ∃ (Y : Nat) (s3 : Option Addr) (c3 : Nat), s11 = .pointer (some ⟨Y, 0, none⟩) ∧ s12 = .int .i64 r.2 ∧ wx.heap[Y]? = some (.cells #[.int .i64 c.inp, .slice s2 ln c2, (.slice s3 r.1.length c3), .slice none 0 0] 28 (0, 0)) ∧ (((.slice s3 r.1.length c3 : Value) = .slice sg2 gs.length cg2 ∧ r.1 = gs) ∨ wx.ownsRow b2 24 2 (.slice s3 r.1.length c3) r.1.length (gcells r.1)) ∧ Below wr.heap.size wr wx ∧ Y ≠ B)
                case first =>
                  refine wp_region_T (fun w' => (∀ o, w'.cell? ⟨B, o, none⟩ = #[Value.int .i64 c.inp, .slice s2 ln c2, .slice sg2 gs.length cg2, .slice none 0 0][o]?) ∧ (∀ o, w'.cell? ⟨A, o, none⟩ = #[Value.int .i64 c.inp, .slice sn ln cn, .slice (some ⟨b, off, none⟩) n cg, .slice so lo co][o]?) ∧ w'.cell? ⟨b, off + i * 2, none⟩ = some (.int .i64 g.a) ∧ w'.cell? ⟨b, off + i * 2 + 1, none⟩ = some (.int .i64 g.b)) (.q 0 (.q 1 (.q 2 (.q 3 (.q 4 (.q 5 (.q 6 (.q 7 (.q 9 (.q 10 (.q 11 (.q 12 (.q 13 (.q 14 (.q 15 (.two 8 (.two 16 (.two 17 (.q 18 (.q 19 (.q 20 (.e 21 (.e 22 (.q 23 .nil)))))) 21 (.e 17 (.q 18 (.q 19 (.q 20 (.e 22 (.q 23 .nil))))))) 21 (.e 16 (.e 17 (.q 18 (.q 19 (.q 20 (.e 22 (.q 23 .nil)))))))) 21 (.e 8 (.e 16 (.e 17 (.q 18 (.q 19 (.q 20 (.e 22 (.q 23 .nil)))))))))))))))))))))))) (by kernel_rfl) (by kernel_rfl) (by kernel_rfl) (HCS.out _ (Below.refl _ _).drew) ?_
                  have hd := (Below.refl wr.heap.size wr).drew
                  revert hd
                  generalize wr.drew = Wd
                  intro hd
                  have HD := Lib.hid hd
                  clear hd cA cb
                  repeat (first | (refine ordt_s (o := ?_) ?_ ?_ ?_; rotate_left 1; (focus ((simp only [zD, zE, zF]) <;> rfl)); (focus rfl); simp only [Act.put, zA, zB, zC]) | (refine ordt_q (o := ?_) (v := ?_) ?_ ?_ ?_ ?_; rotate_left 2; (focus ((simp only [zD, zE, zF]) <;> rfl)); (focus rfl); (focus (intro w' hS; (try dsimp only at hS); go_split_ands; go_simp; (try (with_reducible rfl)))); simp only [Act.put, zA, zB, zC]))
                  refine ordt_two ?_ ?_
                  · (refine op_e (o := ?_) ?_ ?_ (fun K hK => ?_); rotate_left 1; (focus ((simp only [zD, zE, zF]) <;> rfl)); (focus rfl); go_simp)
                    refine (l3MapM_any _ _ _ m g.a _ HMB.out.1 (own_sl (HOM.out _ HD.out)) a0 (by omega) (by omega) HMB.out.2).mono ?_
                    rintro e wz ⟨rfl, rfl⟩
                    refine hK.out _ _ (HCS.out _ HD.out) ?_
                    clear hK K
                    (try simp only [Act.put, zA, zB, zC])
                    repeat (first | (refine ordt_s (o := ?_) ?_ ?_ ?_; rotate_left 1; (focus ((simp only [zD, zE, zF]) <;> rfl)); (focus rfl); simp only [Act.put, zA, zB, zC]) | (refine ordt_q (o := ?_) (v := ?_) ?_ ?_ ?_ ?_; rotate_left 2; (focus ((simp only [zD, zE, zF]) <;> rfl)); (focus rfl); (focus (intro w' hS; (try dsimp only at hS); go_split_ands; go_simp; (try (with_reducible rfl)))); simp only [Act.put, zA, zB, zC]))
                    refine ordt_two ?_ ?_
                    · (refine op_e (o := ?_) ?_ ?_ (fun K hK => ?_); rotate_left 1; (focus ((simp only [zD, zE, zF]) <;> rfl)); (focus rfl); go_simp)
                      refine (l3MapM_any _ _ _ m g.b _ HMB.out.1 (own_sl (HOM.out _ HD.out)) b0 (by omega) (by omega) HMB.out.2).mono ?_
                      rintro e wz ⟨rfl, rfl⟩
                      refine hK.out _ _ (HCS.out _ HD.out) ?_
                      clear hK K
                      (try simp only [Act.put, zA, zB, zC])
                      repeat (first | (refine ordt_s (o := ?_) ?_ ?_ ?_; rotate_left 1; (focus ((simp only [zD, zE, zF]) <;> rfl)); (focus rfl); simp only [Act.put, zA, zB, zC]) | (refine ordt_q (o := ?_) (v := ?_) ?_ ?_ ?_ ?_; rotate_left 2; (focus ((simp only [zD, zE, zF]) <;> rfl)); (focus rfl); (focus (intro w' hS; (try dsimp only at hS); go_split_ands; go_simp; (try (with_reducible rfl)))); simp only [Act.put, zA, zB, zC]))
                      refine ordt_two ?_ ?_
                      · (refine op_e (o := ?_) ?_ ?_ (fun K hK => ?_); rotate_left 1; (focus ((simp only [zD, zE, zF]) <;> rfl)); (focus rfl); go_simp)
                        refine (l3And_any c.inp s2 sg2 none ln c2 cg2 0 0 gs (mapB m g.a) (mapB m g.b) _ (own_sl (HSG.out _ HD.out)) (by omega) ⟨i0, by omega⟩ (by omega) ⟨ma0, ma1⟩ ⟨mb0, mb1⟩).mono ?_
                        rintro e wn ⟨vg2, rfl, hv2, hq⟩
                        rw [HFF.out, ← HRR.out] at hv2
                        rw [HFF.out, ← HRR.out]
                        obtain ⟨s3, c3, rfl⟩ : ∃ s3 c3, vg2 = .slice s3 r.1.length c3 := by
                          rcases hv2 with ⟨h, e⟩ | h
                          · exact ⟨_, _, by rw [e]; exact h⟩
                          · exact own_shape h
                        have hv3 : ((.slice s3 r.1.length c3 : Value) = .slice sg2 gs.length cg2 ∧ r.1 = gs) ∨ wn.ownsRow b2 24 2 (.slice s3 r.1.length c3) r.1.length (gcells r.1) := hv2.imp id (fun h => own_base h (Nat.le_trans HS.out.hs HD.out.size))
                        have hb := HD.out.trans (hq.mono HD.out.size)
                        refine hK.out _ _ (HCS.out _ hb) ?_
                        clear hK K
                        clear HD
                        have HD := Lib.hid hb
                        have HV2 := Lib.hid hv3
                        clear hb hv2 hv3 hq
                        (try simp only [Act.put, zA, zB, zC])
                        repeat (first | (refine ordt_s (o := ?_) ?_ ?_ ?_; rotate_left 1; (focus ((simp only [zD, zE, zF]) <;> rfl)); (focus rfl); simp only [Act.put, zA, zB, zC]) | (refine ordt_q (o := ?_) (v := ?_) ?_ ?_ ?_ ?_; rotate_left 2; (focus ((simp only [zD, zE, zF]) <;> rfl)); (focus rfl); (focus (intro w' hS; (try dsimp only at hS); go_split_ands; go_simp; (try (with_reducible rfl)))); simp only [Act.put, zA, zB, zC]))
                        refine ordt_e ?_
                        (refine op_e (o := ?_) ?_ ?_ (fun K hK => ?_); rotate_left 1; (focus ((simp only [zD, zE, zF]) <;> rfl)); (focus rfl); go_simp)
                        have hb := HD.out.alloc HD.out.size (.cells #[.int .i64 0, .slice none 0 0, .slice none 0 0, .slice none 0 0] 28)
                        have hk := blk_new wn (.cells #[.int .i64 0, .slice none 0 0, .slice none 0 0, .slice none 0 0] 28)
                        have hs := HD.out.size
                        have hyb : wn.heap.size ≠ B := by have := blk_lt (HS.out.below HD.out).blk; omega
                        have hv3 := HV2.out.imp id (fun h => own_below h (belowA wn (.cells #[.int .i64 0, .slice none 0 0, .slice none 0 0, .slice none 0 0] 28)))
                        obtain ⟨Y, hY⟩ : ∃ Y, Y = wn.heap.size := ⟨_, rfl⟩
                        rw [← hY] at hk hs hyb
                        rw [← hY]
                        clear hY
                        revert hb hk hv3
                        generalize wn.alloc (.cells #[.int .i64 0, .slice none 0 0, .slice none 0 0, .slice none 0 0] 28) = WA
                        intro hb hv3 hk
                        refine hK.out _ _ (HCS.out _ hb) ?_
                        clear hK K HD
                        have HD := Lib.hid hb
                        have HY := Lib.hid (And.intro hk (And.intro hs hyb))
                        have HV2 := Lib.hid hv3
                        clear hv3
                        clear hb hk hs hyb
                        (try simp only [Act.put, zA, zB, zC])
                        repeat (first | (refine ordt_s (o := ?_) ?_ ?_ ?_; rotate_left 1; (focus ((simp only [zD, zE, zF]) <;> rfl)); (focus rfl); simp only [Act.put, zA, zB, zC]) | (refine ordt_q (o := ?_) (v := ?_) ?_ ?_ ?_ ?_; rotate_left 2; (focus ((simp only [zD, zE, zF]) <;> rfl)); (focus rfl); (focus (intro w' hS; (try dsimp only at hS); go_split_ands; go_simp; (try (with_reducible rfl)))); simp only [Act.put, zA, zB, zC]))
                        refine ordt_e ?_
                        obtain ⟨rc, rf⟩ := blk_all HY.out.1
                        (refine op_e (o := ?_) ?_ ?_ (fun K hK => ?_); rotate_left 1; (focus ((simp only [zD, zE, zF]) <;> rfl)); (focus rfl); go_simp)
                        have hZ : ((((WA.setCell ⟨Y, 0, none⟩ (.int .i64 c.inp)).setCell ⟨Y, 1, none⟩ (.slice s2 ln c2)).setCell ⟨Y, 2, none⟩ (.slice s3 r.1.length c3)).setCell ⟨Y, 3, none⟩ (.slice none 0 0)).heap[Y]? = some (.cells #[.int .i64 c.inp, .slice s2 ln c2, (.slice s3 r.1.length c3), .slice none 0 0] 28 (0, 0)) := by
                          simpa using blk_set (o := 3) (v := .slice none 0 0) (blk_set (o := 2) (v := (.slice s3 r.1.length c3)) (blk_set (o := 1) (v := .slice s2 ln c2) (blk_set (o := 0) (v := .int .i64 c.inp) HY.out.1)))
                        have hO := HV2.out.imp id (fun h => have hne := own_tyb h HY.out.1 (by decide); own_set_ne (own_set_ne (own_set_ne (own_set_ne (o := 0) h hne (.int .i64 c.inp)) (o := 1) hne (.slice s2 ln c2)) (o := 2) hne (.slice s3 r.1.length c3)) (o := 3) hne (.slice none 0 0))
                        have hbz := ((((HD.out).setCell (p := ⟨Y, 0, none⟩) HY.out.2.1 (.int .i64 c.inp)).setCell (p := ⟨Y, 1, none⟩) HY.out.2.1 (.slice s2 ln c2)).setCell (p := ⟨Y, 2, none⟩) HY.out.2.1 (.slice s3 r.1.length c3)).setCell (p := ⟨Y, 3, none⟩) HY.out.2.1 (.slice none 0 0)
                        clear rc rf
                        revert hZ hO hbz
                        generalize ((((WA.setCell ⟨Y, 0, none⟩ (.int .i64 c.inp)).setCell ⟨Y, 1, none⟩ (.slice s2 ln c2)).setCell ⟨Y, 2, none⟩ (.slice s3 r.1.length c3)).setCell ⟨Y, 3, none⟩ (.slice none 0 0)) = WZ
                        intro hZ hO hbz
                        refine hK.out _ _ (HCS.out _ hbz) ?_
                        clear hK K
                        (try simp only [Act.put, zA, zB, zC])
                        repeat (first | (refine ordt_s (o := ?_) ?_ ?_ ?_; rotate_left 1; (focus ((simp only [zD, zE, zF]) <;> rfl)); (focus rfl); simp only [Act.put, zA, zB, zC]) | (refine ordt_q (o := ?_) (v := ?_) ?_ ?_ ?_ ?_; rotate_left 2; (focus ((simp only [zD, zE, zF]) <;> rfl)); (focus rfl); (focus (intro w' hS; (try dsimp only at hS); go_split_ands; go_simp; (try (with_reducible rfl)))); simp only [Act.put, zA, zB, zC]))
                        refine ordt_nil ?_
                        go_wp2_with fail
                        go_meet
                        exact ⟨Y, s3, c3, rfl, rfl, hZ, hO, hbz, HY.out.2.2⟩
                      · (refine op_e (o := ?_) ?_ ?_ (fun K hK => ?_); rotate_left 1; (focus ((simp only [zD, zE, zF]) <;> rfl)); (focus rfl); go_simp)
                        have hb := HD.out.alloc HD.out.size (.cells #[.int .i64 0, .slice none 0 0, .slice none 0 0, .slice none 0 0] 28)
                        have hk := blk_new Wd (.cells #[.int .i64 0, .slice none 0 0, .slice none 0 0, .slice none 0 0] 28)
                        have hs := HD.out.size
                        have hyb : Wd.heap.size ≠ B := by have := blk_lt (HS.out.below HD.out).blk; omega
                        obtain ⟨Y, hY⟩ : ∃ Y, Y = Wd.heap.size := ⟨_, rfl⟩
                        rw [← hY] at hk hs hyb
                        rw [← hY]
                        clear hY
                        revert hb hk
                        generalize Wd.alloc (.cells #[.int .i64 0, .slice none 0 0, .slice none 0 0, .slice none 0 0] 28) = WA
                        intro hb hk
                        refine hK.out _ _ (HCS.out _ hb) ?_
                        clear hK K HD
                        have HD := Lib.hid hb
                        have HY := Lib.hid (And.intro hk (And.intro hs hyb))
                        clear hb hk hs hyb
                        (try simp only [Act.put, zA, zB, zC])
                        repeat (first | (refine ordt_s (o := ?_) ?_ ?_ ?_; rotate_left 1; (focus ((simp only [zD, zE, zF]) <;> rfl)); (focus rfl); simp only [Act.put, zA, zB, zC]) | (refine ordt_q (o := ?_) (v := ?_) ?_ ?_ ?_ ?_; rotate_left 2; (focus ((simp only [zD, zE, zF]) <;> rfl)); (focus rfl); (focus (intro w' hS; (try dsimp only at hS); go_split_ands; go_simp; (try (with_reducible rfl)))); simp only [Act.put, zA, zB, zC]))
                        refine ordt_e ?_
                        (refine op_e (o := ?_) ?_ ?_ (fun K hK => ?_); rotate_left 1; (focus ((simp only [zD, zE, zF]) <;> rfl)); (focus rfl); go_simp)
                        refine (l3And_any c.inp s2 sg2 none ln c2 cg2 0 0 gs (mapB m g.a) (mapB m g.b) _ (own_sl (HSG.out _ HD.out)) (by omega) ⟨i0, by omega⟩ (by omega) ⟨ma0, ma1⟩ ⟨mb0, mb1⟩).mono ?_
                        rintro e wn ⟨vg2, rfl, hv2, hq⟩
                        rw [HFF.out, ← HRR.out] at hv2
                        rw [HFF.out, ← HRR.out]
                        obtain ⟨s3, c3, rfl⟩ : ∃ s3 c3, vg2 = .slice s3 r.1.length c3 := by
                          rcases hv2 with ⟨h, e⟩ | h
                          · exact ⟨_, _, by rw [e]; exact h⟩
                          · exact own_shape h
                        have hv3 : ((.slice s3 r.1.length c3 : Value) = .slice sg2 gs.length cg2 ∧ r.1 = gs) ∨ wn.ownsRow b2 24 2 (.slice s3 r.1.length c3) r.1.length (gcells r.1) := hv2.imp id (fun h => own_base h (Nat.le_trans HS.out.hs HD.out.size))
                        have hb := HD.out.trans (hq.mono HD.out.size)
                        refine hK.out _ _ (HCS.out _ hb) ?_
                        clear hK K
                        have HY := Lib.hid (And.intro (blk_below hq (blk_lt HY.out.1) HY.out.1) HY.out.2)
                        clear HD
                        have HD := Lib.hid hb
                        have HV2 := Lib.hid hv3
                        clear hb hv2 hv3 hq
                        (try simp only [Act.put, zA, zB, zC])
                        repeat (first | (refine ordt_s (o := ?_) ?_ ?_ ?_; rotate_left 1; (focus ((simp only [zD, zE, zF]) <;> rfl)); (focus rfl); simp only [Act.put, zA, zB, zC]) | (refine ordt_q (o := ?_) (v := ?_) ?_ ?_ ?_ ?_; rotate_left 2; (focus ((simp only [zD, zE, zF]) <;> rfl)); (focus rfl); (focus (intro w' hS; (try dsimp only at hS); go_split_ands; go_simp; (try (with_reducible rfl)))); simp only [Act.put, zA, zB, zC]))
                        refine ordt_e ?_
                        obtain ⟨rc, rf⟩ := blk_all HY.out.1
                        (refine op_e (o := ?_) ?_ ?_ (fun K hK => ?_); rotate_left 1; (focus ((simp only [zD, zE, zF]) <;> rfl)); (focus rfl); go_simp)
                        have hZ : ((((wn.setCell ⟨Y, 0, none⟩ (.int .i64 c.inp)).setCell ⟨Y, 1, none⟩ (.slice s2 ln c2)).setCell ⟨Y, 2, none⟩ (.slice s3 r.1.length c3)).setCell ⟨Y, 3, none⟩ (.slice none 0 0)).heap[Y]? = some (.cells #[.int .i64 c.inp, .slice s2 ln c2, (.slice s3 r.1.length c3), .slice none 0 0] 28 (0, 0)) := by
                          simpa using blk_set (o := 3) (v := .slice none 0 0) (blk_set (o := 2) (v := (.slice s3 r.1.length c3)) (blk_set (o := 1) (v := .slice s2 ln c2) (blk_set (o := 0) (v := .int .i64 c.inp) HY.out.1)))
                        have hO := HV2.out.imp id (fun h => have hne := own_tyb h HY.out.1 (by decide); own_set_ne (own_set_ne (own_set_ne (own_set_ne (o := 0) h hne (.int .i64 c.inp)) (o := 1) hne (.slice s2 ln c2)) (o := 2) hne (.slice s3 r.1.length c3)) (o := 3) hne (.slice none 0 0))
                        have hbz := ((((HD.out).setCell (p := ⟨Y, 0, none⟩) HY.out.2.1 (.int .i64 c.inp)).setCell (p := ⟨Y, 1, none⟩) HY.out.2.1 (.slice s2 ln c2)).setCell (p := ⟨Y, 2, none⟩) HY.out.2.1 (.slice s3 r.1.length c3)).setCell (p := ⟨Y, 3, none⟩) HY.out.2.1 (.slice none 0 0)
                        clear rc rf
                        revert hZ hO hbz
                        generalize ((((wn.setCell ⟨Y, 0, none⟩ (.int .i64 c.inp)).setCell ⟨Y, 1, none⟩ (.slice s2 ln c2)).setCell ⟨Y, 2, none⟩ (.slice s3 r.1.length c3)).setCell ⟨Y, 3, none⟩ (.slice none 0 0)) = WZ
                        intro hZ hO hbz
                        refine hK.out _ _ (HCS.out _ hbz) ?_
                        clear hK K
                        (try simp only [Act.put, zA, zB, zC])
                        repeat (first | (refine ordt_s (o := ?_) ?_ ?_ ?_; rotate_left 1; (focus ((simp only [zD, zE, zF]) <;> rfl)); (focus rfl); simp only [Act.put, zA, zB, zC]) | (refine ordt_q (o := ?_) (v := ?_) ?_ ?_ ?_ ?_; rotate_left 2; (focus ((simp only [zD, zE, zF]) <;> rfl)); (focus rfl); (focus (intro w' hS; (try dsimp only at hS); go_split_ands; go_simp; (try (with_reducible rfl)))); simp only [Act.put, zA, zB, zC]))
                        refine ordt_nil ?_
                        go_wp2_with fail
                        go_meet
                        exact ⟨Y, s3, c3, rfl, rfl, hZ, hO, hbz, HY.out.2.2⟩
                    · (refine op_e (o := ?_) ?_ ?_ (fun K hK => ?_); rotate_left 1; (focus ((simp only [zD, zE, zF]) <;> rfl)); (focus rfl); go_simp)
                      have hb := HD.out.alloc HD.out.size (.cells #[.int .i64 0, .slice none 0 0, .slice none 0 0, .slice none 0 0] 28)
                      have hk := blk_new Wd (.cells #[.int .i64 0, .slice none 0 0, .slice none 0 0, .slice none 0 0] 28)
                      have hs := HD.out.size
                      have hyb : Wd.heap.size ≠ B := by have := blk_lt (HS.out.below HD.out).blk; omega
                      obtain ⟨Y, hY⟩ : ∃ Y, Y = Wd.heap.size := ⟨_, rfl⟩
                      rw [← hY] at hk hs hyb
                      rw [← hY]
                      clear hY
                      revert hb hk
                      generalize Wd.alloc (.cells #[.int .i64 0, .slice none 0 0, .slice none 0 0, .slice none 0 0] 28) = WA
                      intro hb hk
                      refine hK.out _ _ (HCS.out _ hb) ?_
                      clear hK K HD
                      have HD := Lib.hid hb
                      have HY := Lib.hid (And.intro hk (And.intro hs hyb))
                      clear hb hk hs hyb
                      (try simp only [Act.put, zA, zB, zC])
                      repeat (first | (refine ordt_s (o := ?_) ?_ ?_ ?_; rotate_left 1; (focus ((simp only [zD, zE, zF]) <;> rfl)); (focus rfl); simp only [Act.put, zA, zB, zC]) | (refine ordt_q (o := ?_) (v := ?_) ?_ ?_ ?_ ?_; rotate_left 2; (focus ((simp only [zD, zE, zF]) <;> rfl)); (focus rfl); (focus (intro w' hS; (try dsimp only at hS); go_split_ands; go_simp; (try (with_reducible rfl)))); simp only [Act.put, zA, zB, zC]))
                      refine ordt_e ?_
                      (refine op_e (o := ?_) ?_ ?_ (fun K hK => ?_); rotate_left 1; (focus ((simp only [zD, zE, zF]) <;> rfl)); (focus rfl); go_simp)
                      refine (l3MapM_any _ _ _ m g.b _ HMB.out.1 (own_sl (HOM.out _ HD.out)) b0 (by omega) (by omega) HMB.out.2).mono ?_
                      rintro e wz ⟨rfl, rfl⟩
                      refine hK.out _ _ (HCS.out _ HD.out) ?_
                      clear hK K
                      (try simp only [Act.put, zA, zB, zC])
                      repeat (first | (refine ordt_s (o := ?_) ?_ ?_ ?_; rotate_left 1; (focus ((simp only [zD, zE, zF]) <;> rfl)); (focus rfl); simp only [Act.put, zA, zB, zC]) | (refine ordt_q (o := ?_) (v := ?_) ?_ ?_ ?_ ?_; rotate_left 2; (focus ((simp only [zD, zE, zF]) <;> rfl)); (focus rfl); (focus (intro w' hS; (try dsimp only at hS); go_split_ands; go_simp; (try (with_reducible rfl)))); simp only [Act.put, zA, zB, zC]))
                      refine ordt_e ?_
                      (refine op_e (o := ?_) ?_ ?_ (fun K hK => ?_); rotate_left 1; (focus ((simp only [zD, zE, zF]) <;> rfl)); (focus rfl); go_simp)
                      refine (l3And_any c.inp s2 sg2 none ln c2 cg2 0 0 gs (mapB m g.a) (mapB m g.b) _ (own_sl (HSG.out _ HD.out)) (by omega) ⟨i0, by omega⟩ (by omega) ⟨ma0, ma1⟩ ⟨mb0, mb1⟩).mono ?_
                      rintro e wn ⟨vg2, rfl, hv2, hq⟩
                      rw [HFF.out, ← HRR.out] at hv2
                      rw [HFF.out, ← HRR.out]
                      obtain ⟨s3, c3, rfl⟩ : ∃ s3 c3, vg2 = .slice s3 r.1.length c3 := by
                        rcases hv2 with ⟨h, e⟩ | h
                        · exact ⟨_, _, by rw [e]; exact h⟩
                        · exact own_shape h
                      have hv3 : ((.slice s3 r.1.length c3 : Value) = .slice sg2 gs.length cg2 ∧ r.1 = gs) ∨ wn.ownsRow b2 24 2 (.slice s3 r.1.length c3) r.1.length (gcells r.1) := hv2.imp id (fun h => own_base h (Nat.le_trans HS.out.hs HD.out.size))
                      have hb := HD.out.trans (hq.mono HD.out.size)
                      refine hK.out _ _ (HCS.out _ hb) ?_
                      clear hK K
                      have HY := Lib.hid (And.intro (blk_below hq (blk_lt HY.out.1) HY.out.1) HY.out.2)
                      clear HD
                      have HD := Lib.hid hb
                      have HV2 := Lib.hid hv3
                      clear hb hv2 hv3 hq
                      (try simp only [Act.put, zA, zB, zC])
                      repeat (first | (refine ordt_s (o := ?_) ?_ ?_ ?_; rotate_left 1; (focus ((simp only [zD, zE, zF]) <;> rfl)); (focus rfl); simp only [Act.put, zA, zB, zC]) | (refine ordt_q (o := ?_) (v := ?_) ?_ ?_ ?_ ?_; rotate_left 2; (focus ((simp only [zD, zE, zF]) <;> rfl)); (focus rfl); (focus (intro w' hS; (try dsimp only at hS); go_split_ands; go_simp; (try (with_reducible rfl)))); simp only [Act.put, zA, zB, zC]))
                      refine ordt_e ?_
                      obtain ⟨rc, rf⟩ := blk_all HY.out.1
                      (refine op_e (o := ?_) ?_ ?_ (fun K hK => ?_); rotate_left 1; (focus ((simp only [zD, zE, zF]) <;> rfl)); (focus rfl); go_simp)
                      have hZ : ((((wn.setCell ⟨Y, 0, none⟩ (.int .i64 c.inp)).setCell ⟨Y, 1, none⟩ (.slice s2 ln c2)).setCell ⟨Y, 2, none⟩ (.slice s3 r.1.length c3)).setCell ⟨Y, 3, none⟩ (.slice none 0 0)).heap[Y]? = some (.cells #[.int .i64 c.inp, .slice s2 ln c2, (.slice s3 r.1.length c3), .slice none 0 0] 28 (0, 0)) := by
                        simpa using blk_set (o := 3) (v := .slice none 0 0) (blk_set (o := 2) (v := (.slice s3 r.1.length c3)) (blk_set (o := 1) (v := .slice s2 ln c2) (blk_set (o := 0) (v := .int .i64 c.inp) HY.out.1)))
                      have hO := HV2.out.imp id (fun h => have hne := own_tyb h HY.out.1 (by decide); own_set_ne (own_set_ne (own_set_ne (own_set_ne (o := 0) h hne (.int .i64 c.inp)) (o := 1) hne (.slice s2 ln c2)) (o := 2) hne (.slice s3 r.1.length c3)) (o := 3) hne (.slice none 0 0))
                      have hbz := ((((HD.out).setCell (p := ⟨Y, 0, none⟩) HY.out.2.1 (.int .i64 c.inp)).setCell (p := ⟨Y, 1, none⟩) HY.out.2.1 (.slice s2 ln c2)).setCell (p := ⟨Y, 2, none⟩) HY.out.2.1 (.slice s3 r.1.length c3)).setCell (p := ⟨Y, 3, none⟩) HY.out.2.1 (.slice none 0 0)
                      clear rc rf
                      revert hZ hO hbz
                      generalize ((((wn.setCell ⟨Y, 0, none⟩ (.int .i64 c.inp)).setCell ⟨Y, 1, none⟩ (.slice s2 ln c2)).setCell ⟨Y, 2, none⟩ (.slice s3 r.1.length c3)).setCell ⟨Y, 3, none⟩ (.slice none 0 0)) = WZ
                      intro hZ hO hbz
                      refine hK.out _ _ (HCS.out _ hbz) ?_
                      clear hK K
                      (try simp only [Act.put, zA, zB, zC])
                      repeat (first | (refine ordt_s (o := ?_) ?_ ?_ ?_; rotate_left 1; (focus ((simp only [zD, zE, zF]) <;> rfl)); (focus rfl); simp only [Act.put, zA, zB, zC]) | (refine ordt_q (o := ?_) (v := ?_) ?_ ?_ ?_ ?_; rotate_left 2; (focus ((simp only [zD, zE, zF]) <;> rfl)); (focus rfl); (focus (intro w' hS; (try dsimp only at hS); go_split_ands; go_simp; (try (with_reducible rfl)))); simp only [Act.put, zA, zB, zC]))
                      refine ordt_nil ?_
                      go_wp2_with fail
                      go_meet
                      exact ⟨Y, s3, c3, rfl, rfl, hZ, hO, hbz, HY.out.2.2⟩
                  · (refine op_e (o := ?_) ?_ ?_ (fun K hK => ?_); rotate_left 1; (focus ((simp only [zD, zE, zF]) <;> rfl)); (focus rfl); go_simp)
                    have hb := HD.out.alloc HD.out.size (.cells #[.int .i64 0, .slice none 0 0, .slice none 0 0, .slice none 0 0] 28)
                    have hk := blk_new Wd (.cells #[.int .i64 0, .slice none 0 0, .slice none 0 0, .slice none 0 0] 28)
                    have hs := HD.out.size
                    have hyb : Wd.heap.size ≠ B := by have := blk_lt (HS.out.below HD.out).blk; omega
                    obtain ⟨Y, hY⟩ : ∃ Y, Y = Wd.heap.size := ⟨_, rfl⟩
                    rw [← hY] at hk hs hyb
                    rw [← hY]
                    clear hY
                    revert hb hk
                    generalize Wd.alloc (.cells #[.int .i64 0, .slice none 0 0, .slice none 0 0, .slice none 0 0] 28) = WA
                    intro hb hk
                    refine hK.out _ _ (HCS.out _ hb) ?_
                    clear hK K HD
                    have HD := Lib.hid hb
                    have HY := Lib.hid (And.intro hk (And.intro hs hyb))
                    clear hb hk hs hyb
                    (try simp only [Act.put, zA, zB, zC])
                    repeat (first | (refine ordt_s (o := ?_) ?_ ?_ ?_; rotate_left 1; (focus ((simp only [zD, zE, zF]) <;> rfl)); (focus rfl); simp only [Act.put, zA, zB, zC]) | (refine ordt_q (o := ?_) (v := ?_) ?_ ?_ ?_ ?_; rotate_left 2; (focus ((simp only [zD, zE, zF]) <;> rfl)); (focus rfl); (focus (intro w' hS; (try dsimp only at hS); go_split_ands; go_simp; (try (with_reducible rfl)))); simp only [Act.put, zA, zB, zC]))
                    refine ordt_e ?_
                    (refine op_e (o := ?_) ?_ ?_ (fun K hK => ?_); rotate_left 1; (focus ((simp only [zD, zE, zF]) <;> rfl)); (focus rfl); go_simp)
                    refine (l3MapM_any _ _ _ m g.a _ HMB.out.1 (own_sl (HOM.out _ HD.out)) a0 (by omega) (by omega) HMB.out.2).mono ?_
                    rintro e wz ⟨rfl, rfl⟩
                    refine hK.out _ _ (HCS.out _ HD.out) ?_
                    clear hK K
                    (try simp only [Act.put, zA, zB, zC])
                    repeat (first | (refine ordt_s (o := ?_) ?_ ?_ ?_; rotate_left 1; (focus ((simp only [zD, zE, zF]) <;> rfl)); (focus rfl); simp only [Act.put, zA, zB, zC]) | (refine ordt_q (o := ?_) (v := ?_) ?_ ?_ ?_ ?_; rotate_left 2; (focus ((simp only [zD, zE, zF]) <;> rfl)); (focus rfl); (focus (intro w' hS; (try dsimp only at hS); go_split_ands; go_simp; (try (with_reducible rfl)))); simp only [Act.put, zA, zB, zC]))
                    refine ordt_e ?_
                    (refine op_e (o := ?_) ?_ ?_ (fun K hK => ?_); rotate_left 1; (focus ((simp only [zD, zE, zF]) <;> rfl)); (focus rfl); go_simp)
                    refine (l3MapM_any _ _ _ m g.b _ HMB.out.1 (own_sl (HOM.out _ HD.out)) b0 (by omega) (by omega) HMB.out.2).mono ?_
                    rintro e wz ⟨rfl, rfl⟩
                    refine hK.out _ _ (HCS.out _ HD.out) ?_
                    clear hK K
                    (try simp only [Act.put, zA, zB, zC])
                    repeat (first | (refine ordt_s (o := ?_) ?_ ?_ ?_; rotate_left 1; (focus ((simp only [zD, zE, zF]) <;> rfl)); (focus rfl); simp only [Act.put, zA, zB, zC]) | (refine ordt_q (o := ?_) (v := ?_) ?_ ?_ ?_ ?_; rotate_left 2; (focus ((simp only [zD, zE, zF]) <;> rfl)); (focus rfl); (focus (intro w' hS; (try dsimp only at hS); go_split_ands; go_simp; (try (with_reducible rfl)))); simp only [Act.put, zA, zB, zC]))
                    refine ordt_e ?_
                    (refine op_e (o := ?_) ?_ ?_ (fun K hK => ?_); rotate_left 1; (focus ((simp only [zD, zE, zF]) <;> rfl)); (focus rfl); go_simp)
                    refine (l3And_any c.inp s2 sg2 none ln c2 cg2 0 0 gs (mapB m g.a) (mapB m g.b) _ (own_sl (HSG.out _ HD.out)) (by omega) ⟨i0, by omega⟩ (by omega) ⟨ma0, ma1⟩ ⟨mb0, mb1⟩).mono ?_
                    rintro e wn ⟨vg2, rfl, hv2, hq⟩
                    rw [HFF.out, ← HRR.out] at hv2
                    rw [HFF.out, ← HRR.out]
                    obtain ⟨s3, c3, rfl⟩ : ∃ s3 c3, vg2 = .slice s3 r.1.length c3 := by
                      rcases hv2 with ⟨h, e⟩ | h
                      · exact ⟨_, _, by rw [e]; exact h⟩
                      · exact own_shape h
                    have hv3 : ((.slice s3 r.1.length c3 : Value) = .slice sg2 gs.length cg2 ∧ r.1 = gs) ∨ wn.ownsRow b2 24 2 (.slice s3 r.1.length c3) r.1.length (gcells r.1) := hv2.imp id (fun h => own_base h (Nat.le_trans HS.out.hs HD.out.size))
                    have hb := HD.out.trans (hq.mono HD.out.size)
                    refine hK.out _ _ (HCS.out _ hb) ?_
                    clear hK K
                    have HY := Lib.hid (And.intro (blk_below hq (blk_lt HY.out.1) HY.out.1) HY.out.2)
                    clear HD
                    have HD := Lib.hid hb
                    have HV2 := Lib.hid hv3
                    clear hb hv2 hv3 hq
                    (try simp only [Act.put, zA, zB, zC])
                    repeat (first | (refine ordt_s (o := ?_) ?_ ?_ ?_; rotate_left 1; (focus ((simp only [zD, zE, zF]) <;> rfl)); (focus rfl); simp only [Act.put, zA, zB, zC]) | (refine ordt_q (o := ?_) (v := ?_) ?_ ?_ ?_ ?_; rotate_left 2; (focus ((simp only [zD, zE, zF]) <;> rfl)); (focus rfl); (focus (intro w' hS; (try dsimp only at hS); go_split_ands; go_simp; (try (with_reducible rfl)))); simp only [Act.put, zA, zB, zC]))
                    refine ordt_e ?_
                    obtain ⟨rc, rf⟩ := blk_all HY.out.1
                    (refine op_e (o := ?_) ?_ ?_ (fun K hK => ?_); rotate_left 1; (focus ((simp only [zD, zE, zF]) <;> rfl)); (focus rfl); go_simp)
                    have hZ : ((((wn.setCell ⟨Y, 0, none⟩ (.int .i64 c.inp)).setCell ⟨Y, 1, none⟩ (.slice s2 ln c2)).setCell ⟨Y, 2, none⟩ (.slice s3 r.1.length c3)).setCell ⟨Y, 3, none⟩ (.slice none 0 0)).heap[Y]? = some (.cells #[.int .i64 c.inp, .slice s2 ln c2, (.slice s3 r.1.length c3), .slice none 0 0] 28 (0, 0)) := by
                      simpa using blk_set (o := 3) (v := .slice none 0 0) (blk_set (o := 2) (v := (.slice s3 r.1.length c3)) (blk_set (o := 1) (v := .slice s2 ln c2) (blk_set (o := 0) (v := .int .i64 c.inp) HY.out.1)))
                    have hO := HV2.out.imp id (fun h => have hne := own_tyb h HY.out.1 (by decide); own_set_ne (own_set_ne (own_set_ne (own_set_ne (o := 0) h hne (.int .i64 c.inp)) (o := 1) hne (.slice s2 ln c2)) (o := 2) hne (.slice s3 r.1.length c3)) (o := 3) hne (.slice none 0 0))
                    have hbz := ((((HD.out).setCell (p := ⟨Y, 0, none⟩) HY.out.2.1 (.int .i64 c.inp)).setCell (p := ⟨Y, 1, none⟩) HY.out.2.1 (.slice s2 ln c2)).setCell (p := ⟨Y, 2, none⟩) HY.out.2.1 (.slice s3 r.1.length c3)).setCell (p := ⟨Y, 3, none⟩) HY.out.2.1 (.slice none 0 0)
                    clear rc rf
                    revert hZ hO hbz
                    generalize ((((wn.setCell ⟨Y, 0, none⟩ (.int .i64 c.inp)).setCell ⟨Y, 1, none⟩ (.slice s2 ln c2)).setCell ⟨Y, 2, none⟩ (.slice s3 r.1.length c3)).setCell ⟨Y, 3, none⟩ (.slice none 0 0)) = WZ
                    intro hZ hO hbz
                    refine hK.out _ _ (HCS.out _ hbz) ?_
                    clear hK K
                    (try simp only [Act.put, zA, zB, zC])
                    repeat (first | (refine ordt_s (o := ?_) ?_ ?_ ?_; rotate_left 1; (focus ((simp only [zD, zE, zF]) <;> rfl)); (focus rfl); simp only [Act.put, zA, zB, zC]) | (refine ordt_q (o := ?_) (v := ?_) ?_ ?_ ?_ ?_; rotate_left 2; (focus ((simp only [zD, zE, zF]) <;> rfl)); (focus rfl); (focus (intro w' hS; (try dsimp only at hS); go_split_ands; go_simp; (try (with_reducible rfl)))); simp only [Act.put, zA, zB, zC]))
                    refine ordt_nil ?_
                    go_wp2_with fail
                    go_meet
                    exact ⟨Y, s3, c3, rfl, rfl, hZ, hO, hbz, HY.out.2.2⟩
                case rest =>
                  obtain ⟨Y, s3, c3, rfl, rfl, hY, hv2, hb, hYB⟩ := hcut
                  have hS2 := HS.out.below hb
                  have hG : wc.ownsRow b2 24 2 (.slice s3 r.1.length c3) r.1.length (gcells r.1) := by
                    rcases hv2 with ⟨h, e⟩ | h
                    · rw [h, e]; exact hS2.g
                    · exact h
                  have hset := hS2.setAll hG
                  obtain ⟨rc, rf⟩ := hS2.cells
                  have cY := (blk_all hY).1
                  clear cA cb hY hv2 hb hS2 hG hYB
                  go_upto_region 15 with fail
                  clear rc rf cY
                  revert hset
                  generalize ((((wc.setCell ⟨B, 0, none⟩ (.int .i64 c.inp)).setCell ⟨B, 1, none⟩ (.slice s2 ln c2)).setCell ⟨B, 2, none⟩ (.slice s3 r.1.length c3)).setCell ⟨B, 3, none⟩ (.slice none 0 0)) = WX
                  intro hset
                  have HSX := Lib.hid hset
                  clear hset
                  have HOX : Hid (∀ W, Below WX.heap.size WX W → W.ownsRow b2 3 1 (.slice sm (F + i) cm) (F + i) (ints m)) := fun W hW => by have := (HSX.out.below hW).m; rwa [show m.length = F + i from HMB.out.1] at this
                  go_wp2_with (at_builtin; refine wpl_app rfl _ _ rfl elem_int (HOX.out _ ((Below.refl _ _).alloc (Nat.le_refl _) _)) rfl rfl rfl (Sl.new _ _ _) (by simp [Value.oneCell']) (F + i + 1) rfl (ints (m ++ [r.2])) (by rw [← ints_append]; rfl) (by unfold maxLen; omega) (by omega) (Nat.le_trans HSX.out.hs ((Below.refl _ _).alloc (Nat.le_refl _) _).size) ?_; intro s6 c6 w6 h6 hb6 hg6 _; have H6 := Lib.hid (BS.pushM (HSX.out.below ((Below.refl _ _).alloc (Nat.le_refl _) _)) (m' := m ++ [r.2]) (by rw [show (m ++ [r.2]).length = F + i + 1 by simp; exact HMB.out.1]; exact h6) hb6 hg6); clear h6 hb6 hg6)
                  go_roundw
                  case rel => exact ⟨i + 1, s6, c6, r.1, m ++ [r.2], (.slice s3 r.1.length c3), by omega, by go_num, rfl, HR.out, H6.out⟩
                  case measure => simp [intOf]; try omega
          · obtain rfl : n = i := by omega
            obtain ⟨wl, rfl⟩ : ∃ wl, wl = wr := ⟨_, rfl⟩
            have hb2' : W0.heap.size ≤ b2 := by have h1 := H1.out.2.size; have h2 := HC.out.2.2.2; omega
            have hB' : W0.heap.size ≤ B := Nat.le_trans H1.out.2.size HC.out.2.2.2
            have hNS : NS W0 B W0.heap.size c.inp c.next (.slice s2 ln c2) gs (.slice sg2 gs.length cg2) [] (.slice none 0 0) m (.slice sm (F + n) cm) wl :=
              ⟨⟨HS.out.blk, HS.out.n, own_base HS.out.g hb2', World.ownsRow_nil _ _ _ _, fun k _ h => by simp [Value.ownBlock] at h⟩, own_base HS.out.m hb2', fun k hk h => by have h1 := (own_blk HS.out.m hk).1; have h2 := HS.out.hn k h; omega, fun k _ h => by simp [Value.ownBlock] at h, (HB1.out _ HS.out.kp).2.2.2.1, hB', Nat.le_trans hb2' HS.out.hs⟩
            obtain ⟨f, hf⟩ : ∃ f, f = mapB m := ⟨_, rfl⟩
            have hbc : buildC sh c = ⟨c.inp, c.next.map f, gs, c.outs.map f⟩ := by
              have e : bldP c sh c.gates.length = (gs, m) := by rw [← HN.out.1]; exact HST.out
              unfold buildC; rw [e, hf]
            have HNS := Lib.hid (And.intro hNS (And.intro hbc hf))
            clear hNS hbc hf hb2' hB'
            go_upto_region 21 with fail
            clear cA cb
            go_loopw [13] (fun s13 wr => ∃ k : Nat, k ≤ ln ∧ s13 = .int .i64 k ∧ NS W0 B W0.heap.size c.inp ((c.next.take k).map f ++ c.next.drop k) (.slice s2 ln c2) gs (.slice sg2 gs.length cg2) [] (.slice none 0 0) m (.slice sm (F + n) cm) wr) (fun s13 _ => ln - (intOf s13).toNat)
            case atStart => exact ⟨0, Nat.zero_le _, rfl, by simpa using HNS.out.1⟩
            case round =>
              obtain ⟨k, hk, rfl, hN⟩ := hrel
              have hlen : ((c.next.take k).map f ++ c.next.drop k).length = ln := by have := HN.out.2.1; simp; omega
              have HX := Lib.hid (And.intro hN hlen)
              clear hN hlen
              have cA := (HB.out _ HX.out.1.bel).1
              have cb := (blk_all HX.out.1.out.blk).1
              by_cases hlt2 : k < ln
              · obtain ⟨x, hx⟩ := get_of_lt (l := c.next) (k := k) (by rw [← HN.out.2.1]; exact hlt2)
                obtain ⟨x0, x1⟩ := HLT.out x (.inl (List.mem_of_getElem? hx))
                obtain ⟨b, off, rfl, hbw, y1⟩ := (HS0.out _ (HB.out _ HX.out.1.bel).2.2.2).1.int (Below.refl _ _) hx
                have hno : wr.ownsRow W0.heap.size 3 1 (.slice s2 ln c2) ln (ints ((c.next.take k).map f ++ c.next.drop k)) := by have := HX.out.1.out.n; rwa [HX.out.2] at this
                obtain ⟨gn, rfl⟩ : ∃ g, s2 = some ⟨g, 0, none⟩ := by
                  rcases own_some hno with ⟨_, e, _⟩ | ⟨g, e⟩
                  · omega
                  · exact ⟨g, e⟩
                obtain ⟨z, hz⟩ := get_of_lt (l := (c.next.take k).map f ++ c.next.drop k) (k := k) (by rw [HX.out.2]; exact hlt2)
                have hsn := map_set (f := f) hx
                have HY := Lib.hid (And.intro hno (And.intro hz (And.intro hsn hx)))
                clear hno hz hsn hx
                have HCS : Hid (∀ W, Below wr.heap.size wr W → (∀ o, W.cell? ⟨B, o, none⟩ = #[Value.int .i64 c.inp, .slice (some ⟨gn, 0, none⟩) ln c2, .slice sg2 gs.length cg2, .slice none 0 0][o]?) ∧ (∀ o, W.cell? ⟨A, o, none⟩ = #[Value.int .i64 c.inp, .slice (some ⟨b, off, none⟩) ln cn, .slice sg n cg, .slice so lo co][o]?) ∧ W.cell? ⟨b, off + k, none⟩ = some (.int .i64 x)) := fun W hW =>
                  ⟨(blk_all (HX.out.1.below hW).out.blk).1, (HB.out _ (HX.out.1.below hW).bel).1, by obtain ⟨b', off', e', -, z1'⟩ := (HS0.out _ (HB.out _ (HX.out.1.below hW).bel).2.2.2).1.int (Below.refl _ _) HY.out.2.2.2; cases e'; exact z1'⟩
                go_upto_region 23 with fail
                refine wp_region_E (fun w' => (∀ o, w'.cell? ⟨B, o, none⟩ = #[Value.int .i64 c.inp, .slice (some ⟨gn, 0, none⟩) ln c2, .slice sg2 gs.length cg2, .slice none 0 0][o]?) ∧ (∀ o, w'.cell? ⟨A, o, none⟩ = #[Value.int .i64 c.inp, .slice (some ⟨b, off, none⟩) ln cn, .slice sg n cg, .slice so lo co][o]?) ∧ w'.cell? ⟨b, off + k, none⟩ = some (.int .i64 x)) 11 (.q 0 (.q 1 (.q 2 (.q 3 (.q 4 (.q 5 (.q 6 (.q 7 (.q 8 (.e 9 (.q 10 (.z 11)))))))))))) (by kernel_rfl) (by kernel_rfl) (by kernel_rfl) (by kernel_rfl) (by kernel_rfl) (by kernel_rfl) (HCS.out _ (Below.refl _ _).drew) ?_
                have hd := (Below.refl wr.heap.size wr).drew
                revert hd
                generalize wr.drew = Wd
                intro hd
                have HD := Lib.hid hd
                clear hd cA cb y1
                repeat (first | (refine orde_s (o := ?_) ?_ ?_ ?_; rotate_left 1; (focus ((simp only [zD, zE, zF]) <;> rfl)); (focus rfl); simp only [Act.put, zA, zB, zC]) | (refine orde_q (o := ?_) (v := ?_) ?_ ?_ ?_ ?_; rotate_left 2; (focus ((simp only [zD, zE, zF]) <;> rfl)); (focus rfl); (focus (intro w' hS; (try dsimp only at hS); go_split_ands; go_simp; (try (with_reducible rfl)))); simp only [Act.put, zA, zB, zC]))
                refine orde_e ?_
                (refine ope_e (o := ?_) ?_ ?_ (fun K hK => ?_); rotate_left 1; (focus ((simp only [zD, zE, zF]) <;> rfl)); (focus rfl); go_simp)
                refine (l3MapM_any _ _ _ m x _ HMB.out.1 (own_sl (show Wd.ownsRow W0.heap.size 3 1 (.slice sm (F + n) cm) (F + n) (ints m) by have := (HX.out.1.below HD.out).m; rwa [show m.length = F + n from HMB.out.1] at this)) x0 (by omega) (by omega) HMB.out.2).mono ?_
                rintro e wz ⟨rfl, rfl⟩
                rw [← HNS.out.2.2]
                refine hK.out _ _ (HCS.out _ HD.out) ?_
                clear hK K
                (try simp only [Act.put, zA, zB, zC])
                repeat (first | (refine orde_s (o := ?_) ?_ ?_ ?_; rotate_left 1; (focus ((simp only [zD, zE, zF]) <;> rfl)); (focus rfl); simp only [Act.put, zA, zB, zC]) | (refine orde_q (o := ?_) (v := ?_) ?_ ?_ ?_ ?_; rotate_left 2; (focus ((simp only [zD, zE, zF]) <;> rfl)); (focus rfl); (focus (intro w' hS; (try dsimp only at hS); go_split_ands; go_simp; (try (with_reducible rfl)))); simp only [Act.put, zA, zB, zC]))
                have q1 : Wd.cell? ⟨gn, k, none⟩ = some (.int .i64 z) := ((own_below HY.out.1 HD.out).cellAt k (by omega)).trans (ints_get HY.out.2.1)
                have q2 : Wd.frozen? ⟨gn, k, none⟩ = false := (own_below HY.out.1 HD.out).frozenAt k
                (refine orde_z (o := ?_) ?_ ?_ (fun K hK => ?_); rotate_left 1; (focus ((simp only [zD, zE, zF]) <;> rfl)); (focus rfl); go_simp)
                refine hK.out _ _ ?_
                clear hK K q1 q2
                have hset := NS.setN (j := k) (y := f x) HX.out.2 (HX.out.1.below HD.out)
                rw [HY.out.2.2.1] at hset
                revert hset
                generalize Wd.setCell ⟨gn, k, none⟩ (.int .i64 (f x)) = W9
                intro hset
                have H9 := Lib.hid hset
                clear hset
                go_wp2_with fail
                go_roundw
                case rel => exact ⟨k + 1, by omega, by go_num, H9.out⟩
                case measure => simp [intOf]; try omega
              · obtain rfl : ln = k := by omega
                have hN2 : NS W0 B W0.heap.size c.inp (c.next.map f) (.slice s2 ln c2) gs (.slice sg2 gs.length cg2) ((c.outs.take 0).map f) (.slice none 0 0) m (.slice sm (F + n) cm) wr := by
                  have := HX.out.1
                  rw [List.take_of_length_le (by rw [← HN.out.2.1]; exact Nat.le_refl _), List.drop_of_length_le (by rw [← HN.out.2.1]; exact Nat.le_refl _), List.append_nil] at this
                  simpa using this
                have HN2 := Lib.hid hN2
                clear hN2
                go_upto_region 25 with fail
                clear cA cb
                go_loopw [14] (fun s14 wr => ∃ (k : Nat) (so2 : Option Addr) (co2 : Nat), k ≤ lo ∧ s14 = .int .i64 k ∧ NS W0 B W0.heap.size c.inp (c.next.map f) (.slice s2 ln c2) gs (.slice sg2 gs.length cg2) ((c.outs.take k).map f) (.slice so2 k co2) m (.slice sm (F + n) cm) wr) (fun s14 _ => lo - (intOf s14).toNat)
                case atStart => exact ⟨0, _, _, Nat.zero_le _, rfl, HN2.out⟩
                case round =>
                  clear HX HN2
                  obtain ⟨k, so2, co2, hk, rfl, hN⟩ := hrel
                  have hlen : ((c.outs.take k).map f).length = k := by have := HN.out.2.2; simp; omega
                  have HX := Lib.hid (And.intro hN hlen)
                  clear hN hlen
                  have cA := (HB.out _ HX.out.1.bel).1
                  have cb := (blk_all HX.out.1.out.blk).1
                  by_cases hlt2 : k < lo
                  · obtain ⟨x, hx⟩ := get_of_lt (l := c.outs) (k := k) (by rw [← HN.out.2.2]; exact hlt2)
                    obtain ⟨x0, x1⟩ := HLT.out x (.inr (List.mem_of_getElem? hx))
                    obtain ⟨b, off, rfl, hbw, y1⟩ := (HS0.out _ (HB.out _ HX.out.1.bel).2.2.2).2.2.int (Below.refl _ _) hx
                    have hsn : (c.outs.take (k + 1)).map f = (c.outs.take k).map f ++ [f x] := by rw [List.take_add_one, hx]; simp
                    have HY := Lib.hid (And.intro hsn hx)
                    clear hsn hx
                    have HCS : Hid (∀ W, Below wr.heap.size wr W → (∀ o, W.cell? ⟨B, o, none⟩ = #[Value.int .i64 c.inp, .slice s2 ln c2, .slice sg2 gs.length cg2, .slice so2 k co2][o]?) ∧ (∀ o, W.cell? ⟨A, o, none⟩ = #[Value.int .i64 c.inp, .slice sn ln cn, .slice sg n cg, .slice (some ⟨b, off, none⟩) lo co][o]?) ∧ W.cell? ⟨b, off + k, none⟩ = some (.int .i64 x)) := fun W hW =>
                      ⟨(blk_all (HX.out.1.below hW).out.blk).1, (HB.out _ (HX.out.1.below hW).bel).1, by obtain ⟨b', off', e', -, z1'⟩ := (HS0.out _ (HB.out _ (HX.out.1.below hW).bel).2.2.2).2.2.int (Below.refl _ _) HY.out.2; cases e'; exact z1'⟩
                    go_upto_region 27 with fail
                    refine wp_region_E (fun w' => (∀ o, w'.cell? ⟨B, o, none⟩ = #[Value.int .i64 c.inp, .slice s2 ln c2, .slice sg2 gs.length cg2, .slice so2 k co2][o]?) ∧ (∀ o, w'.cell? ⟨A, o, none⟩ = #[Value.int .i64 c.inp, .slice sn ln cn, .slice sg n cg, .slice (some ⟨b, off, none⟩) lo co][o]?) ∧ w'.cell? ⟨b, off + k, none⟩ = some (.int .i64 x)) 12 (.q 0 (.q 1 (.q 2 (.q 3 (.q 4 (.q 5 (.q 6 (.q 7 (.e 8 (.e 9 (.e 10 (.q 11 (.z 12))))))))))))) (by kernel_rfl) (by kernel_rfl) (by kernel_rfl) (by kernel_rfl) (by kernel_rfl) (by kernel_rfl) (HCS.out _ (Below.refl _ _).drew) ?_
                    have hd := (Below.refl wr.heap.size wr).drew
                    revert hd
                    generalize wr.drew = Wd
                    intro hd
                    have HD := Lib.hid hd
                    clear hd cA cb y1
                    repeat (first | (refine orde_s (o := ?_) ?_ ?_ ?_; rotate_left 1; (focus ((simp only [zD, zE, zF]) <;> rfl)); (focus rfl); simp only [Act.put, zA, zB, zC]) | (refine orde_q (o := ?_) (v := ?_) ?_ ?_ ?_ ?_; rotate_left 2; (focus ((simp only [zD, zE, zF]) <;> rfl)); (focus rfl); (focus (intro w' hS; (try dsimp only at hS); go_split_ands; go_simp; (try (with_reducible rfl)))); simp only [Act.put, zA, zB, zC]))
                    refine orde_e ?_
                    (refine ope_e (o := ?_) ?_ ?_ (fun K hK => ?_); rotate_left 1; (focus ((simp only [zD, zE, zF]) <;> rfl)); (focus rfl); go_simp)
                    refine (l3MapM_any _ _ _ m x _ HMB.out.1 (own_sl (show Wd.ownsRow W0.heap.size 3 1 (.slice sm (F + n) cm) (F + n) (ints m) by have := (HX.out.1.below HD.out).m; rwa [show m.length = F + n from HMB.out.1] at this)) x0 (by omega) (by omega) HMB.out.2).mono ?_
                    rintro e wz ⟨rfl, rfl⟩
                    rw [← HNS.out.2.2]
                    refine hK.out _ _ (HCS.out _ HD.out) ?_
                    clear hK K
                    (try simp only [Act.put, zA, zB, zC])
                    repeat (first | (refine orde_s (o := ?_) ?_ ?_ ?_; rotate_left 1; (focus ((simp only [zD, zE, zF]) <;> rfl)); (focus rfl); simp only [Act.put, zA, zB, zC]) | (refine orde_q (o := ?_) (v := ?_) ?_ ?_ ?_ ?_; rotate_left 2; (focus ((simp only [zD, zE, zF]) <;> rfl)); (focus rfl); (focus (intro w' hS; (try dsimp only at hS); go_split_ands; go_simp; (try (with_reducible rfl)))); simp only [Act.put, zA, zB, zC]))
                    refine orde_e ?_
                    (refine ope_e (o := ?_) ?_ ?_ (fun K hK => ?_); rotate_left 1; (focus ((simp only [zD, zE, zF]) <;> rfl)); (focus rfl); go_simp)
                    have hb := HD.out.alloc HD.out.size (.cells #[.int .i64 (f x)] 3)
                    have hs := Sl.new Wd #[.int .i64 (f x)] 3
                    revert hb hs
                    generalize Wd.alloc (.cells #[.int .i64 (f x)] 3) = WA
                    intro hb hs
                    refine hK.out _ _ (HCS.out _ hb) ?_
                    clear hK K HD
                    have HD := Lib.hid hb
                    have HT := Lib.hid hs
                    clear hb hs
                    (try simp only [Act.put, zA, zB, zC])
                    refine orde_e ?_
                    (refine ope_e (o := ?_) ?_ ?_ (fun K hK => ?_); rotate_left 1; (focus ((simp only [zD, zE, zF]) <;> rfl)); (focus rfl))
                    have hout := (HX.out.1.below HD.out).out.o
                    rw [HX.out.2] at hout
                    refine wp_app (.tmp 137) (.tmp 145) rfl elem_int hout rfl rfl (by simp) HT.out (by simp [Value.oneCell']) (k + 1) rfl (ints ((c.outs.take (k + 1)).map f)) (by rw [HY.out.1, ← ints_append]; rfl) (by unfold maxLen; omega) (by omega) (HX.out.1.below HD.out).hs ?_
                    intro s7 c7 w7 h7 hb7 hg7 hob7
                    obtain ⟨hk7, hS7⟩ := (HX.out.1.below HD.out).pushO (xo' := (c.outs.take (k + 1)).map f) (vo' := .slice s7 (k + 1) c7) hg7 (by rw [show ((c.outs.take (k + 1)).map f).length = k + 1 by have := HN.out.2.2; simp; omega]; exact h7) hob7 hb7
                    have hbel7 : Below W0.heap.size W0 w7 := (HX.out.1.below HD.out).bel.trans hb7
                    refine hK.out _ _ ⟨(blk_all hk7).1, (HB.out _ hbel7).1, by obtain ⟨b', off', e', -, z1'⟩ := (HS0.out _ (HB.out _ hbel7).2.2.2).2.2.int (Below.refl _ _) HY.out.2; cases e'; exact z1'⟩ ?_
                    clear hK K hout
                    have y1 : w7.cell? ⟨B, 3, none⟩ = some (.slice so2 k co2) := blk_cell hk7
                    have y2 : w7.frozen? ⟨B, 3, none⟩ = false := blk_free hk7
                    have HS7 := Lib.hid hS7
                    clear hk7 hS7 hbel7 h7 hb7 hg7 hob7
                    (try simp only [Act.put, zA, zB, zC])
                    repeat (first | (refine orde_s (o := ?_) ?_ ?_ ?_; rotate_left 1; (focus ((simp only [zD, zE, zF]) <;> rfl)); (focus rfl); simp only [Act.put, zA, zB, zC]) | (refine orde_q (o := ?_) (v := ?_) ?_ ?_ ?_ ?_; rotate_left 2; (focus ((simp only [zD, zE, zF]) <;> rfl)); (focus rfl); (focus (intro w' hS; (try dsimp only at hS); go_split_ands; go_simp; (try (with_reducible rfl)))); simp only [Act.put, zA, zB, zC]))
                    (refine orde_z (o := ?_) ?_ ?_ (fun K hK => ?_); rotate_left 1; (focus ((simp only [zD, zE, zF]) <;> rfl)); (focus rfl); go_simp)
                    refine hK.out _ _ ?_
                    clear hK K y1 y2
                    revert HS7
                    generalize w7.setCell ⟨B, 3, none⟩ (.slice s7 (k + 1) c7) = W8
                    intro HS7
                    go_wp2_with fail
                    go_roundw
                    case rel => exact ⟨k + 1, s7, c7, by omega, by go_num, HS7.out⟩
                    case measure => simp [intOf]; try omega
                  · obtain rfl : lo = k := by omega
                    obtain ⟨rc, rf⟩ := blk_all (HB.out _ HX.out.1.bel).2.1
                    go_wp2_with fail
                    have hR := (HB.out _ HX.out.1.bel).2.1
                    have hbw := (HB.out _ HX.out.1.bel).2.2.2
                    have hcir : CirOwn wr W0.heap.size (buildC sh c) (.slice s2 ln c2) (.slice sg2 gs.length cg2) (.slice so2 lo co2) := by
                      rw [HNS.out.2.1]
                      have ho := HX.out.1.out.o
                      rw [List.take_of_length_le (by rw [← HN.out.2.2]; exact Nat.le_refl _)] at ho
                      exact ⟨HX.out.1.out.n, HX.out.1.out.g, ho, HX.out.1.out.ne, by have := HN.out.2.1; simp; omega, by show gs.length ≤ _; omega, by have := HN.out.2.2; simp; omega⟩
                    have hA2 : w.heap.size = A := HW.out.2.1.symm
                    have hz2 := HW.out.2.2
                    have hZ : ((((wr.setCell ⟨A + 1, 0, none⟩ (.int .i64 c.inp)).setCell ⟨A + 1, 1, none⟩ (.slice s2 ln c2)).setCell ⟨A + 1, 2, none⟩ (.slice sg2 gs.length cg2)).setCell ⟨A + 1, 3, none⟩ (.slice so2 lo co2)).heap[A + 1]? = some (.cells #[.int .i64 c.inp, .slice s2 ln c2, .slice sg2 gs.length cg2, .slice so2 lo co2] 28 (0, 0)) := by
                      simpa using blk_set (o := 3) (v := .slice so2 lo co2) (blk_set (o := 2) (v := .slice sg2 gs.length cg2) (blk_set (o := 1) (v := .slice s2 ln c2) (blk_set (o := 0) (v := .int .i64 c.inp) hR)))
                    have hO := hcir.sets4 (r := A + 1) (by omega) (base := w.heap.size) (by omega) (a := .int .i64 c.inp) (b' := .slice s2 ln c2) (c' := .slice sg2 gs.length cg2) (d := .slice so2 lo co2)
                    have hbz := (((hbw.setCell (p := ⟨A + 1, 0, none⟩) (by simp; omega) (.int .i64 c.inp)).setCell (p := ⟨A + 1, 1, none⟩) (by simp; omega) (.slice s2 ln c2)).setCell (p := ⟨A + 1, 2, none⟩) (by simp; omega) (.slice sg2 gs.length cg2)).setCell (p := ⟨A + 1, 3, none⟩) (by simp; omega) (.slice so2 lo co2)
                    clear rc rf
                    revert hZ hO hbz
                    generalize ((((wr.setCell ⟨A + 1, 0, none⟩ (.int .i64 c.inp)).setCell ⟨A + 1, 1, none⟩ (.slice s2 ln c2)).setCell ⟨A + 1, 2, none⟩ (.slice sg2 gs.length cg2)).setCell ⟨A + 1, 3, none⟩ (.slice so2 lo co2)) = WZ
                    intro hZ hO hbz
                    have cr := (blk_all hZ).1
                    exact bodyPost_ret (v := .agg #[.int .i64 c.inp, .slice s2 ln c2, .slice sg2 gs.length cg2, .slice so2 lo co2]) (by simp [results, Try.results48, go_sem, cr]) rfl ⟨_, _, _, rfl, hO, hbz⟩

end Go.Proofs.Ytjecchljhdfjdaa
