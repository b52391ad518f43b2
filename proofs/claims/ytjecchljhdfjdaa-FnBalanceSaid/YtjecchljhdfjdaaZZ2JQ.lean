import Derived.Test.YtjecchljhdfjdaaZZ2JP
import Derived.Test.YtjecchljhdfjdaaZZ2Q5
namespace Go.Proofs.Ytjecchljhdfjdaa
set_option linter.unusedVariables false
set_option linter.unusedSimpArgs false
open Go.RowKit

/-! Part of the proof of one law. -/

theorem cirOwn_below {w w' : World} {base : Nat} {r : Cir} {vn vg vo : Value} (h : CirOwn w base r vn vg vo) (hb : Below w.heap.size w w') : CirOwn w' base r vn vg vo :=
  ⟨own_below h.n hb, own_below h.g hb, own_below h.o hb, h.ne, h.l1, h.l2, h.l3⟩

theorem cirOwn_low {w : World} {base b2 : Nat} {r : Cir} {vn vg vo : Value} (h : CirOwn w base r vn vg vo) (hb : b2 ≤ base) : CirOwn w b2 r vn vg vo :=
  ⟨own_base h.n hb, own_base h.g hb, own_base h.o hb, h.ne, h.l1, h.l2, h.l3⟩

theorem ordt_eS {P : Program} {ops : Array Oper} {Q : Exit → Act → World → Prop} {S : World → Prop} {i : Nat} {r : OT} {o : Oper} {a : Act} {w : World} (ho : ops[i]? = some o) (hw : Region.wanted o (yielded ops a.tmps) = false) (hS : S w)
    (h : wpT P ops Q S r (a.put o.dst undef) w) : wpT P ops Q S (.e i r) a w := by
  show wpOp _ _ _ _ _ _ _
  unfold wpOp
  simp only [ho, hw, Bool.false_eq_true, if_false]
  exact ⟨hS, h⟩

theorem not3 {a b c : Prop} (h1 : ¬ a) (h2 : ¬ b) (h3 : ¬ c) : ¬ (a ∨ b ∨ c) := fun h => h.elim h1 (fun h => h.elim h2 h3)

theorem balR_is {d c E : Cir} (hd : d.validB = true) (hc : c = optC d) (hE : E = optC (balC c)) : balR d = if E.validB = false ∨ depC c < depC E ∨ (depC E = depC c ∧ c.gates.length < E.gates.length) then c else E := by
  subst hc hE
  unfold balR
  rw [if_pos hd]

theorem vg_shape {w : World} {base : Nat} {r gs : List Gt} {vg2 : Value} {sg : Option Addr} {cg : Nat} (h : (vg2 = .slice sg gs.length cg ∧ r = gs) ∨ w.ownsRow base 24 2 vg2 r.length (gcells r)) : ∃ s c, vg2 = .slice s r.length c := by
  rcases h with ⟨h, e⟩ | h
  · exact ⟨_, _, by rw [e]; exact h⟩
  · exact own_shape h

set_option maxRecDepth 100000 in
set_option maxHeartbeats 12800000 in
theorem Balance_sn (v : Value) (c : Cir) (w : World) (h : CirV w v c) (hv : c.validB = false) :
    Calls Try.prog 13 #[v] w fun e w' => ∃ vn vg vo, e = .returned (.agg #[.int .i64 (balR c).inp, vn, vg, vo]) ∧ CirOwn w' w.heap.size (balR c) vn vg vo ∧ Below w.heap.size w w' := by
  have HG := Lib.hid h
  obtain ⟨sn, cn, sg, cg, so, co, rfl, -, -, -, -, -, -⟩ := h
  obtain ⟨W0, hW0⟩ : ∃ W0, W0 = (w.alloc (.cells #[.int .i64 c.inp, .slice sn c.next.length cn, .slice sg c.gates.length cg, .slice so c.outs.length co] 28)).alloc (.cells #[.int .i64 0, .slice none 0 0, .slice none 0 0, .slice none 0 0] 28) := ⟨_, rfl⟩
  obtain ⟨A, hA⟩ : ∃ A, A = w.heap.size := ⟨_, rfl⟩
  have z1 : W0.heap.size = A + 2 := by rw [hW0, hA]; simp
  have z2 : W0.heap[A]? = some (.cells #[.int .i64 c.inp, .slice sn c.next.length cn, .slice sg c.gates.length cg, .slice so c.outs.length co] 28 (0, 0)) := by rw [hW0, hA]; exact blk_old (blk_new w _)
  have z3 : W0.heap[A + 1]? = some (.cells #[.int .i64 0, .slice none 0 0, .slice none 0 0, .slice none 0 0] 28 (0, 0)) := by rw [hW0, hA]; exact blk_at (by simp)
  have z4 : Below w.heap.size w W0 := by rw [hW0]; exact ((Below.refl _ _).alloc (Nat.le_refl _) _).alloc (by simp) _
  have HW := Lib.hid (And.intro hW0 (And.intro hA z1))
  have HB : Hid (∀ W, Below W0.heap.size W0 W → (∀ o, W.cell? ⟨A, o, none⟩ = #[Value.int .i64 c.inp, .slice sn c.next.length cn, .slice sg c.gates.length cg, .slice so c.outs.length co][o]?) ∧ W.heap[A + 1]? = some (.cells #[.int .i64 0, .slice none 0 0, .slice none 0 0, .slice none 0 0] 28 (0, 0)) ∧ CirV W (.agg #[.int .i64 c.inp, .slice sn c.next.length cn, .slice sg c.gates.length cg, .slice so c.outs.length co]) c ∧ Below w.heap.size w W) := fun W hW => ⟨(blk_all (blk_below hW (by omega) z2)).1, blk_below hW (by omega) z3, HG.out.mono (z4.trans (hW.mono z4.size)), z4.trans (hW.mono z4.size)⟩
  clear hW0 hA z1 z2 z3 z4
  rw [balR_no hv]
  have HV := Lib.hid hv
  clear hv
  go_enter Try.func13, Try.ntmps13
  go_upto_region 1 with fail
  rw [← HW.out.1, ← HW.out.2.1]
  have cb := (HB.out _ (Below.refl _ _)).1
  go_upto_region 2 with (go_at_call 20; ((with_reducible refine (CircuitValid_s _ c _ (HB.out _ (Below.refl _ _)).2.2.1).mono ?_); rintro e w1 ⟨rfl, hq⟩; rw [HV.out]; have H1 := Lib.hid hq; clear hq cb; obtain ⟨rc, rf⟩ := blk_all (HB.out _ H1.out).2.1))
  go_wp2_with fail
  have hZ : ((((w1.setCell ⟨A + 1, 0, none⟩ (.int .i64 0)).setCell ⟨A + 1, 1, none⟩ (.slice none 0 0)).setCell ⟨A + 1, 2, none⟩ (.slice none 0 0)).setCell ⟨A + 1, 3, none⟩ (.slice none 0 0)).heap[A + 1]? = some (.cells #[.int .i64 0, .slice none 0 0, .slice none 0 0, .slice none 0 0] 28 (0, 0)) := by
    simpa using blk_set (o := 3) (v := .slice none 0 0) (blk_set (o := 2) (v := .slice none 0 0) (blk_set (o := 1) (v := .slice none 0 0) (blk_set (o := 0) (v := .int .i64 0) (HB.out _ H1.out).2.1)))
  have hA2 := HW.out.2.1
  have hbz := ((((HB.out _ H1.out).2.2.2.setCell (p := ⟨A + 1, 0, none⟩) (by simp; omega) (.int .i64 0)).setCell (p := ⟨A + 1, 1, none⟩) (by simp; omega) (.slice none 0 0)).setCell (p := ⟨A + 1, 2, none⟩) (by simp; omega) (.slice none 0 0)).setCell (p := ⟨A + 1, 3, none⟩) (by simp; omega) (.slice none 0 0)
  clear rc rf
  revert hZ hbz
  generalize ((((w1.setCell ⟨A + 1, 0, none⟩ (.int .i64 0)).setCell ⟨A + 1, 1, none⟩ (.slice none 0 0)).setCell ⟨A + 1, 2, none⟩ (.slice none 0 0)).setCell ⟨A + 1, 3, none⟩ (.slice none 0 0)) = WZ
  intro hZ hbz
  have cr := (blk_all hZ).1
  exact bodyPost_ret (v := .agg #[.int .i64 0, .slice none 0 0, .slice none 0 0, .slice none 0 0]) (by simp [results, Try.results13, go_sem, cr]) rfl ⟨_, _, _, rfl, ⟨World.ownsRow_nil _ _ _ _, World.ownsRow_nil _ _ _ _, World.ownsRow_nil _ _ _ _, fun k h => by simp [Value.ownBlock] at h, by simp, by simp, by simp⟩, hbz⟩

set_option maxRecDepth 100000 in
set_option maxHeartbeats 12800000 in
theorem Balance_sv (v : Value) (d : Cir) (w : World) (h : CirV w v d) (hd : d.validB = true) :
    Calls Try.prog 13 #[v] w fun e w' => ∃ vn vg vo, e = .returned (.agg #[.int .i64 (balR d).inp, vn, vg, vo]) ∧ CirOwn w' w.heap.size (balR d) vn vg vo ∧ Below w.heap.size w w' := by
  have HG := Lib.hid h
  obtain ⟨sn0, cn0, sg0, cg0, so0, co0, rfl, -, -, -, -, -, -⟩ := h
  obtain ⟨W00, hW00⟩ : ∃ W00, W00 = (w.alloc (.cells #[Value.int .i64 d.inp, .slice sn0 d.next.length cn0, .slice sg0 d.gates.length cg0, .slice so0 d.outs.length co0] 28)).alloc (.cells #[.int .i64 0, .slice none 0 0, .slice none 0 0, .slice none 0 0] 28) := ⟨_, rfl⟩
  obtain ⟨D0, hD0⟩ : ∃ D0, D0 = w.heap.size := ⟨_, rfl⟩
  have z1 : W00.heap.size = D0 + 2 := by rw [hW00, hD0]; simp
  have z2 : W00.heap[D0]? = some (.cells #[Value.int .i64 d.inp, .slice sn0 d.next.length cn0, .slice sg0 d.gates.length cg0, .slice so0 d.outs.length co0] 28 (0, 0)) := by rw [hW00, hD0]; exact blk_old (blk_new w _)
  have z3 : W00.heap[D0 + 1]? = some (.cells #[.int .i64 0, .slice none 0 0, .slice none 0 0, .slice none 0 0] 28 (0, 0)) := by rw [hW00, hD0]; exact blk_at (by simp)
  have z4 : Below w.heap.size w W00 := by rw [hW00]; exact ((Below.refl _ _).alloc (Nat.le_refl _) _).alloc (by simp) _
  have HW := Lib.hid (And.intro hW00 (And.intro hD0 z1))
  have HB0 : Hid (∀ W, Below W00.heap.size W00 W → (∀ o, W.cell? ⟨D0, o, none⟩ = #[Value.int .i64 d.inp, .slice sn0 d.next.length cn0, .slice sg0 d.gates.length cg0, .slice so0 d.outs.length co0][o]?) ∧ W.heap[D0 + 1]? = some (.cells #[.int .i64 0, .slice none 0 0, .slice none 0 0, .slice none 0 0] 28 (0, 0)) ∧ CirV W (.agg #[Value.int .i64 d.inp, .slice sn0 d.next.length cn0, .slice sg0 d.gates.length cg0, .slice so0 d.outs.length co0]) d ∧ Below w.heap.size w W) := fun W hW => ⟨(blk_all (blk_below hW (by omega) z2)).1, blk_below hW (by omega) z3, HG.out.mono (z4.trans (hW.mono z4.size)), z4.trans (hW.mono z4.size)⟩
  clear hW00 hD0 z1 z2 z3 z4
  obtain ⟨c, hc⟩ : ∃ c, c = optC d := ⟨_, rfl⟩
  have hvd := d.validB_iff.1 hd
  have hv : c.valid := by rw [hc]; exact optC_valid hvd
  have eo : optR d = c := by rw [optR_yes hd, hc]
  have HV := Lib.hid hv
  have HD0 := Lib.hid (And.intro hd (And.intro hc eo))
  obtain ⟨i0, i1, n3, g14, o3⟩ := id hv.lim
  clear hd hvd hv hc eo
  go_enter Try.func13, Try.ntmps13
  go_upto_region 1 with fail
  rw [← HW.out.1, ← HW.out.2.1]
  have cb := (HB0.out _ (Below.refl _ _)).1
  go_upto_region 4 with (first
    | (go_at_call 20; ((with_reducible refine (CircuitValid_s _ d _ (HB0.out _ (Below.refl _ _)).2.2.1).mono ?_); rintro e w1 ⟨rfl, hq⟩; rw [HD0.out.1]; have H1 := Lib.hid hq; clear hq cb; have cb := (HB0.out _ H1.out).1))
    | (go_at_call 43; ((with_reducible refine (Optimize_s _ d _ (HB0.out _ H1.out).2.2.1).mono ?_); rintro e w2 ⟨vn, vg, vo, rfl, ho, hq⟩; rw [HD0.out.2.2] at ho ⊢; obtain ⟨sn, cn, rfl⟩ := own_shape ho.n; obtain ⟨sg, cg, rfl⟩ := own_shape ho.g; obtain ⟨so, co, rfl⟩ := own_shape ho.o; have H2 := Lib.hid (And.intro ho (H1.out.trans (hq.mono H1.out.size))); clear hq ho cb)))
  obtain ⟨A, hA⟩ : ∃ A, A = w2.heap.size := ⟨_, rfl⟩
  obtain ⟨W0, hW0⟩ : ∃ W0, W0 = w2.alloc (.cells #[Value.int .i64 c.inp, .slice sn c.next.length cn, .slice sg c.gates.length cg, .slice so c.outs.length co] 28) := ⟨_, rfl⟩
  rw [← hA, ← hW0]
  have y1 : W0.heap.size = A + 1 := by rw [hW0, hA]; simp
  have y2 : W0.heap[A]? = some (.cells #[Value.int .i64 c.inp, .slice sn c.next.length cn, .slice sg c.gates.length cg, .slice so c.outs.length co] 28 (0, 0)) := by rw [hW0, hA]; exact blk_new w2 _
  have y3 : Below W00.heap.size W00 W0 := by rw [hW0]; exact H2.out.2.alloc H2.out.2.size _
  have y4 : Sl W0 sn (ints c.next) ∧ Sl W0 sg (gcells c.gates) ∧ Sl W0 so (ints c.outs) := by
    have hb : Below w2.heap.size w2 W0 := by rw [hW0]; exact belowA _ _
    exact ⟨(own_sl H2.out.1.n).mono hb, (own_sl H2.out.1.g).mono hb, (own_sl H2.out.1.o).mono hb⟩
  have hD : D0 + 2 ≤ W0.heap.size := by have h1 := HW.out.2.2; have h2 := y3.size; omega
  have HS0 : Hid (∀ W, Below W0.heap.size W0 W → Sl W sn (ints c.next) ∧ Sl W sg (gcells c.gates) ∧ Sl W so (ints c.outs)) := fun W hW => ⟨y4.1.mono hW, y4.2.1.mono hW, y4.2.2.mono hW⟩
  have hll : c.next.length ≤ 1048576 ∧ c.gates.length ≤ 1048576 ∧ c.outs.length ≤ 1048576 := ⟨by omega, by omega, by omega⟩
  have HB : Hid (∀ W, Below W0.heap.size W0 W → (∀ o, W.cell? ⟨A, o, none⟩ = #[Value.int .i64 c.inp, .slice sn c.next.length cn, .slice sg c.gates.length cg, .slice so c.outs.length co][o]?) ∧ W.heap[D0 + 1]? = some (.cells #[.int .i64 0, .slice none 0 0, .slice none 0 0, .slice none 0 0] 28 (0, 0)) ∧ CirV W (.agg #[Value.int .i64 c.inp, .slice sn c.next.length cn, .slice sg c.gates.length cg, .slice so c.outs.length co]) c ∧ Below W0.heap.size W0 W) := fun W hW => ⟨(blk_all (blk_below hW (by omega) y2)).1, (HB0.out _ (y3.trans (hW.mono y3.size))).2.1, ⟨_, _, _, _, _, _, rfl, (HS0.out _ hW).1, (HS0.out _ hW).2.1, (HS0.out _ hW).2.2, hll.1, hll.2.1, hll.2.2⟩, hW⟩
  have HBX : Hid (∀ W, Below W0.heap.size W0 W → Below w.heap.size w W) := fun W hW => (HB0.out _ (y3.trans (hW.mono y3.size))).2.2.2
  have HOW : Hid (∀ W, Below W0.heap.size W0 W → CirOwn W (D0 + 2) c (.slice sn c.next.length cn) (.slice sg c.gates.length cg) (.slice so c.outs.length co)) := fun W hW => cirOwn_below (cirOwn_low (cirOwn_below H2.out.1 (show Below w2.heap.size w2 W0 by rw [hW0]; exact belowA _ _)) (by have h1 := HW.out.2.2; have h2 := H1.out.size; omega)) hW
  have HA := Lib.hid (And.intro y1 (And.intro y2 (And.intro hD (HB0.out _ y3).2.1)))
  clear hA hW0 y1 y2 y3 y4 hD
  obtain ⟨F, hF⟩ : ∃ F : Nat, 1 + c.inp + (c.next.length : Int) = F := ⟨(1 + c.inp + (c.next.length : Int)).toNat, by omega⟩
  have hF8 : F ≤ 8 := by omega
  have hF1 : 1 ≤ F := by omega
  have HFF := Lib.hid hF
  have HLT : Hid (∀ l, (l ∈ c.next ∨ l ∈ c.outs) → 0 ≤ l ∧ l / 2 < (F : Int) + c.gates.length) := fun l hl => by
    have eV : c.vars = 1 + c.inp + c.next.length + c.gates.length := rfl
    have : litP l c.vars := by
      rcases hl with h | h
      · exact HV.out.next l h
      · exact HV.out.outs l h
    obtain ⟨a, b⟩ := this
    have := HFF.out
    omega
  have eF : c.first = (F : Int) := HFF.out
  have eFn : c.first.toNat = F := by rw [eF, Int.toNat_natCast]
  have HBL : Hid (∀ k, k ≤ c.gates.length → gatesP F (balP c k).1 ∧ (balP c k).1.length ≤ 105 ∧ (balP c k).2.length = F + k ∧ (∀ x ∈ (balP c k).2, 0 ≤ x ∧ x ≤ 300) ∧ ∀ x ∈ (balP c k).2, litP x (F + (balP c k).1.length)) := fun k hk => by
    have ho := balP_ok HV.out k hk
    have h2 := balP_small HV.out hk
    have h1 := ho.mlen
    have h3 := ho.gates
    have h4 := ho.lits
    rw [eFn] at h1 h3 h4
    refine ⟨h3, h2, h1, fun x hx => ?_, h4⟩
    obtain ⟨a, b⟩ := h4 x hx
    omega
  have HSU : Hid (∀ k, balP c (k + 1) = ((balS c (balP c k) k).1, (balP c k).2 ++ [(balS c (balP c k) k).2])) := fun k => rfl
  have HZ0 : Hid (balP c 0 = ([], evE F)) := (by show (([] : List Gt), evE c.first.toNat) = _; rw [eFn] : balP c 0 = ([], evE F))
  have HFN := Lib.hid eFn
  clear hF eF eFn hll
  obtain ⟨n, hn⟩ : ∃ n, n = c.gates.length := ⟨_, rfl⟩
  obtain ⟨ln, hln⟩ : ∃ ln, ln = c.next.length := ⟨_, rfl⟩
  obtain ⟨lo, hlo⟩ : ∃ lo, lo = c.outs.length := ⟨_, rfl⟩
  have hn14 : n ≤ 14 := by omega
  have hln3 : ln ≤ 3 := by omega
  have hlo3 : lo ≤ 3 := by omega
  rw [← hn, ← hln, ← hlo] at HB HOW
  rw [← hn, ← hln, ← hlo]
  rw [← hn] at HLT HBL
  rw [← hln] at HFF
  have HN := Lib.hid (And.intro hn (And.intro hln hlo))
  clear hn hln hlo g14 n3 o3
  have cb := (HB.out _ (Below.refl _ _)).1
  have H1 := Lib.hid (And.intro True.intro (Below.refl W0.heap.size W0))
  go_cut [4] from 20 to 26 (fun s6 wx => ∃ (B : Nat) (s2 : Option Addr) (c2 : Nat), s6 = .pointer (some ⟨B, 0, none⟩) ∧ wx.heap[B]? = some (.cells #[.int .i64 c.inp, .slice s2 ln c2, .slice none 0 0, .slice none 0 0] 28 (0, 0)) ∧ wx.ownsRow W0.heap.size 3 1 (.slice s2 ln c2) ln (ints c.next) ∧ Below W0.heap.size W0 wx ∧ W0.heap.size ≤ B)
  case first =>
    refine wp_region_T (fun w' => ∀ o, w'.cell? ⟨A, o, none⟩ = #[Value.int .i64 c.inp, .slice sn ln cn, .slice sg n cg, .slice so lo co][o]?) (.q 0 (.q 1 (.q 3 (.q 4 (.two 2 (.two 5 (.q 6 (.e 7 (.e 8 .nil))) 7 (.e 5 (.q 6 (.e 8 .nil)))) 7 (.e 2 (.e 5 (.q 6 (.e 8 .nil))))))))) (by kernel_rfl) (by kernel_rfl) (by kernel_rfl) (HB.out _ H1.out.2.drew).1 ?_
    have hd := (Below.refl W0.heap.size W0).drew
    revert hd
    generalize W0.drew = Wd
    intro hd
    have HD := Lib.hid hd
    clear hd cb
    repeat (first | (refine ordt_s (o := ?_) ?_ ?_ ?_; rotate_left 1; (focus ((simp only [zD, zE, zF]) <;> rfl)); (focus rfl); simp only [Act.put, zA, zB, zC]) | (refine ordt_q (o := ?_) (v := ?_) ?_ ?_ ?_ ?_; rotate_left 2; (focus ((simp only [zD, zE, zF]) <;> rfl)); (focus rfl); (focus (intro w' hS; (try dsimp only at hS); go_split_ands; go_simp; (try (with_reducible rfl)))); simp only [Act.put, zA, zB, zC]))
    refine ordt_two ?_ ?_
    · (refine op_e (o := ?_) ?_ ?_ (fun K hK => ?_); rotate_left 1; (focus ((simp only [zD, zE, zF]) <;> rfl)); (focus rfl); go_simp)
      have hb := (HD.out).alloc (HD.out).size (.cells #[] 3)
      have hown0 : World.ownsRow (Wd.alloc (.cells #[] 3)) W0.heap.size 3 1 (.slice (some ⟨Wd.heap.size, 0, none⟩) 0 0) 0 [] := own_of_blk (size := 1) (n := 0) (cur := #[]) (blk_new Wd _) (HD.out).size (by simp) (by unfold maxLen; omega)
      have hwz := belowA Wd (.cells #[] 3)
      obtain ⟨E, hE⟩ : ∃ E, E = Wd.heap.size := ⟨_, rfl⟩
      rw [← hE] at hown0
      rw [← hE]
      clear hE
      revert hb hown0 hwz
      generalize Wd.alloc (.cells #[] 3) = WE
      intro hb hwz hown0
      refine hK.out _ _ (HB.out _ (H1.out.2.trans (hb.mono H1.out.2.size))).1 ?_
      clear hK K
      have H2 := Lib.hid (And.intro hown0 hb)
      have HWZ := Lib.hid hwz
      clear hown0 hb hwz
      (try simp only [Act.put, zA, zB, zC])
      repeat (first | (refine ordt_s (o := ?_) ?_ ?_ ?_; rotate_left 1; (focus ((simp only [zD, zE, zF]) <;> rfl)); (focus rfl); simp only [Act.put, zA, zB, zC]) | (refine ordt_q (o := ?_) (v := ?_) ?_ ?_ ?_ ?_; rotate_left 2; (focus ((simp only [zD, zE, zF]) <;> rfl)); (focus rfl); (focus (intro w' hS; (try dsimp only at hS); go_split_ands; go_simp; (try (with_reducible rfl)))); simp only [Act.put, zA, zB, zC]))
      refine ordt_two ?_ ?_
      · (refine op_e (o := ?_) ?_ ?_ (fun K hK => ?_); rotate_left 1; (focus ((simp only [zD, zE, zF]) <;> rfl)); (focus rfl))
        refine wp_app (.tmp 22) (.tmp 24) rfl elem_int H2.out.1 rfl rfl (by simp; exact HN.out.2.1.symm) (HS0.out _ (HB.out _ (H1.out.2.trans (H2.out.2.mono H1.out.2.size))).2.2.2).1 (ints_one _) ln (by omega) (ints c.next) (by simp) (by unfold maxLen; omega) (by omega) H2.out.2.size ?_
        intro s6 c6 w6 h6 hb6 hg6 _
        have hq6 := H2.out.2.trans hb6
        refine hK.out _ _ (HB.out _ (H1.out.2.trans (hq6.mono H1.out.2.size))).1 ?_
        clear hK K
        have HGR := Lib.hid hg6
        have H6 := Lib.hid (And.intro h6 hq6)
        clear h6 hb6 hq6 hg6
        (try simp only [Act.put, zA, zB, zC])
        repeat (first | (refine ordt_s (o := ?_) ?_ ?_ ?_; rotate_left 1; (focus ((simp only [zD, zE, zF]) <;> rfl)); (focus rfl); simp only [Act.put, zA, zB, zC]) | (refine ordt_q (o := ?_) (v := ?_) ?_ ?_ ?_ ?_; rotate_left 2; (focus ((simp only [zD, zE, zF]) <;> rfl)); (focus rfl); (focus (intro w' hS; (try dsimp only at hS); go_split_ands; go_simp; (try (with_reducible rfl)))); simp only [Act.put, zA, zB, zC]))
        refine ordt_e ?_
        (refine op_e (o := ?_) ?_ ?_ (fun K hK => ?_); rotate_left 1; (focus ((simp only [zD, zE, zF]) <;> rfl)); (focus rfl); go_simp)
        have hb := (H6.out.2).alloc (H6.out.2).size (.cells #[.int .i64 0, .slice none 0 0, .slice none 0 0, .slice none 0 0] 28)
        have hk := blk_new w6 (.cells #[.int .i64 0, .slice none 0 0, .slice none 0 0, .slice none 0 0] 28)
        have hs := (H6.out.2).size
        have ho6 := own_below H6.out.1 (belowA w6 (.cells #[.int .i64 0, .slice none 0 0, .slice none 0 0, .slice none 0 0] 28))
        obtain ⟨B, hB⟩ : ∃ B, B = w6.heap.size := ⟨_, rfl⟩
        rw [← hB] at hk hs
        rw [← hB]
        clear hB
        revert hb hk ho6
        generalize w6.alloc (.cells #[.int .i64 0, .slice none 0 0, .slice none 0 0, .slice none 0 0] 28) = WA
        intro hb ho6 hk
        refine hK.out _ _ (HB.out _ (H1.out.2.trans (hb.mono H1.out.2.size))).1 ?_
        clear hK K
        have HA := Lib.hid (And.intro hk (And.intro hb hs))
        have H6 := Lib.hid (And.intro ho6 hb)
        clear ho6
        clear hb hk hs
        (try simp only [Act.put, zA, zB, zC])
        repeat (first | (refine ordt_s (o := ?_) ?_ ?_ ?_; rotate_left 1; (focus ((simp only [zD, zE, zF]) <;> rfl)); (focus rfl); simp only [Act.put, zA, zB, zC]) | (refine ordt_q (o := ?_) (v := ?_) ?_ ?_ ?_ ?_; rotate_left 2; (focus ((simp only [zD, zE, zF]) <;> rfl)); (focus rfl); (focus (intro w' hS; (try dsimp only at hS); go_split_ands; go_simp; (try (with_reducible rfl)))); simp only [Act.put, zA, zB, zC]))
        refine ordt_e ?_
        obtain ⟨rc, rf⟩ := blk_all HA.out.1
        (refine op_e (o := ?_) ?_ ?_ (fun K hK => ?_); rotate_left 1; (focus ((simp only [zD, zE, zF]) <;> rfl)); (focus rfl); go_simp)
        have hne := own_tyb H6.out.1 HA.out.1 (by decide)
        have hZ : ((((WA.setCell ⟨B, 0, none⟩ (.int .i64 c.inp)).setCell ⟨B, 1, none⟩ (.slice s6 ln c6)).setCell ⟨B, 2, none⟩ (.slice none 0 0)).setCell ⟨B, 3, none⟩ (.slice none 0 0)).heap[B]? = some (.cells #[.int .i64 c.inp, .slice s6 ln c6, .slice none 0 0, .slice none 0 0] 28 (0, 0)) := by
          simpa using blk_set (o := 3) (v := .slice none 0 0) (blk_set (o := 2) (v := .slice none 0 0) (blk_set (o := 1) (v := .slice s6 ln c6) (blk_set (o := 0) (v := .int .i64 c.inp) HA.out.1)))
        have hO := own_set_ne (own_set_ne (own_set_ne (own_set_ne (o := 0) H6.out.1 hne (.int .i64 c.inp)) (o := 1) hne (.slice s6 ln c6)) (o := 2) hne (.slice none 0 0)) (o := 3) hne (.slice none 0 0)
        have hbz := ((((HA.out.2.1).setCell (p := ⟨B, 0, none⟩) HA.out.2.2 (.int .i64 c.inp)).setCell (p := ⟨B, 1, none⟩) HA.out.2.2 (.slice s6 ln c6)).setCell (p := ⟨B, 2, none⟩) HA.out.2.2 (.slice none 0 0)).setCell (p := ⟨B, 3, none⟩) HA.out.2.2 (.slice none 0 0)
        clear rc rf hne
        revert hZ hO hbz
        generalize ((((WA.setCell ⟨B, 0, none⟩ (.int .i64 c.inp)).setCell ⟨B, 1, none⟩ (.slice s6 ln c6)).setCell ⟨B, 2, none⟩ (.slice none 0 0)).setCell ⟨B, 3, none⟩ (.slice none 0 0)) = WZ
        intro hZ hO hbz
        refine hK.out _ _ (HB.out _ (H1.out.2.trans (hbz.mono H1.out.2.size))).1 ?_
        clear hK K
        (try simp only [Act.put, zA, zB, zC])
        repeat (first | (refine ordt_s (o := ?_) ?_ ?_ ?_; rotate_left 1; (focus ((simp only [zD, zE, zF]) <;> rfl)); (focus rfl); simp only [Act.put, zA, zB, zC]) | (refine ordt_q (o := ?_) (v := ?_) ?_ ?_ ?_ ?_; rotate_left 2; (focus ((simp only [zD, zE, zF]) <;> rfl)); (focus rfl); (focus (intro w' hS; (try dsimp only at hS); go_split_ands; go_simp; (try (with_reducible rfl)))); simp only [Act.put, zA, zB, zC]))
        refine ordt_nil ?_
        go_wp2_with fail
        go_meet
        exact ⟨B, s6, c6, rfl, hZ, hO, hbz, HA.out.2.2⟩
      · (refine op_e (o := ?_) ?_ ?_ (fun K hK => ?_); rotate_left 1; (focus ((simp only [zD, zE, zF]) <;> rfl)); (focus rfl); go_simp)
        have hb := (H2.out.2).alloc (H2.out.2).size (.cells #[.int .i64 0, .slice none 0 0, .slice none 0 0, .slice none 0 0] 28)
        have hk := blk_new WE (.cells #[.int .i64 0, .slice none 0 0, .slice none 0 0, .slice none 0 0] 28)
        have hs := (H2.out.2).size
        have ho2 := own_below H2.out.1 (belowA WE (.cells #[.int .i64 0, .slice none 0 0, .slice none 0 0, .slice none 0 0] 28))
        obtain ⟨B, hB⟩ : ∃ B, B = WE.heap.size := ⟨_, rfl⟩
        rw [← hB] at hk hs
        rw [← hB]
        clear hB
        revert hb hk ho2
        generalize WE.alloc (.cells #[.int .i64 0, .slice none 0 0, .slice none 0 0, .slice none 0 0] 28) = WA
        intro hb ho2 hk
        refine hK.out _ _ (HB.out _ (H1.out.2.trans (hb.mono H1.out.2.size))).1 ?_
        clear hK K
        have HA := Lib.hid (And.intro hk (And.intro hb hs))
        have H2 := Lib.hid (And.intro ho2 hb)
        clear ho2
        clear hb hk hs
        (try simp only [Act.put, zA, zB, zC])
        repeat (first | (refine ordt_s (o := ?_) ?_ ?_ ?_; rotate_left 1; (focus ((simp only [zD, zE, zF]) <;> rfl)); (focus rfl); simp only [Act.put, zA, zB, zC]) | (refine ordt_q (o := ?_) (v := ?_) ?_ ?_ ?_ ?_; rotate_left 2; (focus ((simp only [zD, zE, zF]) <;> rfl)); (focus rfl); (focus (intro w' hS; (try dsimp only at hS); go_split_ands; go_simp; (try (with_reducible rfl)))); simp only [Act.put, zA, zB, zC]))
        refine ordt_e ?_
        (refine op_e (o := ?_) ?_ ?_ (fun K hK => ?_); rotate_left 1; (focus ((simp only [zD, zE, zF]) <;> rfl)); (focus rfl))
        refine wp_app (.tmp 22) (.tmp 24) rfl elem_int H2.out.1 rfl rfl (by simp; exact HN.out.2.1.symm) (HS0.out _ (HB.out _ (H1.out.2.trans (H2.out.2.mono H1.out.2.size))).2.2.2).1 (ints_one _) ln (by omega) (ints c.next) (by simp) (by unfold maxLen; omega) (by omega) H2.out.2.size ?_
        intro s6 c6 w6 h6 hb6 hg6 _
        have hq6 := H2.out.2.trans hb6
        refine hK.out _ _ (HB.out _ (H1.out.2.trans (hq6.mono H1.out.2.size))).1 ?_
        clear hK K
        have HGR := Lib.hid hg6
        have H6 := Lib.hid (And.intro h6 hq6)
        clear h6 hb6 hq6 hg6
        (try simp only [Act.put, zA, zB, zC])
        repeat (first | (refine ordt_s (o := ?_) ?_ ?_ ?_; rotate_left 1; (focus ((simp only [zD, zE, zF]) <;> rfl)); (focus rfl); simp only [Act.put, zA, zB, zC]) | (refine ordt_q (o := ?_) (v := ?_) ?_ ?_ ?_ ?_; rotate_left 2; (focus ((simp only [zD, zE, zF]) <;> rfl)); (focus rfl); (focus (intro w' hS; (try dsimp only at hS); go_split_ands; go_simp; (try (with_reducible rfl)))); simp only [Act.put, zA, zB, zC]))
        refine ordt_e ?_
        have hkb : w6.heap[B]? = some (.cells #[.int .i64 0, .slice none 0 0, .slice none 0 0, .slice none 0 0] 28 (0, 0)) := by
          rw [HGR.out.block B (blk_lt HA.out.1) (fun e => own_tyb H2.out.1 HA.out.1 (by decide) e.symm)]; exact HA.out.1
        have HA := Lib.hid (And.intro hkb (And.intro H6.out.2 HA.out.2.2))
        clear hkb
        obtain ⟨rc, rf⟩ := blk_all HA.out.1
        (refine op_e (o := ?_) ?_ ?_ (fun K hK => ?_); rotate_left 1; (focus ((simp only [zD, zE, zF]) <;> rfl)); (focus rfl); go_simp)
        have hne := own_tyb H6.out.1 HA.out.1 (by decide)
        have hZ : ((((w6.setCell ⟨B, 0, none⟩ (.int .i64 c.inp)).setCell ⟨B, 1, none⟩ (.slice s6 ln c6)).setCell ⟨B, 2, none⟩ (.slice none 0 0)).setCell ⟨B, 3, none⟩ (.slice none 0 0)).heap[B]? = some (.cells #[.int .i64 c.inp, .slice s6 ln c6, .slice none 0 0, .slice none 0 0] 28 (0, 0)) := by
          simpa using blk_set (o := 3) (v := .slice none 0 0) (blk_set (o := 2) (v := .slice none 0 0) (blk_set (o := 1) (v := .slice s6 ln c6) (blk_set (o := 0) (v := .int .i64 c.inp) HA.out.1)))
        have hO := own_set_ne (own_set_ne (own_set_ne (own_set_ne (o := 0) H6.out.1 hne (.int .i64 c.inp)) (o := 1) hne (.slice s6 ln c6)) (o := 2) hne (.slice none 0 0)) (o := 3) hne (.slice none 0 0)
        have hbz := ((((HA.out.2.1).setCell (p := ⟨B, 0, none⟩) HA.out.2.2 (.int .i64 c.inp)).setCell (p := ⟨B, 1, none⟩) HA.out.2.2 (.slice s6 ln c6)).setCell (p := ⟨B, 2, none⟩) HA.out.2.2 (.slice none 0 0)).setCell (p := ⟨B, 3, none⟩) HA.out.2.2 (.slice none 0 0)
        clear rc rf hne
        revert hZ hO hbz
        generalize ((((w6.setCell ⟨B, 0, none⟩ (.int .i64 c.inp)).setCell ⟨B, 1, none⟩ (.slice s6 ln c6)).setCell ⟨B, 2, none⟩ (.slice none 0 0)).setCell ⟨B, 3, none⟩ (.slice none 0 0)) = WZ
        intro hZ hO hbz
        refine hK.out _ _ (HB.out _ (H1.out.2.trans (hbz.mono H1.out.2.size))).1 ?_
        clear hK K
        (try simp only [Act.put, zA, zB, zC])
        repeat (first | (refine ordt_s (o := ?_) ?_ ?_ ?_; rotate_left 1; (focus ((simp only [zD, zE, zF]) <;> rfl)); (focus rfl); simp only [Act.put, zA, zB, zC]) | (refine ordt_q (o := ?_) (v := ?_) ?_ ?_ ?_ ?_; rotate_left 2; (focus ((simp only [zD, zE, zF]) <;> rfl)); (focus rfl); (focus (intro w' hS; (try dsimp only at hS); go_split_ands; go_simp; (try (with_reducible rfl)))); simp only [Act.put, zA, zB, zC]))
        refine ordt_nil ?_
        go_wp2_with fail
        go_meet
        exact ⟨B, s6, c6, rfl, hZ, hO, hbz, HA.out.2.2⟩
    · (refine op_e (o := ?_) ?_ ?_ (fun K hK => ?_); rotate_left 1; (focus ((simp only [zD, zE, zF]) <;> rfl)); (focus rfl); go_simp)
      have hb := (HD.out).alloc (HD.out).size (.cells #[.int .i64 0, .slice none 0 0, .slice none 0 0, .slice none 0 0] 28)
      have hk := blk_new Wd (.cells #[.int .i64 0, .slice none 0 0, .slice none 0 0, .slice none 0 0] 28)
      have hs := (HD.out).size
      obtain ⟨B, hB⟩ : ∃ B, B = Wd.heap.size := ⟨_, rfl⟩
      rw [← hB] at hk hs
      rw [← hB]
      clear hB
      revert hb hk
      generalize Wd.alloc (.cells #[.int .i64 0, .slice none 0 0, .slice none 0 0, .slice none 0 0] 28) = WA
      intro hb hk
      refine hK.out _ _ (HB.out _ (H1.out.2.trans (hb.mono H1.out.2.size))).1 ?_
      clear hK K
      have HA := Lib.hid (And.intro hk (And.intro hb hs))
      clear hb hk hs
      (try simp only [Act.put, zA, zB, zC])
      repeat (first | (refine ordt_s (o := ?_) ?_ ?_ ?_; rotate_left 1; (focus ((simp only [zD, zE, zF]) <;> rfl)); (focus rfl); simp only [Act.put, zA, zB, zC]) | (refine ordt_q (o := ?_) (v := ?_) ?_ ?_ ?_ ?_; rotate_left 2; (focus ((simp only [zD, zE, zF]) <;> rfl)); (focus rfl); (focus (intro w' hS; (try dsimp only at hS); go_split_ands; go_simp; (try (with_reducible rfl)))); simp only [Act.put, zA, zB, zC]))
      refine ordt_e ?_
      (refine op_e (o := ?_) ?_ ?_ (fun K hK => ?_); rotate_left 1; (focus ((simp only [zD, zE, zF]) <;> rfl)); (focus rfl); go_simp)
      have hb := (HA.out.2.1).alloc (HA.out.2.1).size (.cells #[] 3)
      have hown0 : World.ownsRow (WA.alloc (.cells #[] 3)) W0.heap.size 3 1 (.slice (some ⟨WA.heap.size, 0, none⟩) 0 0) 0 [] := own_of_blk (size := 1) (n := 0) (cur := #[]) (blk_new WA _) (HA.out.2.1).size (by simp) (by unfold maxLen; omega)
      have hwz := belowA WA (.cells #[] 3)
      obtain ⟨E, hE⟩ : ∃ E, E = WA.heap.size := ⟨_, rfl⟩
      rw [← hE] at hown0
      rw [← hE]
      clear hE
      revert hb hown0 hwz
      generalize WA.alloc (.cells #[] 3) = WE
      intro hb hwz hown0
      refine hK.out _ _ (HB.out _ (H1.out.2.trans (hb.mono H1.out.2.size))).1 ?_
      clear hK K
      have H2 := Lib.hid (And.intro hown0 hb)
      have HWZ := Lib.hid hwz
      clear hown0 hb hwz
      have HKE := Lib.hid (blk_below (show Below WA.heap.size WA WE from HWZ.out) (blk_lt HA.out.1) HA.out.1)
      (try simp only [Act.put, zA, zB, zC])
      repeat (first | (refine ordt_s (o := ?_) ?_ ?_ ?_; rotate_left 1; (focus ((simp only [zD, zE, zF]) <;> rfl)); (focus rfl); simp only [Act.put, zA, zB, zC]) | (refine ordt_q (o := ?_) (v := ?_) ?_ ?_ ?_ ?_; rotate_left 2; (focus ((simp only [zD, zE, zF]) <;> rfl)); (focus rfl); (focus (intro w' hS; (try dsimp only at hS); go_split_ands; go_simp; (try (with_reducible rfl)))); simp only [Act.put, zA, zB, zC]))
      refine ordt_e ?_
      (refine op_e (o := ?_) ?_ ?_ (fun K hK => ?_); rotate_left 1; (focus ((simp only [zD, zE, zF]) <;> rfl)); (focus rfl))
      refine wp_app (.tmp 22) (.tmp 24) rfl elem_int H2.out.1 rfl rfl (by simp; exact HN.out.2.1.symm) (HS0.out _ (HB.out _ (H1.out.2.trans (H2.out.2.mono H1.out.2.size))).2.2.2).1 (ints_one _) ln (by omega) (ints c.next) (by simp) (by unfold maxLen; omega) (by omega) H2.out.2.size ?_
      intro s6 c6 w6 h6 hb6 hg6 _
      have hq6 := H2.out.2.trans hb6
      refine hK.out _ _ (HB.out _ (H1.out.2.trans (hq6.mono H1.out.2.size))).1 ?_
      clear hK K
      have HGR := Lib.hid hg6
      have H6 := Lib.hid (And.intro h6 hq6)
      clear h6 hb6 hq6 hg6
      (try simp only [Act.put, zA, zB, zC])
      repeat (first | (refine ordt_s (o := ?_) ?_ ?_ ?_; rotate_left 1; (focus ((simp only [zD, zE, zF]) <;> rfl)); (focus rfl); simp only [Act.put, zA, zB, zC]) | (refine ordt_q (o := ?_) (v := ?_) ?_ ?_ ?_ ?_; rotate_left 2; (focus ((simp only [zD, zE, zF]) <;> rfl)); (focus rfl); (focus (intro w' hS; (try dsimp only at hS); go_split_ands; go_simp; (try (with_reducible rfl)))); simp only [Act.put, zA, zB, zC]))
      refine ordt_e ?_
      have hkb : w6.heap[B]? = some (.cells #[.int .i64 0, .slice none 0 0, .slice none 0 0, .slice none 0 0] 28 (0, 0)) := by
        rw [HGR.out.block B (blk_lt HKE.out) (fun e => own_tyb H2.out.1 HKE.out (by decide) e.symm)]; exact HKE.out
      have HA := Lib.hid (And.intro hkb (And.intro H6.out.2 HA.out.2.2))
      clear hkb
      obtain ⟨rc, rf⟩ := blk_all HA.out.1
      (refine op_e (o := ?_) ?_ ?_ (fun K hK => ?_); rotate_left 1; (focus ((simp only [zD, zE, zF]) <;> rfl)); (focus rfl); go_simp)
      have hne := own_tyb H6.out.1 HA.out.1 (by decide)
      have hZ : ((((w6.setCell ⟨B, 0, none⟩ (.int .i64 c.inp)).setCell ⟨B, 1, none⟩ (.slice s6 ln c6)).setCell ⟨B, 2, none⟩ (.slice none 0 0)).setCell ⟨B, 3, none⟩ (.slice none 0 0)).heap[B]? = some (.cells #[.int .i64 c.inp, .slice s6 ln c6, .slice none 0 0, .slice none 0 0] 28 (0, 0)) := by
        simpa using blk_set (o := 3) (v := .slice none 0 0) (blk_set (o := 2) (v := .slice none 0 0) (blk_set (o := 1) (v := .slice s6 ln c6) (blk_set (o := 0) (v := .int .i64 c.inp) HA.out.1)))
      have hO := own_set_ne (own_set_ne (own_set_ne (own_set_ne (o := 0) H6.out.1 hne (.int .i64 c.inp)) (o := 1) hne (.slice s6 ln c6)) (o := 2) hne (.slice none 0 0)) (o := 3) hne (.slice none 0 0)
      have hbz := ((((HA.out.2.1).setCell (p := ⟨B, 0, none⟩) HA.out.2.2 (.int .i64 c.inp)).setCell (p := ⟨B, 1, none⟩) HA.out.2.2 (.slice s6 ln c6)).setCell (p := ⟨B, 2, none⟩) HA.out.2.2 (.slice none 0 0)).setCell (p := ⟨B, 3, none⟩) HA.out.2.2 (.slice none 0 0)
      clear rc rf hne
      revert hZ hO hbz
      generalize ((((w6.setCell ⟨B, 0, none⟩ (.int .i64 c.inp)).setCell ⟨B, 1, none⟩ (.slice s6 ln c6)).setCell ⟨B, 2, none⟩ (.slice none 0 0)).setCell ⟨B, 3, none⟩ (.slice none 0 0)) = WZ
      intro hZ hO hbz
      refine hK.out _ _ (HB.out _ (H1.out.2.trans (hbz.mono H1.out.2.size))).1 ?_
      clear hK K
      (try simp only [Act.put, zA, zB, zC])
      repeat (first | (refine ordt_s (o := ?_) ?_ ?_ ?_; rotate_left 1; (focus ((simp only [zD, zE, zF]) <;> rfl)); (focus rfl); simp only [Act.put, zA, zB, zC]) | (refine ordt_q (o := ?_) (v := ?_) ?_ ?_ ?_ ?_; rotate_left 2; (focus ((simp only [zD, zE, zF]) <;> rfl)); (focus rfl); (focus (intro w' hS; (try dsimp only at hS); go_split_ands; go_simp; (try (with_reducible rfl)))); simp only [Act.put, zA, zB, zC]))
      refine ordt_nil ?_
      go_wp2_with fail
      go_meet
      exact ⟨B, s6, c6, rfl, hZ, hO, hbz, HA.out.2.2⟩
  case rest =>
    obtain ⟨B, s2, c2, rfl, hb1, hb2, hb3, hb4⟩ := hcut
    have HC := Lib.hid (And.intro hb1 (And.intro hb2 (And.intro hb3 hb4)))
    clear hb1 hb2 hb3 hb4
    have cb := (HB.out _ (H1.out.2.trans (HC.out.2.2.1.mono H1.out.2.size))).1
    obtain ⟨Wb, rfl⟩ : ∃ Wb, Wb = wc := ⟨_, rfl⟩
    obtain ⟨b2, hb2⟩ : ∃ b2, b2 = Wb.heap.size := ⟨_, rfl⟩
    have hBb : B < b2 := by rw [hb2]; exact blk_lt HC.out.1
    have HB1 : Hid (∀ W, Kp B b2 Wb W → (∀ o, W.cell? ⟨A, o, none⟩ = #[Value.int .i64 c.inp, .slice sn ln cn, .slice sg n cg, .slice so lo co][o]?) ∧ W.heap[D0 + 1]? = some (.cells #[.int .i64 0, .slice none 0 0, .slice none 0 0, .slice none 0 0] 28 (0, 0)) ∧ CirV W (.agg #[.int .i64 c.inp, .slice sn ln cn, .slice sg n cg, .slice so lo co]) c ∧ Below W0.heap.size W0 W ∧ True ∧ Below W0.heap.size W0 W) := fun W hW => by
      have q1 : Below W0.heap.size W0 W := HC.out.2.2.1.trans (hW.below HC.out.2.2.2 (by rw [hb2]; exact HC.out.2.2.1.size))
      have q2 := H1.out.2.trans (q1.mono H1.out.2.size)
      have q3 := HB.out W q2
      exact ⟨q3.1, q3.2.1, q3.2.2.1, q2, True.intro, q3.2.2.2⟩
    go_upto_region 6 with fail
    have hM : BS Wb B W0.heap.size b2 c.inp c.next (.slice s2 ln c2) [] (.slice none 0 0) (evE 0) (.slice (some ⟨Wb.heap.size, 0, none⟩) 0 0) (Wb.alloc (.cells #[] 3)) := by
      refine ⟨blk_old HC.out.1, ?_, World.ownsRow_nil _ _ _ _, own_of_blk (size := 1) (n := 0) (cur := #[]) (blk_new Wb _) (by rw [hb2]; exact Nat.le_refl _) (by simp) (by unfold maxLen; omega), Kp.of_below ((belowA Wb _).mono (by rw [hb2]; exact Nat.le_refl _)), hBb, fun k hk => by rw [hb2]; exact (own_blk HC.out.2.1 hk).2, by rw [hb2]; simp⟩
      rw [← HN.out.2.1]
      exact own_below (own_base HC.out.2.1 H1.out.2.size) (belowA _ _)
    have HM := Lib.hid hM
    clear hM cb
    rw [← hb2] at HM ⊢
    have HB2 := Lib.hid hb2
    clear hb2
    revert HM
    generalize Wb.alloc (.cells #[] 3) = WM
    intro HM
    go_upto_region 7 with fail
    go_loopw [5, 6] (fun s7 s8 wr => ∃ (k : Nat) (sm : Option Addr) (cm : Nat), k ≤ F ∧ s8 = .int .i64 k ∧ s7 = .slice sm k cm ∧ BS Wb B W0.heap.size b2 c.inp c.next (.slice s2 ln c2) [] (.slice none 0 0) (evE k) (.slice sm k cm) wr) (fun _ s8 _ => F - (intOf s8).toNat)
    case atStart => exact ⟨0, _, _, by omega, rfl, rfl, HM.out⟩
    case round =>
      obtain ⟨k, sm, cm, hk, rfl, rfl, hS⟩ := hrel
      have HS := Lib.hid hS
      clear hS
      have cb := (HB1.out _ HS.out.kp).1
      by_cases hlt : k < F
      · have HOM : Hid (∀ W, Below wr.heap.size wr W → W.ownsRow b2 3 1 (.slice sm k cm) k (ints (evE k))) := fun W hW => by have := (HS.out.below hW).m; rwa [evE_length] at this
        go_wp2_with (first
          | (go_at_call 44; ((with_reducible refine (l1First_any _ _ _ _ _ _ _ (by omega) (by omega)).mono ?_); rintro e w2 ⟨rfl, hq⟩; rw [HFF.out]; have H2 := Lib.hid hq; clear hq cb))
          | (at_builtin; refine wpl_app rfl _ _ rfl elem_int (HOM.out _ (H2.out.alloc H2.out.size _)) rfl rfl rfl (Sl.new _ _ _) (by simp [Value.oneCell']) (k + 1) rfl (ints (evE (k + 1))) (by rw [evE_succ, ← ints_append]; rfl) (by unfold maxLen; omega) (by omega) (Nat.le_trans HS.out.hs (H2.out.alloc H2.out.size _).size) ?_; intro s6 c6 w6 h6 hb6 hg6 _; have H6 := Lib.hid (BS.pushM (HS.out.below (H2.out.alloc H2.out.size _)) (m' := evE (k + 1)) (by rw [evE_length]; exact h6) hb6 hg6); clear h6 hb6 hg6))
        go_roundw
        case rel => exact ⟨k + 1, s6, c6, by omega, by go_num, rfl, H6.out⟩
        case measure => simp [intOf]; try omega
      · obtain rfl : F = k := by omega
        go_upto_region 11 with (go_at_call 44; ((with_reducible refine (l1First_any _ _ _ _ _ _ _ (by omega) (by omega)).mono ?_); rintro e w2 ⟨rfl, hq⟩; rw [HFF.out]; have H2 := Lib.hid hq; clear hq cb))
        have HS2 := Lib.hid (HS.out.below H2.out)
        clear H2 HS
        go_loopw [5, 7] (fun s7 s9 wr => ∃ (i : Nat) (sm : Option Addr) (cm : Nat) (gs : List Gt) (m : List Int) (vg : Value), i ≤ n ∧ s9 = .int .i64 i ∧ s7 = .slice sm (F + i) cm ∧ balP c i = (gs, m) ∧ BS Wb B W0.heap.size b2 c.inp c.next (.slice s2 ln c2) gs vg m (.slice sm (F + i) cm) wr) (fun _ s9 _ => n - (intOf s9).toNat)
        case atStart => exact ⟨0, sm, cm, [], evE F, .slice none 0 0, by omega, rfl, rfl, HZ0.out, HS2.out⟩
        case round =>
          clear HS2 HM
          obtain ⟨i, sm, cm, gs, m, vg, hi, rfl, rfl, hst, hS⟩ := hrel
          obtain ⟨sg2, cg2, rfl⟩ := own_shape hS.g
          have HS := Lib.hid hS
          clear hS
          have hbl := HBL.out i hi
          rw [hst] at hbl
          obtain ⟨hgp, hgl, hml, hmb, hlb⟩ := hbl
          have HGP : Hid (gatesP (F : Int) gs) := hgp
          have HLM : Hid (∀ l, 0 ≤ l → l / 2 < ((F + i : Nat) : Int) → litP (mapB m l) ((F : Int) + gs.length)) := fun l h0 h1 => mapB_litP hlb h0 (by rw [show m.length = F + i from hml]; exact h1)
          clear hgp hlb
          have HMB := Lib.hid (And.intro hml hmb)
          have HST := Lib.hid hst
          clear hml hmb hst
          simp only at hgl
          have cA := (HB1.out _ HS.out.kp).1
          have cb := HS.out.cells.1
          by_cases hlt : i < n
          · obtain ⟨ys, hys⟩ : ∃ ys, ys = Lv c i := ⟨_, rfl⟩
            obtain ⟨Yn, hYn⟩ : ∃ Yn, Yn = ys.length := ⟨_, rfl⟩
            have hic : i < c.gates.length := by rw [← HN.out.1]; exact hlt
            have hyl : Yn ≤ i + 2 := by rw [hYn, hys]; exact Lv_small HV.out hic
            have hy2 : 2 ≤ Yn := by rw [hYn, hys]; exact Lv_two HV.out i hic
            have eF : c.first = (F : Int) := by have h := HFF.out; rw [HN.out.2.1] at h; exact h
            have hym : ∀ x ∈ ys, 0 ≤ x ∧ x / 2 < ((F + i : Nat) : Int) := fun x hx => by
              obtain ⟨h0, h1⟩ := Lv_mem HV.out i hic x (by rw [← hys]; exact hx)
              rw [eF] at h1
              exact ⟨h0, by omega⟩
            obtain ⟨f, hf⟩ : ∃ f, f = mapB m := ⟨_, rfl⟩
            obtain ⟨r, hr⟩ : ∃ r, r = joinL F Yn gs (ys.map f) := ⟨_, rfl⟩
            have hsu : balP c (i + 1) = (r.1, m ++ [r.2]) := by
              rw [HSU.out, HST.out, hr, hYn, hys, hf]
              unfold balS
              rw [HFN.out]
            have hrl : r.1.length ≤ 105 := by
              have h := (HBL.out (i + 1) (by omega)).2.1
              rw [hsu] at h
              exact h
            have hlit : ∀ l ∈ ys.map f, litP l (F + gs.length) := fun l hl => by
              obtain ⟨x, hx, rfl⟩ := List.mem_map.1 hl
              obtain ⟨h0, h1⟩ := hym x hx
              rw [hf]
              exact HLM.out x h0 h1
            obtain ⟨gI, hgI⟩ : ∃ gI : Int, (F : Int) + (i : Int) = gI := ⟨_, rfl⟩
            obtain ⟨lI, hlI⟩ : ∃ lI : Int, 2 * gI = lI := ⟨_, rfl⟩
            have wgI : IntKind.i64.wrap gI = gI := IntWalk.i64_in _ ⟨by omega, by omega⟩
            have wlI : IntKind.i64.wrap lI = lI := IntWalk.i64_in _ ⟨by omega, by omega⟩
            have hl0 : 0 ≤ lI := by omega
            have hl1 : lI / 2 = c.first + i := by rw [eF]; omega
            have hl2 : lI % 2 = 0 := by omega
            have HX := Lib.hid (And.intro hys (And.intro hYn (And.intro hic (And.intro hym (And.intro hf (And.intro hr (And.intro hsu (And.intro hlit (And.intro hl0 (And.intro hl1 hl2))))))))))
            clear hys hYn hic hym hf hr hsu hlit hl0 hl1 hl2 eF
            have HCS : Hid (∀ W, Below wr.heap.size wr W → (∀ o, W.cell? ⟨A, o, none⟩ = #[Value.int .i64 c.inp, .slice sn ln cn, .slice sg n cg, .slice so lo co][o]?) ∧ CirV W (.agg #[.int .i64 c.inp, .slice sn ln cn, .slice sg n cg, .slice so lo co]) c) := fun W hW => ⟨(HB1.out _ (HS.out.below hW).kp).1, (HB1.out _ (HS.out.below hW).kp).2.2.1⟩
            go_upto_region 13 with fail
            refine wp_region_T (fun W => ∀ o, W.cell? ⟨A, o, none⟩ = #[Value.int .i64 c.inp, .slice sn ln cn, .slice sg n cg, .slice so lo co][o]?) (.q 0 (.q 1 (.q 3 (.e 2 (.q 4 (.q 5 (.e 6 (.q 7 .nil)))))))) (by kernel_rfl) (by kernel_rfl) (by kernel_rfl) (HCS.out _ (Below.refl _ _).drew).1 ?_
            have hd := (Below.refl wr.heap.size wr).drew
            revert hd
            generalize wr.drew = Wd
            intro hd
            have HD := Lib.hid hd
            clear hd cA cb
            repeat (first | (refine ordt_s (o := ?_) ?_ ?_ ?_; rotate_left 1; (focus ((simp only [zD, zE, zF]) <;> rfl)); (focus rfl); simp only [Act.put, zA, zB, zC]) | (refine ordt_q (o := ?_) (v := ?_) ?_ ?_ ?_ ?_; rotate_left 2; (focus ((simp only [zD, zE, zF]) <;> rfl)); (focus rfl); (focus (intro w' hS; (try dsimp only at hS); go_split_ands; go_simp; (try (with_reducible rfl)))); simp only [Act.put, zA, zB, zC]))
            refine ordt_e ?_
            (refine op_e (o := ?_) ?_ ?_ (fun K hK => ?_); rotate_left 1; (focus ((simp only [zD, zE, zF]) <;> rfl)); (focus rfl); go_simp)
            refine (l1First_any c.inp sn ln cn _ _ _ ⟨by omega, by omega⟩ (by omega)).mono ?_
            rintro e w3 ⟨rfl, hq⟩
            rw [HFF.out]
            have hb := HD.out.trans (hq.mono HD.out.size)
            refine hK.out _ _ (HCS.out _ hb).1 ?_
            clear hK K HD
            have HD := Lib.hid hb
            clear hb hq
            (try simp only [Act.put, zA, zB, zC])
            repeat (first | (refine ordt_s (o := ?_) ?_ ?_ ?_; rotate_left 1; (focus ((simp only [zD, zE, zF]) <;> rfl)); (focus rfl); simp only [Act.put, zA, zB, zC]) | (refine ordt_q (o := ?_) (v := ?_) ?_ ?_ ?_ ?_; rotate_left 2; (focus ((simp only [zD, zE, zF]) <;> rfl)); (focus rfl); (focus (intro w' hS; (try dsimp only at hS); go_split_ands; go_simp; (try (with_reducible rfl)))); simp only [Act.put, zA, zB, zC]))
            refine ordt_e ?_
            (refine op_e (o := ?_) ?_ ?_ (fun K hK => ?_); rotate_left 1; (focus ((simp only [zD, zE, zF]) <;> rfl)); (focus rfl); go_simp)
            refine (l19_gate c HV.out i HX.out.2.2.1 lI true HX.out.2.2.2.2.2.2.2.2.1 HX.out.2.2.2.2.2.2.2.2.2.1 HX.out.2.2.2.2.2.2.2.2.2.2 (fun h => by cases h) _ _ (HCS.out _ HD.out).2).mono ?_
            rintro e w4 ⟨sy, cy, rfl, hoy, hq⟩
            rw [← HX.out.1, ← HX.out.2.1] at hoy
            rw [← HX.out.1, ← HX.out.2.1]
            have hb := HD.out.trans (hq.mono HD.out.size)
            refine hK.out _ _ (HCS.out _ hb).1 ?_
            clear hK K
            obtain ⟨gl, rfl⟩ : ∃ g, sy = some ⟨g, 0, none⟩ := by
              rcases own_some hoy with ⟨_, e, _⟩ | ⟨g, e⟩
              · omega
              · exact ⟨g, e⟩
            have HY := Lib.hid (And.intro (own_base hoy HD.out.size) hb)
            clear hb hq hoy HD
            (try simp only [Act.put, zA, zB, zC])
            repeat (first | (refine ordt_s (o := ?_) ?_ ?_ ?_; rotate_left 1; (focus ((simp only [zD, zE, zF]) <;> rfl)); (focus rfl); simp only [Act.put, zA, zB, zC]) | (refine ordt_q (o := ?_) (v := ?_) ?_ ?_ ?_ ?_; rotate_left 2; (focus ((simp only [zD, zE, zF]) <;> rfl)); (focus rfl); (focus (intro w' hS; (try dsimp only at hS); go_split_ands; go_simp; (try (with_reducible rfl)))); simp only [Act.put, zA, zB, zC]))
            refine ordt_nil ?_
            go_upto_region 15 with fail
            obtain ⟨Wo, rfl⟩ : ∃ Wo, Wo = wr := ⟨_, rfl⟩
            obtain ⟨b3, hb3⟩ : ∃ b3, b3 = Wo.heap.size := ⟨_, rfl⟩
            have HS3 : Hid (∀ W, Below b3 Wo W → BS Wb B W0.heap.size b2 c.inp c.next (.slice s2 ln c2) gs (.slice sg2 gs.length cg2) m (.slice sm (F + i) cm) W) := fun W hW => HS.out.below (hb3 ▸ hW)
            have hz3 : b2 ≤ b3 := by rw [hb3]; exact HS.out.hs
            rw [← hb3] at HY
            clear hb3 HCS
            have hG0 : b3 ≤ gl := (own_blk HY.out.1 rfl).1
            go_loopw [9] (fun s9 wi => ∃ k : Nat, k ≤ Yn ∧ s9 = .int .i64 k ∧ wi.ownsRow b3 3 1 (.slice (some ⟨gl, 0, none⟩) Yn cy) Yn (ints ((ys.take k).map f ++ ys.drop k)) ∧ Below b3 Wo wi) (fun s9 _ => Yn - (intOf s9).toNat)
            case atStart => exact ⟨0, Nat.zero_le _, rfl, by simpa using HY.out.1, HY.out.2⟩
            case round =>
              obtain ⟨k, hk, rfl, ho, hbl⟩ := hrel
              have hlen : ((ys.take k).map f ++ ys.drop k).length = Yn := by have := HX.out.2.1; simp; omega
              have HO := Lib.hid (And.intro ho (And.intro hbl hlen))
              clear ho hbl hlen
              by_cases hlk : k < Yn
              · obtain ⟨x, hx⟩ := get_of_lt (l := ys) (k := k) (by rw [← HX.out.2.1]; exact hlk)
                obtain ⟨x0, x1⟩ := HX.out.2.2.2.1 x (List.mem_of_getElem? hx)
                have hz : ((ys.take k).map f ++ ys.drop k)[k]? = some x := by
                  have e : ((ys.take k).map f).length = k := by have := HX.out.2.1; simp; omega
                  rw [List.getElem?_append_right (by omega), e, Nat.sub_self, List.getElem?_drop, Nat.add_zero]
                  exact hx
                have hsn := map_set (f := f) hx
                have zk : wr.cell? ⟨gl, k, none⟩ = some (.int .i64 x) := (HO.out.1.cellAt k (by omega)).trans (ints_get hz)
                have zf : wr.frozen? ⟨gl, k, none⟩ = false := HO.out.1.frozenAt k
                have HZ := Lib.hid hsn
                clear hx hz hsn
                go_wp2_with (go_at_call 46; ((with_reducible refine (l3MapM_any _ _ _ m x _ HMB.out.1 (own_sl (show wr.ownsRow b2 3 1 (.slice sm (F + i) cm) (F + i) (ints m) by have := (HS3.out _ HO.out.2.1).m; rwa [show m.length = F + i from HMB.out.1] at this)) x0 x1 (by omega) HMB.out.2).mono ?_); rintro e wz ⟨rfl, rfl⟩; rw [← HX.out.2.2.2.2.1]))
                go_roundw
                case rel =>
                  refine ⟨k + 1, by omega, by go_num, ?_, HO.out.2.1.setCell (p := ⟨gl, k, none⟩) hG0 _⟩
                  have h := (HO.out.1.stored k (.int .i64 (f x))).1
                  have e : (ints ((ys.take k).map f ++ ys.drop k)).set k (.int .i64 (f x)) = ints ((ys.take (k + 1)).map f ++ ys.drop (k + 1)) := by rw [← HZ.out]; simp [ints, List.map_set]
                  rw [e] at h
                  simpa using h
                case measure => simp [intOf]; try omega
              · obtain rfl : Yn = k := by omega
                have hro : wr.ownsRow b3 3 1 (.slice (some ⟨gl, 0, none⟩) Yn cy) Yn (ints (ys.map f)) := by
                  have h := HO.out.1
                  rw [List.take_of_length_le (by rw [HX.out.2.1]; exact Nat.le_refl _), List.drop_of_length_le (by rw [HX.out.2.1]; exact Nat.le_refl _), List.append_nil] at h
                  exact h
                have HR := Lib.hid (And.intro hro (HS3.out _ HO.out.2.1))
                clear hro
                have cb := HR.out.2.cells.1
                go_upto_region 19 with (go_at_call 47; ((with_reducible refine (l19Join_any c.inp s2 sg2 none _ ln c2 cg2 0 0 cy F Yn gs (ys.map f) _ (own_sl HR.out.2.g) (own_sl HR.out.1) HFF.out i0 hF8 HGP.out HX.out.2.2.2.2.2.2.2.1 (by rw [List.length_map]; exact HX.out.2.1.symm) (by omega) (by omega)).mono ?_); rintro e wn ⟨vg2, rfl, hv2, hq⟩; rw [← HX.out.2.2.2.2.2.1] at hv2; rw [← HX.out.2.2.2.2.2.1]; obtain ⟨s3, c3, rfl⟩ := vg_shape hv2; have HJ := Lib.hid (And.intro hv2 hq); clear hv2 hq cb))
                obtain ⟨WA, hWA⟩ : ∃ WA, WA = wn.alloc (.cells #[.int .i64 c.inp, .slice s2 ln c2, .slice s3 r.1.length c3, .slice none 0 0] 28) := ⟨_, rfl⟩
                have hY : WA.heap[wn.heap.size]? = some (.cells #[.int .i64 c.inp, .slice s2 ln c2, .slice s3 r.1.length c3, .slice none 0 0] 28) := by rw [hWA]; exact blk_new wn _
                have hA1 : Below wn.heap.size wn WA := by rw [hWA]; exact belowA wn _
                rw [← hWA]
                clear hWA
                obtain ⟨Y, hYY⟩ : ∃ Y, Y = wn.heap.size := ⟨_, rfl⟩
                have hb := HJ.out.2.trans (hA1.mono HJ.out.2.size)
                have hsz : b2 ≤ wr.heap.size := HR.out.2.hs
                have hS2 := HR.out.2.below hb
                have hG : WA.ownsRow b2 24 2 (.slice s3 r.1.length c3) r.1.length (gcells r.1) := by
                  rcases HJ.out.1 with ⟨h, e⟩ | h
                  · rw [h, e]; exact hS2.g
                  · exact own_below (own_base h hsz) hA1
                clear hA1 hb hsz
                rw [← hYY] at hY ⊢
                clear hYY
                have hset := hS2.setAll hG
                obtain ⟨rc, rf⟩ := hS2.cells
                have cY := (blk_all hY).1
                clear hY hG hS2
                go_upto_region 20 with fail
                clear rc rf cY
                revert hset
                generalize ((((WA.setCell ⟨B, 0, none⟩ (.int .i64 c.inp)).setCell ⟨B, 1, none⟩ (.slice s2 ln c2)).setCell ⟨B, 2, none⟩ (.slice s3 r.1.length c3)).setCell ⟨B, 3, none⟩ (.slice none 0 0)) = WX
                intro hset
                have HSX := Lib.hid hset
                clear hset
                have HOX : Hid (∀ W, Below WX.heap.size WX W → W.ownsRow b2 3 1 (.slice sm (F + i) cm) (F + i) (ints m)) := fun W hW => by have := (HSX.out.below hW).m; rwa [show m.length = F + i from HMB.out.1] at this
                go_wp2_with (at_builtin; refine wpl_app rfl _ _ rfl elem_int (HOX.out _ ((Below.refl _ _).alloc (Nat.le_refl _) _)) rfl rfl rfl (Sl.new _ _ _) (by simp [Value.oneCell']) (F + i + 1) rfl (ints (m ++ [r.2])) (by rw [← ints_append]; rfl) (by unfold maxLen; omega) (by omega) (Nat.le_trans HSX.out.hs ((Below.refl _ _).alloc (Nat.le_refl _) _).size) ?_; intro s6 c6 w6 h6 hb6 hg6 _; have H6 := Lib.hid (BS.pushM (HSX.out.below ((Below.refl _ _).alloc (Nat.le_refl _) _)) (m' := m ++ [r.2]) (by rw [show (m ++ [r.2]).length = F + i + 1 by simp; exact HMB.out.1]; exact h6) hb6 hg6); clear h6 hb6 hg6)
                go_roundw
                case rel => exact ⟨i + 1, s6, c6, r.1, m ++ [r.2], (.slice s3 r.1.length c3), by omega, by go_num, rfl, HX.out.2.2.2.2.2.2.1, H6.out⟩
                case measure => simp [intOf]; try omega
          · obtain rfl : n = i := by omega
            obtain ⟨wl, rfl⟩ : ∃ wl, wl = wr := ⟨_, rfl⟩
            have hb2' : W0.heap.size ≤ b2 := by have h1 := H1.out.2.size; have h2 := HC.out.2.2.2; omega
            have hB' : W0.heap.size ≤ B := Nat.le_trans H1.out.2.size HC.out.2.2.2
            have hNS : NS W0 B W0.heap.size c.inp c.next (.slice s2 ln c2) gs (.slice sg2 gs.length cg2) [] (.slice none 0 0) m (.slice sm (F + n) cm) wl :=
              ⟨⟨HS.out.blk, HS.out.n, own_base HS.out.g hb2', World.ownsRow_nil _ _ _ _, fun k _ h => by simp [Value.ownBlock] at h⟩, own_base HS.out.m hb2', fun k hk h => by have h1 := (own_blk HS.out.m hk).1; have h2 := HS.out.hn k h; omega, fun k _ h => by simp [Value.ownBlock] at h, (HB1.out _ HS.out.kp).2.2.2.1, hB', Nat.le_trans hb2' HS.out.hs⟩
            obtain ⟨f, hf⟩ : ∃ f, f = mapB m := ⟨_, rfl⟩
            have hbc : balC c = ⟨c.inp, c.next.map f, gs, c.outs.map f⟩ := by
              have e : balP c c.gates.length = (gs, m) := by rw [← HN.out.1]; exact HST.out
              unfold balC; rw [e, hf]
            have HNS := Lib.hid (And.intro hNS (And.intro hbc hf))
            clear hNS hbc hf hb2' hB'
            go_upto_region 22 with fail
            clear cA cb
            go_loopw [12] (fun s13 wr => ∃ k : Nat, k ≤ ln ∧ s13 = .int .i64 k ∧ NS W0 B W0.heap.size c.inp ((c.next.take k).map f ++ c.next.drop k) (.slice s2 ln c2) gs (.slice sg2 gs.length cg2) [] (.slice none 0 0) m (.slice sm (F + n) cm) wr) (fun s13 _ => ln - (intOf s13).toNat)
            case atStart => exact ⟨0, Nat.zero_le _, rfl, by simpa using HNS.out.1⟩
            case round =>
              obtain ⟨k, hk, rfl, hN⟩ := hrel
              have hlen : ((c.next.take k).map f ++ c.next.drop k).length = ln := by have := HN.out.2.1; simp; omega
              have HX := Lib.hid (And.intro hN hlen)
              clear hN hlen
              have cA := (HB.out _ HX.out.1.bel).1
              have cb := (blk_all HX.out.1.out.blk).1
              by_cases hlt2 : k < ln
              · obtain ⟨x, hx⟩ := get_of_lt (l := c.next) (k := k) (by rw [← HN.out.2.1]; exact hlt2)
                obtain ⟨x0, x1⟩ := HLT.out x (.inl (List.mem_of_getElem? hx))
                obtain ⟨b, off, rfl, hbw, y1⟩ := (HS0.out _ (HB.out _ HX.out.1.bel).2.2.2).1.int (Below.refl _ _) hx
                have hno : wr.ownsRow W0.heap.size 3 1 (.slice s2 ln c2) ln (ints ((c.next.take k).map f ++ c.next.drop k)) := by have := HX.out.1.out.n; rwa [HX.out.2] at this
                obtain ⟨gn, rfl⟩ : ∃ g, s2 = some ⟨g, 0, none⟩ := by
                  rcases own_some hno with ⟨_, e, _⟩ | ⟨g, e⟩
                  · omega
                  · exact ⟨g, e⟩
                obtain ⟨z, hz⟩ := get_of_lt (l := (c.next.take k).map f ++ c.next.drop k) (k := k) (by rw [HX.out.2]; exact hlt2)
                have hsn := map_set (f := f) hx
                have HY := Lib.hid (And.intro hno (And.intro hz (And.intro hsn hx)))
                clear hno hz hsn hx
                have HCS : Hid (∀ W, Below wr.heap.size wr W → (∀ o, W.cell? ⟨B, o, none⟩ = #[Value.int .i64 c.inp, .slice (some ⟨gn, 0, none⟩) ln c2, .slice sg2 gs.length cg2, .slice none 0 0][o]?) ∧ (∀ o, W.cell? ⟨A, o, none⟩ = #[Value.int .i64 c.inp, .slice (some ⟨b, off, none⟩) ln cn, .slice sg n cg, .slice so lo co][o]?) ∧ W.cell? ⟨b, off + k, none⟩ = some (.int .i64 x)) := fun W hW =>
                  ⟨(blk_all (HX.out.1.below hW).out.blk).1, (HB.out _ (HX.out.1.below hW).bel).1, by obtain ⟨b', off', e', -, z1'⟩ := (HS0.out _ (HB.out _ (HX.out.1.below hW).bel).2.2.2).1.int (Below.refl _ _) HY.out.2.2.2; cases e'; exact z1'⟩
                go_upto_region 24 with fail
                refine wp_region_E (fun w' => (∀ o, w'.cell? ⟨B, o, none⟩ = #[Value.int .i64 c.inp, .slice (some ⟨gn, 0, none⟩) ln c2, .slice sg2 gs.length cg2, .slice none 0 0][o]?) ∧ (∀ o, w'.cell? ⟨A, o, none⟩ = #[Value.int .i64 c.inp, .slice (some ⟨b, off, none⟩) ln cn, .slice sg n cg, .slice so lo co][o]?) ∧ w'.cell? ⟨b, off + k, none⟩ = some (.int .i64 x)) 11 (.q 0 (.q 1 (.q 2 (.q 3 (.q 4 (.q 5 (.q 6 (.q 7 (.q 8 (.e 9 (.q 10 (.z 11)))))))))))) (by kernel_rfl) (by kernel_rfl) (by kernel_rfl) (by kernel_rfl) (by kernel_rfl) (by kernel_rfl) (HCS.out _ (Below.refl _ _).drew) ?_
                have hd := (Below.refl wr.heap.size wr).drew
                revert hd
                generalize wr.drew = Wd
                intro hd
                have HD := Lib.hid hd
                clear hd cA cb y1
                repeat (first | (refine orde_s (o := ?_) ?_ ?_ ?_; rotate_left 1; (focus ((simp only [zD, zE, zF]) <;> rfl)); (focus rfl); simp only [Act.put, zA, zB, zC]) | (refine orde_q (o := ?_) (v := ?_) ?_ ?_ ?_ ?_; rotate_left 2; (focus ((simp only [zD, zE, zF]) <;> rfl)); (focus rfl); (focus (intro w' hS; (try dsimp only at hS); go_split_ands; go_simp; (try (with_reducible rfl)))); simp only [Act.put, zA, zB, zC]))
                refine orde_e ?_
                (refine ope_e (o := ?_) ?_ ?_ (fun K hK => ?_); rotate_left 1; (focus ((simp only [zD, zE, zF]) <;> rfl)); (focus rfl); go_simp)
                refine (l3MapM_any _ _ _ m x _ HMB.out.1 (own_sl (show Wd.ownsRow W0.heap.size 3 1 (.slice sm (F + n) cm) (F + n) (ints m) by have := (HX.out.1.below HD.out).m; rwa [show m.length = F + n from HMB.out.1] at this)) x0 (by omega) (by omega) HMB.out.2).mono ?_
                rintro e wz ⟨rfl, rfl⟩
                rw [← HNS.out.2.2]
                refine hK.out _ _ (HCS.out _ HD.out) ?_
                clear hK K
                (try simp only [Act.put, zA, zB, zC])
                repeat (first | (refine orde_s (o := ?_) ?_ ?_ ?_; rotate_left 1; (focus ((simp only [zD, zE, zF]) <;> rfl)); (focus rfl); simp only [Act.put, zA, zB, zC]) | (refine orde_q (o := ?_) (v := ?_) ?_ ?_ ?_ ?_; rotate_left 2; (focus ((simp only [zD, zE, zF]) <;> rfl)); (focus rfl); (focus (intro w' hS; (try dsimp only at hS); go_split_ands; go_simp; (try (with_reducible rfl)))); simp only [Act.put, zA, zB, zC]))
                have q1 : Wd.cell? ⟨gn, k, none⟩ = some (.int .i64 z) := ((own_below HY.out.1 HD.out).cellAt k (by omega)).trans (ints_get HY.out.2.1)
                have q2 : Wd.frozen? ⟨gn, k, none⟩ = false := (own_below HY.out.1 HD.out).frozenAt k
                (refine orde_z (o := ?_) ?_ ?_ (fun K hK => ?_); rotate_left 1; (focus ((simp only [zD, zE, zF]) <;> rfl)); (focus rfl); go_simp)
                refine hK.out _ _ ?_
                clear hK K q1 q2
                have hset := NS.setN (j := k) (y := f x) HX.out.2 (HX.out.1.below HD.out)
                rw [HY.out.2.2.1] at hset
                revert hset
                generalize Wd.setCell ⟨gn, k, none⟩ (.int .i64 (f x)) = W9
                intro hset
                have H9 := Lib.hid hset
                clear hset
                go_wp2_with fail
                go_roundw
                case rel => exact ⟨k + 1, by omega, by go_num, H9.out⟩
                case measure => simp [intOf]; try omega
              · obtain rfl : ln = k := by omega
                have hN2 : NS W0 B W0.heap.size c.inp (c.next.map f) (.slice s2 ln c2) gs (.slice sg2 gs.length cg2) ((c.outs.take 0).map f) (.slice none 0 0) m (.slice sm (F + n) cm) wr := by
                  have := HX.out.1
                  rw [List.take_of_length_le (by rw [← HN.out.2.1]; exact Nat.le_refl _), List.drop_of_length_le (by rw [← HN.out.2.1]; exact Nat.le_refl _), List.append_nil] at this
                  simpa using this
                have HN2 := Lib.hid hN2
                clear hN2
                go_upto_region 26 with fail
                clear cA cb
                go_loopw [13] (fun s14 wr => ∃ (k : Nat) (so2 : Option Addr) (co2 : Nat), k ≤ lo ∧ s14 = .int .i64 k ∧ NS W0 B W0.heap.size c.inp (c.next.map f) (.slice s2 ln c2) gs (.slice sg2 gs.length cg2) ((c.outs.take k).map f) (.slice so2 k co2) m (.slice sm (F + n) cm) wr) (fun s14 _ => lo - (intOf s14).toNat)
                case atStart => exact ⟨0, _, _, Nat.zero_le _, rfl, HN2.out⟩
                case round =>
                  clear HX HN2
                  obtain ⟨k, so2, co2, hk, rfl, hN⟩ := hrel
                  have hlen : ((c.outs.take k).map f).length = k := by have := HN.out.2.2; simp; omega
                  have HX := Lib.hid (And.intro hN hlen)
                  clear hN hlen
                  have cA := (HB.out _ HX.out.1.bel).1
                  have cb := (blk_all HX.out.1.out.blk).1
                  by_cases hlt2 : k < lo
                  · obtain ⟨x, hx⟩ := get_of_lt (l := c.outs) (k := k) (by rw [← HN.out.2.2]; exact hlt2)
                    obtain ⟨x0, x1⟩ := HLT.out x (.inr (List.mem_of_getElem? hx))
                    obtain ⟨b, off, rfl, hbw, y1⟩ := (HS0.out _ (HB.out _ HX.out.1.bel).2.2.2).2.2.int (Below.refl _ _) hx
                    have hsn : (c.outs.take (k + 1)).map f = (c.outs.take k).map f ++ [f x] := by rw [List.take_add_one, hx]; simp
                    have HY := Lib.hid (And.intro hsn hx)
                    clear hsn hx
                    have HCS : Hid (∀ W, Below wr.heap.size wr W → (∀ o, W.cell? ⟨B, o, none⟩ = #[Value.int .i64 c.inp, .slice s2 ln c2, .slice sg2 gs.length cg2, .slice so2 k co2][o]?) ∧ (∀ o, W.cell? ⟨A, o, none⟩ = #[Value.int .i64 c.inp, .slice sn ln cn, .slice sg n cg, .slice (some ⟨b, off, none⟩) lo co][o]?) ∧ W.cell? ⟨b, off + k, none⟩ = some (.int .i64 x)) := fun W hW =>
                      ⟨(blk_all (HX.out.1.below hW).out.blk).1, (HB.out _ (HX.out.1.below hW).bel).1, by obtain ⟨b', off', e', -, z1'⟩ := (HS0.out _ (HB.out _ (HX.out.1.below hW).bel).2.2.2).2.2.int (Below.refl _ _) HY.out.2; cases e'; exact z1'⟩
                    go_upto_region 28 with fail
                    refine wp_region_E (fun w' => (∀ o, w'.cell? ⟨B, o, none⟩ = #[Value.int .i64 c.inp, .slice s2 ln c2, .slice sg2 gs.length cg2, .slice so2 k co2][o]?) ∧ (∀ o, w'.cell? ⟨A, o, none⟩ = #[Value.int .i64 c.inp, .slice sn ln cn, .slice sg n cg, .slice (some ⟨b, off, none⟩) lo co][o]?) ∧ w'.cell? ⟨b, off + k, none⟩ = some (.int .i64 x)) 12 (.q 0 (.q 1 (.q 2 (.q 3 (.q 4 (.q 5 (.q 6 (.q 7 (.e 8 (.e 9 (.e 10 (.q 11 (.z 12))))))))))))) (by kernel_rfl) (by kernel_rfl) (by kernel_rfl) (by kernel_rfl) (by kernel_rfl) (by kernel_rfl) (HCS.out _ (Below.refl _ _).drew) ?_
                    have hd := (Below.refl wr.heap.size wr).drew
                    revert hd
                    generalize wr.drew = Wd
                    intro hd
                    have HD := Lib.hid hd
                    clear hd cA cb y1
                    repeat (first | (refine orde_s (o := ?_) ?_ ?_ ?_; rotate_left 1; (focus ((simp only [zD, zE, zF]) <;> rfl)); (focus rfl); simp only [Act.put, zA, zB, zC]) | (refine orde_q (o := ?_) (v := ?_) ?_ ?_ ?_ ?_; rotate_left 2; (focus ((simp only [zD, zE, zF]) <;> rfl)); (focus rfl); (focus (intro w' hS; (try dsimp only at hS); go_split_ands; go_simp; (try (with_reducible rfl)))); simp only [Act.put, zA, zB, zC]))
                    refine orde_e ?_
                    (refine ope_e (o := ?_) ?_ ?_ (fun K hK => ?_); rotate_left 1; (focus ((simp only [zD, zE, zF]) <;> rfl)); (focus rfl); go_simp)
                    refine (l3MapM_any _ _ _ m x _ HMB.out.1 (own_sl (show Wd.ownsRow W0.heap.size 3 1 (.slice sm (F + n) cm) (F + n) (ints m) by have := (HX.out.1.below HD.out).m; rwa [show m.length = F + n from HMB.out.1] at this)) x0 (by omega) (by omega) HMB.out.2).mono ?_
                    rintro e wz ⟨rfl, rfl⟩
                    rw [← HNS.out.2.2]
                    refine hK.out _ _ (HCS.out _ HD.out) ?_
                    clear hK K
                    (try simp only [Act.put, zA, zB, zC])
                    repeat (first | (refine orde_s (o := ?_) ?_ ?_ ?_; rotate_left 1; (focus ((simp only [zD, zE, zF]) <;> rfl)); (focus rfl); simp only [Act.put, zA, zB, zC]) | (refine orde_q (o := ?_) (v := ?_) ?_ ?_ ?_ ?_; rotate_left 2; (focus ((simp only [zD, zE, zF]) <;> rfl)); (focus rfl); (focus (intro w' hS; (try dsimp only at hS); go_split_ands; go_simp; (try (with_reducible rfl)))); simp only [Act.put, zA, zB, zC]))
                    refine orde_e ?_
                    (refine ope_e (o := ?_) ?_ ?_ (fun K hK => ?_); rotate_left 1; (focus ((simp only [zD, zE, zF]) <;> rfl)); (focus rfl); go_simp)
                    have hb := HD.out.alloc HD.out.size (.cells #[.int .i64 (f x)] 3)
                    have hs := Sl.new Wd #[.int .i64 (f x)] 3
                    revert hb hs
                    generalize Wd.alloc (.cells #[.int .i64 (f x)] 3) = WA
                    intro hb hs
                    refine hK.out _ _ (HCS.out _ hb) ?_
                    clear hK K HD
                    have HD := Lib.hid hb
                    have HT := Lib.hid hs
                    clear hb hs
                    (try simp only [Act.put, zA, zB, zC])
                    refine orde_e ?_
                    (refine ope_e (o := ?_) ?_ ?_ (fun K hK => ?_); rotate_left 1; (focus ((simp only [zD, zE, zF]) <;> rfl)); (focus rfl))
                    have hout := (HX.out.1.below HD.out).out.o
                    rw [HX.out.2] at hout
                    refine wp_app (.tmp 105) (.tmp 113) rfl elem_int hout rfl rfl (by simp) HT.out (by simp [Value.oneCell']) (k + 1) rfl (ints ((c.outs.take (k + 1)).map f)) (by rw [HY.out.1, ← ints_append]; rfl) (by unfold maxLen; omega) (by omega) (HX.out.1.below HD.out).hs ?_
                    intro s7 c7 w7 h7 hb7 hg7 hob7
                    obtain ⟨hk7, hS7⟩ := (HX.out.1.below HD.out).pushO (xo' := (c.outs.take (k + 1)).map f) (vo' := .slice s7 (k + 1) c7) hg7 (by rw [show ((c.outs.take (k + 1)).map f).length = k + 1 by have := HN.out.2.2; simp; omega]; exact h7) hob7 hb7
                    have hbel7 : Below W0.heap.size W0 w7 := (HX.out.1.below HD.out).bel.trans hb7
                    refine hK.out _ _ ⟨(blk_all hk7).1, (HB.out _ hbel7).1, by obtain ⟨b', off', e', -, z1'⟩ := (HS0.out _ (HB.out _ hbel7).2.2.2).2.2.int (Below.refl _ _) HY.out.2; cases e'; exact z1'⟩ ?_
                    clear hK K hout
                    have y1 : w7.cell? ⟨B, 3, none⟩ = some (.slice so2 k co2) := blk_cell hk7
                    have y2 : w7.frozen? ⟨B, 3, none⟩ = false := blk_free hk7
                    have HS7 := Lib.hid hS7
                    clear hk7 hS7 hbel7 h7 hb7 hg7 hob7
                    (try simp only [Act.put, zA, zB, zC])
                    repeat (first | (refine orde_s (o := ?_) ?_ ?_ ?_; rotate_left 1; (focus ((simp only [zD, zE, zF]) <;> rfl)); (focus rfl); simp only [Act.put, zA, zB, zC]) | (refine orde_q (o := ?_) (v := ?_) ?_ ?_ ?_ ?_; rotate_left 2; (focus ((simp only [zD, zE, zF]) <;> rfl)); (focus rfl); (focus (intro w' hS; (try dsimp only at hS); go_split_ands; go_simp; (try (with_reducible rfl)))); simp only [Act.put, zA, zB, zC]))
                    (refine orde_z (o := ?_) ?_ ?_ (fun K hK => ?_); rotate_left 1; (focus ((simp only [zD, zE, zF]) <;> rfl)); (focus rfl); go_simp)
                    refine hK.out _ _ ?_
                    clear hK K y1 y2
                    revert HS7
                    generalize w7.setCell ⟨B, 3, none⟩ (.slice s7 (k + 1) c7) = W8
                    intro HS7
                    go_wp2_with fail
                    go_roundw
                    case rel => exact ⟨k + 1, s7, c7, by omega, by go_num, HS7.out⟩
                    case measure => simp [intOf]; try omega
                  · obtain rfl : lo = k := by omega
                    have hcir : CirOwn wr W0.heap.size (balC c) (.slice s2 ln c2) (.slice sg2 gs.length cg2) (.slice so2 lo co2) := by
                      rw [HNS.out.2.1]
                      have ho := HX.out.1.out.o
                      rw [List.take_of_length_le (by rw [← HN.out.2.2]; exact Nat.le_refl _)] at ho
                      exact ⟨HX.out.1.out.n, HX.out.1.out.g, ho, HX.out.1.out.ne, by have := HN.out.2.1; simp; omega, by show gs.length ≤ _; omega, by have := HN.out.2.2; simp; omega⟩
                    have HCR := Lib.hid hcir
                    have HXB := Lib.hid (And.intro HX.out.1.out.blk (And.intro HX.out.1.bel HX.out.1.hB))
                    clear hcir
                    obtain ⟨E, hE⟩ : ∃ E, E = optC (balC c) := ⟨_, rfl⟩
                    have hE0 : buildC false (buildC true (balC c)) = E := hE.symm
                    have HEE : Hid (E = optC (balC c) ∧ E.inp = c.inp) := ⟨hE, by rw [hE]; rfl⟩
                    have HE0 := Lib.hid hE0
                    clear hE hE0
                    go_upto_region 30 with (first
                      | (go_at_call 48; ((with_reducible refine (l3Build_any _ (balC c) true _ (show CirV _ (.agg #[.int .i64 c.inp, .slice s2 ln c2, .slice sg2 gs.length cg2, .slice so2 lo co2]) (balC c) from HCR.out.toV) (balC_wide HV.out)).mono ?_); rintro e w5 ⟨vn5, vg5, vo5, rfl, ho, hq⟩; rw [show (balC c).inp = c.inp from rfl]; have H5 := Lib.hid (And.intro ho hq); clear hq ho cb))
                      | (go_at_call 48; ((with_reducible refine (l3Build_any _ (buildC true (balC c)) false _ (show CirV _ (.agg #[.int .i64 c.inp, vn5, vg5, vo5]) (buildC true (balC c)) from H5.out.1.toV) (buildC_wide (balC_wide HV.out) true)).mono ?_); rintro e w6 ⟨vn6, vg6, vo6, rfl, ho, hq⟩; rw [show (buildC true (balC c)).inp = c.inp from rfl]; rw [HE0.out] at ho; obtain ⟨sn6, cn6, rfl⟩ := own_shape ho.n; obtain ⟨sg6, cg6, rfl⟩ := own_shape ho.g; obtain ⟨so6, co6, rfl⟩ := own_shape ho.o; have H6 := Lib.hid (And.intro ho (And.intro (H5.out.2.trans (hq.mono H5.out.2.size)) H5.out.2.size)); clear hq ho; obtain ⟨rc, rf⟩ := blk_all (blk_below H6.out.2.1 (blk_lt HXB.out.1) HXB.out.1))))
                    have hBl := blk_lt HXB.out.1
                    have hZ : ((((w6.setCell ⟨B, 0, none⟩ (.int .i64 c.inp)).setCell ⟨B, 1, none⟩ (.slice sn6 E.next.length cn6)).setCell ⟨B, 2, none⟩ (.slice sg6 E.gates.length cg6)).setCell ⟨B, 3, none⟩ (.slice so6 E.outs.length co6)).heap[B]? = some (.cells #[Value.int .i64 c.inp, .slice sn6 E.next.length cn6, .slice sg6 E.gates.length cg6, .slice so6 E.outs.length co6] 28 (0, 0)) := by
                      simpa using blk_set (o := 3) (v := (.slice so6 E.outs.length co6)) (blk_set (o := 2) (v := (.slice sg6 E.gates.length cg6)) (blk_set (o := 1) (v := (.slice sn6 E.next.length cn6)) (blk_set (o := 0) (v := (.int .i64 c.inp)) (blk_below H6.out.2.1 hBl HXB.out.1))))
                    have hO := (H6.out.1).sets4 (r := B) (by have := H6.out.2.2; omega) (base := W0.heap.size) (by have := H6.out.2.2; have := HXB.out.2.2; omega) (a := (.int .i64 c.inp)) (b' := (.slice sn6 E.next.length cn6)) (c' := (.slice sg6 E.gates.length cg6)) (d := (.slice so6 E.outs.length co6))
                    have hbz := ((((HXB.out.2.1.trans (H6.out.2.1.mono HXB.out.2.1.size)).setCell (p := ⟨B, 0, none⟩) HXB.out.2.2 (.int .i64 c.inp)).setCell (p := ⟨B, 1, none⟩) HXB.out.2.2 (.slice sn6 E.next.length cn6)).setCell (p := ⟨B, 2, none⟩) HXB.out.2.2 (.slice sg6 E.gates.length cg6)).setCell (p := ⟨B, 3, none⟩) HXB.out.2.2 (.slice so6 E.outs.length co6)
                    clear rc rf hBl cA
                    revert hZ hO hbz
                    generalize ((((w6.setCell ⟨B, 0, none⟩ (.int .i64 c.inp)).setCell ⟨B, 1, none⟩ (.slice sn6 E.next.length cn6)).setCell ⟨B, 2, none⟩ (.slice sg6 E.gates.length cg6)).setCell ⟨B, 3, none⟩ (.slice so6 E.outs.length co6)) = WZ
                    intro hZ hO hbz
                    have hlowW : w.heap.size ≤ W0.heap.size := by have h1 := HA.out.2.2.1; have h2 := HW.out.2.1; omega
                    have HS9 : Hid (∀ W, Below WZ.heap.size WZ W → ((∀ o, W.cell? ⟨B, o, none⟩ = #[Value.int .i64 c.inp, .slice sn6 E.next.length cn6, .slice sg6 E.gates.length cg6, .slice so6 E.outs.length co6][o]?) ∧ (∀ o, W.cell? ⟨A, o, none⟩ = #[Value.int .i64 c.inp, .slice sn ln cn, .slice sg n cg, .slice so lo co][o]?)) ∧ CirV W (.agg #[Value.int .i64 c.inp, .slice sn6 E.next.length cn6, .slice sg6 E.gates.length cg6, .slice so6 E.outs.length co6]) E ∧ CirV W (.agg #[Value.int .i64 c.inp, .slice sn ln cn, .slice sg n cg, .slice so lo co]) c ∧ CirOwn W W0.heap.size E (.slice sn6 E.next.length cn6) (.slice sg6 E.gates.length cg6) (.slice so6 E.outs.length co6) ∧ CirOwn W (D0 + 2) c (.slice sn ln cn) (.slice sg n cg) (.slice so lo co) ∧ W.heap[D0 + 1]? = some (.cells #[.int .i64 0, .slice none 0 0, .slice none 0 0, .slice none 0 0] 28 (0, 0)) ∧ Below w.heap.size w W ∧ D0 + 2 ≤ W0.heap.size) := fun W hW => by
                      have hb := hbz.trans (hW.mono hbz.size)
                      have ho := cirOwn_below hO hW
                      have hv := ho.toV
                      rw [HEE.out.2] at hv
                      exact ⟨⟨(blk_all (blk_below hW (blk_lt hZ) hZ)).1, (HB.out _ hb).1⟩, hv, (HB.out _ hb).2.2.1, ho, HOW.out _ hb, (HB.out _ hb).2.1, HBX.out _ hb, HA.out.2.2.1⟩
                    clear hZ hO hbz hlowW
                    obtain ⟨de, hde⟩ : ∃ de, de = depR E := ⟨_, rfl⟩
                    obtain ⟨dc, hdc⟩ : ∃ dc, dc = depR c := ⟨_, rfl⟩
                    have HDP := Lib.hid (And.intro hde.symm hdc.symm)
                    have HDC : Hid (depC c = dc) := Lib.hid (by rw [hdc]; unfold depR; rw [if_pos (c.validB_iff.2 HV.out)])
                    cases hEv : E.validB
                    · have HEV := Lib.hid hEv
                      clear hEv hde hdc
                      refine wp_region_T (fun W => (∀ o, W.cell? ⟨B, o, none⟩ = #[Value.int .i64 c.inp, .slice sn6 E.next.length cn6, .slice sg6 E.gates.length cg6, .slice so6 E.outs.length co6][o]?) ∧ (∀ o, W.cell? ⟨A, o, none⟩ = #[Value.int .i64 c.inp, .slice sn ln cn, .slice sg n cg, .slice so lo co][o]?)) (.q 0 (.e 1 (.q 2 (.q 3 (.q 4 (.q 6 (.e 5 (.e 7 (.q 8 (.q 9 (.q 10 (.q 11 (.q 13 (.e 12 (.e 14 (.q 15 (.q 16 (.q 17 (.q 18 (.q 19 (.q 20 (.q 21 (.q 22 (.q 23 (.q 24 (.q 25 .nil)))))))))))))))))))))))))) (by kernel_rfl) (by kernel_rfl) (by kernel_rfl) (HS9.out _ (Below.refl _ _).drew).1 ?_
                      have hd := (Below.refl WZ.heap.size WZ).drew
                      revert hd
                      generalize WZ.drew = Wd
                      intro hd
                      have HD := Lib.hid hd
                      clear hd
                      repeat (first | (refine ordt_s (o := ?_) ?_ ?_ ?_; rotate_left 1; (focus ((simp only [zD, zE, zF]) <;> rfl)); (focus rfl); simp only [Act.put, zA, zB, zC]) | (refine ordt_q (o := ?_) (v := ?_) ?_ ?_ ?_ ?_; rotate_left 2; (focus ((simp only [zD, zE, zF]) <;> rfl)); (focus rfl); (focus (intro w' hS; (try dsimp only at hS); go_split_ands; go_simp; (try (with_reducible rfl)))); simp only [Act.put, zA, zB, zC]))
                      refine ordt_e ?_
                      (refine op_e (o := ?_) ?_ ?_ (fun K hK => ?_); rotate_left 1; (focus ((simp only [zD, zE, zF]) <;> rfl)); (focus rfl); go_simp)
                      refine (CircuitValid_s _ E _ (HS9.out _ HD.out).2.1).mono ?_
                      rintro e wz ⟨rfl, hq⟩
                      rw [HEV.out]
                      have hb := HD.out.trans (hq.mono HD.out.size)
                      refine hK.out _ _ (HS9.out _ hb).1 ?_
                      clear hK K HD
                      have HD := Lib.hid hb
                      clear hb hq
                      (try simp only [Act.put, zA, zB, zC])
                      repeat (first | (refine ordt_s (o := ?_) ?_ ?_ ?_; rotate_left 1; (focus ((simp only [zD, zE, zF]) <;> rfl)); (focus rfl); simp only [Act.put, zA, zB, zC]) | (refine ordt_q (o := ?_) (v := ?_) ?_ ?_ ?_ ?_; rotate_left 2; (focus ((simp only [zD, zE, zF]) <;> rfl)); (focus rfl); (focus (intro w' hS; (try dsimp only at hS); go_split_ands; go_simp; (try (with_reducible rfl)))); simp only [Act.put, zA, zB, zC]))
                      (refine ordt_eS (o := ?_) ?_ ?_ (HS9.out _ HD.out).1 ?_; rotate_left 1; (focus ((simp only [zD, zE, zF]) <;> rfl)); (focus rfl); simp only [Act.put, zA, zB, zC])
                      (refine ordt_eS (o := ?_) ?_ ?_ (HS9.out _ HD.out).1 ?_; rotate_left 1; (focus ((simp only [zD, zE, zF]) <;> rfl)); (focus rfl); simp only [Act.put, zA, zB, zC])
                      repeat (first | (refine ordt_s (o := ?_) ?_ ?_ ?_; rotate_left 1; (focus ((simp only [zD, zE, zF]) <;> rfl)); (focus rfl); simp only [Act.put, zA, zB, zC]) | (refine ordt_q (o := ?_) (v := ?_) ?_ ?_ ?_ ?_; rotate_left 2; (focus ((simp only [zD, zE, zF]) <;> rfl)); (focus rfl); (focus (intro w' hS; (try dsimp only at hS); go_split_ands; go_simp; (try (with_reducible rfl)))); simp only [Act.put, zA, zB, zC]))
                      (refine ordt_eS (o := ?_) ?_ ?_ (HS9.out _ HD.out).1 ?_; rotate_left 1; (focus ((simp only [zD, zE, zF]) <;> rfl)); (focus rfl); simp only [Act.put, zA, zB, zC])
                      (refine ordt_eS (o := ?_) ?_ ?_ (HS9.out _ HD.out).1 ?_; rotate_left 1; (focus ((simp only [zD, zE, zF]) <;> rfl)); (focus rfl); simp only [Act.put, zA, zB, zC])
                      repeat (first | (refine ordt_s (o := ?_) ?_ ?_ ?_; rotate_left 1; (focus ((simp only [zD, zE, zF]) <;> rfl)); (focus rfl); simp only [Act.put, zA, zB, zC]) | (refine ordt_q (o := ?_) (v := ?_) ?_ ?_ ?_ ?_; rotate_left 2; (focus ((simp only [zD, zE, zF]) <;> rfl)); (focus rfl); (focus (intro w' hS; (try dsimp only at hS); go_split_ands; go_simp; (try (with_reducible rfl)))); simp only [Act.put, zA, zB, zC]))
                      refine ordt_nil ?_
                      obtain ⟨⟨cB, cA⟩, -, -, -, -, hR, hbw, hsz⟩ := HS9.out _ HD.out
                      obtain ⟨rc, rf⟩ := blk_all hR
                      go_wp2_with fail
                      have hZ : ((((wz.setCell ⟨D0 + 1, 0, none⟩ (.int .i64 c.inp)).setCell ⟨D0 + 1, 1, none⟩ (.slice sn ln cn)).setCell ⟨D0 + 1, 2, none⟩ (.slice sg n cg)).setCell ⟨D0 + 1, 3, none⟩ (.slice so lo co)).heap[D0 + 1]? = some (.cells #[Value.int .i64 c.inp, .slice sn ln cn, .slice sg n cg, .slice so lo co] 28 (0, 0)) := by
                        simpa using blk_set (o := 3) (v := (.slice so lo co)) (blk_set (o := 2) (v := (.slice sg n cg)) (blk_set (o := 1) (v := (.slice sn ln cn)) (blk_set (o := 0) (v := (.int .i64 c.inp)) hR)))
                      have hD0 : D0 = w.heap.size := HW.out.2.1
                      have hO := ((HS9.out _ HD.out).2.2.2.2.1).sets4 (r := D0 + 1) (by omega) (base := w.heap.size) (by omega) (a := (.int .i64 c.inp)) (b' := (.slice sn ln cn)) (c' := (.slice sg n cg)) (d := (.slice so lo co))
                      have hbz := (((hbw.setCell (p := ⟨D0 + 1, 0, none⟩) (by simp; omega) (.int .i64 c.inp)).setCell (p := ⟨D0 + 1, 1, none⟩) (by simp; omega) (.slice sn ln cn)).setCell (p := ⟨D0 + 1, 2, none⟩) (by simp; omega) (.slice sg n cg)).setCell (p := ⟨D0 + 1, 3, none⟩) (by simp; omega) (.slice so lo co)
                      clear rc rf cB cA
                      revert hZ hO hbz
                      generalize ((((wz.setCell ⟨D0 + 1, 0, none⟩ (.int .i64 c.inp)).setCell ⟨D0 + 1, 1, none⟩ (.slice sn ln cn)).setCell ⟨D0 + 1, 2, none⟩ (.slice sg n cg)).setCell ⟨D0 + 1, 3, none⟩ (.slice so lo co)) = WQ
                      intro hZ hO hbz
                      have cr := (blk_all hZ).1
                      have hbr : balR d = c := by rw [HD0.out.2.1]; unfold balR; rw [if_pos HD0.out.1, ← HD0.out.2.1, ← HEE.out.1, if_pos (.inl HEV.out)]
                      rw [hbr]
                      exact bodyPost_ret (v := .agg #[Value.int .i64 c.inp, .slice sn ln cn, .slice sg n cg, .slice so lo co]) (by simp [results, Try.results13, go_sem, cr]) rfl ⟨_, _, _, rfl, hO, hbz⟩
                    · have HEV := Lib.hid hEv
                      have HDE : Hid (depC E = de) := Lib.hid (by rw [hde]; unfold depR; rw [if_pos hEv])
                      clear hEv hde hdc
                      by_cases h1 : dc < de
                      · have HH := Lib.hid h1
                        refine wp_region_T (fun W => (∀ o, W.cell? ⟨B, o, none⟩ = #[Value.int .i64 c.inp, .slice sn6 E.next.length cn6, .slice sg6 E.gates.length cg6, .slice so6 E.outs.length co6][o]?) ∧ (∀ o, W.cell? ⟨A, o, none⟩ = #[Value.int .i64 c.inp, .slice sn ln cn, .slice sg n cg, .slice so lo co][o]?)) (.q 0 (.e 1 (.q 2 (.q 3 (.q 4 (.q 6 (.e 5 (.e 7 (.q 8 (.q 9 (.q 10 (.q 11 (.q 13 (.e 12 (.e 14 (.q 15 (.q 16 (.q 17 (.q 18 (.q 19 (.q 20 (.q 21 (.q 22 (.q 23 (.q 24 (.q 25 .nil)))))))))))))))))))))))))) (by kernel_rfl) (by kernel_rfl) (by kernel_rfl) (HS9.out _ (Below.refl _ _).drew).1 ?_
                        have hd := (Below.refl WZ.heap.size WZ).drew
                        revert hd
                        generalize WZ.drew = Wd
                        intro hd
                        have HD := Lib.hid hd
                        clear hd
                        repeat (first | (refine ordt_s (o := ?_) ?_ ?_ ?_; rotate_left 1; (focus ((simp only [zD, zE, zF]) <;> rfl)); (focus rfl); simp only [Act.put, zA, zB, zC]) | (refine ordt_q (o := ?_) (v := ?_) ?_ ?_ ?_ ?_; rotate_left 2; (focus ((simp only [zD, zE, zF]) <;> rfl)); (focus rfl); (focus (intro w' hS; (try dsimp only at hS); go_split_ands; go_simp; (try (with_reducible rfl)))); simp only [Act.put, zA, zB, zC]))
                        refine ordt_e ?_
                        (refine op_e (o := ?_) ?_ ?_ (fun K hK => ?_); rotate_left 1; (focus ((simp only [zD, zE, zF]) <;> rfl)); (focus rfl); go_simp)
                        refine (CircuitValid_s _ E _ (HS9.out _ HD.out).2.1).mono ?_
                        rintro e wz ⟨rfl, hq⟩
                        rw [HEV.out]
                        have hb := HD.out.trans (hq.mono HD.out.size)
                        refine hK.out _ _ (HS9.out _ hb).1 ?_
                        clear hK K HD
                        have HD := Lib.hid hb
                        clear hb hq
                        (try simp only [Act.put, zA, zB, zC])
                        repeat (first | (refine ordt_s (o := ?_) ?_ ?_ ?_; rotate_left 1; (focus ((simp only [zD, zE, zF]) <;> rfl)); (focus rfl); simp only [Act.put, zA, zB, zC]) | (refine ordt_q (o := ?_) (v := ?_) ?_ ?_ ?_ ?_; rotate_left 2; (focus ((simp only [zD, zE, zF]) <;> rfl)); (focus rfl); (focus (intro w' hS; (try dsimp only at hS); go_split_ands; go_simp; (try (with_reducible rfl)))); simp only [Act.put, zA, zB, zC]))
                        refine ordt_e ?_
                        (refine op_e (o := ?_) ?_ ?_ (fun K hK => ?_); rotate_left 1; (focus ((simp only [zD, zE, zF]) <;> rfl)); (focus rfl); go_simp)
                        refine (Depth_s _ E _ (HS9.out _ HD.out).2.1).mono ?_
                        rintro e wz ⟨rfl, hq⟩
                        rw [HDP.out.1]
                        have hb := HD.out.trans (hq.mono HD.out.size)
                        refine hK.out _ _ (HS9.out _ hb).1 ?_
                        clear hK K HD
                        have HD := Lib.hid hb
                        clear hb hq
                        (try simp only [Act.put, zA, zB, zC])
                        refine ordt_e ?_
                        (refine op_e (o := ?_) ?_ ?_ (fun K hK => ?_); rotate_left 1; (focus ((simp only [zD, zE, zF]) <;> rfl)); (focus rfl); go_simp)
                        refine (Depth_s _ c _ (HS9.out _ HD.out).2.2.1).mono ?_
                        rintro e wz ⟨rfl, hq⟩
                        rw [HDP.out.2]
                        have hb := HD.out.trans (hq.mono HD.out.size)
                        refine hK.out _ _ (HS9.out _ hb).1 ?_
                        clear hK K HD
                        have HD := Lib.hid hb
                        clear hb hq
                        (try simp only [Act.put, zA, zB, zC])
                        repeat (first | (refine ordt_s (o := ?_) ?_ ?_ ?_; rotate_left 1; (focus ((simp only [zD, zE, zF]) <;> rfl)); (focus rfl); simp only [Act.put, zA, zB, zC]) | (refine ordt_q (o := ?_) (v := ?_) ?_ ?_ ?_ ?_; rotate_left 2; (focus ((simp only [zD, zE, zF]) <;> rfl)); (focus rfl); (focus (intro w' hS; (try dsimp only at hS); go_split_ands; go_simp; (try (with_reducible rfl)))); simp only [Act.put, zA, zB, zC]))
                        (refine ordt_eS (o := ?_) ?_ ?_ (HS9.out _ HD.out).1 ?_; rotate_left 1; (focus ((simp only [zD, zE, zF]) <;> rfl)); (focus rfl); simp only [Act.put, zA, zB, zC])
                        (refine ordt_eS (o := ?_) ?_ ?_ (HS9.out _ HD.out).1 ?_; rotate_left 1; (focus ((simp only [zD, zE, zF]) <;> rfl)); (focus rfl); simp only [Act.put, zA, zB, zC])
                        repeat (first | (refine ordt_s (o := ?_) ?_ ?_ ?_; rotate_left 1; (focus ((simp only [zD, zE, zF]) <;> rfl)); (focus rfl); simp only [Act.put, zA, zB, zC]) | (refine ordt_q (o := ?_) (v := ?_) ?_ ?_ ?_ ?_; rotate_left 2; (focus ((simp only [zD, zE, zF]) <;> rfl)); (focus rfl); (focus (intro w' hS; (try dsimp only at hS); go_split_ands; go_simp; (try (with_reducible rfl)))); simp only [Act.put, zA, zB, zC]))
                        refine ordt_nil ?_
                        obtain ⟨⟨cB, cA⟩, -, -, -, -, hR, hbw, hsz⟩ := HS9.out _ HD.out
                        obtain ⟨rc, rf⟩ := blk_all hR
                        go_wp2_with fail
                        have hZ : ((((wz.setCell ⟨D0 + 1, 0, none⟩ (.int .i64 c.inp)).setCell ⟨D0 + 1, 1, none⟩ (.slice sn ln cn)).setCell ⟨D0 + 1, 2, none⟩ (.slice sg n cg)).setCell ⟨D0 + 1, 3, none⟩ (.slice so lo co)).heap[D0 + 1]? = some (.cells #[Value.int .i64 c.inp, .slice sn ln cn, .slice sg n cg, .slice so lo co] 28 (0, 0)) := by
                          simpa using blk_set (o := 3) (v := (.slice so lo co)) (blk_set (o := 2) (v := (.slice sg n cg)) (blk_set (o := 1) (v := (.slice sn ln cn)) (blk_set (o := 0) (v := (.int .i64 c.inp)) hR)))
                        have hD0 : D0 = w.heap.size := HW.out.2.1
                        have hO := ((HS9.out _ HD.out).2.2.2.2.1).sets4 (r := D0 + 1) (by omega) (base := w.heap.size) (by omega) (a := (.int .i64 c.inp)) (b' := (.slice sn ln cn)) (c' := (.slice sg n cg)) (d := (.slice so lo co))
                        have hbz := (((hbw.setCell (p := ⟨D0 + 1, 0, none⟩) (by simp; omega) (.int .i64 c.inp)).setCell (p := ⟨D0 + 1, 1, none⟩) (by simp; omega) (.slice sn ln cn)).setCell (p := ⟨D0 + 1, 2, none⟩) (by simp; omega) (.slice sg n cg)).setCell (p := ⟨D0 + 1, 3, none⟩) (by simp; omega) (.slice so lo co)
                        clear rc rf cB cA
                        revert hZ hO hbz
                        generalize ((((wz.setCell ⟨D0 + 1, 0, none⟩ (.int .i64 c.inp)).setCell ⟨D0 + 1, 1, none⟩ (.slice sn ln cn)).setCell ⟨D0 + 1, 2, none⟩ (.slice sg n cg)).setCell ⟨D0 + 1, 3, none⟩ (.slice so lo co)) = WQ
                        intro hZ hO hbz
                        have cr := (blk_all hZ).1
                        have hbr : balR d = c := by rw [HD0.out.2.1]; unfold balR; rw [if_pos HD0.out.1, ← HD0.out.2.1, ← HEE.out.1, if_pos (.inr (.inl (by rw [HDC.out, HDE.out]; exact HH.out)))]
                        rw [hbr]
                        exact bodyPost_ret (v := .agg #[Value.int .i64 c.inp, .slice sn ln cn, .slice sg n cg, .slice so lo co]) (by simp [results, Try.results13, go_sem, cr]) rfl ⟨_, _, _, rfl, hO, hbz⟩
                      · by_cases h2 : de = dc
                        · by_cases h3 : n < E.gates.length
                          · have HH := Lib.hid (And.intro h1 (And.intro h2 h3))
                            have h2' : (de == dc) = true := beq_iff_eq.2 h2
                            clear h2
                            refine wp_region_T (fun W => (∀ o, W.cell? ⟨B, o, none⟩ = #[Value.int .i64 c.inp, .slice sn6 E.next.length cn6, .slice sg6 E.gates.length cg6, .slice so6 E.outs.length co6][o]?) ∧ (∀ o, W.cell? ⟨A, o, none⟩ = #[Value.int .i64 c.inp, .slice sn ln cn, .slice sg n cg, .slice so lo co][o]?)) (.q 0 (.e 1 (.q 2 (.q 3 (.q 4 (.q 6 (.e 5 (.e 7 (.q 8 (.q 9 (.q 10 (.q 11 (.q 13 (.e 12 (.e 14 (.q 15 (.q 16 (.q 17 (.q 18 (.q 19 (.q 20 (.q 21 (.q 22 (.q 23 (.q 24 (.q 25 .nil)))))))))))))))))))))))))) (by kernel_rfl) (by kernel_rfl) (by kernel_rfl) (HS9.out _ (Below.refl _ _).drew).1 ?_
                            have hd := (Below.refl WZ.heap.size WZ).drew
                            revert hd
                            generalize WZ.drew = Wd
                            intro hd
                            have HD := Lib.hid hd
                            clear hd
                            repeat (first | (refine ordt_s (o := ?_) ?_ ?_ ?_; rotate_left 1; (focus ((simp only [zD, zE, zF]) <;> rfl)); (focus rfl); simp only [Act.put, zA, zB, zC]) | (refine ordt_q (o := ?_) (v := ?_) ?_ ?_ ?_ ?_; rotate_left 2; (focus ((simp only [zD, zE, zF]) <;> rfl)); (focus rfl); (focus (intro w' hS; (try dsimp only at hS); go_split_ands; go_simp; (try (with_reducible rfl)))); simp only [Act.put, zA, zB, zC]))
                            refine ordt_e ?_
                            (refine op_e (o := ?_) ?_ ?_ (fun K hK => ?_); rotate_left 1; (focus ((simp only [zD, zE, zF]) <;> rfl)); (focus rfl); go_simp)
                            refine (CircuitValid_s _ E _ (HS9.out _ HD.out).2.1).mono ?_
                            rintro e wz ⟨rfl, hq⟩
                            rw [HEV.out]
                            have hb := HD.out.trans (hq.mono HD.out.size)
                            refine hK.out _ _ (HS9.out _ hb).1 ?_
                            clear hK K HD
                            have HD := Lib.hid hb
                            clear hb hq
                            (try simp only [Act.put, zA, zB, zC])
                            repeat (first | (refine ordt_s (o := ?_) ?_ ?_ ?_; rotate_left 1; (focus ((simp only [zD, zE, zF]) <;> rfl)); (focus rfl); simp only [Act.put, zA, zB, zC]) | (refine ordt_q (o := ?_) (v := ?_) ?_ ?_ ?_ ?_; rotate_left 2; (focus ((simp only [zD, zE, zF]) <;> rfl)); (focus rfl); (focus (intro w' hS; (try dsimp only at hS); go_split_ands; go_simp; (try (with_reducible rfl)))); simp only [Act.put, zA, zB, zC]))
                            refine ordt_e ?_
                            (refine op_e (o := ?_) ?_ ?_ (fun K hK => ?_); rotate_left 1; (focus ((simp only [zD, zE, zF]) <;> rfl)); (focus rfl); go_simp)
                            refine (Depth_s _ E _ (HS9.out _ HD.out).2.1).mono ?_
                            rintro e wz ⟨rfl, hq⟩
                            rw [HDP.out.1]
                            have hb := HD.out.trans (hq.mono HD.out.size)
                            refine hK.out _ _ (HS9.out _ hb).1 ?_
                            clear hK K HD
                            have HD := Lib.hid hb
                            clear hb hq
                            (try simp only [Act.put, zA, zB, zC])
                            refine ordt_e ?_
                            (refine op_e (o := ?_) ?_ ?_ (fun K hK => ?_); rotate_left 1; (focus ((simp only [zD, zE, zF]) <;> rfl)); (focus rfl); go_simp)
                            refine (Depth_s _ c _ (HS9.out _ HD.out).2.2.1).mono ?_
                            rintro e wz ⟨rfl, hq⟩
                            rw [HDP.out.2]
                            have hb := HD.out.trans (hq.mono HD.out.size)
                            refine hK.out _ _ (HS9.out _ hb).1 ?_
                            clear hK K HD
                            have HD := Lib.hid hb
                            clear hb hq
                            (try simp only [Act.put, zA, zB, zC])
                            repeat (first | (refine ordt_s (o := ?_) ?_ ?_ ?_; rotate_left 1; (focus ((simp only [zD, zE, zF]) <;> rfl)); (focus rfl); simp only [Act.put, zA, zB, zC]) | (refine ordt_q (o := ?_) (v := ?_) ?_ ?_ ?_ ?_; rotate_left 2; (focus ((simp only [zD, zE, zF]) <;> rfl)); (focus rfl); (focus (intro w' hS; (try dsimp only at hS); go_split_ands; go_simp; (try (with_reducible rfl)))); simp only [Act.put, zA, zB, zC]))
                            refine ordt_e ?_
                            (refine op_e (o := ?_) ?_ ?_ (fun K hK => ?_); rotate_left 1; (focus ((simp only [zD, zE, zF]) <;> rfl)); (focus rfl); go_simp)
                            refine (Depth_s _ E _ (HS9.out _ HD.out).2.1).mono ?_
                            rintro e wz ⟨rfl, hq⟩
                            rw [HDP.out.1]
                            have hb := HD.out.trans (hq.mono HD.out.size)
                            refine hK.out _ _ (HS9.out _ hb).1 ?_
                            clear hK K HD
                            have HD := Lib.hid hb
                            clear hb hq
                            (try simp only [Act.put, zA, zB, zC])
                            refine ordt_e ?_
                            (refine op_e (o := ?_) ?_ ?_ (fun K hK => ?_); rotate_left 1; (focus ((simp only [zD, zE, zF]) <;> rfl)); (focus rfl); go_simp)
                            refine (Depth_s _ c _ (HS9.out _ HD.out).2.2.1).mono ?_
                            rintro e wz ⟨rfl, hq⟩
                            rw [HDP.out.2]
                            have hb := HD.out.trans (hq.mono HD.out.size)
                            refine hK.out _ _ (HS9.out _ hb).1 ?_
                            clear hK K HD
                            have HD := Lib.hid hb
                            clear hb hq
                            (try simp only [Act.put, zA, zB, zC])
                            repeat (first | (refine ordt_s (o := ?_) ?_ ?_ ?_; rotate_left 1; (focus ((simp only [zD, zE, zF]) <;> rfl)); (focus rfl); simp only [Act.put, zA, zB, zC]) | (refine ordt_q (o := ?_) (v := ?_) ?_ ?_ ?_ ?_; rotate_left 2; (focus ((simp only [zD, zE, zF]) <;> rfl)); (focus rfl); (focus (intro w' hS; (try dsimp only at hS); go_split_ands; go_simp; (try (with_reducible rfl)))); simp only [Act.put, zA, zB, zC]))
                            refine ordt_nil ?_
                            obtain ⟨⟨cB, cA⟩, -, -, -, -, hR, hbw, hsz⟩ := HS9.out _ HD.out
                            obtain ⟨rc, rf⟩ := blk_all hR
                            go_wp2_with fail
                            have hZ : ((((wz.setCell ⟨D0 + 1, 0, none⟩ (.int .i64 c.inp)).setCell ⟨D0 + 1, 1, none⟩ (.slice sn ln cn)).setCell ⟨D0 + 1, 2, none⟩ (.slice sg n cg)).setCell ⟨D0 + 1, 3, none⟩ (.slice so lo co)).heap[D0 + 1]? = some (.cells #[Value.int .i64 c.inp, .slice sn ln cn, .slice sg n cg, .slice so lo co] 28 (0, 0)) := by
                              simpa using blk_set (o := 3) (v := (.slice so lo co)) (blk_set (o := 2) (v := (.slice sg n cg)) (blk_set (o := 1) (v := (.slice sn ln cn)) (blk_set (o := 0) (v := (.int .i64 c.inp)) hR)))
                            have hD0 : D0 = w.heap.size := HW.out.2.1
                            have hO := ((HS9.out _ HD.out).2.2.2.2.1).sets4 (r := D0 + 1) (by omega) (base := w.heap.size) (by omega) (a := (.int .i64 c.inp)) (b' := (.slice sn ln cn)) (c' := (.slice sg n cg)) (d := (.slice so lo co))
                            have hbz := (((hbw.setCell (p := ⟨D0 + 1, 0, none⟩) (by simp; omega) (.int .i64 c.inp)).setCell (p := ⟨D0 + 1, 1, none⟩) (by simp; omega) (.slice sn ln cn)).setCell (p := ⟨D0 + 1, 2, none⟩) (by simp; omega) (.slice sg n cg)).setCell (p := ⟨D0 + 1, 3, none⟩) (by simp; omega) (.slice so lo co)
                            clear rc rf cB cA
                            revert hZ hO hbz
                            generalize ((((wz.setCell ⟨D0 + 1, 0, none⟩ (.int .i64 c.inp)).setCell ⟨D0 + 1, 1, none⟩ (.slice sn ln cn)).setCell ⟨D0 + 1, 2, none⟩ (.slice sg n cg)).setCell ⟨D0 + 1, 3, none⟩ (.slice so lo co)) = WQ
                            intro hZ hO hbz
                            have cr := (blk_all hZ).1
                            have hbr : balR d = c := by rw [HD0.out.2.1]; unfold balR; rw [if_pos HD0.out.1, ← HD0.out.2.1, ← HEE.out.1, if_pos (.inr (.inr (by rw [HDC.out, HDE.out, ← HN.out.1]; exact HH.out.2)))]
                            rw [hbr]
                            exact bodyPost_ret (v := .agg #[Value.int .i64 c.inp, .slice sn ln cn, .slice sg n cg, .slice so lo co]) (by simp [results, Try.results13, go_sem, cr]) rfl ⟨_, _, _, rfl, hO, hbz⟩
                          · have HH := Lib.hid (And.intro h1 (fun (h : de = dc ∧ n < E.gates.length) => h3 h.2))
                            have h2' : (de == dc) = true := beq_iff_eq.2 h2
                            clear h2
                            refine wp_region_T (fun W => (∀ o, W.cell? ⟨B, o, none⟩ = #[Value.int .i64 c.inp, .slice sn6 E.next.length cn6, .slice sg6 E.gates.length cg6, .slice so6 E.outs.length co6][o]?) ∧ (∀ o, W.cell? ⟨A, o, none⟩ = #[Value.int .i64 c.inp, .slice sn ln cn, .slice sg n cg, .slice so lo co][o]?)) (.q 0 (.e 1 (.q 2 (.q 3 (.q 4 (.q 6 (.e 5 (.e 7 (.q 8 (.q 9 (.q 10 (.q 11 (.q 13 (.e 12 (.e 14 (.q 15 (.q 16 (.q 17 (.q 18 (.q 19 (.q 20 (.q 21 (.q 22 (.q 23 (.q 24 (.q 25 .nil)))))))))))))))))))))))))) (by kernel_rfl) (by kernel_rfl) (by kernel_rfl) (HS9.out _ (Below.refl _ _).drew).1 ?_
                            have hd := (Below.refl WZ.heap.size WZ).drew
                            revert hd
                            generalize WZ.drew = Wd
                            intro hd
                            have HD := Lib.hid hd
                            clear hd
                            repeat (first | (refine ordt_s (o := ?_) ?_ ?_ ?_; rotate_left 1; (focus ((simp only [zD, zE, zF]) <;> rfl)); (focus rfl); simp only [Act.put, zA, zB, zC]) | (refine ordt_q (o := ?_) (v := ?_) ?_ ?_ ?_ ?_; rotate_left 2; (focus ((simp only [zD, zE, zF]) <;> rfl)); (focus rfl); (focus (intro w' hS; (try dsimp only at hS); go_split_ands; go_simp; (try (with_reducible rfl)))); simp only [Act.put, zA, zB, zC]))
                            refine ordt_e ?_
                            (refine op_e (o := ?_) ?_ ?_ (fun K hK => ?_); rotate_left 1; (focus ((simp only [zD, zE, zF]) <;> rfl)); (focus rfl); go_simp)
                            refine (CircuitValid_s _ E _ (HS9.out _ HD.out).2.1).mono ?_
                            rintro e wz ⟨rfl, hq⟩
                            rw [HEV.out]
                            have hb := HD.out.trans (hq.mono HD.out.size)
                            refine hK.out _ _ (HS9.out _ hb).1 ?_
                            clear hK K HD
                            have HD := Lib.hid hb
                            clear hb hq
                            (try simp only [Act.put, zA, zB, zC])
                            repeat (first | (refine ordt_s (o := ?_) ?_ ?_ ?_; rotate_left 1; (focus ((simp only [zD, zE, zF]) <;> rfl)); (focus rfl); simp only [Act.put, zA, zB, zC]) | (refine ordt_q (o := ?_) (v := ?_) ?_ ?_ ?_ ?_; rotate_left 2; (focus ((simp only [zD, zE, zF]) <;> rfl)); (focus rfl); (focus (intro w' hS; (try dsimp only at hS); go_split_ands; go_simp; (try (with_reducible rfl)))); simp only [Act.put, zA, zB, zC]))
                            refine ordt_e ?_
                            (refine op_e (o := ?_) ?_ ?_ (fun K hK => ?_); rotate_left 1; (focus ((simp only [zD, zE, zF]) <;> rfl)); (focus rfl); go_simp)
                            refine (Depth_s _ E _ (HS9.out _ HD.out).2.1).mono ?_
                            rintro e wz ⟨rfl, hq⟩
                            rw [HDP.out.1]
                            have hb := HD.out.trans (hq.mono HD.out.size)
                            refine hK.out _ _ (HS9.out _ hb).1 ?_
                            clear hK K HD
                            have HD := Lib.hid hb
                            clear hb hq
                            (try simp only [Act.put, zA, zB, zC])
                            refine ordt_e ?_
                            (refine op_e (o := ?_) ?_ ?_ (fun K hK => ?_); rotate_left 1; (focus ((simp only [zD, zE, zF]) <;> rfl)); (focus rfl); go_simp)
                            refine (Depth_s _ c _ (HS9.out _ HD.out).2.2.1).mono ?_
                            rintro e wz ⟨rfl, hq⟩
                            rw [HDP.out.2]
                            have hb := HD.out.trans (hq.mono HD.out.size)
                            refine hK.out _ _ (HS9.out _ hb).1 ?_
                            clear hK K HD
                            have HD := Lib.hid hb
                            clear hb hq
                            (try simp only [Act.put, zA, zB, zC])
                            repeat (first | (refine ordt_s (o := ?_) ?_ ?_ ?_; rotate_left 1; (focus ((simp only [zD, zE, zF]) <;> rfl)); (focus rfl); simp only [Act.put, zA, zB, zC]) | (refine ordt_q (o := ?_) (v := ?_) ?_ ?_ ?_ ?_; rotate_left 2; (focus ((simp only [zD, zE, zF]) <;> rfl)); (focus rfl); (focus (intro w' hS; (try dsimp only at hS); go_split_ands; go_simp; (try (with_reducible rfl)))); simp only [Act.put, zA, zB, zC]))
                            refine ordt_e ?_
                            (refine op_e (o := ?_) ?_ ?_ (fun K hK => ?_); rotate_left 1; (focus ((simp only [zD, zE, zF]) <;> rfl)); (focus rfl); go_simp)
                            refine (Depth_s _ E _ (HS9.out _ HD.out).2.1).mono ?_
                            rintro e wz ⟨rfl, hq⟩
                            rw [HDP.out.1]
                            have hb := HD.out.trans (hq.mono HD.out.size)
                            refine hK.out _ _ (HS9.out _ hb).1 ?_
                            clear hK K HD
                            have HD := Lib.hid hb
                            clear hb hq
                            (try simp only [Act.put, zA, zB, zC])
                            refine ordt_e ?_
                            (refine op_e (o := ?_) ?_ ?_ (fun K hK => ?_); rotate_left 1; (focus ((simp only [zD, zE, zF]) <;> rfl)); (focus rfl); go_simp)
                            refine (Depth_s _ c _ (HS9.out _ HD.out).2.2.1).mono ?_
                            rintro e wz ⟨rfl, hq⟩
                            rw [HDP.out.2]
                            have hb := HD.out.trans (hq.mono HD.out.size)
                            refine hK.out _ _ (HS9.out _ hb).1 ?_
                            clear hK K HD
                            have HD := Lib.hid hb
                            clear hb hq
                            (try simp only [Act.put, zA, zB, zC])
                            repeat (first | (refine ordt_s (o := ?_) ?_ ?_ ?_; rotate_left 1; (focus ((simp only [zD, zE, zF]) <;> rfl)); (focus rfl); simp only [Act.put, zA, zB, zC]) | (refine ordt_q (o := ?_) (v := ?_) ?_ ?_ ?_ ?_; rotate_left 2; (focus ((simp only [zD, zE, zF]) <;> rfl)); (focus rfl); (focus (intro w' hS; (try dsimp only at hS); go_split_ands; go_simp; (try (with_reducible rfl)))); simp only [Act.put, zA, zB, zC]))
                            refine ordt_nil ?_
                            obtain ⟨⟨cB, cA⟩, -, -, -, -, hR, hbw, hsz⟩ := HS9.out _ HD.out
                            obtain ⟨rc, rf⟩ := blk_all hR
                            go_wp2_with fail
                            have hZ : ((((wz.setCell ⟨D0 + 1, 0, none⟩ (.int .i64 c.inp)).setCell ⟨D0 + 1, 1, none⟩ (.slice sn6 E.next.length cn6)).setCell ⟨D0 + 1, 2, none⟩ (.slice sg6 E.gates.length cg6)).setCell ⟨D0 + 1, 3, none⟩ (.slice so6 E.outs.length co6)).heap[D0 + 1]? = some (.cells #[Value.int .i64 c.inp, .slice sn6 E.next.length cn6, .slice sg6 E.gates.length cg6, .slice so6 E.outs.length co6] 28 (0, 0)) := by
                              simpa using blk_set (o := 3) (v := (.slice so6 E.outs.length co6)) (blk_set (o := 2) (v := (.slice sg6 E.gates.length cg6)) (blk_set (o := 1) (v := (.slice sn6 E.next.length cn6)) (blk_set (o := 0) (v := (.int .i64 c.inp)) hR)))
                            have hD0 : D0 = w.heap.size := HW.out.2.1
                            have hO := ((HS9.out _ HD.out).2.2.2.1).sets4 (r := D0 + 1) (by omega) (base := w.heap.size) (by omega) (a := (.int .i64 c.inp)) (b' := (.slice sn6 E.next.length cn6)) (c' := (.slice sg6 E.gates.length cg6)) (d := (.slice so6 E.outs.length co6))
                            have hbz := (((hbw.setCell (p := ⟨D0 + 1, 0, none⟩) (by simp; omega) (.int .i64 c.inp)).setCell (p := ⟨D0 + 1, 1, none⟩) (by simp; omega) (.slice sn6 E.next.length cn6)).setCell (p := ⟨D0 + 1, 2, none⟩) (by simp; omega) (.slice sg6 E.gates.length cg6)).setCell (p := ⟨D0 + 1, 3, none⟩) (by simp; omega) (.slice so6 E.outs.length co6)
                            clear rc rf cB cA
                            revert hZ hO hbz
                            generalize ((((wz.setCell ⟨D0 + 1, 0, none⟩ (.int .i64 c.inp)).setCell ⟨D0 + 1, 1, none⟩ (.slice sn6 E.next.length cn6)).setCell ⟨D0 + 1, 2, none⟩ (.slice sg6 E.gates.length cg6)).setCell ⟨D0 + 1, 3, none⟩ (.slice so6 E.outs.length co6)) = WQ
                            intro hZ hO hbz
                            have cr := (blk_all hZ).1
                            have hbr : balR d = E := by rw [balR_is HD0.out.1 HD0.out.2.1 HEE.out.1, if_neg (not3 (fun h => by rw [HEV.out] at h; cases h) (by rw [HDC.out, HDE.out]; exact Int.not_lt.2 HH.out.1) (by rw [HDC.out, HDE.out, ← HN.out.1]; exact HH.out.2))]
                            rw [hbr]
                            exact bodyPost_ret (v := .agg #[Value.int .i64 c.inp, .slice sn6 E.next.length cn6, .slice sg6 E.gates.length cg6, .slice so6 E.outs.length co6]) (by simp [results, Try.results13, go_sem, cr]) rfl ⟨_, _, _, by rw [HEE.out.2], hO, hbz⟩
                        · have HH := Lib.hid (And.intro h1 (fun (h : de = dc ∧ n < E.gates.length) => h2 h.1))
                          have h2' : (de == dc) = false := beq_eq_false_iff_ne.2 h2
                          clear h2
                          refine wp_region_T (fun W => (∀ o, W.cell? ⟨B, o, none⟩ = #[Value.int .i64 c.inp, .slice sn6 E.next.length cn6, .slice sg6 E.gates.length cg6, .slice so6 E.outs.length co6][o]?) ∧ (∀ o, W.cell? ⟨A, o, none⟩ = #[Value.int .i64 c.inp, .slice sn ln cn, .slice sg n cg, .slice so lo co][o]?)) (.q 0 (.e 1 (.q 2 (.q 3 (.q 4 (.q 6 (.e 5 (.e 7 (.q 8 (.q 9 (.q 10 (.q 11 (.q 13 (.e 12 (.e 14 (.q 15 (.q 16 (.q 17 (.q 18 (.q 19 (.q 20 (.q 21 (.q 22 (.q 23 (.q 24 (.q 25 .nil)))))))))))))))))))))))))) (by kernel_rfl) (by kernel_rfl) (by kernel_rfl) (HS9.out _ (Below.refl _ _).drew).1 ?_
                          have hd := (Below.refl WZ.heap.size WZ).drew
                          revert hd
                          generalize WZ.drew = Wd
                          intro hd
                          have HD := Lib.hid hd
                          clear hd
                          repeat (first | (refine ordt_s (o := ?_) ?_ ?_ ?_; rotate_left 1; (focus ((simp only [zD, zE, zF]) <;> rfl)); (focus rfl); simp only [Act.put, zA, zB, zC]) | (refine ordt_q (o := ?_) (v := ?_) ?_ ?_ ?_ ?_; rotate_left 2; (focus ((simp only [zD, zE, zF]) <;> rfl)); (focus rfl); (focus (intro w' hS; (try dsimp only at hS); go_split_ands; go_simp; (try (with_reducible rfl)))); simp only [Act.put, zA, zB, zC]))
                          refine ordt_e ?_
                          (refine op_e (o := ?_) ?_ ?_ (fun K hK => ?_); rotate_left 1; (focus ((simp only [zD, zE, zF]) <;> rfl)); (focus rfl); go_simp)
                          refine (CircuitValid_s _ E _ (HS9.out _ HD.out).2.1).mono ?_
                          rintro e wz ⟨rfl, hq⟩
                          rw [HEV.out]
                          have hb := HD.out.trans (hq.mono HD.out.size)
                          refine hK.out _ _ (HS9.out _ hb).1 ?_
                          clear hK K HD
                          have HD := Lib.hid hb
                          clear hb hq
                          (try simp only [Act.put, zA, zB, zC])
                          repeat (first | (refine ordt_s (o := ?_) ?_ ?_ ?_; rotate_left 1; (focus ((simp only [zD, zE, zF]) <;> rfl)); (focus rfl); simp only [Act.put, zA, zB, zC]) | (refine ordt_q (o := ?_) (v := ?_) ?_ ?_ ?_ ?_; rotate_left 2; (focus ((simp only [zD, zE, zF]) <;> rfl)); (focus rfl); (focus (intro w' hS; (try dsimp only at hS); go_split_ands; go_simp; (try (with_reducible rfl)))); simp only [Act.put, zA, zB, zC]))
                          refine ordt_e ?_
                          (refine op_e (o := ?_) ?_ ?_ (fun K hK => ?_); rotate_left 1; (focus ((simp only [zD, zE, zF]) <;> rfl)); (focus rfl); go_simp)
                          refine (Depth_s _ E _ (HS9.out _ HD.out).2.1).mono ?_
                          rintro e wz ⟨rfl, hq⟩
                          rw [HDP.out.1]
                          have hb := HD.out.trans (hq.mono HD.out.size)
                          refine hK.out _ _ (HS9.out _ hb).1 ?_
                          clear hK K HD
                          have HD := Lib.hid hb
                          clear hb hq
                          (try simp only [Act.put, zA, zB, zC])
                          refine ordt_e ?_
                          (refine op_e (o := ?_) ?_ ?_ (fun K hK => ?_); rotate_left 1; (focus ((simp only [zD, zE, zF]) <;> rfl)); (focus rfl); go_simp)
                          refine (Depth_s _ c _ (HS9.out _ HD.out).2.2.1).mono ?_
                          rintro e wz ⟨rfl, hq⟩
                          rw [HDP.out.2]
                          have hb := HD.out.trans (hq.mono HD.out.size)
                          refine hK.out _ _ (HS9.out _ hb).1 ?_
                          clear hK K HD
                          have HD := Lib.hid hb
                          clear hb hq
                          (try simp only [Act.put, zA, zB, zC])
                          repeat (first | (refine ordt_s (o := ?_) ?_ ?_ ?_; rotate_left 1; (focus ((simp only [zD, zE, zF]) <;> rfl)); (focus rfl); simp only [Act.put, zA, zB, zC]) | (refine ordt_q (o := ?_) (v := ?_) ?_ ?_ ?_ ?_; rotate_left 2; (focus ((simp only [zD, zE, zF]) <;> rfl)); (focus rfl); (focus (intro w' hS; (try dsimp only at hS); go_split_ands; go_simp; (try (with_reducible rfl)))); simp only [Act.put, zA, zB, zC]))
                          refine ordt_e ?_
                          (refine op_e (o := ?_) ?_ ?_ (fun K hK => ?_); rotate_left 1; (focus ((simp only [zD, zE, zF]) <;> rfl)); (focus rfl); go_simp)
                          refine (Depth_s _ E _ (HS9.out _ HD.out).2.1).mono ?_
                          rintro e wz ⟨rfl, hq⟩
                          rw [HDP.out.1]
                          have hb := HD.out.trans (hq.mono HD.out.size)
                          refine hK.out _ _ (HS9.out _ hb).1 ?_
                          clear hK K HD
                          have HD := Lib.hid hb
                          clear hb hq
                          (try simp only [Act.put, zA, zB, zC])
                          refine ordt_e ?_
                          (refine op_e (o := ?_) ?_ ?_ (fun K hK => ?_); rotate_left 1; (focus ((simp only [zD, zE, zF]) <;> rfl)); (focus rfl); go_simp)
                          refine (Depth_s _ c _ (HS9.out _ HD.out).2.2.1).mono ?_
                          rintro e wz ⟨rfl, hq⟩
                          rw [HDP.out.2]
                          have hb := HD.out.trans (hq.mono HD.out.size)
                          refine hK.out _ _ (HS9.out _ hb).1 ?_
                          clear hK K HD
                          have HD := Lib.hid hb
                          clear hb hq
                          (try simp only [Act.put, zA, zB, zC])
                          repeat (first | (refine ordt_s (o := ?_) ?_ ?_ ?_; rotate_left 1; (focus ((simp only [zD, zE, zF]) <;> rfl)); (focus rfl); simp only [Act.put, zA, zB, zC]) | (refine ordt_q (o := ?_) (v := ?_) ?_ ?_ ?_ ?_; rotate_left 2; (focus ((simp only [zD, zE, zF]) <;> rfl)); (focus rfl); (focus (intro w' hS; (try dsimp only at hS); go_split_ands; go_simp; (try (with_reducible rfl)))); simp only [Act.put, zA, zB, zC]))
                          refine ordt_nil ?_
                          obtain ⟨⟨cB, cA⟩, -, -, -, -, hR, hbw, hsz⟩ := HS9.out _ HD.out
                          obtain ⟨rc, rf⟩ := blk_all hR
                          go_wp2_with fail
                          have hZ : ((((wz.setCell ⟨D0 + 1, 0, none⟩ (.int .i64 c.inp)).setCell ⟨D0 + 1, 1, none⟩ (.slice sn6 E.next.length cn6)).setCell ⟨D0 + 1, 2, none⟩ (.slice sg6 E.gates.length cg6)).setCell ⟨D0 + 1, 3, none⟩ (.slice so6 E.outs.length co6)).heap[D0 + 1]? = some (.cells #[Value.int .i64 c.inp, .slice sn6 E.next.length cn6, .slice sg6 E.gates.length cg6, .slice so6 E.outs.length co6] 28 (0, 0)) := by
                            simpa using blk_set (o := 3) (v := (.slice so6 E.outs.length co6)) (blk_set (o := 2) (v := (.slice sg6 E.gates.length cg6)) (blk_set (o := 1) (v := (.slice sn6 E.next.length cn6)) (blk_set (o := 0) (v := (.int .i64 c.inp)) hR)))
                          have hD0 : D0 = w.heap.size := HW.out.2.1
                          have hO := ((HS9.out _ HD.out).2.2.2.1).sets4 (r := D0 + 1) (by omega) (base := w.heap.size) (by omega) (a := (.int .i64 c.inp)) (b' := (.slice sn6 E.next.length cn6)) (c' := (.slice sg6 E.gates.length cg6)) (d := (.slice so6 E.outs.length co6))
                          have hbz := (((hbw.setCell (p := ⟨D0 + 1, 0, none⟩) (by simp; omega) (.int .i64 c.inp)).setCell (p := ⟨D0 + 1, 1, none⟩) (by simp; omega) (.slice sn6 E.next.length cn6)).setCell (p := ⟨D0 + 1, 2, none⟩) (by simp; omega) (.slice sg6 E.gates.length cg6)).setCell (p := ⟨D0 + 1, 3, none⟩) (by simp; omega) (.slice so6 E.outs.length co6)
                          clear rc rf cB cA
                          revert hZ hO hbz
                          generalize ((((wz.setCell ⟨D0 + 1, 0, none⟩ (.int .i64 c.inp)).setCell ⟨D0 + 1, 1, none⟩ (.slice sn6 E.next.length cn6)).setCell ⟨D0 + 1, 2, none⟩ (.slice sg6 E.gates.length cg6)).setCell ⟨D0 + 1, 3, none⟩ (.slice so6 E.outs.length co6)) = WQ
                          intro hZ hO hbz
                          have cr := (blk_all hZ).1
                          have hbr : balR d = E := by rw [balR_is HD0.out.1 HD0.out.2.1 HEE.out.1, if_neg (not3 (fun h => by rw [HEV.out] at h; cases h) (by rw [HDC.out, HDE.out]; exact Int.not_lt.2 HH.out.1) (by rw [HDC.out, HDE.out, ← HN.out.1]; exact HH.out.2))]
                          rw [hbr]
                          exact bodyPost_ret (v := .agg #[Value.int .i64 c.inp, .slice sn6 E.next.length cn6, .slice sg6 E.gates.length cg6, .slice so6 E.outs.length co6]) (by simp [results, Try.results13, go_sem, cr]) rfl ⟨_, _, _, by rw [HEE.out.2], hO, hbz⟩

end Go.Proofs.Ytjecchljhdfjdaa
