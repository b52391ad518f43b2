import Derived.Test.YtnifgamlmaembaaDoorY0
import Derived.Test.YtnifgamlmaembaaDoorG3
namespace Go.Proofs.YtnifgamlmaembaaDoor
set_option linter.unusedVariables false
set_option linter.unusedSimpArgs false
open Go.RowKit

/-! A circuit is drawn. -/

/-- What l20Circuit leaves. -/
def CkPost (R : Nat) (s : Option Addr) (c : Nat) (xs : List Int) (p : Nat) (w : World) (e : Ending) (w' : World) : Prop :=
  ∃ (C : Cir) (vn vg vo : Value) (p' : Nat), e = .returned (.agg #[.int .i64 C.inp, vn, vg, vo]) ∧ CirOwn w' w.heap.size C vn vg vo ∧ (-10 ≤ C.inp ∧ C.inp ≤ 10 ∧ C.next.length ≤ 8 ∧ C.gates.length ≤ 40 ∧ C.outs.length ≤ 16) ∧ Rd w' R s c xs p' ∧ p' ≤ p + 1000 ∧ Kp R w.heap.size w w'

theorem KT.ret {R : Nat} {s : Option Addr} {c : Nat} {xs : List Int} {w W0 : World} {B : Nat} {inp : Int} {xn : List Int} {xg : List Gt} {xo : List Int} {vn vg vo : Value} {p p0 : Nat} {w1 : World} {a : Act} (h : KT R s c xs W0 B inp xn xg xo vn vg vo p w1) (hW : W0 = w.alloc (.cells #[.int .i64 0, .slice none 0 0, .slice none 0 0, .slice none 0 0] 31))
    (hR : R < w.heap.size) (hl : -10 ≤ inp ∧ inp ≤ 10 ∧ xn.length ≤ 8 ∧ xg.length ≤ 40 ∧ xo.length ≤ 16) (hp : p ≤ p0 + 1000) (ha : a.tmps.getD 4 undef = .pointer (some ⟨w.heap.size, 0, none⟩)) (hd : a.defers = []) :
    bodyPost Tryd.prog Tryd.f45 (CkPost R s c xs p0 w) .ret a ((((w1.setCell ⟨w.heap.size, 0, none⟩ (.int .i64 inp)).setCell ⟨w.heap.size, 1, none⟩ vn).setCell ⟨w.heap.size, 2, none⟩ vg).setCell ⟨w.heap.size, 3, none⟩ vo) := by
  subst hW
  have hs0 : (w.alloc (.cells #[.int .i64 0, .slice none 0 0, .slice none 0 0, .slice none 0 0] 31)).heap.size = w.heap.size + 1 := by simp
  have hRB : w1.heap[w.heap.size]? = some (.cells #[.int .i64 0, .slice none 0 0, .slice none 0 0, .slice none 0 0] 31 (0, 0)) := by
    rw [h.kp.block _ (by simp) (by omega)]; exact blk_new _ _
  have ho : CirOwn w1 (w.heap.size + 1) ⟨inp, xn, xg, xo⟩ vn vg vo := ⟨by have := h.out.n; rwa [hs0] at this, by have := h.out.g; rwa [hs0] at this, by have := h.out.o; rwa [hs0] at this, h.out.ne, Nat.le_trans hl.2.2.1 (by omega), Nat.le_trans hl.2.2.2.1 (by omega), Nat.le_trans hl.2.2.2.2 (by omega)⟩
  have hZ : ((((w1.setCell ⟨w.heap.size, 0, none⟩ (.int .i64 inp)).setCell ⟨w.heap.size, 1, none⟩ vn).setCell ⟨w.heap.size, 2, none⟩ vg).setCell ⟨w.heap.size, 3, none⟩ vo).heap[w.heap.size]? = some (.cells #[.int .i64 inp, vn, vg, vo] 31 (0, 0)) := by
    simpa using blk_set (o := 3) (v := vo) (blk_set (o := 2) (v := vg) (blk_set (o := 1) (v := vn) (blk_set (o := 0) (v := .int .i64 inp) hRB)))
  have hown := ho.sets4 (r := w.heap.size) (by omega) (base := w.heap.size) (by omega) (a := .int .i64 inp) (b' := vn) (c' := vg) (d := vo)
  have hB := (((((Below.refl w.heap.size w1).setCell (p := ⟨w.heap.size, 0, none⟩) (by simp) (.int .i64 inp)).setCell (p := ⟨w.heap.size, 1, none⟩) (by simp) vn).setCell (p := ⟨w.heap.size, 2, none⟩) (by simp) vg).setCell (p := ⟨w.heap.size, 3, none⟩) (by simp) vo)
  have hk0 : Kp R w.heap.size w w1 := (Kp.of_below ((Below.refl _ _).alloc (Nat.le_refl _) _)).trans (h.kp.mono (by omega))
  have hrd := h.rd.grown hB hR
  have hk := hk0.trans (Kp.of_below hB)
  revert hZ hown hrd hk
  generalize ((((w1.setCell ⟨w.heap.size, 0, none⟩ (.int .i64 inp)).setCell ⟨w.heap.size, 1, none⟩ vn).setCell ⟨w.heap.size, 2, none⟩ vg).setCell ⟨w.heap.size, 3, none⟩ vo) = WZ
  intro hZ hown hrd hk
  have cr := (blk_all hZ).1
  have ha' : a.tmps[4]?.getD undef = .pointer (some ⟨w.heap.size, 0, none⟩) := by simpa using ha
  exact bodyPost_ret (v := .agg #[.int .i64 inp, vn, vg, vo]) (by simp [results, Tryd.results45, go_sem, cr, ha']) hd ⟨⟨inp, xn, xg, xo⟩, vn, vg, vo, p, rfl, hown, hl, hrd, hp, hk⟩

theorem KT.res {R : Nat} {s : Option Addr} {c : Nat} {xs : List Int} {w W0 : World} {B : Nat} {inp : Int} {xn : List Int} {xg : List Gt} {xo : List Int} {vn vg vo : Value} {p : Nat} {w1 : World} (h : KT R s c xs W0 B inp xn xg xo vn vg vo p w1) (hW : W0 = w.alloc (.cells #[.int .i64 0, .slice none 0 0, .slice none 0 0, .slice none 0 0] 31)) (hR : R < w.heap.size) :
    (∀ o, w1.cell? ⟨w.heap.size, o, none⟩ = (#[.int .i64 0, .slice none 0 0, .slice none 0 0, .slice none 0 0])[o]?) ∧ ∀ o, w1.frozen? ⟨w.heap.size, o, none⟩ = false := by
  subst hW
  have hRB : w1.heap[w.heap.size]? = some (.cells #[.int .i64 0, .slice none 0 0, .slice none 0 0, .slice none 0 0] 31 (0, 0)) := by
    rw [h.kp.block _ (by simp) (by omega)]; exact blk_new _ _
  exact blk_all hRB

def lenAt (w : World) (B : Nat) : Nat := match w.cell? ⟨B, 2, none⟩ with | some (.slice _ n _) => n | _ => 0
theorem lenAt_of {w : World} {B : Nat} {a b d : Value} {s : Option Addr} {n c : Nat} (h : ∀ o, w.cell? ⟨B, o, none⟩ = #[a, b, .slice s n c, d][o]?) : lenAt w B = n := by
  unfold lenAt; rw [h 2]; rfl

theorem KT.pushG1 {R : Nat} {s : Option Addr} {c : Nat} {xs : List Int} {w0 : World} {B : Nat} {inp : Int} {xn : List Int} {xg : List Gt} {xo : List Int} {vn vg vo : Value} {p : Nat} {w1 w2 : World} (h : KT R s c xs w0 B inp xn xg xo vn vg vo p w1) {s' : Option Addr} {N c' : Nat} {a b : Int}
    (ho : w2.ownsRow w0.heap.size 52 2 (.slice s' N c') N (gcells xg ++ [.int .i64 a, .int .i64 b])) (hN : N = xg.length + 1) (hg : w1.grownBy w2 vg.ownBlock) : w2.heap[B]? = some (.cells #[.int .i64 inp, vn, vg, vo] 31 (0, 0)) ∧ ∃ xg' : List Gt, xg'.length = N ∧ KT R s c xs w0 B inp xn xg' xo vn (.slice s' xg'.length c') vo p (w2.setCell ⟨B, 2, none⟩ (.slice s' N c')) := by
  have e : (xg ++ [(⟨a, b⟩ : Gt)]).length = N := by simp [hN]
  obtain ⟨h1, h2⟩ := h.pushG (xg' := xg ++ [⟨a, b⟩]) (vg' := .slice s' N c') hg (by rw [e, ← gcells_append]; exact ho)
  exact ⟨h1, _, e, by rw [e]; exact h2⟩
theorem KT.pushN1 {R : Nat} {s : Option Addr} {c : Nat} {xs : List Int} {w0 : World} {B : Nat} {inp : Int} {xn : List Int} {xg : List Gt} {xo : List Int} {vn vg vo : Value} {p : Nat} {w1 w2 : World} (h : KT R s c xs w0 B inp xn xg xo vn vg vo p w1) {s' : Option Addr} {N c' : Nat} {a : Int}
    (ho : w2.ownsRow w0.heap.size 3 1 (.slice s' N c') N (ints xn ++ [.int .i64 a])) (hN : N = xn.length + 1) (hg : w1.grownBy w2 vn.ownBlock) (hb : (Value.slice s' N c').ownBlock = vn.ownBlock ∨ (Value.slice s' N c').ownBlock = some w1.heap.size) : w2.heap[B]? = some (.cells #[.int .i64 inp, vn, vg, vo] 31 (0, 0)) ∧ ∃ xn' : List Int, xn'.length = N ∧ KT R s c xs w0 B inp xn' xg xo (.slice s' xn'.length c') vg vo p (w2.setCell ⟨B, 1, none⟩ (.slice s' N c')) := by
  have e : (xn ++ [a]).length = N := by simp [hN]
  obtain ⟨h1, h2⟩ := h.pushN (xn' := xn ++ [a]) (vn' := .slice s' N c') hg (by rw [e, ← ints_append]; exact ho) hb
  exact ⟨h1, _, e, by rw [e]; exact h2⟩
theorem KT.pushO1 {R : Nat} {s : Option Addr} {c : Nat} {xs : List Int} {w0 : World} {B : Nat} {inp : Int} {xn : List Int} {xg : List Gt} {xo : List Int} {vn vg vo : Value} {p : Nat} {w1 w2 : World} (h : KT R s c xs w0 B inp xn xg xo vn vg vo p w1) {s' : Option Addr} {N c' : Nat} {ys : List Int}
    (ho : w2.ownsRow w0.heap.size 3 1 (.slice s' N c') N (ints xo ++ ints ys)) (hN : N = xo.length + ys.length) (hg : w1.grownBy w2 vo.ownBlock) (hb : (Value.slice s' N c').ownBlock = vo.ownBlock ∨ (Value.slice s' N c').ownBlock = some w1.heap.size) : w2.heap[B]? = some (.cells #[.int .i64 inp, vn, vg, vo] 31 (0, 0)) ∧ ∃ xo' : List Int, xo'.length = N ∧ KT R s c xs w0 B inp xn xg xo' vn vg (.slice s' xo'.length c') p (w2.setCell ⟨B, 3, none⟩ (.slice s' N c')) := by
  have e : (xo ++ ys).length = N := by simp [hN]
  obtain ⟨h1, h2⟩ := h.pushO (xo' := xo ++ ys) (vo' := .slice s' N c') hg (by rw [e, ← ints_append]; exact ho) hb
  exact ⟨h1, _, e, by rw [e]; exact h2⟩

set_option maxRecDepth 100000 in
set_option maxHeartbeats 6400000 in
theorem l20Circuit_any (R : Nat) (s : Option Addr) (c : Nat) (xs : List Int) (p : Nat) (n : Int) (w : World) (h : Rd w R s c xs p) (hp : p ≤ 1000000) (hn : 0 ≤ n) (hn2 : n ≤ 1000) :
    Calls Tryd.prog 45 #[.pointer (some ⟨R, 0, none⟩), .int .i64 n] w (CkPost R s c xs p w) := by
  have hR : R < w.heap.size := blk_lt h.blk
  obtain ⟨W0, hW0⟩ : ∃ W0, W0 = w.alloc (.cells #[.int .i64 0, .slice none 0 0, .slice none 0 0, .slice none 0 0] 31) := ⟨_, rfl⟩
  have hz : W0.heap.size = w.heap.size + 1 := by rw [hW0]; simp
  have hrd : Rd W0 R s c xs p := by rw [hW0]; exact h.mono ((Below.refl _ _).alloc (Nat.le_refl _) _)
  have HZ := Lib.hid hz
  have HW0 := Lib.hid hW0
  have HRD := Lib.hid hrd
  clear h hrd hW0 hz
  go_enter Tryd.func45, Tryd.ntmps45
  go_upto_region 1 with fail
  rw [← HW0.out]
  go_upto_region 2 with (go_at_call 47; ((refine (pick_any _ _ _ _ _ _ _ HRD.out (by omega) (by omega)).mono ?_); rintro e w1 ⟨k, rfl, hk1, hk2, hk3, hk4⟩; obtain ⟨I, rfl⟩ := Int.eq_ofNat_of_zero_le hk1.1; have HI := Lib.hid (And.intro hk1 (And.intro hk2 (And.intro hk3 hk4))); clear hk1 hk2 hk3 hk4))
  have i4 : I ≤ 4 := by have := HI.out.1.2; omega
  obtain ⟨B, hB⟩ : ∃ B, B = w1.heap.size := ⟨_, rfl⟩
  have hB0 : B = W0.heap.size := hB.trans HI.out.2.2.2
  have hk0 : KT R s c xs W0 B I [] [] [] (.slice none 0 0) (.slice none 0 0) (.slice none 0 0) (p + 1) (w1.alloc (.cells #[.int .i64 (I : Int), .slice none 0 0, .slice none 0 0, .slice none 0 0] 31)) :=
    ⟨⟨by rw [hB]; exact blk_new _ _, World.ownsRow_nil _ _ _ _, World.ownsRow_nil _ _ _ _, World.ownsRow_nil _ _ _ _, (fun k hk => by cases hk)⟩, HI.out.2.1.mono ((Below.refl _ _).alloc (Nat.le_refl _) _), (Kp.of_upd HI.out.2.2.1 (Nat.le_refl _)).alloc (Nat.le_refl _) _, by rw [HZ.out]; omega, by omega⟩
  have HK := Lib.hid hk0
  clear hk0 HI HRD
  rw [← hB]
  revert HK
  generalize w1.alloc (.cells #[.int .i64 (I : Int), .slice none 0 0, .slice none 0 0, .slice none 0 0] 31) = W1
  intro HK
  clear hB hB0
  go_upto_region 3 with (go_at_call 47; ((with_reducible refine (pick_kt _ _ _ _ _ _ _ _ _ _ _ _ _ _ _ _ HK.out (by omega) (by omega)).mono ?_); rintro e w' ⟨L, rfl, hk1, hk2, -, -⟩; have HK := Lib.hid hk2; have HPL := Lib.hid hk1; clear hk1 hk2; (try clear cb); have cb := HK.out.cells.1))
  have l3 : L ≤ 3 := by have := HPL.out.2; omega
  clear HPL
  go_upto_region 4 with fail
  go_wp2_with (go_at_call 47; ((with_reducible refine (pick_kt _ _ _ _ _ _ _ _ _ _ _ _ _ _ _ _ HK.out (by omega) (by omega)).mono ?_); rintro e w' ⟨G, rfl, hk1, hk2, -, -⟩; have HK := Lib.hid hk2; have HPG := Lib.hid hk1; clear hk1 hk2; (try clear cb); have cb := HK.out.cells.1))
  have g14 : G ≤ 14 := by have := HPG.out.2; omega
  clear HPG
  clear cb
  go_loopw [8, 7] (fun v8 v7 wr => ∃ (k V : Nat) (xg : List Gt) (sg : Option Addr) (cg p' : Nat), v8 = .int .i64 k ∧ v7 = .int .i64 V ∧ KT R s c xs W0 B I [] xg [] (.slice none 0 0) (.slice sg xg.length cg) (.slice none 0 0) p' wr ∧ xg.length + k ≤ 14 ∧ V + k ≤ 22 ∧ 1 ≤ V ∧ p' + 5 * k ≤ p + 80) (fun v8 _ _ => (intOf v8).toNat)
  case atStart => exact ⟨G, I + L + 1, [], _, _, _, rfl, by go_num, HK.out, by simp; omega, by omega, by omega, by omega⟩
  case round =>
    clear HK
    obtain ⟨k, V, xg, sg, cg, p', rfl, rfl, hk, hxk, hVk, hV1, hpk⟩ := hrel
    have HK := Lib.hid hk
    have cb := HK.out.cells.1
    clear hk
    by_cases hlt : 0 < k
    · go_wp2_with (first
        | (go_at_call 47; ((with_reducible refine (pick_kt _ _ _ _ _ _ _ _ _ _ _ _ _ _ _ _ HK.out (by omega) (by omega)).mono ?_); rintro e w' ⟨q, rfl, hk1, hk2, -, -⟩; have HK := Lib.hid hk2; have HPq := Lib.hid hk1; clear hk1 hk2; (try clear cb); have cb := HK.out.cells.1))
        | (at_builtin; refine wpl_app rfl _ _ rfl elem_gate (HK.out.alloc _).out.g rfl rfl rfl (Sl.new _ _ _) (by simp [Value.oneCell']) (xg.length + 1) rfl _ rfl (by unfold maxLen; omega) (by omega) (HK.out.alloc _).sz ?_; intro s6 c6 w6 h6 hb6 hg6 _; obtain ⟨hB6, hA⟩ := (HK.out.alloc _).pushG1 h6 rfl hg6; have HA := Lib.hid hA; have y1 : w6.cell? ⟨B, 2, none⟩ = some (.slice sg xg.length cg) := blk_cell hB6; have y2 : w6.frozen? ⟨B, 2, none⟩ = false := blk_free hB6; clear h6 hb6 hg6 hB6 hA))
      all_goals
        obtain ⟨xg', e1, hK1⟩ := HA.out
        go_roundw
      all_goals first
        | (case rel => exact ⟨k - 1, V + 1, xg', s6, c6, _, by go_num, by go_num, hK1, by omega, by omega, by omega, by omega⟩)
        | (case measure => simp [intOf]; omega)
    · obtain rfl : k = 0 := by omega
      obtain ⟨vG, hvG⟩ : ∃ vG, vG = Value.slice sg xg.length cg := ⟨_, rfl⟩
      rw [← hvG] at HK
      clear hvG cb
      have hVle : V ≤ 22 := by omega
      have hxg : xg.length ≤ 14 := by omega
      have hw2 : IntKind.i64.wrap (2 * (V : Int)) = 2 * (V : Int) := IntWalk.i64_in _ ⟨by omega, by omega⟩
      go_wp2_with fail
      go_loopw [11] (fun v11 wr => ∃ (k : Nat) (xn : List Int) (s2 : Option Addr) (c2 p2 : Nat), v11 = .int .i64 k ∧ KT R s c xs W0 B I xn xg [] (.slice s2 xn.length c2) vG (.slice none 0 0) p2 wr ∧ xn.length ≤ k ∧ k ≤ L ∧ p2 ≤ p + 80 + k) (fun v11 _ => L - (intOf v11).toNat)
      case atStart => exact ⟨0, [], _, _, _, rfl, HK.out, by simp, by omega, by omega⟩
      case round =>
        clear HK
        obtain ⟨k, xn, s2, c2, p2, rfl, hk, hxk, hkL, hp2⟩ := hrel
        have HK := Lib.hid hk
        clear hk
        by_cases hlt : k < L
        · go_upto_region 16 with fail
          refine wp_region_E (fun w' => ∀ o, w'.cell? ⟨B, o, none⟩ = #[Value.int .i64 I, .slice s2 xn.length c2, vG, .slice none 0 0][o]?) 9 (.q 0 (.q 1 (.q 2 (.q 3 (.q 4 (.e 5 (.e 6 (.e 7 (.q 8 (.z 9)))))))))) (by kernel_rfl) (by kernel_rfl) (by kernel_rfl) (by kernel_rfl) (by kernel_rfl) (by kernel_rfl) HK.out.drew.cells.1 ?_
          repeat (first | (refine orde_s (o := ?_) ?_ ?_ ?_; rotate_left 1; (focus ((simp only [List.getElem?_toArray, List.getElem?_cons_succ, List.getElem?_cons_zero]) <;> rfl)); (focus rfl); simp only [Act.put, List.setIfInBounds_toArray, List.set_cons_zero, List.set_cons_succ]) | (refine orde_q (o := ?_) (v := ?_) ?_ ?_ ?_ ?_; rotate_left 2; (focus ((simp only [List.getElem?_toArray, List.getElem?_cons_succ, List.getElem?_cons_zero]) <;> rfl)); (focus rfl); (focus (intro w' hS; (try dsimp only at hS); go_split_ands; go_simp; (try (with_reducible rfl)))); simp only [Act.put, List.setIfInBounds_toArray, List.set_cons_zero, List.set_cons_succ]))
          refine orde_e ?_
          (refine ope_e (o := ?_) ?_ ?_ (fun K hK => ?_); rotate_left 1; (focus ((simp only [List.getElem?_toArray, List.getElem?_cons_succ, List.getElem?_cons_zero]) <;> rfl)); (focus rfl); go_simp)
          refine (pick_kt _ _ _ _ _ _ _ _ _ _ _ _ _ _ _ _ HK.out.drew (by omega) (by omega)).mono ?_
          rintro e wa ⟨q, rfl, -, hk2, -, -⟩
          refine hK.out _ _ hk2.cells.1 ?_
          clear hK K
          have hA := hk2.alloc (.cells #[.int .i64 (q : Int)] 3)
          have hs := Sl.new wa #[.int .i64 (q : Int)] 3
          clear hk2
          (try simp only [Act.put, List.setIfInBounds_toArray, List.set_cons_zero, List.set_cons_succ])
          refine orde_e ?_
          (refine ope_e (o := ?_) ?_ ?_ (fun K hK => ?_); rotate_left 1; (focus ((simp only [List.getElem?_toArray, List.getElem?_cons_succ, List.getElem?_cons_zero]) <;> rfl)); (focus rfl); go_simp)
          revert hA hs
          generalize wa.alloc (.cells #[.int .i64 (q : Int)] 3) = W1
          intro hA hs
          refine hK.out _ _ hA.cells.1 ?_
          clear hK K
          have HA := Lib.hid (And.intro hA hs)
          clear hA hs
          (try simp only [Act.put, List.setIfInBounds_toArray, List.set_cons_zero, List.set_cons_succ])
          refine orde_e ?_
          (refine ope_e (o := ?_) ?_ ?_ (fun K hK => ?_); rotate_left 1; (focus ((simp only [List.getElem?_toArray, List.getElem?_cons_succ, List.getElem?_cons_zero]) <;> rfl)); (focus rfl))
          refine wp_app (.tmp 65) (.tmp 70) rfl elem_int HA.out.1.out.n rfl rfl (by simp) HA.out.2 (by simp [Value.oneCell']) (xn.length + 1) rfl _ rfl (by unfold maxLen; omega) (by omega) HA.out.1.sz ?_
          intro s6 c6 W2 h6 hb6 hg6 hob6
          obtain ⟨hB6, xn', e1, hK1⟩ := HA.out.1.pushN1 h6 rfl hg6 hob6
          refine hK.out _ _ (blk_all hB6).1 ?_
          clear hK K
          have y1 : W2.cell? ⟨B, 1, none⟩ = some (.slice s2 xn.length c2) := blk_cell hB6
          have y2 : W2.frozen? ⟨B, 1, none⟩ = false := blk_free hB6
          have HK1 := Lib.hid (And.intro e1 hK1)
          clear h6 hb6 hg6 hob6 hB6 e1 hK1
          (try simp only [Act.put, List.setIfInBounds_toArray, List.set_cons_zero, List.set_cons_succ])
          repeat (first | (refine orde_s (o := ?_) ?_ ?_ ?_; rotate_left 1; (focus ((simp only [List.getElem?_toArray, List.getElem?_cons_succ, List.getElem?_cons_zero]) <;> rfl)); (focus rfl); simp only [Act.put, List.setIfInBounds_toArray, List.set_cons_zero, List.set_cons_succ]) | (refine orde_q (o := ?_) (v := ?_) ?_ ?_ ?_ ?_; rotate_left 2; (focus ((simp only [List.getElem?_toArray, List.getElem?_cons_succ, List.getElem?_cons_zero]) <;> rfl)); (focus rfl); (focus (intro w' hS; (try dsimp only at hS); go_split_ands; go_simp; (try (with_reducible rfl)))); simp only [Act.put, List.setIfInBounds_toArray, List.set_cons_zero, List.set_cons_succ]))
          (refine orde_z (o := ?_) ?_ ?_ (fun K hK => ?_); rotate_left 1; (focus ((simp only [List.getElem?_toArray, List.getElem?_cons_succ, List.getElem?_cons_zero]) <;> rfl)); (focus rfl); go_simp)
          refine hK.out _ _ ?_
          clear hK K y1 y2
          go_wp2_with fail
          obtain ⟨e1, hK1⟩ := HK1.out
          go_roundw
          case rel => exact ⟨k + 1, by omega, xn', s6, c6, _, hK1, by omega, by omega, by omega⟩
          case measure => simp [intOf]; omega
        · obtain rfl : k = L := by omega
          obtain ⟨vN, hvN⟩ : ∃ vN, vN = Value.slice s2 xn.length c2 := ⟨_, rfl⟩
          rw [← hvN] at HK
          clear hvN
          have hxn : xn.length ≤ 3 := by omega
          clear hxk
          go_wp2_with (go_at_call 47; ((with_reducible refine (pick_kt _ _ _ _ _ _ _ _ _ _ _ _ _ _ _ _ HK.out (by omega) (by omega)).mono ?_); rintro e w' ⟨O, rfl, hk1, hk2, -, -⟩; have HK := Lib.hid hk2; have HPO := Lib.hid hk1; clear hk1 hk2; (try clear cb); have cb := HK.out.cells.1))
          have o3 : O ≤ 3 := by have := HPO.out.2; omega
          clear HPO cb
          go_loopw [12] (fun v12 wr => ∃ (k : Nat) (xo : List Int) (s3 : Option Addr) (c3 p3 : Nat), v12 = .int .i64 k ∧ KT R s c xs W0 B I xn xg xo vN vG (.slice s3 xo.length c3) p3 wr ∧ xo.length + k ≤ 3 ∧ p3 + 4 * k ≤ p + 120) (fun v12 _ => (intOf v12).toNat)
          case atStart => exact ⟨O, [], _, _, _, rfl, HK.out, by simp; omega, by omega⟩
          case round =>
            clear HK
            obtain ⟨k, xo, s3, c3, p3, rfl, hk, hxk, hp3⟩ := hrel
            have HK := Lib.hid hk
            clear hk
            by_cases hlt : 0 < k
            · go_upto_region 20 with fail
              refine wp_region_E (fun w' => ∀ o, w'.cell? ⟨B, o, none⟩ = #[Value.int .i64 I, vN, vG, .slice s3 xo.length c3][o]?) 23 (.q 0 (.q 1 (.q 2 (.q 3 (.q 4 (.q 5 (.q 6 (.q 7 (.q 11 (.q 12 (.q 13 (.q 16 (.e 8 (.e 9 (.q 10 (.e 14 (.two 15 (.e 17 (.q 18 (.e 19 (.e 20 (.e 21 (.q 22 (.z 23))))))) 17 (.e 15 (.q 18 (.e 19 (.e 20 (.e 21 (.q 22 (.z 23)))))))))))))))))))))))) (by kernel_rfl) (by kernel_rfl) (by kernel_rfl) (by kernel_rfl) (by kernel_rfl) (by kernel_rfl) HK.out.drew.cells.1 ?_
              repeat (first | (refine orde_s (o := ?_) ?_ ?_ ?_; rotate_left 1; (focus ((simp only [List.getElem?_toArray, List.getElem?_cons_succ, List.getElem?_cons_zero]) <;> rfl)); (focus rfl); simp only [Act.put, List.setIfInBounds_toArray, List.set_cons_zero, List.set_cons_succ]) | (refine orde_q (o := ?_) (v := ?_) ?_ ?_ ?_ ?_; rotate_left 2; (focus ((simp only [List.getElem?_toArray, List.getElem?_cons_succ, List.getElem?_cons_zero]) <;> rfl)); (focus rfl); (focus (intro w' hS; (try dsimp only at hS); go_split_ands; go_simp; (try (with_reducible rfl)))); simp only [Act.put, List.setIfInBounds_toArray, List.set_cons_zero, List.set_cons_succ]))
              refine orde_e ?_
              (refine ope_e (o := ?_) ?_ ?_ (fun K hK => ?_); rotate_left 1; (focus ((simp only [List.getElem?_toArray, List.getElem?_cons_succ, List.getElem?_cons_zero]) <;> rfl)); (focus rfl); go_simp)
              refine hK.out _ _ HK.out.drew.cells.1 ?_
              clear hK K
              (try simp only [Act.put, List.setIfInBounds_toArray, List.set_cons_zero, List.set_cons_succ])
              refine orde_e ?_
              (refine ope_e (o := ?_) ?_ ?_ (fun K hK => ?_); rotate_left 1; (focus ((simp only [List.getElem?_toArray, List.getElem?_cons_succ, List.getElem?_cons_zero]) <;> rfl)); (focus rfl); go_simp)
              refine (pick_kt _ _ _ _ _ _ _ _ _ _ _ _ _ _ _ _ HK.out.drew (by omega) (by omega)).mono ?_
              rintro e wa ⟨q1, rfl, -, hk2, -, -⟩
              refine hK.out _ _ hk2.cells.1 ?_
              clear hK K
              have HK := Lib.hid hk2
              clear hk2
              (try simp only [Act.put, List.setIfInBounds_toArray, List.set_cons_zero, List.set_cons_succ])
              repeat (first | (refine orde_s (o := ?_) ?_ ?_ ?_; rotate_left 1; (focus ((simp only [List.getElem?_toArray, List.getElem?_cons_succ, List.getElem?_cons_zero]) <;> rfl)); (focus rfl); simp only [Act.put, List.setIfInBounds_toArray, List.set_cons_zero, List.set_cons_succ]) | (refine orde_q (o := ?_) (v := ?_) ?_ ?_ ?_ ?_; rotate_left 2; (focus ((simp only [List.getElem?_toArray, List.getElem?_cons_succ, List.getElem?_cons_zero]) <;> rfl)); (focus rfl); (focus (intro w' hS; (try dsimp only at hS); go_split_ands; go_simp; (try (with_reducible rfl)))); simp only [Act.put, List.setIfInBounds_toArray, List.set_cons_zero, List.set_cons_succ]))
              refine orde_e ?_
              (refine ope_e (o := ?_) ?_ ?_ (fun K hK => ?_); rotate_left 1; (focus ((simp only [List.getElem?_toArray, List.getElem?_cons_succ, List.getElem?_cons_zero]) <;> rfl)); (focus rfl); go_simp)
              refine (pick_kt _ _ _ _ _ _ _ _ _ _ _ _ _ _ _ _ HK.out (by omega) (by omega)).mono ?_
              rintro e wb ⟨q2, rfl, -, hk2, -, -⟩
              refine hK.out _ _ hk2.cells.1 ?_
              clear hK K
              have HK := Lib.hid hk2
              clear hk2
              (try simp only [Act.put, List.setIfInBounds_toArray, List.set_cons_zero, List.set_cons_succ])
              refine orde_two ?_ ?_
              · (refine ope_e (o := ?_) ?_ ?_ (fun K hK => ?_); rotate_left 1; (focus ((simp only [List.getElem?_toArray, List.getElem?_cons_succ, List.getElem?_cons_zero]) <;> rfl)); (focus rfl); go_simp)
                refine hK.out _ _ ((HK.out).alloc _).cells.1 ?_
                clear hK K
                obtain ⟨NB, hNB⟩ : ∃ NB, NB = wb.heap.size := ⟨_, rfl⟩
                rw [← hNB]
                have hNs := (HK.out).sz
                rw [← hNB] at hNs
                have HNB := Lib.hid hNs
                have hA := HK.out.alloc (.cells #[.int .i64 (IntKind.i64.wrap (IntKind.i64.wrap (2 * (V : Int) - 1) - (q1 : Int))), .int .i64 (q2 : Int)] 3)
                have hC := blk_new wb (.cells #[.int .i64 (IntKind.i64.wrap (IntKind.i64.wrap (2 * (V : Int) - 1) - (q1 : Int))), .int .i64 (q2 : Int)] 3)
                rw [← hNB] at hC
                revert hA hC
                generalize wb.alloc (.cells #[.int .i64 (IntKind.i64.wrap (IntKind.i64.wrap (2 * (V : Int) - 1) - (q1 : Int))), .int .i64 (q2 : Int)] 3) = WB
                intro hA hC
                have HK := Lib.hid hA
                have HC := Lib.hid hC
                clear hA hC hNB hNs
                (try simp only [Act.put, List.setIfInBounds_toArray, List.set_cons_zero, List.set_cons_succ])
                refine orde_e ?_
                (refine ope_e (o := ?_) ?_ ?_ (fun K hK => ?_); rotate_left 1; (focus ((simp only [List.getElem?_toArray, List.getElem?_cons_succ, List.getElem?_cons_zero]) <;> rfl)); (focus rfl); go_simp)
                refine (pick_kt _ _ _ _ _ _ _ _ _ _ _ _ _ _ _ _ HK.out (by omega) (by omega)).mono ?_
                rintro e wd ⟨q3, rfl, hk1, hk2, hk3, -⟩
                refine hK.out _ _ hk2.cells.1 ?_
                clear hK K
                have hq3 : q3 ≤ 1 := by have := hk1.2; omega
                have hqi : (q3 : Int) < 2 := by omega
                have hblk := (hk3.block _ (blk_lt HC.out) (by have h1 := HK.out.hR; have h2 := HNB.out; simp; omega)).trans HC.out
                have HK := Lib.hid hk2
                have HC := Lib.hid hblk
                clear hk1 hk2 hk3 hblk
                (try simp only [Act.put, List.setIfInBounds_toArray, List.set_cons_zero, List.set_cons_succ])
                repeat (first | (refine orde_s (o := ?_) ?_ ?_ ?_; rotate_left 1; (focus ((simp only [List.getElem?_toArray, List.getElem?_cons_succ, List.getElem?_cons_zero]) <;> rfl)); (focus rfl); simp only [Act.put, List.setIfInBounds_toArray, List.set_cons_zero, List.set_cons_succ]) | (refine orde_q (o := ?_) (v := ?_) ?_ ?_ ?_ ?_; rotate_left 2; (focus ((simp only [List.getElem?_toArray, List.getElem?_cons_succ, List.getElem?_cons_zero]) <;> rfl)); (focus rfl); (focus (intro w' hS; (try dsimp only at hS); go_split_ands; go_simp; (try (with_reducible rfl)))); simp only [Act.put, List.setIfInBounds_toArray, List.set_cons_zero, List.set_cons_succ]))
                refine orde_e ?_
                obtain ⟨Z, hZc⟩ : ∃ Z : Int, wd.cell? ⟨NB, q3, none⟩ = some (.int .i64 Z) := by
                  rcases (show q3 = 0 ∨ q3 = 1 by omega) with e | e <;> rw [e] <;> exact ⟨_, blk_cell HC.out⟩
                (refine ope_e (o := ?_) ?_ ?_ (fun K hK => ?_); rotate_left 1; (focus ((simp only [List.getElem?_toArray, List.getElem?_cons_succ, List.getElem?_cons_zero]) <;> rfl)); (focus rfl); go_simp)
                refine hK.out _ _ HK.out.cells.1 ?_
                clear hK K
                have hA := HK.out.alloc (.cells #[.int .i64 Z] 3)
                have hs := Sl.new wd #[.int .i64 Z] 3
                clear hZc
                (try simp only [Act.put, List.setIfInBounds_toArray, List.set_cons_zero, List.set_cons_succ])
                refine orde_e ?_
                (refine ope_e (o := ?_) ?_ ?_ (fun K hK => ?_); rotate_left 1; (focus ((simp only [List.getElem?_toArray, List.getElem?_cons_succ, List.getElem?_cons_zero]) <;> rfl)); (focus rfl); go_simp)
                revert hA hs
                generalize wd.alloc (.cells #[.int .i64 Z] 3) = W1
                intro hA hs
                refine hK.out _ _ hA.cells.1 ?_
                clear hK K
                have HA := Lib.hid (And.intro hA hs)
                clear hA hs
                (try simp only [Act.put, List.setIfInBounds_toArray, List.set_cons_zero, List.set_cons_succ])
                refine orde_e ?_
                (refine ope_e (o := ?_) ?_ ?_ (fun K hK => ?_); rotate_left 1; (focus ((simp only [List.getElem?_toArray, List.getElem?_cons_succ, List.getElem?_cons_zero]) <;> rfl)); (focus rfl))
                refine wp_app (.tmp 80) (.tmp 99) rfl elem_int HA.out.1.out.o rfl rfl (by simp) HA.out.2 (by simp [Value.oneCell']) (xo.length + 1) rfl _ rfl (by unfold maxLen; omega) (by omega) HA.out.1.sz ?_
                intro s6 c6 W2 h6 hb6 hg6 hob6
                obtain ⟨hB6, xo', e1, hK1⟩ := HA.out.1.pushO1 (ys := [Z]) h6 rfl hg6 hob6
                refine hK.out _ _ (blk_all hB6).1 ?_
                clear hK K
                have y1 : W2.cell? ⟨B, 3, none⟩ = some (.slice s3 xo.length c3) := blk_cell hB6
                have y2 : W2.frozen? ⟨B, 3, none⟩ = false := blk_free hB6
                have HK1 := Lib.hid (And.intro e1 hK1)
                clear h6 hb6 hg6 hob6 hB6 e1 hK1
                (try simp only [Act.put, List.setIfInBounds_toArray, List.set_cons_zero, List.set_cons_succ])
                repeat (first | (refine orde_s (o := ?_) ?_ ?_ ?_; rotate_left 1; (focus ((simp only [List.getElem?_toArray, List.getElem?_cons_succ, List.getElem?_cons_zero]) <;> rfl)); (focus rfl); simp only [Act.put, List.setIfInBounds_toArray, List.set_cons_zero, List.set_cons_succ]) | (refine orde_q (o := ?_) (v := ?_) ?_ ?_ ?_ ?_; rotate_left 2; (focus ((simp only [List.getElem?_toArray, List.getElem?_cons_succ, List.getElem?_cons_zero]) <;> rfl)); (focus rfl); (focus (intro w' hS; (try dsimp only at hS); go_split_ands; go_simp; (try (with_reducible rfl)))); simp only [Act.put, List.setIfInBounds_toArray, List.set_cons_zero, List.set_cons_succ]))
                (refine orde_z (o := ?_) ?_ ?_ (fun K hK => ?_); rotate_left 1; (focus ((simp only [List.getElem?_toArray, List.getElem?_cons_succ, List.getElem?_cons_zero]) <;> rfl)); (focus rfl); go_simp)
                refine hK.out _ _ ?_
                clear hK K y1 y2
                go_wp2_with fail
                obtain ⟨e1, hK1⟩ := HK1.out
                go_roundw
                case rel => exact ⟨k - 1, xo', s6, c6, _, by go_num, hK1, by omega, by omega⟩
                case measure => simp [intOf]; omega
              · (refine ope_e (o := ?_) ?_ ?_ (fun K hK => ?_); rotate_left 1; (focus ((simp only [List.getElem?_toArray, List.getElem?_cons_succ, List.getElem?_cons_zero]) <;> rfl)); (focus rfl); go_simp)
                refine (pick_kt _ _ _ _ _ _ _ _ _ _ _ _ _ _ _ _ HK.out (by omega) (by omega)).mono ?_
                rintro e wd ⟨q3, rfl, hk1, hk2, -, -⟩
                refine hK.out _ _ hk2.cells.1 ?_
                clear hK K
                have hq3 : q3 ≤ 1 := by have := hk1.2; omega
                have hqi : (q3 : Int) < 2 := by omega
                have HK := Lib.hid hk2
                clear hk1 hk2
                (try simp only [Act.put, List.setIfInBounds_toArray, List.set_cons_zero, List.set_cons_succ])
                refine orde_e ?_
                (refine ope_e (o := ?_) ?_ ?_ (fun K hK => ?_); rotate_left 1; (focus ((simp only [List.getElem?_toArray, List.getElem?_cons_succ, List.getElem?_cons_zero]) <;> rfl)); (focus rfl); go_simp)
                refine hK.out _ _ ((HK.out).alloc _).cells.1 ?_
                clear hK K
                obtain ⟨NB, hNB⟩ : ∃ NB, NB = wd.heap.size := ⟨_, rfl⟩
                rw [← hNB]
                have hNs := (HK.out).sz
                rw [← hNB] at hNs
                have HNB := Lib.hid hNs
                have hA := HK.out.alloc (.cells #[.int .i64 (IntKind.i64.wrap (IntKind.i64.wrap (2 * (V : Int) - 1) - (q1 : Int))), .int .i64 (q2 : Int)] 3)
                have hC := blk_new wd (.cells #[.int .i64 (IntKind.i64.wrap (IntKind.i64.wrap (2 * (V : Int) - 1) - (q1 : Int))), .int .i64 (q2 : Int)] 3)
                rw [← hNB] at hC
                revert hA hC
                generalize wd.alloc (.cells #[.int .i64 (IntKind.i64.wrap (IntKind.i64.wrap (2 * (V : Int) - 1) - (q1 : Int))), .int .i64 (q2 : Int)] 3) = WB
                intro hA hC
                have HK := Lib.hid hA
                have HC := Lib.hid hC
                clear hA hC hNB hNs
                (try simp only [Act.put, List.setIfInBounds_toArray, List.set_cons_zero, List.set_cons_succ])
                repeat (first | (refine orde_s (o := ?_) ?_ ?_ ?_; rotate_left 1; (focus ((simp only [List.getElem?_toArray, List.getElem?_cons_succ, List.getElem?_cons_zero]) <;> rfl)); (focus rfl); simp only [Act.put, List.setIfInBounds_toArray, List.set_cons_zero, List.set_cons_succ]) | (refine orde_q (o := ?_) (v := ?_) ?_ ?_ ?_ ?_; rotate_left 2; (focus ((simp only [List.getElem?_toArray, List.getElem?_cons_succ, List.getElem?_cons_zero]) <;> rfl)); (focus rfl); (focus (intro w' hS; (try dsimp only at hS); go_split_ands; go_simp; (try (with_reducible rfl)))); simp only [Act.put, List.setIfInBounds_toArray, List.set_cons_zero, List.set_cons_succ]))
                refine orde_e ?_
                obtain ⟨Z, hZc⟩ : ∃ Z : Int, WB.cell? ⟨NB, q3, none⟩ = some (.int .i64 Z) := by
                  rcases (show q3 = 0 ∨ q3 = 1 by omega) with e | e <;> rw [e] <;> exact ⟨_, blk_cell HC.out⟩
                (refine ope_e (o := ?_) ?_ ?_ (fun K hK => ?_); rotate_left 1; (focus ((simp only [List.getElem?_toArray, List.getElem?_cons_succ, List.getElem?_cons_zero]) <;> rfl)); (focus rfl); go_simp)
                refine hK.out _ _ HK.out.cells.1 ?_
                clear hK K
                have hA := HK.out.alloc (.cells #[.int .i64 Z] 3)
                have hs := Sl.new WB #[.int .i64 Z] 3
                clear hZc
                (try simp only [Act.put, List.setIfInBounds_toArray, List.set_cons_zero, List.set_cons_succ])
                refine orde_e ?_
                (refine ope_e (o := ?_) ?_ ?_ (fun K hK => ?_); rotate_left 1; (focus ((simp only [List.getElem?_toArray, List.getElem?_cons_succ, List.getElem?_cons_zero]) <;> rfl)); (focus rfl); go_simp)
                revert hA hs
                generalize WB.alloc (.cells #[.int .i64 Z] 3) = W1
                intro hA hs
                refine hK.out _ _ hA.cells.1 ?_
                clear hK K
                have HA := Lib.hid (And.intro hA hs)
                clear hA hs
                (try simp only [Act.put, List.setIfInBounds_toArray, List.set_cons_zero, List.set_cons_succ])
                refine orde_e ?_
                (refine ope_e (o := ?_) ?_ ?_ (fun K hK => ?_); rotate_left 1; (focus ((simp only [List.getElem?_toArray, List.getElem?_cons_succ, List.getElem?_cons_zero]) <;> rfl)); (focus rfl))
                refine wp_app (.tmp 80) (.tmp 99) rfl elem_int HA.out.1.out.o rfl rfl (by simp) HA.out.2 (by simp [Value.oneCell']) (xo.length + 1) rfl _ rfl (by unfold maxLen; omega) (by omega) HA.out.1.sz ?_
                intro s6 c6 W2 h6 hb6 hg6 hob6
                obtain ⟨hB6, xo', e1, hK1⟩ := HA.out.1.pushO1 (ys := [Z]) h6 rfl hg6 hob6
                refine hK.out _ _ (blk_all hB6).1 ?_
                clear hK K
                have y1 : W2.cell? ⟨B, 3, none⟩ = some (.slice s3 xo.length c3) := blk_cell hB6
                have y2 : W2.frozen? ⟨B, 3, none⟩ = false := blk_free hB6
                have HK1 := Lib.hid (And.intro e1 hK1)
                clear h6 hb6 hg6 hob6 hB6 e1 hK1
                (try simp only [Act.put, List.setIfInBounds_toArray, List.set_cons_zero, List.set_cons_succ])
                repeat (first | (refine orde_s (o := ?_) ?_ ?_ ?_; rotate_left 1; (focus ((simp only [List.getElem?_toArray, List.getElem?_cons_succ, List.getElem?_cons_zero]) <;> rfl)); (focus rfl); simp only [Act.put, List.setIfInBounds_toArray, List.set_cons_zero, List.set_cons_succ]) | (refine orde_q (o := ?_) (v := ?_) ?_ ?_ ?_ ?_; rotate_left 2; (focus ((simp only [List.getElem?_toArray, List.getElem?_cons_succ, List.getElem?_cons_zero]) <;> rfl)); (focus rfl); (focus (intro w' hS; (try dsimp only at hS); go_split_ands; go_simp; (try (with_reducible rfl)))); simp only [Act.put, List.setIfInBounds_toArray, List.set_cons_zero, List.set_cons_succ]))
                (refine orde_z (o := ?_) ?_ ?_ (fun K hK => ?_); rotate_left 1; (focus ((simp only [List.getElem?_toArray, List.getElem?_cons_succ, List.getElem?_cons_zero]) <;> rfl)); (focus rfl); go_simp)
                refine hK.out _ _ ?_
                clear hK K y1 y2
                go_wp2_with fail
                obtain ⟨e1, hK1⟩ := HK1.out
                go_roundw
                case rel => exact ⟨k - 1, xo', s6, c6, _, by go_num, hK1, by omega, by omega⟩
                case measure => simp [intOf]; omega
            · obtain rfl : k = 0 := by omega
              have hxo : xo.length ≤ 3 := by omega
              have hp3' : p3 ≤ p + 120 := by omega
              clear hxk hp3
              obtain ⟨sN, cN, rfl⟩ := own_shape HK.out.out.n
              obtain ⟨sG, cG, rfl⟩ := own_shape HK.out.out.g
              have cb := HK.out.cells.1
              go_upto_region 22 with (go_at_call 64; ((refine (odd_kt _ _ _ _ _ _ _ _ _ _ _ _ _ _ _ _ HK.out (by omega) (by omega) (by omega)).mono ?_); rintro e w' ⟨odd, p4, rfl, hp4, hk2⟩; have HK := Lib.hid hk2; clear hk2; (try clear cb); have cb := HK.out.cells.1; obtain ⟨rc, rf⟩ := KT.res HK.out HW0.out hR; cases odd))
              · refine KT.ret (p0 := p) (HK.out) HW0.out hR ?_ ?_ ?_ ?_
                · exact ⟨by omega, by omega, by omega, by omega, by omega⟩
                · omega
                · rfl
                · rfl
              clear rc rf
              go_upto_region 24 with (go_at_call 47; ((with_reducible refine (pick_kt _ _ _ _ _ _ _ _ _ _ _ _ _ _ _ _ HK.out (by omega) (by omega)).mono ?_); rintro e w' ⟨K6, rfl, hk1, hk2, -, -⟩; have HK := Lib.hid hk2; have HPK6 := Lib.hid hk1; clear hk1 hk2; (try clear cb); have cb := HK.out.cells.1))
              have k6 : K6 ≤ 5 := by have := HPK6.out.2; omega
              clear HPK6
              rcases (show K6 ≤ 0 ∨ (1 ≤ K6 ∧ K6 ≤ 1) ∨ (2 ≤ K6 ∧ K6 ≤ 2) ∨ (3 ≤ K6 ∧ K6 ≤ 3) ∨ (4 ≤ K6 ∧ K6 ≤ 4) ∨ 5 ≤ K6 by omega) with k6' | ⟨k5', k6'⟩ | ⟨k5', k6'⟩ | ⟨k5', k6'⟩ | ⟨k5', k6'⟩ | k6'
              · go_upto_region 25 with fail
                clear cb
                obtain ⟨NB, hNB⟩ : ∃ NB, NB = w'.heap.size := ⟨_, rfl⟩
                have hNs := HK.out.sz
                rw [← hNB] at hNs
                have hA := HK.out.alloc (.cells #[.int .i64 (-1), .int .i64 5] 3)
                have hC := blk_new w' (.cells #[.int .i64 (-1), .int .i64 5] 3)
                have HNB := Lib.hid (And.intro hNB hNs)
                rw [← hNB] at hC
                have HA := Lib.hid (And.intro hA hC)
                clear hA hC hNB hNs
                go_wp2_with fail
                rw [← HNB.out.1]
                have HX := Lib.hid HA.out
                clear HA
                revert HX
                generalize w'.alloc (.cells #[.int .i64 (-1), .int .i64 5] 3) = WA
                intro HX
                refine (pick_kt _ _ _ _ _ _ _ _ _ _ _ _ _ _ _ _ HX.out.1 (by omega) (by omega)).mono ?_
                rintro e wd ⟨q3, rfl, hk1, hk2, hk3, -⟩
                have hq3 : q3 ≤ 1 := by have := hk1.2; omega
                have hqi : (q3 : Int) < 2 := by omega
                have hblk := (hk3.block _ (blk_lt HX.out.2) (by have h1 := HX.out.1.hR; have h2 := HNB.out.2; first | omega | (simp; done) | (simp; omega))).trans HX.out.2
                obtain ⟨Z, hZ1, hZ2, hZc⟩ : ∃ Z : Int, -1 ≤ Z ∧ Z ≤ 5 ∧ wd.cell? ⟨NB, q3, none⟩ = some (.int .i64 Z) := by
                  rcases (show q3 = 0 ∨ q3 = 1 by omega) with e | e
                  · rw [e]; exact ⟨-1, by omega, by omega, blk_cell hblk⟩
                  · rw [e]; exact ⟨5, by omega, by omega, blk_cell hblk⟩
                have HK1 := Lib.hid (hk2.setInp Z)
                have cb := hk2.cells.1
                have cf := hk2.cells.2
                clear hk1 hk2 hk3 hblk HX HK HNB
                go_upto_region 35 with fail
                clear cb cf hZc
                revert HK1
                generalize wd.setCell ⟨B, 0, none⟩ (.int .i64 Z) = W9
                intro HK1
                have HK := HK1
                have cb := HK.out.cells.1
                obtain ⟨rc, rf⟩ := KT.res (HK.out) HW0.out hR
                go_wp2_with fail
                refine KT.ret (p0 := p) (HK.out) HW0.out hR ?_ ?_ ?_ ?_
                · exact ⟨by omega, by omega, by omega, by omega, by omega⟩
                · omega
                · rfl
                · rfl
              · go_upto_region 27 with fail
                refine wp_region_E (fun w' => ∀ o, w'.cell? ⟨B, o, none⟩ = #[Value.int .i64 I, .slice sN xn.length cN, .slice sG xg.length cG, .slice s3 xo.length c3][o]?) 12 (.q 0 (.q 1 (.q 2 (.q 3 (.q 5 (.two 4 (.e 6 (.q 7 (.e 8 (.e 9 (.e 10 (.q 11 (.z 12))))))) 6 (.e 4 (.q 7 (.e 8 (.e 9 (.e 10 (.q 11 (.z 12))))))))))))) (by kernel_rfl) (by kernel_rfl) (by kernel_rfl) (by kernel_rfl) (by kernel_rfl) (by kernel_rfl) HK.out.drew.cells.1 ?_
                have hD := HK.out.drew
                clear HK cb
                revert hD
                generalize w'.drew = wb
                intro hD
                have HK := Lib.hid hD
                clear hD
                repeat (first | (refine orde_s (o := ?_) ?_ ?_ ?_; rotate_left 1; (focus ((simp only [List.getElem?_toArray, List.getElem?_cons_succ, List.getElem?_cons_zero]) <;> rfl)); (focus rfl); simp only [Act.put, List.setIfInBounds_toArray, List.set_cons_zero, List.set_cons_succ]) | (refine orde_q (o := ?_) (v := ?_) ?_ ?_ ?_ ?_; rotate_left 2; (focus ((simp only [List.getElem?_toArray, List.getElem?_cons_succ, List.getElem?_cons_zero]) <;> rfl)); (focus rfl); (focus (intro w' hS; (try dsimp only at hS); go_split_ands; go_simp; (try (with_reducible rfl)))); simp only [Act.put, List.setIfInBounds_toArray, List.set_cons_zero, List.set_cons_succ]))
                refine orde_two ?_ ?_
                · (refine ope_e (o := ?_) ?_ ?_ (fun K hK => ?_); rotate_left 1; (focus ((simp only [List.getElem?_toArray, List.getElem?_cons_succ, List.getElem?_cons_zero]) <;> rfl)); (focus rfl); go_simp)
                  refine hK.out _ _ ((HK.out).alloc _).cells.1 ?_
                  clear hK K
                  obtain ⟨NB, hNB⟩ : ∃ NB, NB = wb.heap.size := ⟨_, rfl⟩
                  rw [← hNB]
                  have hNs := (HK.out).sz
                  rw [← hNB] at hNs
                  have HNB := Lib.hid hNs
                  have hA := HK.out.alloc (.cells #[.int .i64 (-1), .int .i64 (2 * (V : Int))] 3)
                  have hC := blk_new wb (.cells #[.int .i64 (-1), .int .i64 (2 * (V : Int))] 3)
                  rw [← hNB] at hC
                  revert hA hC
                  generalize wb.alloc (.cells #[.int .i64 (-1), .int .i64 (2 * (V : Int))] 3) = WB
                  intro hA hC
                  have HK := Lib.hid hA
                  have HC := Lib.hid hC
                  clear hA hC hNB hNs
                  (try simp only [Act.put, List.setIfInBounds_toArray, List.set_cons_zero, List.set_cons_succ])
                  refine orde_e ?_
                  (refine ope_e (o := ?_) ?_ ?_ (fun K hK => ?_); rotate_left 1; (focus ((simp only [List.getElem?_toArray, List.getElem?_cons_succ, List.getElem?_cons_zero]) <;> rfl)); (focus rfl); go_simp)
                  refine (pick_kt _ _ _ _ _ _ _ _ _ _ _ _ _ _ _ _ HK.out (by omega) (by omega)).mono ?_
                  rintro e wd ⟨q3, rfl, hk1, hk2, hk3, -⟩
                  refine hK.out _ _ hk2.cells.1 ?_
                  clear hK K
                  have hq3 : q3 ≤ 1 := by have := hk1.2; omega
                  have hqi : (q3 : Int) < 2 := by omega
                  have hblk := (hk3.block _ (blk_lt HC.out) (by have h1 := HK.out.hR; have h2 := HNB.out; simp; omega)).trans HC.out
                  have HK := Lib.hid hk2
                  have HC := Lib.hid hblk
                  clear hk1 hk2 hk3 hblk
                  (try simp only [Act.put, List.setIfInBounds_toArray, List.set_cons_zero, List.set_cons_succ])
                  repeat (first | (refine orde_s (o := ?_) ?_ ?_ ?_; rotate_left 1; (focus ((simp only [List.getElem?_toArray, List.getElem?_cons_succ, List.getElem?_cons_zero]) <;> rfl)); (focus rfl); simp only [Act.put, List.setIfInBounds_toArray, List.set_cons_zero, List.set_cons_succ]) | (refine orde_q (o := ?_) (v := ?_) ?_ ?_ ?_ ?_; rotate_left 2; (focus ((simp only [List.getElem?_toArray, List.getElem?_cons_succ, List.getElem?_cons_zero]) <;> rfl)); (focus rfl); (focus (intro w' hS; (try dsimp only at hS); go_split_ands; go_simp; (try (with_reducible rfl)))); simp only [Act.put, List.setIfInBounds_toArray, List.set_cons_zero, List.set_cons_succ]))
                  refine orde_e ?_
                  obtain ⟨Z, hZc⟩ : ∃ Z : Int, wd.cell? ⟨NB, q3, none⟩ = some (.int .i64 Z) := by
                    rcases (show q3 = 0 ∨ q3 = 1 by omega) with e | e <;> rw [e] <;> exact ⟨_, blk_cell HC.out⟩
                  (refine ope_e (o := ?_) ?_ ?_ (fun K hK => ?_); rotate_left 1; (focus ((simp only [List.getElem?_toArray, List.getElem?_cons_succ, List.getElem?_cons_zero]) <;> rfl)); (focus rfl); go_simp)
                  refine hK.out _ _ HK.out.cells.1 ?_
                  clear hK K
                  have hA := HK.out.alloc (.cells #[.int .i64 Z] 3)
                  have hs := Sl.new wd #[.int .i64 Z] 3
                  clear hZc
                  (try simp only [Act.put, List.setIfInBounds_toArray, List.set_cons_zero, List.set_cons_succ])
                  refine orde_e ?_
                  (refine ope_e (o := ?_) ?_ ?_ (fun K hK => ?_); rotate_left 1; (focus ((simp only [List.getElem?_toArray, List.getElem?_cons_succ, List.getElem?_cons_zero]) <;> rfl)); (focus rfl); go_simp)
                  revert hA hs
                  generalize wd.alloc (.cells #[.int .i64 Z] 3) = W1
                  intro hA hs
                  refine hK.out _ _ hA.cells.1 ?_
                  clear hK K
                  have HA := Lib.hid (And.intro hA hs)
                  clear hA hs
                  (try simp only [Act.put, List.setIfInBounds_toArray, List.set_cons_zero, List.set_cons_succ])
                  refine orde_e ?_
                  (refine ope_e (o := ?_) ?_ ?_ (fun K hK => ?_); rotate_left 1; (focus ((simp only [List.getElem?_toArray, List.getElem?_cons_succ, List.getElem?_cons_zero]) <;> rfl)); (focus rfl))
                  refine wp_app (.tmp 123) (.tmp 131) rfl elem_int HA.out.1.out.o rfl rfl (by simp) HA.out.2 (by simp [Value.oneCell']) (xo.length + 1) rfl _ rfl (by unfold maxLen; omega) (by omega) HA.out.1.sz ?_
                  intro s6 c6 W2 h6 hb6 hg6 hob6
                  obtain ⟨hB6, xo', e1, hK1⟩ := HA.out.1.pushO1 (ys := [Z]) h6 rfl hg6 hob6
                  refine hK.out _ _ (blk_all hB6).1 ?_
                  clear hK K
                  have y1 : W2.cell? ⟨B, 3, none⟩ = some (.slice s3 xo.length c3) := blk_cell hB6
                  have y2 : W2.frozen? ⟨B, 3, none⟩ = false := blk_free hB6
                  have HK1 := Lib.hid (And.intro e1 hK1)
                  clear h6 hb6 hg6 hob6 hB6 e1 hK1
                  (try simp only [Act.put, List.setIfInBounds_toArray, List.set_cons_zero, List.set_cons_succ])
                  repeat (first | (refine orde_s (o := ?_) ?_ ?_ ?_; rotate_left 1; (focus ((simp only [List.getElem?_toArray, List.getElem?_cons_succ, List.getElem?_cons_zero]) <;> rfl)); (focus rfl); simp only [Act.put, List.setIfInBounds_toArray, List.set_cons_zero, List.set_cons_succ]) | (refine orde_q (o := ?_) (v := ?_) ?_ ?_ ?_ ?_; rotate_left 2; (focus ((simp only [List.getElem?_toArray, List.getElem?_cons_succ, List.getElem?_cons_zero]) <;> rfl)); (focus rfl); (focus (intro w' hS; (try dsimp only at hS); go_split_ands; go_simp; (try (with_reducible rfl)))); simp only [Act.put, List.setIfInBounds_toArray, List.set_cons_zero, List.set_cons_succ]))
                  (refine orde_z (o := ?_) ?_ ?_ (fun K hK => ?_); rotate_left 1; (focus ((simp only [List.getElem?_toArray, List.getElem?_cons_succ, List.getElem?_cons_zero]) <;> rfl)); (focus rfl); go_simp)
                  refine hK.out _ _ ?_
                  clear hK K y1 y2
                  obtain ⟨e1, hK1⟩ := HK1.out
                  have e2 : xo'.length ≤ 16 := by omega
                  rw [e1] at hK1
                  clear HK1 HK e1
                  revert hK1
                  generalize W2.setCell ⟨B, 3, none⟩ (.slice s6 (xo.length + 1) c6) = W9
                  intro hK1
                  have HK := Lib.hid hK1
                  clear hK1
                  have cb := HK.out.cells.1
                  obtain ⟨rc, rf⟩ := KT.res (HK.out) HW0.out hR
                  go_wp2_with fail
                  refine KT.ret (p0 := p) (HK.out) HW0.out hR ?_ ?_ ?_ ?_
                  · exact ⟨by omega, by omega, by omega, by omega, by omega⟩
                  · omega
                  · rfl
                  · rfl
                · (refine ope_e (o := ?_) ?_ ?_ (fun K hK => ?_); rotate_left 1; (focus ((simp only [List.getElem?_toArray, List.getElem?_cons_succ, List.getElem?_cons_zero]) <;> rfl)); (focus rfl); go_simp)
                  refine (pick_kt _ _ _ _ _ _ _ _ _ _ _ _ _ _ _ _ HK.out (by omega) (by omega)).mono ?_
                  rintro e wd ⟨q3, rfl, hk1, hk2, -, -⟩
                  refine hK.out _ _ hk2.cells.1 ?_
                  clear hK K
                  have hq3 : q3 ≤ 1 := by have := hk1.2; omega
                  have hqi : (q3 : Int) < 2 := by omega
                  have HK := Lib.hid hk2
                  clear hk1 hk2
                  (try simp only [Act.put, List.setIfInBounds_toArray, List.set_cons_zero, List.set_cons_succ])
                  refine orde_e ?_
                  (refine ope_e (o := ?_) ?_ ?_ (fun K hK => ?_); rotate_left 1; (focus ((simp only [List.getElem?_toArray, List.getElem?_cons_succ, List.getElem?_cons_zero]) <;> rfl)); (focus rfl); go_simp)
                  refine hK.out _ _ ((HK.out).alloc _).cells.1 ?_
                  clear hK K
                  obtain ⟨NB, hNB⟩ : ∃ NB, NB = wd.heap.size := ⟨_, rfl⟩
                  rw [← hNB]
                  have hNs := (HK.out).sz
                  rw [← hNB] at hNs
                  have HNB := Lib.hid hNs
                  have hA := HK.out.alloc (.cells #[.int .i64 (-1), .int .i64 (2 * (V : Int))] 3)
                  have hC := blk_new wd (.cells #[.int .i64 (-1), .int .i64 (2 * (V : Int))] 3)
                  rw [← hNB] at hC
                  revert hA hC
                  generalize wd.alloc (.cells #[.int .i64 (-1), .int .i64 (2 * (V : Int))] 3) = WB
                  intro hA hC
                  have HK := Lib.hid hA
                  have HC := Lib.hid hC
                  clear hA hC hNB hNs
                  (try simp only [Act.put, List.setIfInBounds_toArray, List.set_cons_zero, List.set_cons_succ])
                  repeat (first | (refine orde_s (o := ?_) ?_ ?_ ?_; rotate_left 1; (focus ((simp only [List.getElem?_toArray, List.getElem?_cons_succ, List.getElem?_cons_zero]) <;> rfl)); (focus rfl); simp only [Act.put, List.setIfInBounds_toArray, List.set_cons_zero, List.set_cons_succ]) | (refine orde_q (o := ?_) (v := ?_) ?_ ?_ ?_ ?_; rotate_left 2; (focus ((simp only [List.getElem?_toArray, List.getElem?_cons_succ, List.getElem?_cons_zero]) <;> rfl)); (focus rfl); (focus (intro w' hS; (try dsimp only at hS); go_split_ands; go_simp; (try (with_reducible rfl)))); simp only [Act.put, List.setIfInBounds_toArray, List.set_cons_zero, List.set_cons_succ]))
                  refine orde_e ?_
                  obtain ⟨Z, hZc⟩ : ∃ Z : Int, WB.cell? ⟨NB, q3, none⟩ = some (.int .i64 Z) := by
                    rcases (show q3 = 0 ∨ q3 = 1 by omega) with e | e <;> rw [e] <;> exact ⟨_, blk_cell HC.out⟩
                  (refine ope_e (o := ?_) ?_ ?_ (fun K hK => ?_); rotate_left 1; (focus ((simp only [List.getElem?_toArray, List.getElem?_cons_succ, List.getElem?_cons_zero]) <;> rfl)); (focus rfl); go_simp)
                  refine hK.out _ _ HK.out.cells.1 ?_
                  clear hK K
                  have hA := HK.out.alloc (.cells #[.int .i64 Z] 3)
                  have hs := Sl.new WB #[.int .i64 Z] 3
                  clear hZc
                  (try simp only [Act.put, List.setIfInBounds_toArray, List.set_cons_zero, List.set_cons_succ])
                  refine orde_e ?_
                  (refine ope_e (o := ?_) ?_ ?_ (fun K hK => ?_); rotate_left 1; (focus ((simp only [List.getElem?_toArray, List.getElem?_cons_succ, List.getElem?_cons_zero]) <;> rfl)); (focus rfl); go_simp)
                  revert hA hs
                  generalize WB.alloc (.cells #[.int .i64 Z] 3) = W1
                  intro hA hs
                  refine hK.out _ _ hA.cells.1 ?_
                  clear hK K
                  have HA := Lib.hid (And.intro hA hs)
                  clear hA hs
                  (try simp only [Act.put, List.setIfInBounds_toArray, List.set_cons_zero, List.set_cons_succ])
                  refine orde_e ?_
                  (refine ope_e (o := ?_) ?_ ?_ (fun K hK => ?_); rotate_left 1; (focus ((simp only [List.getElem?_toArray, List.getElem?_cons_succ, List.getElem?_cons_zero]) <;> rfl)); (focus rfl))
                  refine wp_app (.tmp 123) (.tmp 131) rfl elem_int HA.out.1.out.o rfl rfl (by simp) HA.out.2 (by simp [Value.oneCell']) (xo.length + 1) rfl _ rfl (by unfold maxLen; omega) (by omega) HA.out.1.sz ?_
                  intro s6 c6 W2 h6 hb6 hg6 hob6
                  obtain ⟨hB6, xo', e1, hK1⟩ := HA.out.1.pushO1 (ys := [Z]) h6 rfl hg6 hob6
                  refine hK.out _ _ (blk_all hB6).1 ?_
                  clear hK K
                  have y1 : W2.cell? ⟨B, 3, none⟩ = some (.slice s3 xo.length c3) := blk_cell hB6
                  have y2 : W2.frozen? ⟨B, 3, none⟩ = false := blk_free hB6
                  have HK1 := Lib.hid (And.intro e1 hK1)
                  clear h6 hb6 hg6 hob6 hB6 e1 hK1
                  (try simp only [Act.put, List.setIfInBounds_toArray, List.set_cons_zero, List.set_cons_succ])
                  repeat (first | (refine orde_s (o := ?_) ?_ ?_ ?_; rotate_left 1; (focus ((simp only [List.getElem?_toArray, List.getElem?_cons_succ, List.getElem?_cons_zero]) <;> rfl)); (focus rfl); simp only [Act.put, List.setIfInBounds_toArray, List.set_cons_zero, List.set_cons_succ]) | (refine orde_q (o := ?_) (v := ?_) ?_ ?_ ?_ ?_; rotate_left 2; (focus ((simp only [List.getElem?_toArray, List.getElem?_cons_succ, List.getElem?_cons_zero]) <;> rfl)); (focus rfl); (focus (intro w' hS; (try dsimp only at hS); go_split_ands; go_simp; (try (with_reducible rfl)))); simp only [Act.put, List.setIfInBounds_toArray, List.set_cons_zero, List.set_cons_succ]))
                  (refine orde_z (o := ?_) ?_ ?_ (fun K hK => ?_); rotate_left 1; (focus ((simp only [List.getElem?_toArray, List.getElem?_cons_succ, List.getElem?_cons_zero]) <;> rfl)); (focus rfl); go_simp)
                  refine hK.out _ _ ?_
                  clear hK K y1 y2
                  obtain ⟨e1, hK1⟩ := HK1.out
                  have e2 : xo'.length ≤ 16 := by omega
                  rw [e1] at hK1
                  clear HK1 HK e1
                  revert hK1
                  generalize W2.setCell ⟨B, 3, none⟩ (.slice s6 (xo.length + 1) c6) = W9
                  intro hK1
                  have HK := Lib.hid hK1
                  clear hK1
                  have cb := HK.out.cells.1
                  obtain ⟨rc, rf⟩ := KT.res (HK.out) HW0.out hR
                  go_wp2_with fail
                  refine KT.ret (p0 := p) (HK.out) HW0.out hR ?_ ?_ ?_ ?_
                  · exact ⟨by omega, by omega, by omega, by omega, by omega⟩
                  · omega
                  · rfl
                  · rfl
              · go_upto_region 35 with (at_builtin; refine wpl_app rfl _ _ rfl elem_int (HK.out.alloc _).out.n rfl rfl rfl (Sl.new _ _ _) (by simp [Value.oneCell']) (xn.length + 1) rfl _ rfl (by unfold maxLen; omega) (by omega) (HK.out.alloc _).sz ?_; intro s6 c6 w6 h6 hb6 hg6 hob6; obtain ⟨hB6, hA⟩ := (HK.out.alloc _).pushN1 h6 rfl hg6 hob6; have HA := Lib.hid hA; have y1 : w6.cell? ⟨B, 1, none⟩ = some (.slice sN xn.length cN) := blk_cell hB6; have y2 : w6.frozen? ⟨B, 1, none⟩ = false := blk_free hB6; clear cb h6 hb6 hg6 hob6 hB6 hA)
                obtain ⟨X, e1, hK1⟩ := HA.out
                have e2 : X.length ≤ 8 := by omega
                rw [e1] at hK1
                clear HA HK y1 y2 e1
                revert hK1
                generalize w6.setCell ⟨B, 1, none⟩ (.slice s6 (xn.length + 1) c6) = W9
                intro hK1
                have HK := Lib.hid hK1
                clear hK1
                have cb := HK.out.cells.1
                obtain ⟨rc, rf⟩ := KT.res (HK.out) HW0.out hR
                go_wp2_with fail
                refine KT.ret (p0 := p) (HK.out) HW0.out hR ?_ ?_ ?_ ?_
                · exact ⟨by omega, by omega, by omega, by omega, by omega⟩
                · omega
                · rfl
                · rfl
              · go_upto_region 35 with (at_builtin; refine wpl_app rfl _ _ rfl elem_gate (HK.out.alloc _).out.g rfl rfl rfl (Sl.new _ _ _) (by simp [Value.oneCell']) (xg.length + 1) rfl _ rfl (by unfold maxLen; omega) (by omega) (HK.out.alloc _).sz ?_; intro s6 c6 w6 h6 hb6 hg6 _; obtain ⟨hB6, hA⟩ := (HK.out.alloc _).pushG1 h6 rfl hg6; have HA := Lib.hid hA; have y1 : w6.cell? ⟨B, 2, none⟩ = some (.slice sG xg.length cG) := blk_cell hB6; have y2 : w6.frozen? ⟨B, 2, none⟩ = false := blk_free hB6; clear cb h6 hb6 hg6 hB6 hA)
                obtain ⟨X, e1, hK1⟩ := HA.out
                have e2 : X.length ≤ 40 := by omega
                rw [e1] at hK1
                clear HA HK y1 y2 e1
                revert hK1
                generalize w6.setCell ⟨B, 2, none⟩ (.slice s6 (xg.length + 1) c6) = W9
                intro hK1
                have HK := Lib.hid hK1
                clear hK1
                have cb := HK.out.cells.1
                obtain ⟨rc, rf⟩ := KT.res (HK.out) HW0.out hR
                go_wp2_with fail
                refine KT.ret (p0 := p) (HK.out) HW0.out hR ?_ ?_ ?_ ?_
                · exact ⟨by omega, by omega, by omega, by omega, by omega⟩
                · omega
                · rfl
                · rfl
              · have hxg' : xg.length ≤ 15 := by omega
                go_wp2_with fail
                clear cb hxg
                rw [show ((K6 : Int) == 0) = false by simp; omega, show ((K6 : Int) == 1) = false by simp; omega, show ((K6 : Int) == 2) = false by simp; omega, show ((K6 : Int) == 3) = false by simp; omega, show ((K6 : Int) == 4) = true by simp; omega]
                go_loopw [] (fun wr => ∃ (xg : List Gt) (sg : Option Addr) (cg : Nat), KT R s c xs W0 B I xn xg xo (.slice sN xn.length cN) (.slice sg xg.length cg) (.slice s3 xo.length c3) (p4 + 1) wr ∧ xg.length ≤ 15) (fun wr => 16 - lenAt wr B)
                case atStart => exact ⟨xg, _, _, HK.out, hxg'⟩
                case round =>
                  clear HK hxg'
                  obtain ⟨yg, sg, cg, hk, hyg⟩ := hrel
                  have HK := Lib.hid hk
                  clear hk
                  have cb := HK.out.cells.1
                  by_cases hl4 : yg.length ≤ 14
                  · go_wp2_with (at_builtin; refine wpl_app rfl _ _ rfl elem_gate (HK.out.alloc _).out.g rfl rfl rfl (Sl.new _ _ _) (by simp [Value.oneCell']) (yg.length + 1) rfl _ rfl (by unfold maxLen; omega) (by omega) (HK.out.alloc _).sz ?_; intro s6 c6 w6 h6 hb6 hg6 _; obtain ⟨hB6, hA⟩ := (HK.out.alloc _).pushG1 h6 rfl hg6; have HA := Lib.hid hA; have y1 : w6.cell? ⟨B, 2, none⟩ = some (.slice sg yg.length cg) := blk_cell hB6; have y2 : w6.frozen? ⟨B, 2, none⟩ = false := blk_free hB6; clear cb h6 hb6 hg6 hB6 hA)
                    obtain ⟨X, e1, hK1⟩ := HA.out
                    rw [e1] at hK1
                    have hm : lenAt wr B = yg.length := lenAt_of HK.out.cells.1
                    have hm1 := lenAt_of hK1.cells.1
                    go_roundw
                    case rel => exact ⟨X, s6, c6, by rw [e1]; exact hK1, by omega⟩
                    case measure => omega
                  · obtain ⟨rc, rf⟩ := KT.res (HK.out) HW0.out hR
                    go_wp2_with fail
                    refine KT.ret (p0 := p) (HK.out) HW0.out hR ?_ ?_ ?_ ?_
                    · exact ⟨by omega, by omega, by omega, by omega, by omega⟩
                    · omega
                    · rfl
                    · rfl
              · go_upto_region 35 with (at_builtin; refine wpl_app rfl _ _ rfl elem_int (HK.out.alloc _).out.o rfl rfl rfl (Sl.new _ _ _) (by simp [Value.oneCell']) (xo.length + 4) rfl _ rfl (by unfold maxLen; omega) (by omega) (HK.out.alloc _).sz ?_; intro s6 c6 w6 h6 hb6 hg6 hob6; obtain ⟨hB6, hA⟩ := (HK.out.alloc _).pushO1 (ys := [0, 0, 0, 0]) h6 rfl hg6 hob6; have HA := Lib.hid hA; have y1 : w6.cell? ⟨B, 3, none⟩ = some (.slice s3 xo.length c3) := blk_cell hB6; have y2 : w6.frozen? ⟨B, 3, none⟩ = false := blk_free hB6; clear cb h6 hb6 hg6 hob6 hB6 hA)
                obtain ⟨X, e1, hK1⟩ := HA.out
                have e2 : X.length ≤ 16 := by omega
                rw [e1] at hK1
                clear HA HK y1 y2 e1
                revert hK1
                generalize w6.setCell ⟨B, 3, none⟩ (.slice s6 (xo.length + 4) c6) = W9
                intro hK1
                have HK := Lib.hid hK1
                clear hK1
                have cb := HK.out.cells.1
                obtain ⟨rc, rf⟩ := KT.res (HK.out) HW0.out hR
                go_wp2_with fail
                refine KT.ret (p0 := p) (HK.out) HW0.out hR ?_ ?_ ?_ ?_
                · exact ⟨by omega, by omega, by omega, by omega, by omega⟩
                · omega
                · rfl
                · rfl

end Go.Proofs.YtnifgamlmaembaaDoor
