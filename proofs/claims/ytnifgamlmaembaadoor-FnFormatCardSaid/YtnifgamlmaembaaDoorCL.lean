import Derived.Test.YtnifgamlmaembaaDoorY1
namespace Go.Proofs.YtnifgamlmaembaaDoor
set_option linter.unusedVariables false
set_option linter.unusedSimpArgs false
open Go.RowKit

/-! A circuit is drawn, and it is valid. -/

/-- What l20Circuit leaves when it is asked for a valid one. -/
def CkPost0 (R : Nat) (s : Option Addr) (c : Nat) (xs : List Int) (p : Nat) (w : World) (e : Ending) (w' : World) : Prop :=
  ∃ (C : Cir) (vn vg vo : Value) (p' : Nat), e = .returned (.agg #[.int .i64 C.inp, vn, vg, vo]) ∧ CirOwn w' w.heap.size C vn vg vo ∧ (-10 ≤ C.inp ∧ C.inp ≤ 10 ∧ C.next.length ≤ 8 ∧ C.gates.length ≤ 40 ∧ C.outs.length ≤ 16) ∧ Rd w' R s c xs p' ∧ p' ≤ p + 1000 ∧ Kp R w.heap.size w w' ∧ C.valid

theorem KT.ret0 {R : Nat} {s : Option Addr} {c : Nat} {xs : List Int} {w W0 : World} {B : Nat} {inp : Int} {xn : List Int} {xg : List Gt} {xo : List Int} {vn vg vo : Value} {p p0 : Nat} {w1 : World} {a : Act} (h : KT R s c xs W0 B inp xn xg xo vn vg vo p w1) (hW : W0 = w.alloc (.cells #[.int .i64 0, .slice none 0 0, .slice none 0 0, .slice none 0 0] 31))
    (hR : R < w.heap.size) (hl : -10 ≤ inp ∧ inp ≤ 10 ∧ xn.length ≤ 8 ∧ xg.length ≤ 40 ∧ xo.length ≤ 16) (hp : p ≤ p0 + 1000) (hv : (⟨inp, xn, xg, xo⟩ : Cir).valid) (ha : a.tmps.getD 4 undef = .pointer (some ⟨w.heap.size, 0, none⟩)) (hd : a.defers = []) :
    bodyPost Tryd.prog Tryd.f45 (CkPost0 R s c xs p0 w) .ret a ((((w1.setCell ⟨w.heap.size, 0, none⟩ (.int .i64 inp)).setCell ⟨w.heap.size, 1, none⟩ vn).setCell ⟨w.heap.size, 2, none⟩ vg).setCell ⟨w.heap.size, 3, none⟩ vo) := by
  subst hW
  have hs0 : (w.alloc (.cells #[.int .i64 0, .slice none 0 0, .slice none 0 0, .slice none 0 0] 31)).heap.size = w.heap.size + 1 := by simp
  have hRB : w1.heap[w.heap.size]? = some (.cells #[.int .i64 0, .slice none 0 0, .slice none 0 0, .slice none 0 0] 31 (0, 0)) := by
    rw [h.kp.block _ (by simp) (by omega)]; exact blk_new _ _
  have ho : CirOwn w1 (w.heap.size + 1) ⟨inp, xn, xg, xo⟩ vn vg vo := ⟨by have := h.out.n; rwa [hs0] at this, by have := h.out.g; rwa [hs0] at this, by have := h.out.o; rwa [hs0] at this, h.out.ne, Nat.le_trans hl.2.2.1 (by omega), Nat.le_trans hl.2.2.2.1 (by omega), Nat.le_trans hl.2.2.2.2 (by omega)⟩
  have hZ : ((((w1.setCell ⟨w.heap.size, 0, none⟩ (.int .i64 inp)).setCell ⟨w.heap.size, 1, none⟩ vn).setCell ⟨w.heap.size, 2, none⟩ vg).setCell ⟨w.heap.size, 3, none⟩ vo).heap[w.heap.size]? = some (.cells #[.int .i64 inp, vn, vg, vo] 31 (0, 0)) := by
    simpa using blk_set (o := 3) (v := vo) (blk_set (o := 2) (v := vg) (blk_set (o := 1) (v := vn) (blk_set (o := 0) (v := .int .i64 inp) hRB)))
  have hown := ho.sets4 (r := w.heap.size) (by omega) (base := w.heap.size) (by omega) (a := .int .i64 inp) (b' := vn) (c' := vg) (d := vo)
  have hB := (((((Below.refl w.heap.size w1).setCell (p := ⟨w.heap.size, 0, none⟩) (by simp) (.int .i64 inp)).setCell (p := ⟨w.heap.size, 1, none⟩) (by simp) vn).setCell (p := ⟨w.heap.size, 2, none⟩) (by simp) vg).setCell (p := ⟨w.heap.size, 3, none⟩) (by simp) vo)
  have hk0 : Kp R w.heap.size w w1 := (Kp.of_below ((Below.refl _ _).alloc (Nat.le_refl _) _)).trans (h.kp.mono (by omega))
  have hrd := h.rd.grown hB hR
  have hk := hk0.trans (Kp.of_below hB)
  revert hZ hown hrd hk
  generalize ((((w1.setCell ⟨w.heap.size, 0, none⟩ (.int .i64 inp)).setCell ⟨w.heap.size, 1, none⟩ vn).setCell ⟨w.heap.size, 2, none⟩ vg).setCell ⟨w.heap.size, 3, none⟩ vo) = WZ
  intro hZ hown hrd hk
  have cr := (blk_all hZ).1
  have ha' : a.tmps[4]?.getD undef = .pointer (some ⟨w.heap.size, 0, none⟩) := by simpa using ha
  exact bodyPost_ret (v := .agg #[.int .i64 inp, vn, vg, vo]) (by simp [results, Tryd.results45, go_sem, cr, ha']) hd ⟨⟨inp, xn, xg, xo⟩, vn, vg, vo, p, rfl, hown, hl, hrd, hp, hk, hv⟩

theorem KT.pushG2 {R : Nat} {s : Option Addr} {c : Nat} {xs : List Int} {w0 : World} {B : Nat} {inp : Int} {xn : List Int} {xg : List Gt} {xo : List Int} {vn vg vo : Value} {p : Nat} {w1 w2 : World} (h : KT R s c xs w0 B inp xn xg xo vn vg vo p w1) {s' : Option Addr} {N c' : Nat} {a b : Int}
    (ho : w2.ownsRow w0.heap.size 52 2 (.slice s' N c') N (gcells xg ++ [.int .i64 a, .int .i64 b])) (hN : N = xg.length + 1) (hg : w1.grownBy w2 vg.ownBlock) : w2.heap[B]? = some (.cells #[.int .i64 inp, vn, vg, vo] 31 (0, 0)) ∧ ∃ xg' : List Gt, (xg'.length = N ∧ xg' = xg ++ [⟨a, b⟩]) ∧ KT R s c xs w0 B inp xn xg' xo vn (.slice s' xg'.length c') vo p (w2.setCell ⟨B, 2, none⟩ (.slice s' N c')) := by
  have e : (xg ++ [(⟨a, b⟩ : Gt)]).length = N := by simp [hN]
  obtain ⟨h1, h2⟩ := h.pushG (xg' := xg ++ [⟨a, b⟩]) (vg' := .slice s' N c') hg (by rw [e, ← gcells_append]; exact ho)
  exact ⟨h1, _, ⟨e, rfl⟩, by rw [e]; exact h2⟩
theorem KT.pushN2 {R : Nat} {s : Option Addr} {c : Nat} {xs : List Int} {w0 : World} {B : Nat} {inp : Int} {xn : List Int} {xg : List Gt} {xo : List Int} {vn vg vo : Value} {p : Nat} {w1 w2 : World} (h : KT R s c xs w0 B inp xn xg xo vn vg vo p w1) {s' : Option Addr} {N c' : Nat} {a : Int}
    (ho : w2.ownsRow w0.heap.size 3 1 (.slice s' N c') N (ints xn ++ [.int .i64 a])) (hN : N = xn.length + 1) (hg : w1.grownBy w2 vn.ownBlock) (hb : (Value.slice s' N c').ownBlock = vn.ownBlock ∨ (Value.slice s' N c').ownBlock = some w1.heap.size) : w2.heap[B]? = some (.cells #[.int .i64 inp, vn, vg, vo] 31 (0, 0)) ∧ ∃ xn' : List Int, (xn'.length = N ∧ xn' = xn ++ [a]) ∧ KT R s c xs w0 B inp xn' xg xo (.slice s' xn'.length c') vg vo p (w2.setCell ⟨B, 1, none⟩ (.slice s' N c')) := by
  have e : (xn ++ [a]).length = N := by simp [hN]
  obtain ⟨h1, h2⟩ := h.pushN (xn' := xn ++ [a]) (vn' := .slice s' N c') hg (by rw [e, ← ints_append]; exact ho) hb
  exact ⟨h1, _, ⟨e, rfl⟩, by rw [e]; exact h2⟩
theorem KT.pushO2 {R : Nat} {s : Option Addr} {c : Nat} {xs : List Int} {w0 : World} {B : Nat} {inp : Int} {xn : List Int} {xg : List Gt} {xo : List Int} {vn vg vo : Value} {p : Nat} {w1 w2 : World} (h : KT R s c xs w0 B inp xn xg xo vn vg vo p w1) {s' : Option Addr} {N c' : Nat} {ys : List Int}
    (ho : w2.ownsRow w0.heap.size 3 1 (.slice s' N c') N (ints xo ++ ints ys)) (hN : N = xo.length + ys.length) (hg : w1.grownBy w2 vo.ownBlock) (hb : (Value.slice s' N c').ownBlock = vo.ownBlock ∨ (Value.slice s' N c').ownBlock = some w1.heap.size) : w2.heap[B]? = some (.cells #[.int .i64 inp, vn, vg, vo] 31 (0, 0)) ∧ ∃ xo' : List Int, (xo'.length = N ∧ xo' = xo ++ ys) ∧ KT R s c xs w0 B inp xn xg xo' vn vg (.slice s' xo'.length c') p (w2.setCell ⟨B, 3, none⟩ (.slice s' N c')) := by
  have e : (xo ++ ys).length = N := by simp [hN]
  obtain ⟨h1, h2⟩ := h.pushO (xo' := xo ++ ys) (vo' := .slice s' N c') hg (by rw [e, ← ints_append]; exact ho) hb
  exact ⟨h1, _, ⟨e, rfl⟩, by rw [e]; exact h2⟩

theorem gatesP_add {F : Int} {gs : List Gt} {a b : Int} (h : gatesP F gs) (ha : litP a (F + gs.length)) (hb : litP b (F + gs.length)) : gatesP F (gs ++ [⟨a, b⟩]) := by
  intro i hi
  by_cases e : i < gs.length
  · rw [List.getElem_append_left e]; exact h i e
  · have e2 : i = gs.length := by simp at hi; omega
    subst e2; simp; exact ⟨ha, hb⟩
theorem litsP_add {V : Int} {xs : List Int} {a : Int} (h : litsP V xs) (ha : litP a V) : litsP V (xs ++ [a]) := by
  intro x hx
  rcases List.mem_append.1 hx with hx | hx
  · exact h x hx
  · simp at hx; rw [hx]; exact ha
theorem lit_q {V q : Nat} {m : Int} (h : Hid (Picked m q)) (hm : m ≤ 2 * (V : Int)) (hV : 1 ≤ V) : litP (q : Int) V := by
  have := h.out.2
  exact ⟨by omega, by omega⟩
theorem lit_s {V q : Nat} {m : Int} (h : Hid (Picked m q)) (hm : m ≤ 2 * (V : Int)) (hV : 1 ≤ V) : litP (2 * (V : Int) - 1 - q) V := by
  have := h.out.2
  exact ⟨by omega, by omega⟩
theorem lit_w {V q : Nat} {m : Int} (h : Hid (Picked m q)) (hm : m ≤ 2 * (V : Int)) (hV : 1 ≤ V) (hV2 : V ≤ 30) : litP (IntKind.i64.wrap (IntKind.i64.wrap (2 * (V : Int) - 1) - q)) V := by
  have h2 := h.out.2
  have h3 : (q : Int) < 2 * V := by omega
  rw [IntWalk.i64_in (2 * (V : Int) - 1) ⟨by omega, by omega⟩, IntWalk.i64_in _ ⟨by omega, by omega⟩]
  exact ⟨by omega, by omega⟩
theorem lit_v {V q : Nat} {m : Int} (h : Hid (Picked m q)) (hm : m ≤ 2 * (V : Int)) (hV : 1 ≤ V) (hV2 : V ≤ 30) : litP (wrap64 (2 * (V : Int) - 1 - q)) V := by
  have h2 := h.out.2
  have h3 : (q : Int) < 2 * V := by omega
  rw [IntWalk.wrap64_in _ ⟨by omega, by omega⟩]
  exact ⟨by omega, by omega⟩
theorem odd0_kt (R : Nat) (w1 : World) : Calls Tryd.prog 64 #[.pointer (some ⟨R, 0, none⟩), .int .i64 0] w1 fun e w' => e = .returned (.bool false) ∧ w1 = w' := by
  go_enter Tryd.func64, Tryd.ntmps64
  go_wp2
  go_ret
  exact ⟨rfl, rfl⟩

set_option maxRecDepth 100000 in
set_option maxHeartbeats 6400000 in
theorem l20Circuit0_any (R : Nat) (s : Option Addr) (c : Nat) (xs : List Int) (p : Nat) (w : World) (h : Rd w R s c xs p) (hp : p ≤ 1000000) :
    Calls Tryd.prog 45 #[.pointer (some ⟨R, 0, none⟩), .int .i64 0] w (CkPost0 R s c xs p w) := by
  have hR : R < w.heap.size := blk_lt h.blk
  obtain ⟨W0, hW0⟩ : ∃ W0, W0 = w.alloc (.cells #[.int .i64 0, .slice none 0 0, .slice none 0 0, .slice none 0 0] 31) := ⟨_, rfl⟩
  have hz : W0.heap.size = w.heap.size + 1 := by rw [hW0]; simp
  have hrd : Rd W0 R s c xs p := by rw [hW0]; exact h.mono ((Below.refl _ _).alloc (Nat.le_refl _) _)
  have HZ := Lib.hid hz
  have HW0 := Lib.hid hW0
  have HRD := Lib.hid hrd
  clear h hrd hW0 hz
  go_enter Tryd.func45, Tryd.ntmps45
  go_upto_region 1 with fail
  rw [← HW0.out]
  go_upto_region 2 with (go_at_call 47; ((refine (pick_any _ _ _ _ _ _ _ HRD.out (by omega) (by omega)).mono ?_); rintro e w1 ⟨k, rfl, hk1, hk2, hk3, hk4⟩; obtain ⟨I, rfl⟩ := Int.eq_ofNat_of_zero_le hk1.1; have HI := Lib.hid (And.intro hk1 (And.intro hk2 (And.intro hk3 hk4))); clear hk1 hk2 hk3 hk4))
  have i4 : I ≤ 4 := by have := HI.out.1.2; omega
  obtain ⟨B, hB⟩ : ∃ B, B = w1.heap.size := ⟨_, rfl⟩
  have hB0 : B = W0.heap.size := hB.trans HI.out.2.2.2
  have hk0 : KT R s c xs W0 B I [] [] [] (.slice none 0 0) (.slice none 0 0) (.slice none 0 0) (p + 1) (w1.alloc (.cells #[.int .i64 (I : Int), .slice none 0 0, .slice none 0 0, .slice none 0 0] 31)) :=
    ⟨⟨by rw [hB]; exact blk_new _ _, World.ownsRow_nil _ _ _ _, World.ownsRow_nil _ _ _ _, World.ownsRow_nil _ _ _ _, (fun k hk => by cases hk)⟩, HI.out.2.1.mono ((Below.refl _ _).alloc (Nat.le_refl _) _), (Kp.of_upd HI.out.2.2.1 (Nat.le_refl _)).alloc (Nat.le_refl _) _, by rw [HZ.out]; omega, by omega⟩
  have HK := Lib.hid hk0
  clear hk0 HI HRD
  rw [← hB]
  revert HK
  generalize w1.alloc (.cells #[.int .i64 (I : Int), .slice none 0 0, .slice none 0 0, .slice none 0 0] 31) = W1
  intro HK
  clear hB hB0
  go_upto_region 3 with (go_at_call 47; ((with_reducible refine (pick_kt _ _ _ _ _ _ _ _ _ _ _ _ _ _ _ _ HK.out (by omega) (by omega)).mono ?_); rintro e w' ⟨L, rfl, hk1, hk2, -, -⟩; have HK := Lib.hid hk2; have HPL := Lib.hid hk1; clear hk1 hk2; (try clear cb); have cb := HK.out.cells.1))
  have l3 : L ≤ 3 := by have := HPL.out.2; omega
  clear HPL
  go_upto_region 4 with fail
  go_wp2_with (go_at_call 47; ((with_reducible refine (pick_kt _ _ _ _ _ _ _ _ _ _ _ _ _ _ _ _ HK.out (by omega) (by omega)).mono ?_); rintro e w' ⟨G, rfl, hk1, hk2, -, -⟩; have HK := Lib.hid hk2; have HPG := Lib.hid hk1; clear hk1 hk2; (try clear cb); have cb := HK.out.cells.1))
  have g14 : G ≤ 14 := by have := HPG.out.2; omega
  clear HPG
  clear cb
  go_loopw [8, 7] (fun v8 v7 wr => ∃ (k V : Nat) (xg : List Gt) (sg : Option Addr) (cg p' : Nat), v8 = .int .i64 k ∧ v7 = .int .i64 V ∧ KT R s c xs W0 B I [] xg [] (.slice none 0 0) (.slice sg xg.length cg) (.slice none 0 0) p' wr ∧ xg.length + k ≤ 14 ∧ V + k ≤ 22 ∧ 1 ≤ V ∧ p' + 5 * k ≤ p + 80 ∧ Hid (V = 1 + I + L + xg.length ∧ gatesP (1 + (I : Int) + (L : Int)) xg)) (fun v8 _ _ => (intOf v8).toNat)
  case atStart => exact ⟨G, I + L + 1, [], _, _, _, rfl, by go_num, HK.out, by simp; omega, by omega, by omega, by omega, ⟨by simp; omega, fun i hi => absurd hi (by simp)⟩⟩
  case round =>
    clear HK
    obtain ⟨k, V, xg, sg, cg, p', rfl, rfl, hk, hxk, hVk, hV1, hpk, HGP⟩ := hrel
    have HK := Lib.hid hk
    have cb := HK.out.cells.1
    clear hk
    by_cases hlt : 0 < k
    · go_wp2_with (first
        | (go_at_call 47; ((with_reducible refine (pick_kt _ _ _ _ _ _ _ _ _ _ _ _ _ _ _ _ HK.out (by omega) (by omega)).mono ?_); rintro e w' ⟨q, rfl, hk1, hk2, -, -⟩; have HK := Lib.hid hk2; have HPq := Lib.hid hk1; clear hk1 hk2; (try clear cb); have cb := HK.out.cells.1))
        | (at_builtin; refine wpl_app rfl _ _ rfl elem_gate (HK.out.alloc _).out.g rfl rfl rfl (Sl.new _ _ _) (by simp [Value.oneCell']) (xg.length + 1) rfl _ rfl (by unfold maxLen; omega) (by omega) (HK.out.alloc _).sz ?_; intro s6 c6 w6 h6 hb6 hg6 _; obtain ⟨hB6, hA⟩ := (HK.out.alloc _).pushG2 h6 rfl hg6; have HA := Lib.hid hA; have y1 : w6.cell? ⟨B, 2, none⟩ = some (.slice sg xg.length cg) := blk_cell hB6; have y2 : w6.frozen? ⟨B, 2, none⟩ = false := blk_free hB6; clear h6 hb6 hg6 hB6 hA))
      all_goals
        obtain ⟨xg', ⟨e1, e3⟩, hK1⟩ := HA.out
        have hw2 : IntKind.i64.wrap (2 * (V : Int)) = 2 * (V : Int) := IntWalk.i64_in _ ⟨by omega, by omega⟩
        have hF : (1 + (I : Int) + (L : Int)) + (xg.length : Int) = (V : Int) := by have := HGP.out.1; omega
        have hg3 : gatesP (1 + (I : Int) + (L : Int)) xg' := by
          rw [e3]
          refine gatesP_add HGP.out.2 ?_ ?_ <;> rw [hF]
          all_goals first
            | exact lit_q (by assumption) (by omega) (by omega)
            | exact lit_v (by assumption) (by (try simp only [hw2]); first | omega | (split <;> omega)) (by omega) (by omega)
            | exact lit_s (by assumption) (by (try simp only [hw2]); first | omega | (split <;> omega)) (by omega)
            | exact lit_w (by assumption) (by (try simp only [hw2]); first | omega | (split <;> omega)) (by omega) (by omega)
        clear e3
        go_roundw
      all_goals first
        | (case rel => exact ⟨k - 1, V + 1, xg', s6, c6, _, by go_num, by go_num, hK1, by omega, by omega, by omega, by omega, ⟨by have := HGP.out.1; omega, hg3⟩⟩)
        | (case measure => simp [intOf]; omega)
    · obtain rfl : k = 0 := by omega
      obtain ⟨vG, hvG⟩ : ∃ vG, vG = Value.slice sg xg.length cg := ⟨_, rfl⟩
      rw [← hvG] at HK
      clear hvG cb
      have hVle : V ≤ 22 := by omega
      have hxg : xg.length ≤ 14 := by omega
      have hw2 : IntKind.i64.wrap (2 * (V : Int)) = 2 * (V : Int) := IntWalk.i64_in _ ⟨by omega, by omega⟩
      go_wp2_with fail
      go_loopw [11] (fun v11 wr => ∃ (k : Nat) (xn : List Int) (s2 : Option Addr) (c2 p2 : Nat), v11 = .int .i64 k ∧ KT R s c xs W0 B I xn xg [] (.slice s2 xn.length c2) vG (.slice none 0 0) p2 wr ∧ xn.length ≤ k ∧ k ≤ L ∧ p2 ≤ p + 80 + k ∧ Hid (xn.length = k ∧ litsP V xn)) (fun v11 _ => L - (intOf v11).toNat)
      case atStart => exact ⟨0, [], _, _, _, rfl, HK.out, by simp, by omega, by omega, ⟨rfl, fun x hx => absurd hx (by simp)⟩⟩
      case round =>
        clear HK
        obtain ⟨k, xn, s2, c2, p2, rfl, hk, hxk, hkL, hp2, HNP⟩ := hrel
        have HK := Lib.hid hk
        clear hk
        by_cases hlt : k < L
        · go_upto_region 16 with fail
          refine wp_region_E (fun w' => ∀ o, w'.cell? ⟨B, o, none⟩ = #[Value.int .i64 I, .slice s2 xn.length c2, vG, .slice none 0 0][o]?) 9 (.q 0 (.q 1 (.q 2 (.q 3 (.q 4 (.e 5 (.e 6 (.e 7 (.q 8 (.z 9)))))))))) (by kernel_rfl) (by kernel_rfl) (by kernel_rfl) (by kernel_rfl) (by kernel_rfl) (by kernel_rfl) HK.out.drew.cells.1 ?_
          repeat (first | (refine orde_s (o := ?_) ?_ ?_ ?_; rotate_left 1; (focus ((simp only [List.getElem?_toArray, List.getElem?_cons_succ, List.getElem?_cons_zero]) <;> rfl)); (focus rfl); simp only [Act.put, List.setIfInBounds_toArray, List.set_cons_zero, List.set_cons_succ]) | (refine orde_q (o := ?_) (v := ?_) ?_ ?_ ?_ ?_; rotate_left 2; (focus ((simp only [List.getElem?_toArray, List.getElem?_cons_succ, List.getElem?_cons_zero]) <;> rfl)); (focus rfl); (focus (intro w' hS; (try dsimp only at hS); go_split_ands; go_simp; (try (with_reducible rfl)))); simp only [Act.put, List.setIfInBounds_toArray, List.set_cons_zero, List.set_cons_succ]))
          refine orde_e ?_
          (refine ope_e (o := ?_) ?_ ?_ (fun K hK => ?_); rotate_left 1; (focus ((simp only [List.getElem?_toArray, List.getElem?_cons_succ, List.getElem?_cons_zero]) <;> rfl)); (focus rfl); go_simp)
          refine (pick_kt _ _ _ _ _ _ _ _ _ _ _ _ _ _ _ _ HK.out.drew (by omega) (by omega)).mono ?_
          rintro e wa ⟨q, rfl, hk1, hk2, -, -⟩
          have HPq := Lib.hid hk1
          clear hk1
          refine hK.out _ _ hk2.cells.1 ?_
          clear hK K
          have hA := hk2.alloc (.cells #[.int .i64 (q : Int)] 3)
          have hs := Sl.new wa #[.int .i64 (q : Int)] 3
          clear hk2
          (try simp only [Act.put, List.setIfInBounds_toArray, List.set_cons_zero, List.set_cons_succ])
          refine orde_e ?_
          (refine ope_e (o := ?_) ?_ ?_ (fun K hK => ?_); rotate_left 1; (focus ((simp only [List.getElem?_toArray, List.getElem?_cons_succ, List.getElem?_cons_zero]) <;> rfl)); (focus rfl); go_simp)
          revert hA hs
          generalize wa.alloc (.cells #[.int .i64 (q : Int)] 3) = W1
          intro hA hs
          refine hK.out _ _ hA.cells.1 ?_
          clear hK K
          have HA := Lib.hid (And.intro hA hs)
          clear hA hs
          (try simp only [Act.put, List.setIfInBounds_toArray, List.set_cons_zero, List.set_cons_succ])
          refine orde_e ?_
          (refine ope_e (o := ?_) ?_ ?_ (fun K hK => ?_); rotate_left 1; (focus ((simp only [List.getElem?_toArray, List.getElem?_cons_succ, List.getElem?_cons_zero]) <;> rfl)); (focus rfl))
          refine wp_app (.tmp 65) (.tmp 70) rfl elem_int HA.out.1.out.n rfl rfl (by simp) HA.out.2 (by simp [Value.oneCell']) (xn.length + 1) rfl _ rfl (by unfold maxLen; omega) (by omega) HA.out.1.sz ?_
          intro s6 c6 W2 h6 hb6 hg6 hob6
          obtain ⟨hB6, xn', ⟨e1, e3⟩, hK1⟩ := HA.out.1.pushN2 h6 rfl hg6 hob6
          refine hK.out _ _ (blk_all hB6).1 ?_
          clear hK K
          have y1 : W2.cell? ⟨B, 1, none⟩ = some (.slice s2 xn.length c2) := blk_cell hB6
          have y2 : W2.frozen? ⟨B, 1, none⟩ = false := blk_free hB6
          have hn3 : litsP V xn' := by
            rw [e3]
            exact litsP_add HNP.out.2 (lit_q (V := V) HPq (by (try simp only [hw2]); first | omega | (split <;> omega)) (by omega))
          have hn4 : xn'.length = k + 1 := by rw [e1, HNP.out.1]
          have HN2 := Lib.hid (And.intro hn4 hn3)
          have HK1 := Lib.hid (And.intro e1 hK1)
          clear h6 hb6 hg6 hob6 hB6 e1 hK1 e3 hn3 hn4
          (try simp only [Act.put, List.setIfInBounds_toArray, List.set_cons_zero, List.set_cons_succ])
          repeat (first | (refine orde_s (o := ?_) ?_ ?_ ?_; rotate_left 1; (focus ((simp only [List.getElem?_toArray, List.getElem?_cons_succ, List.getElem?_cons_zero]) <;> rfl)); (focus rfl); simp only [Act.put, List.setIfInBounds_toArray, List.set_cons_zero, List.set_cons_succ]) | (refine orde_q (o := ?_) (v := ?_) ?_ ?_ ?_ ?_; rotate_left 2; (focus ((simp only [List.getElem?_toArray, List.getElem?_cons_succ, List.getElem?_cons_zero]) <;> rfl)); (focus rfl); (focus (intro w' hS; (try dsimp only at hS); go_split_ands; go_simp; (try (with_reducible rfl)))); simp only [Act.put, List.setIfInBounds_toArray, List.set_cons_zero, List.set_cons_succ]))
          (refine orde_z (o := ?_) ?_ ?_ (fun K hK => ?_); rotate_left 1; (focus ((simp only [List.getElem?_toArray, List.getElem?_cons_succ, List.getElem?_cons_zero]) <;> rfl)); (focus rfl); go_simp)
          refine hK.out _ _ ?_
          clear hK K y1 y2
          go_wp2_with fail
          obtain ⟨e1, hK1⟩ := HK1.out
          go_roundw
          case rel => exact ⟨k + 1, by omega, xn', s6, c6, _, hK1, by omega, by omega, by omega, HN2⟩
          case measure => simp [intOf]; omega
        · obtain rfl : k = L := by omega
          obtain ⟨vN, hvN⟩ : ∃ vN, vN = Value.slice s2 xn.length c2 := ⟨_, rfl⟩
          rw [← hvN] at HK
          clear hvN
          have hxn : xn.length ≤ 3 := by omega
          clear hxk
          go_wp2_with (go_at_call 47; ((with_reducible refine (pick_kt _ _ _ _ _ _ _ _ _ _ _ _ _ _ _ _ HK.out (by omega) (by omega)).mono ?_); rintro e w' ⟨O, rfl, hk1, hk2, -, -⟩; have HK := Lib.hid hk2; have HPO := Lib.hid hk1; clear hk1 hk2; (try clear cb); have cb := HK.out.cells.1))
          have o3 : O ≤ 3 := by have := HPO.out.2; omega
          clear HPO cb
          go_loopw [12] (fun v12 wr => ∃ (k : Nat) (xo : List Int) (s3 : Option Addr) (c3 p3 : Nat), v12 = .int .i64 k ∧ KT R s c xs W0 B I xn xg xo vN vG (.slice s3 xo.length c3) p3 wr ∧ xo.length + k ≤ 3 ∧ p3 + 4 * k ≤ p + 120 ∧ Hid (litsP V xo)) (fun v12 _ => (intOf v12).toNat)
          case atStart => exact ⟨O, [], _, _, _, rfl, HK.out, by simp; omega, by omega, fun x hx => absurd hx (by simp)⟩
          case round =>
            clear HK
            obtain ⟨k, xo, s3, c3, p3, rfl, hk, hxk, hp3, HOP⟩ := hrel
            have HK := Lib.hid hk
            clear hk
            by_cases hlt : 0 < k
            · go_upto_region 20 with fail
              refine wp_region_E (fun w' => ∀ o, w'.cell? ⟨B, o, none⟩ = #[Value.int .i64 I, vN, vG, .slice s3 xo.length c3][o]?) 23 (.q 0 (.q 1 (.q 2 (.q 3 (.q 4 (.q 5 (.q 6 (.q 7 (.q 11 (.q 12 (.q 13 (.q 16 (.e 8 (.e 9 (.q 10 (.e 14 (.two 15 (.e 17 (.q 18 (.e 19 (.e 20 (.e 21 (.q 22 (.z 23))))))) 17 (.e 15 (.q 18 (.e 19 (.e 20 (.e 21 (.q 22 (.z 23)))))))))))))))))))))))) (by kernel_rfl) (by kernel_rfl) (by kernel_rfl) (by kernel_rfl) (by kernel_rfl) (by kernel_rfl) HK.out.drew.cells.1 ?_
              repeat (first | (refine orde_s (o := ?_) ?_ ?_ ?_; rotate_left 1; (focus ((simp only [List.getElem?_toArray, List.getElem?_cons_succ, List.getElem?_cons_zero]) <;> rfl)); (focus rfl); simp only [Act.put, List.setIfInBounds_toArray, List.set_cons_zero, List.set_cons_succ]) | (refine orde_q (o := ?_) (v := ?_) ?_ ?_ ?_ ?_; rotate_left 2; (focus ((simp only [List.getElem?_toArray, List.getElem?_cons_succ, List.getElem?_cons_zero]) <;> rfl)); (focus rfl); (focus (intro w' hS; (try dsimp only at hS); go_split_ands; go_simp; (try (with_reducible rfl)))); simp only [Act.put, List.setIfInBounds_toArray, List.set_cons_zero, List.set_cons_succ]))
              refine orde_e ?_
              (refine ope_e (o := ?_) ?_ ?_ (fun K hK => ?_); rotate_left 1; (focus ((simp only [List.getElem?_toArray, List.getElem?_cons_succ, List.getElem?_cons_zero]) <;> rfl)); (focus rfl); go_simp)
              refine hK.out _ _ HK.out.drew.cells.1 ?_
              clear hK K
              (try simp only [Act.put, List.setIfInBounds_toArray, List.set_cons_zero, List.set_cons_succ])
              refine orde_e ?_
              (refine ope_e (o := ?_) ?_ ?_ (fun K hK => ?_); rotate_left 1; (focus ((simp only [List.getElem?_toArray, List.getElem?_cons_succ, List.getElem?_cons_zero]) <;> rfl)); (focus rfl); go_simp)
              refine (pick_kt _ _ _ _ _ _ _ _ _ _ _ _ _ _ _ _ HK.out.drew (by omega) (by omega)).mono ?_
              rintro e wa ⟨q1, rfl, hk1, hk2, -, -⟩
              have HP1 := Lib.hid hk1
              clear hk1
              refine hK.out _ _ hk2.cells.1 ?_
              clear hK K
              have HK := Lib.hid hk2
              clear hk2
              (try simp only [Act.put, List.setIfInBounds_toArray, List.set_cons_zero, List.set_cons_succ])
              repeat (first | (refine orde_s (o := ?_) ?_ ?_ ?_; rotate_left 1; (focus ((simp only [List.getElem?_toArray, List.getElem?_cons_succ, List.getElem?_cons_zero]) <;> rfl)); (focus rfl); simp only [Act.put, List.setIfInBounds_toArray, List.set_cons_zero, List.set_cons_succ]) | (refine orde_q (o := ?_) (v := ?_) ?_ ?_ ?_ ?_; rotate_left 2; (focus ((simp only [List.getElem?_toArray, List.getElem?_cons_succ, List.getElem?_cons_zero]) <;> rfl)); (focus rfl); (focus (intro w' hS; (try dsimp only at hS); go_split_ands; go_simp; (try (with_reducible rfl)))); simp only [Act.put, List.setIfInBounds_toArray, List.set_cons_zero, List.set_cons_succ]))
              refine orde_e ?_
              (refine ope_e (o := ?_) ?_ ?_ (fun K hK => ?_); rotate_left 1; (focus ((simp only [List.getElem?_toArray, List.getElem?_cons_succ, List.getElem?_cons_zero]) <;> rfl)); (focus rfl); go_simp)
              refine (pick_kt _ _ _ _ _ _ _ _ _ _ _ _ _ _ _ _ HK.out (by omega) (by omega)).mono ?_
              rintro e wb ⟨q2, rfl, hk1, hk2, -, -⟩
              have HP2 := Lib.hid hk1
              clear hk1
              refine hK.out _ _ hk2.cells.1 ?_
              clear hK K
              have HK := Lib.hid hk2
              clear hk2
              (try simp only [Act.put, List.setIfInBounds_toArray, List.set_cons_zero, List.set_cons_succ])
              refine orde_two ?_ ?_
              · (refine ope_e (o := ?_) ?_ ?_ (fun K hK => ?_); rotate_left 1; (focus ((simp only [List.getElem?_toArray, List.getElem?_cons_succ, List.getElem?_cons_zero]) <;> rfl)); (focus rfl); go_simp)
                refine hK.out _ _ ((HK.out).alloc _).cells.1 ?_
                clear hK K
                obtain ⟨NB, hNB⟩ : ∃ NB, NB = wb.heap.size := ⟨_, rfl⟩
                rw [← hNB]
                have hNs := (HK.out).sz
                rw [← hNB] at hNs
                have HNB := Lib.hid hNs
                have hA := HK.out.alloc (.cells #[.int .i64 (IntKind.i64.wrap (IntKind.i64.wrap (2 * (V : Int) - 1) - (q1 : Int))), .int .i64 (q2 : Int)] 3)
                have hC := blk_new wb (.cells #[.int .i64 (IntKind.i64.wrap (IntKind.i64.wrap (2 * (V : Int) - 1) - (q1 : Int))), .int .i64 (q2 : Int)] 3)
                rw [← hNB] at hC
                revert hA hC
                generalize wb.alloc (.cells #[.int .i64 (IntKind.i64.wrap (IntKind.i64.wrap (2 * (V : Int) - 1) - (q1 : Int))), .int .i64 (q2 : Int)] 3) = WB
                intro hA hC
                have HK := Lib.hid hA
                have HC := Lib.hid hC
                clear hA hC hNB hNs
                (try simp only [Act.put, List.setIfInBounds_toArray, List.set_cons_zero, List.set_cons_succ])
                refine orde_e ?_
                (refine ope_e (o := ?_) ?_ ?_ (fun K hK => ?_); rotate_left 1; (focus ((simp only [List.getElem?_toArray, List.getElem?_cons_succ, List.getElem?_cons_zero]) <;> rfl)); (focus rfl); go_simp)
                refine (pick_kt _ _ _ _ _ _ _ _ _ _ _ _ _ _ _ _ HK.out (by omega) (by omega)).mono ?_
                rintro e wd ⟨q3, rfl, hk1, hk2, hk3, -⟩
                refine hK.out _ _ hk2.cells.1 ?_
                clear hK K
                have hq3 : q3 ≤ 1 := by have := hk1.2; omega
                have hqi : (q3 : Int) < 2 := by omega
                have hblk := (hk3.block _ (blk_lt HC.out) (by have h1 := HK.out.hR; have h2 := HNB.out; simp; omega)).trans HC.out
                have HK := Lib.hid hk2
                have HC := Lib.hid hblk
                clear hk1 hk2 hk3 hblk
                (try simp only [Act.put, List.setIfInBounds_toArray, List.set_cons_zero, List.set_cons_succ])
                repeat (first | (refine orde_s (o := ?_) ?_ ?_ ?_; rotate_left 1; (focus ((simp only [List.getElem?_toArray, List.getElem?_cons_succ, List.getElem?_cons_zero]) <;> rfl)); (focus rfl); simp only [Act.put, List.setIfInBounds_toArray, List.set_cons_zero, List.set_cons_succ]) | (refine orde_q (o := ?_) (v := ?_) ?_ ?_ ?_ ?_; rotate_left 2; (focus ((simp only [List.getElem?_toArray, List.getElem?_cons_succ, List.getElem?_cons_zero]) <;> rfl)); (focus rfl); (focus (intro w' hS; (try dsimp only at hS); go_split_ands; go_simp; (try (with_reducible rfl)))); simp only [Act.put, List.setIfInBounds_toArray, List.set_cons_zero, List.set_cons_succ]))
                refine orde_e ?_
                obtain ⟨Z, hZc, hZl⟩ : ∃ Z : Int, wd.cell? ⟨NB, q3, none⟩ = some (.int .i64 Z) ∧ Hid (litP Z V) := by
                  rcases (show q3 = 0 ∨ q3 = 1 by omega) with e | e <;> rw [e]
                  · exact ⟨_, blk_cell HC.out, by first | exact lit_w (V := V) HP1 (by (try simp only [hw2]); first | omega | (split <;> omega)) (by omega) (by omega) | exact lit_s (V := V) HP1 (by (try simp only [hw2]); first | omega | (split <;> omega)) (by omega)⟩
                  · exact ⟨_, blk_cell HC.out, lit_q (V := V) HP2 (by (try simp only [hw2]); first | omega | (split <;> omega)) (by omega)⟩
                (refine ope_e (o := ?_) ?_ ?_ (fun K hK => ?_); rotate_left 1; (focus ((simp only [List.getElem?_toArray, List.getElem?_cons_succ, List.getElem?_cons_zero]) <;> rfl)); (focus rfl); go_simp)
                refine hK.out _ _ HK.out.cells.1 ?_
                clear hK K
                have hA := HK.out.alloc (.cells #[.int .i64 Z] 3)
                have hs := Sl.new wd #[.int .i64 Z] 3
                clear hZc
                (try simp only [Act.put, List.setIfInBounds_toArray, List.set_cons_zero, List.set_cons_succ])
                refine orde_e ?_
                (refine ope_e (o := ?_) ?_ ?_ (fun K hK => ?_); rotate_left 1; (focus ((simp only [List.getElem?_toArray, List.getElem?_cons_succ, List.getElem?_cons_zero]) <;> rfl)); (focus rfl); go_simp)
                revert hA hs
                generalize wd.alloc (.cells #[.int .i64 Z] 3) = W1
                intro hA hs
                refine hK.out _ _ hA.cells.1 ?_
                clear hK K
                have HA := Lib.hid (And.intro hA hs)
                clear hA hs
                (try simp only [Act.put, List.setIfInBounds_toArray, List.set_cons_zero, List.set_cons_succ])
                refine orde_e ?_
                (refine ope_e (o := ?_) ?_ ?_ (fun K hK => ?_); rotate_left 1; (focus ((simp only [List.getElem?_toArray, List.getElem?_cons_succ, List.getElem?_cons_zero]) <;> rfl)); (focus rfl))
                refine wp_app (.tmp 80) (.tmp 99) rfl elem_int HA.out.1.out.o rfl rfl (by simp) HA.out.2 (by simp [Value.oneCell']) (xo.length + 1) rfl _ rfl (by unfold maxLen; omega) (by omega) HA.out.1.sz ?_
                intro s6 c6 W2 h6 hb6 hg6 hob6
                obtain ⟨hB6, xo', ⟨e1, e3⟩, hK1⟩ := HA.out.1.pushO2 (ys := [Z]) h6 rfl hg6 hob6
                have hn3 : Hid (litsP V xo') := by rw [e3]; exact litsP_add HOP.out hZl.out
                clear e3
                refine hK.out _ _ (blk_all hB6).1 ?_
                clear hK K
                have y1 : W2.cell? ⟨B, 3, none⟩ = some (.slice s3 xo.length c3) := blk_cell hB6
                have y2 : W2.frozen? ⟨B, 3, none⟩ = false := blk_free hB6
                have HK1 := Lib.hid (And.intro e1 hK1)
                clear h6 hb6 hg6 hob6 hB6 e1 hK1
                (try simp only [Act.put, List.setIfInBounds_toArray, List.set_cons_zero, List.set_cons_succ])
                repeat (first | (refine orde_s (o := ?_) ?_ ?_ ?_; rotate_left 1; (focus ((simp only [List.getElem?_toArray, List.getElem?_cons_succ, List.getElem?_cons_zero]) <;> rfl)); (focus rfl); simp only [Act.put, List.setIfInBounds_toArray, List.set_cons_zero, List.set_cons_succ]) | (refine orde_q (o := ?_) (v := ?_) ?_ ?_ ?_ ?_; rotate_left 2; (focus ((simp only [List.getElem?_toArray, List.getElem?_cons_succ, List.getElem?_cons_zero]) <;> rfl)); (focus rfl); (focus (intro w' hS; (try dsimp only at hS); go_split_ands; go_simp; (try (with_reducible rfl)))); simp only [Act.put, List.setIfInBounds_toArray, List.set_cons_zero, List.set_cons_succ]))
                (refine orde_z (o := ?_) ?_ ?_ (fun K hK => ?_); rotate_left 1; (focus ((simp only [List.getElem?_toArray, List.getElem?_cons_succ, List.getElem?_cons_zero]) <;> rfl)); (focus rfl); go_simp)
                refine hK.out _ _ ?_
                clear hK K y1 y2
                go_wp2_with fail
                obtain ⟨e1, hK1⟩ := HK1.out
                go_roundw
                case rel => exact ⟨k - 1, xo', s6, c6, _, by go_num, hK1, by omega, by omega, hn3⟩
                case measure => simp [intOf]; omega
              · (refine ope_e (o := ?_) ?_ ?_ (fun K hK => ?_); rotate_left 1; (focus ((simp only [List.getElem?_toArray, List.getElem?_cons_succ, List.getElem?_cons_zero]) <;> rfl)); (focus rfl); go_simp)
                refine (pick_kt _ _ _ _ _ _ _ _ _ _ _ _ _ _ _ _ HK.out (by omega) (by omega)).mono ?_
                rintro e wd ⟨q3, rfl, hk1, hk2, -, -⟩
                refine hK.out _ _ hk2.cells.1 ?_
                clear hK K
                have hq3 : q3 ≤ 1 := by have := hk1.2; omega
                have hqi : (q3 : Int) < 2 := by omega
                have HK := Lib.hid hk2
                clear hk1 hk2
                (try simp only [Act.put, List.setIfInBounds_toArray, List.set_cons_zero, List.set_cons_succ])
                refine orde_e ?_
                (refine ope_e (o := ?_) ?_ ?_ (fun K hK => ?_); rotate_left 1; (focus ((simp only [List.getElem?_toArray, List.getElem?_cons_succ, List.getElem?_cons_zero]) <;> rfl)); (focus rfl); go_simp)
                refine hK.out _ _ ((HK.out).alloc _).cells.1 ?_
                clear hK K
                obtain ⟨NB, hNB⟩ : ∃ NB, NB = wd.heap.size := ⟨_, rfl⟩
                rw [← hNB]
                have hNs := (HK.out).sz
                rw [← hNB] at hNs
                have HNB := Lib.hid hNs
                have hA := HK.out.alloc (.cells #[.int .i64 (IntKind.i64.wrap (IntKind.i64.wrap (2 * (V : Int) - 1) - (q1 : Int))), .int .i64 (q2 : Int)] 3)
                have hC := blk_new wd (.cells #[.int .i64 (IntKind.i64.wrap (IntKind.i64.wrap (2 * (V : Int) - 1) - (q1 : Int))), .int .i64 (q2 : Int)] 3)
                rw [← hNB] at hC
                revert hA hC
                generalize wd.alloc (.cells #[.int .i64 (IntKind.i64.wrap (IntKind.i64.wrap (2 * (V : Int) - 1) - (q1 : Int))), .int .i64 (q2 : Int)] 3) = WB
                intro hA hC
                have HK := Lib.hid hA
                have HC := Lib.hid hC
                clear hA hC hNB hNs
                (try simp only [Act.put, List.setIfInBounds_toArray, List.set_cons_zero, List.set_cons_succ])
                repeat (first | (refine orde_s (o := ?_) ?_ ?_ ?_; rotate_left 1; (focus ((simp only [List.getElem?_toArray, List.getElem?_cons_succ, List.getElem?_cons_zero]) <;> rfl)); (focus rfl); simp only [Act.put, List.setIfInBounds_toArray, List.set_cons_zero, List.set_cons_succ]) | (refine orde_q (o := ?_) (v := ?_) ?_ ?_ ?_ ?_; rotate_left 2; (focus ((simp only [List.getElem?_toArray, List.getElem?_cons_succ, List.getElem?_cons_zero]) <;> rfl)); (focus rfl); (focus (intro w' hS; (try dsimp only at hS); go_split_ands; go_simp; (try (with_reducible rfl)))); simp only [Act.put, List.setIfInBounds_toArray, List.set_cons_zero, List.set_cons_succ]))
                refine orde_e ?_
                obtain ⟨Z, hZc, hZl⟩ : ∃ Z : Int, WB.cell? ⟨NB, q3, none⟩ = some (.int .i64 Z) ∧ Hid (litP Z V) := by
                  rcases (show q3 = 0 ∨ q3 = 1 by omega) with e | e <;> rw [e]
                  · exact ⟨_, blk_cell HC.out, by first | exact lit_w (V := V) HP1 (by (try simp only [hw2]); first | omega | (split <;> omega)) (by omega) (by omega) | exact lit_s (V := V) HP1 (by (try simp only [hw2]); first | omega | (split <;> omega)) (by omega)⟩
                  · exact ⟨_, blk_cell HC.out, lit_q (V := V) HP2 (by (try simp only [hw2]); first | omega | (split <;> omega)) (by omega)⟩
                (refine ope_e (o := ?_) ?_ ?_ (fun K hK => ?_); rotate_left 1; (focus ((simp only [List.getElem?_toArray, List.getElem?_cons_succ, List.getElem?_cons_zero]) <;> rfl)); (focus rfl); go_simp)
                refine hK.out _ _ HK.out.cells.1 ?_
                clear hK K
                have hA := HK.out.alloc (.cells #[.int .i64 Z] 3)
                have hs := Sl.new WB #[.int .i64 Z] 3
                clear hZc
                (try simp only [Act.put, List.setIfInBounds_toArray, List.set_cons_zero, List.set_cons_succ])
                refine orde_e ?_
                (refine ope_e (o := ?_) ?_ ?_ (fun K hK => ?_); rotate_left 1; (focus ((simp only [List.getElem?_toArray, List.getElem?_cons_succ, List.getElem?_cons_zero]) <;> rfl)); (focus rfl); go_simp)
                revert hA hs
                generalize WB.alloc (.cells #[.int .i64 Z] 3) = W1
                intro hA hs
                refine hK.out _ _ hA.cells.1 ?_
                clear hK K
                have HA := Lib.hid (And.intro hA hs)
                clear hA hs
                (try simp only [Act.put, List.setIfInBounds_toArray, List.set_cons_zero, List.set_cons_succ])
                refine orde_e ?_
                (refine ope_e (o := ?_) ?_ ?_ (fun K hK => ?_); rotate_left 1; (focus ((simp only [List.getElem?_toArray, List.getElem?_cons_succ, List.getElem?_cons_zero]) <;> rfl)); (focus rfl))
                refine wp_app (.tmp 80) (.tmp 99) rfl elem_int HA.out.1.out.o rfl rfl (by simp) HA.out.2 (by simp [Value.oneCell']) (xo.length + 1) rfl _ rfl (by unfold maxLen; omega) (by omega) HA.out.1.sz ?_
                intro s6 c6 W2 h6 hb6 hg6 hob6
                obtain ⟨hB6, xo', ⟨e1, e3⟩, hK1⟩ := HA.out.1.pushO2 (ys := [Z]) h6 rfl hg6 hob6
                have hn3 : Hid (litsP V xo') := by rw [e3]; exact litsP_add HOP.out hZl.out
                clear e3
                refine hK.out _ _ (blk_all hB6).1 ?_
                clear hK K
                have y1 : W2.cell? ⟨B, 3, none⟩ = some (.slice s3 xo.length c3) := blk_cell hB6
                have y2 : W2.frozen? ⟨B, 3, none⟩ = false := blk_free hB6
                have HK1 := Lib.hid (And.intro e1 hK1)
                clear h6 hb6 hg6 hob6 hB6 e1 hK1
                (try simp only [Act.put, List.setIfInBounds_toArray, List.set_cons_zero, List.set_cons_succ])
                repeat (first | (refine orde_s (o := ?_) ?_ ?_ ?_; rotate_left 1; (focus ((simp only [List.getElem?_toArray, List.getElem?_cons_succ, List.getElem?_cons_zero]) <;> rfl)); (focus rfl); simp only [Act.put, List.setIfInBounds_toArray, List.set_cons_zero, List.set_cons_succ]) | (refine orde_q (o := ?_) (v := ?_) ?_ ?_ ?_ ?_; rotate_left 2; (focus ((simp only [List.getElem?_toArray, List.getElem?_cons_succ, List.getElem?_cons_zero]) <;> rfl)); (focus rfl); (focus (intro w' hS; (try dsimp only at hS); go_split_ands; go_simp; (try (with_reducible rfl)))); simp only [Act.put, List.setIfInBounds_toArray, List.set_cons_zero, List.set_cons_succ]))
                (refine orde_z (o := ?_) ?_ ?_ (fun K hK => ?_); rotate_left 1; (focus ((simp only [List.getElem?_toArray, List.getElem?_cons_succ, List.getElem?_cons_zero]) <;> rfl)); (focus rfl); go_simp)
                refine hK.out _ _ ?_
                clear hK K y1 y2
                go_wp2_with fail
                obtain ⟨e1, hK1⟩ := HK1.out
                go_roundw
                case rel => exact ⟨k - 1, xo', s6, c6, _, by go_num, hK1, by omega, by omega, hn3⟩
                case measure => simp [intOf]; omega
            · obtain rfl : k = 0 := by omega
              have hxo : xo.length ≤ 3 := by omega
              have hp3' : p3 ≤ p + 120 := by omega
              have hvv : (⟨(I : Int), xn, xg, xo⟩ : Cir).valid := by
                have e1 := HGP.out.1
                have e2 := HNP.out.1
                have e3 : (⟨(I : Int), xn, xg, xo⟩ : Cir).vars = (V : Int) := by show 1 + (I : Int) + (xn.length : Int) + (xg.length : Int) = V; omega
                have hG2 : gatesP (⟨(I : Int), xn, xg, xo⟩ : Cir).first xg := by
                  have h := HGP.out.2
                  rw [← e2] at h
                  exact h
                refine ⟨?_, hG2, by rw [e3]; exact HNP.out.2, by rw [e3]; exact HOP.out⟩
                exact ⟨by show 0 ≤ (I : Int); omega, by show (I : Int) ≤ 4; omega, by show xn.length ≤ 3; omega, by show xg.length ≤ 14; omega, by show xo.length ≤ 3; omega⟩
              have HVV := Lib.hid hvv
              clear hxk hp3 hvv
              obtain ⟨sN, cN, rfl⟩ := own_shape HK.out.out.n
              obtain ⟨sG, cG, rfl⟩ := own_shape HK.out.out.g
              have cb := HK.out.cells.1
              obtain ⟨rc, rf⟩ := KT.res HK.out HW0.out hR
              go_wp2_with (go_at_call 64; ((with_reducible refine (odd0_kt _ _).mono ?_); rintro e w' ⟨rfl, rfl⟩))
              refine KT.ret0 (p0 := p) (HK.out) HW0.out hR ?_ ?_ HVV.out ?_ ?_
              · exact ⟨by omega, by omega, by omega, by omega, by omega⟩
              · omega
              · rfl
              · rfl

end Go.Proofs.YtnifgamlmaembaaDoor
