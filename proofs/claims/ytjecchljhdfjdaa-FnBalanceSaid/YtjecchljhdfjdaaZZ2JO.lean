import Derived.Test.YtjecchljhdfjdaaZZ2JN
import Derived.Test.YtjecchljhdfjdaaZZ2OE
namespace Go.Proofs.Ytjecchljhdfjdaa
set_option linter.unusedVariables false
set_option linter.unusedSimpArgs false
open Go.RowKit

/-! Part of the proof of one law. -/

structure JS (A : Nat) (w : World) (inp : Int) (vn vo v0 : Value) (gs0 gs : List Gt) (vg : Value) (wr : World) : Prop where
  blk : wr.heap[A]? = some (.cells #[.int .i64 inp, vn, vg, vo] 28 (0, 0))
  res : wr.heap[A + 1]? = some (.cells #[.int .i64 0, .slice none 0 0, .slice none 0 0, .slice none 0 0] 28 (0, 0))
  g : (vg = v0 ∧ gs = gs0) ∨ wr.ownsRow A 24 2 vg gs.length (gcells gs)
  bel : Below A w wr

theorem JS.below {A : Nat} {w wr wr' : World} {inp : Int} {vn vo v0 vg : Value} {gs0 gs : List Gt} (h : JS A w inp vn vo v0 gs0 gs vg wr) (hb : Below wr.heap.size wr wr') : JS A w inp vn vo v0 gs0 gs vg wr' :=
  ⟨blk_below hb (blk_lt h.blk) h.blk, blk_below hb (blk_lt h.res) h.res, h.g.imp id (fun g => own_below g hb), h.bel.trans (hb.mono (by have := blk_lt h.blk; omega))⟩

theorem JS.put {A : Nat} {w wr : World} {inp : Int} {vn vo v0 vg vg' : Value} {gs0 gs gs' : List Gt} (h : JS A w inp vn vo v0 gs0 gs vg wr) (hg : (vg' = v0 ∧ gs' = gs0) ∨ wr.ownsRow A 24 2 vg' gs'.length (gcells gs')) :
    JS A w inp vn vo v0 gs0 gs' vg' ((((wr.setCell ⟨A, 0, none⟩ (.int .i64 inp)).setCell ⟨A, 1, none⟩ vn).setCell ⟨A, 2, none⟩ vg').setCell ⟨A, 3, none⟩ vo) := by
  refine ⟨by simpa using blk_set (o := 3) (v := vo) (blk_set (o := 2) (v := vg') (blk_set (o := 1) (v := vn) (blk_set (o := 0) (v := .int .i64 inp) h.blk))), blk_set_ne (by omega) (blk_set_ne (by omega) (blk_set_ne (by omega) (blk_set_ne (by omega) h.res))), ?_, (((h.bel.setCell (p := ⟨A, 0, none⟩) (Nat.le_refl _) _).setCell (p := ⟨A, 1, none⟩) (Nat.le_refl _) _).setCell (p := ⟨A, 2, none⟩) (Nat.le_refl _) _).setCell (p := ⟨A, 3, none⟩) (Nat.le_refl _) _⟩
  exact hg.imp id (fun g => have hne := own_tyb g h.blk (by decide); own_set_ne (own_set_ne (own_set_ne (own_set_ne (o := 0) g hne (.int .i64 inp)) (o := 1) hne vn) (o := 2) hne vg') (o := 3) hne vo)

theorem JS.sl {A : Nat} {w wr : World} {inp : Int} {vn vo : Value} {gs0 gs : List Gt} {sg s3 : Option Addr} {cg c3 : Nat} (hA : A = w.heap.size) (hsl : Sl w sg (gcells gs0)) (h : JS A w inp vn vo (.slice sg gs0.length cg) gs0 gs (.slice s3 gs.length c3) wr) : Sl wr s3 (gcells gs) := by
  rcases h.g with ⟨e, rfl⟩ | o
  · cases e
    exact hsl.mono (hA ▸ h.bel)
  · exact own_sl o

def LV (A : Nat) (v0 : Value) (xs : List Int) (v : Value) (m : Nat) (ys : List Int) (wr : World) : Prop := (v = v0 ∧ ys = xs) ∨ wr.ownsRow A 3 1 v m (ints ys)

theorem LV.below {A : Nat} {v0 v : Value} {xs ys : List Int} {m : Nat} {wr wr' : World} (h : LV A v0 xs v m ys wr) (hb : Below wr.heap.size wr wr') : LV A v0 xs v m ys wr' := h.imp id (fun o => own_below o hb)

theorem LV.set {A : Nat} {v0 v : Value} {xs ys : List Int} {m : Nat} {wr : World} (h : LV A v0 xs v m ys wr) {b o : Nat} {arr : Array Value} {fz : Nat × Nat} (hb : wr.heap[b]? = some (.cells arr 28 fz)) (u : Value) : LV A v0 xs v m ys (wr.setCell ⟨b, o, none⟩ u) := h.imp id (fun q => own_set_ne q (own_tyb q hb (by decide)) u)

theorem LV.sl {A : Nat} {sx s1 : Option Addr} {n m cx c1 : Nat} {xs ys : List Int} {w wr : World} (hA : A = w.heap.size) (hx : Sl w sx (ints xs)) (hb : Below A w wr) (h : LV A (.slice sx n cx) xs (.slice s1 m c1) m ys wr) : Sl wr s1 (ints ys) := by
  rcases h with ⟨e, rfl⟩ | o
  · cases e
    exact hx.mono (hA ▸ hb)
  · exact own_sl o

theorem LV.put {A : Nat} {v0 v : Value} {xs ys : List Int} {m b : Nat} {wr : World} (h : LV A v0 xs v m ys wr) {a0 a1 a2 a3 : Value} (hb : wr.heap[b]? = some (.cells #[a0, a1, a2, a3] 28 (0, 0))) (u0 u1 u2 u3 : Value) : LV A v0 xs v m ys ((((wr.setCell ⟨b, 0, none⟩ u0).setCell ⟨b, 1, none⟩ u1).setCell ⟨b, 2, none⟩ u2).setCell ⟨b, 3, none⟩ u3) :=
  (((h.set hb u0).set (blk_set hb) u1).set (blk_set (blk_set hb)) u2).set (blk_set (blk_set (blk_set hb))) u3

theorem js_join {A : Nat} {vg' v1 v0 : Value} {q hs gs : List Gt} {wr : World} (h : (v1 = v0 ∧ hs = gs) ∨ wr.ownsRow A 24 2 v1 hs.length (gcells hs)) (h' : (vg' = v1 ∧ q = hs) ∨ wr.ownsRow A 24 2 vg' q.length (gcells q)) : (vg' = v0 ∧ q = gs) ∨ wr.ownsRow A 24 2 vg' q.length (gcells q) := by
  rcases h' with ⟨rfl, rfl⟩ | o
  · exact h
  · exact .inr o

theorem keepI_len (p : Nat → Bool) : ∀ (xs : List Int) (k : Nat), (keepI p xs k).length ≤ xs.length
  | [], _ => Nat.le_refl _
  | x :: xs, k => by
    have := keepI_len p xs (k + 1)
    simp only [keepI]
    split <;> simp <;> omega

theorem two_join {L ys : List Int} {m a b : Nat} (hm : ys.length = m) (h1 : IsBest L ys m a) (h2 : IsNext L ys m a b) (h : 1 < m) : pkX L ys = ys.getD a 0 ∧ pkX L (pkR L ys) = ys.getD b 0 ∧ pkR L (pkR L ys) = keepI (fun i => i == a || i == b) ys 0 := by
  subst hm
  obtain ⟨k, hk⟩ : ∃ k, ys.length = k + 1 := ⟨ys.length - 1, by omega⟩
  have ea : pkI L ys = a := (pkI_best (by omega)).uniq h1
  have er : pkR L ys = ys.eraseIdx a := by unfold pkR; rw [ea]
  have hal := h1.lt
  have hl : (ys.eraseIdx a).length = k := by rw [List.length_eraseIdx, if_pos hal]; omega
  rw [hk] at h1 h2
  obtain ⟨j, e, hj⟩ := IsNext.erase h1.lt h2
  have ej : pkI L (ys.eraseIdx a) = j := (pkI_best (by rw [hl]; omega)).uniq (by rw [hl]; exact hj)
  refine ⟨by unfold pkX; rw [ea], ?_, ?_⟩
  · rw [er]; unfold pkX; rw [ej, getD_erase, e]
  · rw [er]; unfold pkR; rw [ej, keepI_two, e]

def vLen : Value → Nat
  | .slice _ n _ => n
  | _ => 0

set_option maxRecDepth 100000 in
set_option maxHeartbeats 12800000 in
theorem l19Join_any (inp : Int) (sn sg so sx : Option Addr) (ln cn cg lo co cx F n : Nat) (gs : List Gt) (xs : List Int) (w : World) (hg : Sl w sg (gcells gs)) (hx : Sl w sx (ints xs)) (hF : 1 + inp + (ln : Int) = F) (hi : 0 ≤ inp) (hF8 : F ≤ 8) (hgp : gatesP F gs) (hlit : ∀ l ∈ xs, litP l (F + gs.length)) (hn : xs.length = n) (h1 : 1 ≤ n) (hlen : gs.length + n ≤ 121) :
    Calls Try.prog 47 #[.agg #[.int .i64 inp, .slice sn ln cn, .slice sg gs.length cg, .slice so lo co], .slice sx n cx] w (AnPost inp (.slice sn ln cn) (.slice so lo co) sg cg gs (joinL F n gs xs) w) := by
  obtain ⟨A, hA⟩ : ∃ A, A = w.heap.size := ⟨_, rfl⟩
  obtain ⟨W0, hW0⟩ : ∃ W0, W0 = (w.alloc (.cells #[.int .i64 inp, .slice sn ln cn, .slice sg gs.length cg, .slice so lo co] 28)).alloc (.cells #[.int .i64 0, .slice none 0 0, .slice none 0 0, .slice none 0 0] 28) := ⟨_, rfl⟩
  have z2 : JS A w inp (.slice sn ln cn) (.slice so lo co) (.slice sg gs.length cg) gs gs (.slice sg gs.length cg) W0 := by
    rw [hW0, hA]
    exact ⟨blk_old (blk_new w _), blk_at (by simp), .inl ⟨rfl, rfl⟩, ((Below.refl _ _).alloc (Nat.le_refl _) _).alloc (by simp) _⟩
  obtain ⟨r, hr⟩ : ∃ r, r = joinL F n gs xs := ⟨_, rfl⟩
  have hF1 : 1 ≤ F := by omega
  have hi2 : inp ≤ 8 := by omega
  have hl2 : ln ≤ 8 := by omega
  have HW := Lib.hid (And.intro hW0 (And.intro hA (And.intro hF (And.intro hr (And.intro hgp (And.intro hlit (And.intro hn (And.intro z2 (And.intro hg hx)))))))))
  have HSL : Hid (∀ W, Below A w W → Sl W sx (ints xs)) := fun W hW => hx.mono (hA ▸ hW)
  rw [← hr]
  clear hW0 hA hF hr hgp hlit hn z2 hg hx
  go_enter Try.func47, Try.ntmps47
  go_upto_region 1 with fail
  rw [← HW.out.1, ← HW.out.2.1]
  go_loopw [1] (fun v wr => ∃ (f m : Nat) (ys : List Int) (hs : List Gt) (s1 : Option Addr) (c1 : Nat) (sg1 : Option Addr) (cg1 : Nat), v = .slice s1 m c1 ∧ ys.length = m ∧ 1 ≤ m ∧ m ≤ f + 1 ∧ joinL F f hs ys = r ∧ gatesP F hs ∧ (∀ l ∈ ys, litP l (F + hs.length)) ∧ hs.length + m ≤ 121 ∧ JS A w inp (.slice sn ln cn) (.slice so lo co) (.slice sg gs.length cg) gs hs (.slice sg1 hs.length cg1) wr ∧ LV A (.slice sx n cx) xs v m ys wr) (fun v _ => vLen v)
  case atStart => exact ⟨n, n, xs, gs, sx, cx, sg, cg, rfl, HW.out.2.2.2.2.2.2.1, h1, by omega, HW.out.2.2.2.1.symm, HW.out.2.2.2.2.1, HW.out.2.2.2.2.2.1, hlen, HW.out.2.2.2.2.2.2.2.1, .inl ⟨rfl, rfl⟩⟩
  case round =>
    obtain ⟨f, m, ys, hs, s1, c1, sg1, cg1, rfl, hym, h1m, hmf, hjr, hgp, hlt, hle, hJ, hv⟩ := hrel
    have HX : Hid (∀ W s1 c1, Below A w W → LV A (.slice sx n cx) xs (.slice s1 m c1) m ys W → Sl W s1 (ints ys)) := fun W s1 c1 hW h => h.sl HW.out.2.1 HW.out.2.2.2.2.2.2.2.2.2 hW
    have HY := Lib.hid (And.intro hym (And.intro hjr (And.intro hgp hlt)))
    have HJ := Lib.hid hJ
    have HV := Lib.hid hv
    obtain ⟨bx, ox, rfl, -⟩ := (HX.out _ _ _ hJ.bel hv).arr (by omega)
    have HXC : Hid (∀ W, Below A w W → LV A (.slice sx n cx) xs (.slice (some ⟨bx, ox, none⟩) m c1) m ys W → ∀ (j : Nat) (x : Int), ys[j]? = some x → W.cell? ⟨bx, ox + j, none⟩ = some (.int .i64 x)) := fun W hW hl j x h => by
      obtain ⟨b, o, e, z⟩ := (HX.out W _ _ hW hl).arr (by have := HY.out.1; omega)
      cases e
      exact z j x h
    have HS : Hid (∀ W, Below wr.heap.size wr W → (∀ o, W.cell? ⟨A, o, none⟩ = #[Value.int .i64 inp, .slice sn ln cn, .slice sg1 hs.length cg1, .slice so lo co][o]?) ∧ Sl W sg1 (gcells hs) ∧ (∀ (j : Nat) (x : Int), ys[j]? = some x → W.cell? ⟨bx, ox + j, none⟩ = some (.int .i64 x))) := fun W hW => ⟨(blk_all (HJ.out.below hW).blk).1, (HJ.out.below hW).sl HW.out.2.1 HW.out.2.2.2.2.2.2.2.2.1, HXC.out W (HJ.out.below hW).bel (HV.out.below hW)⟩
    clear hym hjr hgp hlt hJ hv
    have cb := (HS.out _ (Below.refl _ _)).1
    by_cases h2 : 1 < m
    · obtain ⟨f, rfl⟩ : ∃ f', f = f' + 1 := ⟨f - 1, by omega⟩
      have HBD : Hid (∀ x ∈ ys, 0 ≤ x ∧ x / 2 < ((F + hs.length : Nat) : Int)) := fun x hx => by
        obtain ⟨p, q⟩ := HY.out.2.2.2 x hx
        exact ⟨p, by omega⟩
      go_upto_region 3 with (first
        | (go_at_call 84; ((with_reducible refine (l1Levels_any inp sn sg1 so ln cn cg1 lo co F hs _ (HS.out _ (Below.refl _ _)).2.1 HW.out.2.2.1 hi hF8 HY.out.2.2.1 (by omega)).mono ?_); rintro e w1 ⟨sL, cL, rfl, hL, hq⟩; have H1 := Lib.hid (And.intro hL hq); clear hL hq cb))
        | (go_at_call 83; ((with_reducible refine (l19Two_any (lvlL F hs) ys (F + hs.length) m sL _ cL c1 _ H1.out.1 (HX.out _ _ _ (HJ.out.below H1.out.2).bel (HV.out.below H1.out.2)) (lvlL_length _ _) HY.out.1 (by omega) (by omega) (by omega) HBD.out).mono ?_); rintro e w2 ⟨a, b, rfl, ha, hb, hd⟩; have H2 := Lib.hid (And.intro ha (And.intro hb (H1.out.2.trans (hd.below _)))); clear ha hb hd)))
      have han := H2.out.1.lt
      have hbn := H2.out.2.1.lt
      obtain ⟨xa, hxa⟩ := get_of_lt (l := ys) (k := a) (by rw [HY.out.1]; exact han)
      obtain ⟨xb, hxb⟩ := get_of_lt (l := ys) (k := b) (by rw [HY.out.1]; exact hbn)
      obtain ⟨xa0, xa1⟩ := HBD.out xa (List.mem_of_getElem? hxa)
      obtain ⟨xb0, xb1⟩ := HBD.out xb (List.mem_of_getElem? hxb)
      have xa1 : xa ≤ 300 := by omega
      have xb1 : xb ≤ 300 := by omega
      obtain ⟨t1, t2, t3⟩ := two_join HY.out.1 H2.out.1 H2.out.2.1 h2
      obtain ⟨q, hq⟩ : ∃ q, q = andL F hs xa xb := ⟨_, rfl⟩
      have h2' : 1 < ys.length := by rw [HY.out.1]; exact h2
      have hj : joinS F hs ys = q := by
        unfold joinS
        rw [t1, t2, List.getD_eq_getElem?_getD, hxa, List.getD_eq_getElem?_getD, hxb, hq]
        rfl
      have hjx : joinX F hs ys = keepI (fun i => i == a || i == b) ys 0 ++ [q.2] := by unfold joinX; rw [t3, hj]
      have hjr : joinL F f q.1 (keepI (fun i => i == a || i == b) ys 0 ++ [q.2]) = r := by rw [← HY.out.2.1, joinL_step h2', hj, hjx]
      have hok := joinS_ok hF1 HY.out.2.2.1 HY.out.2.2.2 h2'
      have hxl := joinX_lit hF1 HY.out.2.2.1 HY.out.2.2.2 h2'
      have hxn := joinX_len (F := F) (gs := hs) h2'
      rw [hj] at hok
      rw [hj, hjx] at hxl
      rw [hjx, List.length_append, List.length_singleton, HY.out.1] at hxn
      have hql := hok.len.2
      have HQ := Lib.hid (And.intro hq (And.intro hjr (And.intro hok.gates (And.intro hxl hxn))))
      have HCS : Hid (∀ W, Below wr.heap.size wr W → (∀ o, W.cell? ⟨A, o, none⟩ = #[Value.int .i64 inp, .slice sn ln cn, .slice sg1 hs.length cg1, .slice so lo co][o]?) ∧ W.cell? ⟨bx, ox + a, none⟩ = some (.int .i64 xa) ∧ W.cell? ⟨bx, ox + b, none⟩ = some (.int .i64 xb)) := fun W hW => ⟨(HS.out W hW).1, (HS.out W hW).2.2 a xa hxa, (HS.out W hW).2.2 b xb hxb⟩
      clear t1 t2 t3 hq hj hjx hjr hok hxl h2' hxa hxb
      go_cut [8, 9, 22] from 23 to 34 (fun s8 s9 _ wx => ∃ (Y : Nat) (s3 : Option Addr) (c3 : Nat), s8 = .pointer (some ⟨Y, 0, none⟩) ∧ s9 = .int .i64 q.2 ∧ wx.heap[Y]? = some (.cells #[.int .i64 inp, .slice sn ln cn, (.slice s3 q.1.length c3), .slice so lo co] 28 (0, 0)) ∧ (((.slice s3 q.1.length c3 : Value) = .slice sg gs.length cg ∧ q.1 = gs) ∨ wx.ownsRow A 24 2 (.slice s3 q.1.length c3) q.1.length (gcells q.1)) ∧ Below wr.heap.size wr wx)
      case first =>
        refine wp_region_T (fun W => (∀ o, W.cell? ⟨A, o, none⟩ = #[Value.int .i64 inp, .slice sn ln cn, .slice sg1 hs.length cg1, .slice so lo co][o]?) ∧ W.cell? ⟨bx, ox + a, none⟩ = some (.int .i64 xa) ∧ W.cell? ⟨bx, ox + b, none⟩ = some (.int .i64 xb)) (.q 0 (.q 1 (.q 2 (.q 3 (.q 4 (.q 5 (.q 6 (.q 7 (.q 8 (.two 9 (.q 10 (.q 11 (.q 12 (.e 13 (.e 14 (.q 15 .nil)))))) 13 (.e 9 (.q 10 (.q 11 (.q 12 (.e 14 (.q 15 .nil)))))))))))))))) (by kernel_rfl) (by kernel_rfl) (by kernel_rfl) (HCS.out _ H2.out.2.2.drew) ?_
        have hd := H2.out.2.2.drew
        revert hd
        generalize w2.drew = Wd
        intro hd
        have HD := Lib.hid hd
        clear hd
        repeat (first | (refine ordt_s (o := ?_) ?_ ?_ ?_; rotate_left 1; (focus ((simp only [zD, zE, zF]) <;> rfl)); (focus rfl); simp only [Act.put, zA, zB, zC]) | (refine ordt_q (o := ?_) (v := ?_) ?_ ?_ ?_ ?_; rotate_left 2; (focus ((simp only [zD, zE, zF]) <;> rfl)); (focus rfl); (focus (intro w' hS; (try dsimp only at hS); go_split_ands; go_simp; (try (with_reducible rfl)))); simp only [Act.put, zA, zB, zC]))
        refine ordt_two ?_ ?_
        · (refine op_e (o := ?_) ?_ ?_ (fun K hK => ?_); rotate_left 1; (focus ((simp only [zD, zE, zF]) <;> rfl)); (focus rfl); go_simp)
          refine (l3And_any inp sn sg1 so ln cn cg1 lo co hs xa xb _ (HS.out _ HD.out).2.1 (by omega) ⟨hi, by omega⟩ (by omega) ⟨xa0, xa1⟩ ⟨xb0, xb1⟩).mono ?_
          rintro e wn ⟨vg2, rfl, hv2, hq⟩
          rw [HW.out.2.2.1, ← HQ.out.1] at hv2
          rw [HW.out.2.2.1, ← HQ.out.1]
          obtain ⟨s3, c3, rfl⟩ : ∃ s3 c3, vg2 = .slice s3 q.1.length c3 := by
            rcases hv2 with ⟨h, e⟩ | h
            · exact ⟨_, _, by rw [e]; exact h⟩
            · exact own_shape h
          have hb := HD.out.trans (hq.mono HD.out.size)
          have hv3 := js_join (HJ.out.below hb).g (hv2.imp id (fun h => own_base h (Nat.le_trans (by have := blk_lt HJ.out.blk; omega) HD.out.size)))
          refine hK.out _ _ (HCS.out _ hb) ?_
          clear hK K
          clear HD
          have HD := Lib.hid hb
          have HV2 := Lib.hid hv3
          clear hb hv2 hv3 hq
          (try simp only [Act.put, zA, zB, zC])
          repeat (first | (refine ordt_s (o := ?_) ?_ ?_ ?_; rotate_left 1; (focus ((simp only [zD, zE, zF]) <;> rfl)); (focus rfl); simp only [Act.put, zA, zB, zC]) | (refine ordt_q (o := ?_) (v := ?_) ?_ ?_ ?_ ?_; rotate_left 2; (focus ((simp only [zD, zE, zF]) <;> rfl)); (focus rfl); (focus (intro w' hS; (try dsimp only at hS); go_split_ands; go_simp; (try (with_reducible rfl)))); simp only [Act.put, zA, zB, zC]))
          refine ordt_e ?_
          (refine op_e (o := ?_) ?_ ?_ (fun K hK => ?_); rotate_left 1; (focus ((simp only [zD, zE, zF]) <;> rfl)); (focus rfl); go_simp)
          have hb := HD.out.alloc HD.out.size (.cells #[.int .i64 0, .slice none 0 0, .slice none 0 0, .slice none 0 0] 28)
          have hk := blk_new wn (.cells #[.int .i64 0, .slice none 0 0, .slice none 0 0, .slice none 0 0] 28)
          have hyb : A + 2 ≤ wn.heap.size := by have := blk_lt (HJ.out.below HD.out).res; omega
          have hv3 := HV2.out.imp id (fun h => own_below h (belowA wn (.cells #[.int .i64 0, .slice none 0 0, .slice none 0 0, .slice none 0 0] 28)))
          obtain ⟨Y, hY⟩ : ∃ Y, Y = wn.heap.size := ⟨_, rfl⟩
          have hyw : wr.heap.size ≤ Y := by rw [hY]; exact HD.out.size
          rw [← hY] at hk hyb
          rw [← hY]
          clear hY
          revert hb hk hv3
          generalize wn.alloc (.cells #[.int .i64 0, .slice none 0 0, .slice none 0 0, .slice none 0 0] 28) = WA
          intro hb hv3 hk
          refine hK.out _ _ (HCS.out _ hb) ?_
          clear hK K HD
          have HD := Lib.hid hb
          have HYY := Lib.hid (And.intro hk (And.intro hyw hyb))
          have HV2 := Lib.hid hv3
          clear hv3
          clear hb hk hyw hyb
          (try simp only [Act.put, zA, zB, zC])
          repeat (first | (refine ordt_s (o := ?_) ?_ ?_ ?_; rotate_left 1; (focus ((simp only [zD, zE, zF]) <;> rfl)); (focus rfl); simp only [Act.put, zA, zB, zC]) | (refine ordt_q (o := ?_) (v := ?_) ?_ ?_ ?_ ?_; rotate_left 2; (focus ((simp only [zD, zE, zF]) <;> rfl)); (focus rfl); (focus (intro w' hS; (try dsimp only at hS); go_split_ands; go_simp; (try (with_reducible rfl)))); simp only [Act.put, zA, zB, zC]))
          refine ordt_e ?_
          obtain ⟨rc, rf⟩ := blk_all HYY.out.1
          (refine op_e (o := ?_) ?_ ?_ (fun K hK => ?_); rotate_left 1; (focus ((simp only [zD, zE, zF]) <;> rfl)); (focus rfl); go_simp)
          have hZ : ((((WA.setCell ⟨Y, 0, none⟩ (.int .i64 inp)).setCell ⟨Y, 1, none⟩ (.slice sn ln cn)).setCell ⟨Y, 2, none⟩ (.slice s3 q.1.length c3)).setCell ⟨Y, 3, none⟩ (.slice so lo co)).heap[Y]? = some (.cells #[.int .i64 inp, .slice sn ln cn, (.slice s3 q.1.length c3), .slice so lo co] 28 (0, 0)) := by
            simpa using blk_set (o := 3) (v := .slice so lo co) (blk_set (o := 2) (v := (.slice s3 q.1.length c3)) (blk_set (o := 1) (v := .slice sn ln cn) (blk_set (o := 0) (v := .int .i64 inp) HYY.out.1)))
          have hO := HV2.out.imp id (fun h => have hne := own_tyb h HYY.out.1 (by decide); own_set_ne (own_set_ne (own_set_ne (own_set_ne (o := 0) h hne (.int .i64 inp)) (o := 1) hne (.slice sn ln cn)) (o := 2) hne (.slice s3 q.1.length c3)) (o := 3) hne (.slice so lo co))
          have hbz := ((((HD.out).setCell (p := ⟨Y, 0, none⟩) HYY.out.2.1 (.int .i64 inp)).setCell (p := ⟨Y, 1, none⟩) HYY.out.2.1 (.slice sn ln cn)).setCell (p := ⟨Y, 2, none⟩) HYY.out.2.1 (.slice s3 q.1.length c3)).setCell (p := ⟨Y, 3, none⟩) HYY.out.2.1 (.slice so lo co)
          clear rc rf
          revert hZ hO hbz
          generalize ((((WA.setCell ⟨Y, 0, none⟩ (.int .i64 inp)).setCell ⟨Y, 1, none⟩ (.slice sn ln cn)).setCell ⟨Y, 2, none⟩ (.slice s3 q.1.length c3)).setCell ⟨Y, 3, none⟩ (.slice so lo co)) = WZ
          intro hZ hO hbz
          refine hK.out _ _ (HCS.out _ hbz) ?_
          clear hK K
          (try simp only [Act.put, zA, zB, zC])
          repeat (first | (refine ordt_s (o := ?_) ?_ ?_ ?_; rotate_left 1; (focus ((simp only [zD, zE, zF]) <;> rfl)); (focus rfl); simp only [Act.put, zA, zB, zC]) | (refine ordt_q (o := ?_) (v := ?_) ?_ ?_ ?_ ?_; rotate_left 2; (focus ((simp only [zD, zE, zF]) <;> rfl)); (focus rfl); (focus (intro w' hS; (try dsimp only at hS); go_split_ands; go_simp; (try (with_reducible rfl)))); simp only [Act.put, zA, zB, zC]))
          refine ordt_nil ?_
          go_wp2_with fail
          go_meet
          exact ⟨Y, s3, c3, rfl, rfl, hZ, hO, hbz⟩
        · (refine op_e (o := ?_) ?_ ?_ (fun K hK => ?_); rotate_left 1; (focus ((simp only [zD, zE, zF]) <;> rfl)); (focus rfl); go_simp)
          have hb := HD.out.alloc HD.out.size (.cells #[.int .i64 0, .slice none 0 0, .slice none 0 0, .slice none 0 0] 28)
          have hk := blk_new Wd (.cells #[.int .i64 0, .slice none 0 0, .slice none 0 0, .slice none 0 0] 28)
          have hyb : A + 2 ≤ Wd.heap.size := by have := blk_lt (HJ.out.below HD.out).res; omega
          obtain ⟨Y, hY⟩ : ∃ Y, Y = Wd.heap.size := ⟨_, rfl⟩
          have hyw : wr.heap.size ≤ Y := by rw [hY]; exact HD.out.size
          rw [← hY] at hk hyb
          rw [← hY]
          clear hY
          revert hb hk
          generalize Wd.alloc (.cells #[.int .i64 0, .slice none 0 0, .slice none 0 0, .slice none 0 0] 28) = WA
          intro hb hk
          refine hK.out _ _ (HCS.out _ hb) ?_
          clear hK K HD
          have HD := Lib.hid hb
          have HYY := Lib.hid (And.intro hk (And.intro hyw hyb))
          clear hb hk hyw hyb
          (try simp only [Act.put, zA, zB, zC])
          repeat (first | (refine ordt_s (o := ?_) ?_ ?_ ?_; rotate_left 1; (focus ((simp only [zD, zE, zF]) <;> rfl)); (focus rfl); simp only [Act.put, zA, zB, zC]) | (refine ordt_q (o := ?_) (v := ?_) ?_ ?_ ?_ ?_; rotate_left 2; (focus ((simp only [zD, zE, zF]) <;> rfl)); (focus rfl); (focus (intro w' hS; (try dsimp only at hS); go_split_ands; go_simp; (try (with_reducible rfl)))); simp only [Act.put, zA, zB, zC]))
          refine ordt_e ?_
          (refine op_e (o := ?_) ?_ ?_ (fun K hK => ?_); rotate_left 1; (focus ((simp only [zD, zE, zF]) <;> rfl)); (focus rfl); go_simp)
          refine (l3And_any inp sn sg1 so ln cn cg1 lo co hs xa xb _ (HS.out _ HD.out).2.1 (by omega) ⟨hi, by omega⟩ (by omega) ⟨xa0, xa1⟩ ⟨xb0, xb1⟩).mono ?_
          rintro e wn ⟨vg2, rfl, hv2, hq⟩
          rw [HW.out.2.2.1, ← HQ.out.1] at hv2
          rw [HW.out.2.2.1, ← HQ.out.1]
          obtain ⟨s3, c3, rfl⟩ : ∃ s3 c3, vg2 = .slice s3 q.1.length c3 := by
            rcases hv2 with ⟨h, e⟩ | h
            · exact ⟨_, _, by rw [e]; exact h⟩
            · exact own_shape h
          have hb := HD.out.trans (hq.mono HD.out.size)
          have hv3 := js_join (HJ.out.below hb).g (hv2.imp id (fun h => own_base h (Nat.le_trans (by have := blk_lt HJ.out.blk; omega) HD.out.size)))
          refine hK.out _ _ (HCS.out _ hb) ?_
          clear hK K
          have HYY := Lib.hid (And.intro (blk_below hq (blk_lt HYY.out.1) HYY.out.1) HYY.out.2)
          clear HD
          have HD := Lib.hid hb
          have HV2 := Lib.hid hv3
          clear hb hv2 hv3 hq
          (try simp only [Act.put, zA, zB, zC])
          repeat (first | (refine ordt_s (o := ?_) ?_ ?_ ?_; rotate_left 1; (focus ((simp only [zD, zE, zF]) <;> rfl)); (focus rfl); simp only [Act.put, zA, zB, zC]) | (refine ordt_q (o := ?_) (v := ?_) ?_ ?_ ?_ ?_; rotate_left 2; (focus ((simp only [zD, zE, zF]) <;> rfl)); (focus rfl); (focus (intro w' hS; (try dsimp only at hS); go_split_ands; go_simp; (try (with_reducible rfl)))); simp only [Act.put, zA, zB, zC]))
          refine ordt_e ?_
          obtain ⟨rc, rf⟩ := blk_all HYY.out.1
          (refine op_e (o := ?_) ?_ ?_ (fun K hK => ?_); rotate_left 1; (focus ((simp only [zD, zE, zF]) <;> rfl)); (focus rfl); go_simp)
          have hZ : ((((wn.setCell ⟨Y, 0, none⟩ (.int .i64 inp)).setCell ⟨Y, 1, none⟩ (.slice sn ln cn)).setCell ⟨Y, 2, none⟩ (.slice s3 q.1.length c3)).setCell ⟨Y, 3, none⟩ (.slice so lo co)).heap[Y]? = some (.cells #[.int .i64 inp, .slice sn ln cn, (.slice s3 q.1.length c3), .slice so lo co] 28 (0, 0)) := by
            simpa using blk_set (o := 3) (v := .slice so lo co) (blk_set (o := 2) (v := (.slice s3 q.1.length c3)) (blk_set (o := 1) (v := .slice sn ln cn) (blk_set (o := 0) (v := .int .i64 inp) HYY.out.1)))
          have hO := HV2.out.imp id (fun h => have hne := own_tyb h HYY.out.1 (by decide); own_set_ne (own_set_ne (own_set_ne (own_set_ne (o := 0) h hne (.int .i64 inp)) (o := 1) hne (.slice sn ln cn)) (o := 2) hne (.slice s3 q.1.length c3)) (o := 3) hne (.slice so lo co))
          have hbz := ((((HD.out).setCell (p := ⟨Y, 0, none⟩) HYY.out.2.1 (.int .i64 inp)).setCell (p := ⟨Y, 1, none⟩) HYY.out.2.1 (.slice sn ln cn)).setCell (p := ⟨Y, 2, none⟩) HYY.out.2.1 (.slice s3 q.1.length c3)).setCell (p := ⟨Y, 3, none⟩) HYY.out.2.1 (.slice so lo co)
          clear rc rf
          revert hZ hO hbz
          generalize ((((wn.setCell ⟨Y, 0, none⟩ (.int .i64 inp)).setCell ⟨Y, 1, none⟩ (.slice sn ln cn)).setCell ⟨Y, 2, none⟩ (.slice s3 q.1.length c3)).setCell ⟨Y, 3, none⟩ (.slice so lo co)) = WZ
          intro hZ hO hbz
          refine hK.out _ _ (HCS.out _ hbz) ?_
          clear hK K
          (try simp only [Act.put, zA, zB, zC])
          repeat (first | (refine ordt_s (o := ?_) ?_ ?_ ?_; rotate_left 1; (focus ((simp only [zD, zE, zF]) <;> rfl)); (focus rfl); simp only [Act.put, zA, zB, zC]) | (refine ordt_q (o := ?_) (v := ?_) ?_ ?_ ?_ ?_; rotate_left 2; (focus ((simp only [zD, zE, zF]) <;> rfl)); (focus rfl); (focus (intro w' hS; (try dsimp only at hS); go_split_ands; go_simp; (try (with_reducible rfl)))); simp only [Act.put, zA, zB, zC]))
          refine ordt_nil ?_
          go_wp2_with fail
          go_meet
          exact ⟨Y, s3, c3, rfl, rfl, hZ, hO, hbz⟩
      case rest =>
        obtain ⟨Y, s3, c3, rfl, rfl, hY, hG, hB⟩ := hcut
        obtain ⟨Wx, rfl⟩ : ∃ Wx, Wx = wc := ⟨_, rfl⟩
        have cY := (blk_all hY).1
        obtain ⟨cA, fA⟩ := blk_all (HJ.out.below hB).blk
        have hP := (HJ.out.below hB).put hG
        have hP2 := (HV.out.below hB).put (HJ.out.below hB).blk (.int .i64 inp) (.slice sn ln cn) (.slice s3 q.1.length c3) (.slice so lo co)
        clear hY hG hB
        go_upto_region 5 with fail
        clear cY cA fA
        revert hP hP2
        generalize ((((Wx.setCell ⟨A, 0, none⟩ (.int .i64 inp)).setCell ⟨A, 1, none⟩ (.slice sn ln cn)).setCell ⟨A, 2, none⟩ (.slice s3 q.1.length c3)).setCell ⟨A, 3, none⟩ (.slice so lo co)) = WP
        intro hP hP2
        have HP := Lib.hid (And.intro hP hP2)
        clear hP hP2
        go_upto_region 6 with fail
        have k1 : World.ownsRow (WP.alloc (.cells #[] 3)) WP.heap.size 3 1 (.slice (some ⟨WP.heap.size, 0, none⟩) 0 0) 0 [] := own_of_blk (size := 1) (n := 0) (cur := #[]) (blk_new WP _) (Nat.le_refl _) (by simp) (by unfold maxLen; omega)
        have k2 := belowA WP (.cells #[] 3)
        have HPB : Hid (∀ W, Below WP.heap.size WP W → JS A w inp (.slice sn ln cn) (.slice so lo co) (.slice sg gs.length cg) gs q.1 (.slice s3 q.1.length c3) W ∧ LV A (.slice sx n cx) xs (.slice (some ⟨bx, ox, none⟩) m c1) m ys W) := fun W hW => ⟨HP.out.1.below hW, HP.out.2.below hW⟩
        have hA3 : A + 2 ≤ WP.heap.size := by have := blk_lt HP.out.1.res; omega
        obtain ⟨b3, hb3⟩ : ∃ b3, b3 = WP.heap.size := ⟨_, rfl⟩
        have hE3 : b3 ≤ (WP.alloc (.cells #[] 3)).heap.size := by rw [hb3]; simp
        rw [← hb3] at k1 k2 HPB hA3
        rw [← hb3]
        clear hb3
        have hE := And.intro k1 (And.intro k2 hE3)
        clear k1 k2 hE3
        revert hE
        generalize WP.alloc (.cells #[] 3) = WE
        intro hE
        have HE := Lib.hid hE
        clear hE
        go_upto_region 7 with fail
        obtain ⟨pk, hpk⟩ : ∃ pk : Nat → Bool, pk = fun i => i == a || i == b := ⟨_, rfl⟩
        have HPK := Lib.hid hpk
        clear hpk
        go_loopw [11, 10] (fun i v wi => ∃ (k : Nat) (s : Option Addr) (c : Nat) (zs : List Int), zs = keepI pk (ys.take k) 0 ∧ k ≤ m ∧ i = .int .i64 k ∧ v = .slice s zs.length c ∧ wi.ownsRow b3 3 1 v zs.length (ints zs) ∧ Below b3 WP wi ∧ b3 ≤ wi.heap.size) (fun i _ _ => m - (intOf i).toNat)
        case atStart => exact ⟨0, _, 0, [], rfl, Nat.zero_le _, rfl, rfl, HE.out.1, HE.out.2⟩
        case round =>
          obtain ⟨k, s, c, zs, hzs, hk, rfl, rfl, ho, hbl, hsz⟩ := hrel
          have hzl : zs.length ≤ k := by rw [hzs]; exact Nat.le_trans (keepI_len _ _ _) (by rw [List.length_take]; omega)
          have HO := Lib.hid (And.intro hzs (And.intro ho (And.intro hbl hsz)))
          clear hzs ho hbl hsz
          by_cases hlk : k < m
          · obtain ⟨x, hx⟩ := get_of_lt (l := ys) (k := k) (by rw [HY.out.1]; exact hlk)
            have HK : Hid (keepI pk (ys.take (k + 1)) 0 = zs ++ (if pk k then [] else [x])) := by
              have h := keepI_take (p := pk) hx
              rw [← HO.out.1] at h
              exact h
            have zk := HXC.out _ (HPB.out _ HO.out.2.2.1).1.bel (HPB.out _ HO.out.2.2.1).2 k x hx
            clear hx
            by_cases ea : k = a
            · subst ea
              go_wp2_with fail
              go_roundw
              case rel => exact ⟨k + 1, s, c, zs, by rw [HK.out, HPK.out]; simp, by omega, by go_num, rfl, HO.out.2⟩
              case measure => simp [intOf]; omega
            · by_cases eb : k = b
              · subst eb
                go_wp2_with fail
                go_roundw
                case rel => exact ⟨k + 1, s, c, zs, by rw [HK.out, HPK.out]; simp, by omega, by go_num, rfl, HO.out.2⟩
                case measure => simp [intOf]; omega
              · have ea' : ((k : Int) != (a : Int)) = true := bne_iff_ne.2 (by omega)
                have eb' : ((k : Int) != (b : Int)) = true := bne_iff_ne.2 (by omega)
                go_wp2_with (at_builtin; refine wpl_app rfl _ _ rfl elem_int (own_below HO.out.2.1 ((Below.refl _ _).alloc (Nat.le_refl _) _)) rfl rfl rfl (Sl.new _ _ _) (by simp [Value.oneCell']) (zs.length + 1) rfl (ints (zs ++ [x])) (by rw [← ints_append]; rfl) (by unfold maxLen; omega) (by omega) (Nat.le_trans HO.out.2.2.2 ((Below.refl _ _).alloc (Nat.le_refl _) _).size) ?_; intro s6 c6 w6 h6 hb6 _ _; have H6 := Lib.hid (And.intro h6 (And.intro ((HO.out.2.2.1.alloc HO.out.2.2.2 _).trans hb6) (Nat.le_trans HO.out.2.2.2 (Nat.le_trans ((Below.refl _ _).alloc (Nat.le_refl _) _).size hb6.size)))); clear h6 hb6)
                go_roundw
                case rel => exact ⟨k + 1, s6, c6, zs ++ [x], by rw [HK.out, HPK.out]; simp [ea, eb], by omega, by go_num, by simp, by simpa using H6.out.1, H6.out.2⟩
                case measure => simp [intOf]; omega
          · obtain rfl : k = m := by omega
            have hzq : zs = keepI (fun i => i == a || i == b) ys 0 := by rw [HO.out.1, HPK.out, List.take_of_length_le (by rw [HY.out.1]; exact Nat.le_refl _)]
            have hzn : zs.length + 1 = k - 1 := by rw [hzq]; exact HQ.out.2.2.2.2
            have hz1 : zs.length + 1 ≤ k - 1 := Nat.le_of_eq hzn
            have hz2 : k - 1 ≤ zs.length + 1 := Nat.le_of_eq hzn.symm
            have HZ := Lib.hid hzq
            clear hzq hzn
            go_wp2_with (at_builtin; refine wpl_app rfl _ _ rfl elem_int (own_below HO.out.2.1 ((Below.refl _ _).alloc (Nat.le_refl _) _)) rfl rfl rfl (Sl.new _ _ _) (by simp [Value.oneCell']) (zs.length + 1) rfl (ints (zs ++ [q.2])) (by rw [← ints_append]; rfl) (by unfold maxLen; omega) (by omega) (Nat.le_trans HO.out.2.2.2 ((Below.refl _ _).alloc (Nat.le_refl _) _).size) ?_; intro s6 c6 w6 h6 hb6 _ _; have H6 := Lib.hid (And.intro h6 ((HO.out.2.2.1.alloc HO.out.2.2.2 _).trans hb6)); clear h6 hb6)
            go_roundw
            case rel =>
              obtain ⟨g1, g2⟩ := HPB.out _ H6.out.2
              obtain ⟨-, g3, g4, g5, -⟩ := HQ.out
              have g6 : A ≤ b3 := by omega
              rw [← HZ.out] at g3 g5
              exact ⟨f, zs.length + 1, zs ++ [q.2], q.1, s6, c6, s3, c3, rfl, by simp, by omega, by omega, g3, g4, g5, by omega, g1, .inr (own_base H6.out.1 g6)⟩
            case measure => simp only [vLen]; omega
    · obtain rfl : m = 1 := by omega
      obtain ⟨x, hx⟩ := get_of_lt (l := ys) (k := 0) (by rw [HY.out.1]; omega)
      have hrx : r = (hs, x) := by rw [← HY.out.2.1, joinL_end (by rw [HY.out.1]; omega), List.getD_eq_getElem?_getD, hx]; rfl
      have HR := Lib.hid hrx
      have HCZ : Hid (∀ W, Below A w W → LV A (.slice sx n cx) xs (.slice (some ⟨bx, ox, none⟩) 1 c1) 1 ys W → W.heap[A]? = some (.cells #[Value.int .i64 inp, .slice sn ln cn, .slice sg1 hs.length cg1, .slice so lo co] 28 (0, 0)) → (∀ o, W.cell? ⟨A, o, none⟩ = #[Value.int .i64 inp, .slice sn ln cn, .slice sg1 hs.length cg1, .slice so lo co][o]?) ∧ W.cell? ⟨bx, ox, none⟩ = some (.int .i64 x)) := fun W hW hl hb => ⟨(blk_all hb).1, by simpa using HXC.out W hW hl 0 x hx⟩
      clear hx hrx
      go_upto_region 12 with fail
      clear cb
      refine wp_region_T (fun W => (∀ o, W.cell? ⟨A, o, none⟩ = #[Value.int .i64 inp, .slice sn ln cn, .slice sg1 hs.length cg1, .slice so lo co][o]?) ∧ W.cell? ⟨bx, ox, none⟩ = some (.int .i64 x)) (.q 0 (.q 1 (.q 2 (.q 3 (.e 4 (.q 5 .nil)))))) (by kernel_rfl) (by kernel_rfl) (by kernel_rfl) (HCZ.out _ (HJ.out.below (Below.refl _ _).drew).bel (HV.out.below (Below.refl _ _).drew) (HJ.out.below (Below.refl _ _).drew).blk) ?_
      have hd := (Below.refl wr.heap.size wr).drew
      revert hd
      generalize wr.drew = Wd
      intro hd
      have HD := Lib.hid hd
      clear hd
      repeat (first | (refine ordt_s (o := ?_) ?_ ?_ ?_; rotate_left 1; (focus ((simp only [zD, zE, zF]) <;> rfl)); (focus rfl); simp only [Act.put, zA, zB, zC]) | (refine ordt_q (o := ?_) (v := ?_) ?_ ?_ ?_ ?_; rotate_left 2; (focus ((simp only [zD, zE, zF]) <;> rfl)); (focus rfl); (focus (intro w' hS; (try dsimp only at hS); go_split_ands; go_simp; (try (with_reducible rfl)))); simp only [Act.put, zA, zB, zC]))
      refine ordt_e ?_
      have hJd := HJ.out.below HD.out
      obtain ⟨rc, rf⟩ := blk_all hJd.res
      (refine op_e (o := ?_) ?_ ?_ (fun K hK => ?_); rotate_left 1; (focus ((simp only [zD, zE, zF]) <;> rfl)); (focus rfl); go_simp)
      have hZ : ((((Wd.setCell ⟨A + 1, 0, none⟩ (.int .i64 inp)).setCell ⟨A + 1, 1, none⟩ (.slice sn ln cn)).setCell ⟨A + 1, 2, none⟩ (.slice sg1 hs.length cg1)).setCell ⟨A + 1, 3, none⟩ (.slice so lo co)).heap[A + 1]? = some (.cells #[Value.int .i64 inp, .slice sn ln cn, .slice sg1 hs.length cg1, .slice so lo co] 28 (0, 0)) := by
        simpa using blk_set (o := 3) (v := .slice so lo co) (blk_set (o := 2) (v := .slice sg1 hs.length cg1) (blk_set (o := 1) (v := .slice sn ln cn) (blk_set (o := 0) (v := .int .i64 inp) hJd.res)))
      have hA : ((((Wd.setCell ⟨A + 1, 0, none⟩ (.int .i64 inp)).setCell ⟨A + 1, 1, none⟩ (.slice sn ln cn)).setCell ⟨A + 1, 2, none⟩ (.slice sg1 hs.length cg1)).setCell ⟨A + 1, 3, none⟩ (.slice so lo co)).heap[A]? = some (.cells #[Value.int .i64 inp, .slice sn ln cn, .slice sg1 hs.length cg1, .slice so lo co] 28 (0, 0)) := blk_set_ne (by omega) (blk_set_ne (by omega) (blk_set_ne (by omega) (blk_set_ne (by omega) hJd.blk)))
      have hG := hJd.g.imp id (fun h => have hne := own_tyb h hJd.res (by decide); own_set_ne (own_set_ne (own_set_ne (own_set_ne (o := 0) h hne (.int .i64 inp)) (o := 1) hne (.slice sn ln cn)) (o := 2) hne (.slice sg1 hs.length cg1)) (o := 3) hne (.slice so lo co))
      have hB := (((hJd.bel.setCell (p := ⟨A + 1, 0, none⟩) (Nat.le_succ A) (.int .i64 inp)).setCell (p := ⟨A + 1, 1, none⟩) (Nat.le_succ A) (.slice sn ln cn)).setCell (p := ⟨A + 1, 2, none⟩) (Nat.le_succ A) (.slice sg1 hs.length cg1)).setCell (p := ⟨A + 1, 3, none⟩) (Nat.le_succ A) (.slice so lo co)
      have hL := (HV.out.below HD.out).put hJd.res (.int .i64 inp) (.slice sn ln cn) (.slice sg1 hs.length cg1) (.slice so lo co)
      clear rc rf hJd
      revert hZ hA hG hB hL
      generalize ((((Wd.setCell ⟨A + 1, 0, none⟩ (.int .i64 inp)).setCell ⟨A + 1, 1, none⟩ (.slice sn ln cn)).setCell ⟨A + 1, 2, none⟩ (.slice sg1 hs.length cg1)).setCell ⟨A + 1, 3, none⟩ (.slice so lo co)) = WZ
      intro hZ hA hG hB hL
      refine hK.out _ _ (HCZ.out _ hB hL hA) ?_
      clear hK K
      have HZ := Lib.hid (And.intro hZ (And.intro hG hB))
      clear hZ hA hG hB hL
      (try simp only [Act.put, zA, zB, zC])
      repeat (first | (refine ordt_s (o := ?_) ?_ ?_ ?_; rotate_left 1; (focus ((simp only [zD, zE, zF]) <;> rfl)); (focus rfl); simp only [Act.put, zA, zB, zC]) | (refine ordt_q (o := ?_) (v := ?_) ?_ ?_ ?_ ?_; rotate_left 2; (focus ((simp only [zD, zE, zF]) <;> rfl)); (focus rfl); (focus (intro w' hS; (try dsimp only at hS); go_split_ands; go_simp; (try (with_reducible rfl)))); simp only [Act.put, zA, zB, zC]))
      refine ordt_nil ?_
      have cr := (blk_all HZ.out.1).1
      go_wp2_with fail
      exact bodyPost_ret (v := .tuple #[.agg #[Value.int .i64 inp, .slice sn ln cn, .slice sg1 hs.length cg1, .slice so lo co], .int .i64 x]) (by simp [results, Try.results47, go_sem, cr]) rfl ⟨.slice sg1 hs.length cg1, by rw [HR.out], by rw [HR.out, ← HW.out.2.1]; exact HZ.out.2.1, by rw [← HW.out.2.1]; exact HZ.out.2.2⟩

end Go.Proofs.Ytjecchljhdfjdaa
