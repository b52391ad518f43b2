import Derived.Test.YtbcolcchchgldaaZZ61Y0
import Derived.Test.YtbcolcchchgldaaZZ61V2
import Derived.Test.YtbcolcchchgldaaZZ61L4
namespace Go.Proofs.Ytbcolcchchgldaa
set_option linter.unusedVariables false
set_option linter.unusedSimpArgs false
open Go.RowKit

/-! Part of the proof of one law. -/

/-- Two blocks made at the start, kept. -/
structure Box2 (w W : World) (A C : Obj) : Prop where
  bl : Below w.heap.size w W
  a : W.heap[w.heap.size]? = some A
  c : W.heap[w.heap.size + 1]? = some C

theorem Box2.below {w W W' : World} {A C : Obj} (h : Box2 w W A C) (hb : Below W.heap.size W W') : Box2 w W' A C :=
  ⟨h.bl.trans (hb.mono h.bl.size), blk_below hb (blk_lt h.a) h.a, blk_below hb (blk_lt h.c) h.c⟩

theorem Box2.new (w : World) (A C : Obj) : Box2 w ((w.alloc A).alloc C) A C :=
  ⟨((Below.refl _ _).alloc (Nat.le_refl _) _).alloc (by simp) _, blk_old (blk_new w A), blk_at (by simp)⟩

/-- The row of literals while it grows. -/
structure LpR (W0 W : World) (bm q : Nat) (A : Obj) (x : Value) (k : Nat) (xs : List Int) : Prop where
  own : W.ownsRow bm 3 1 x k (ints xs)
  bl : Below bm W0 W
  a : W.heap[q]? = some A
  lt : bm < W.heap.size

theorem LpR.below {W0 W W' : World} {bm q : Nat} {A : Obj} {x : Value} {k : Nat} {xs : List Int} (h : LpR W0 W bm q A x k xs) (hb : Below W.heap.size W W') : LpR W0 W' bm q A x k xs :=
  ⟨own_below h.own hb, h.bl.trans (hb.mono (Nat.le_of_lt h.lt)), blk_below hb (blk_lt h.a) h.a, Nat.lt_of_lt_of_le h.lt hb.size⟩

set_option maxRecDepth 100000 in
set_option maxHeartbeats 6400000 in
theorem Retime_s (v : Value) (c : Cir) (i : Int) (w : World) (h : CirV w v c) :
    Calls Try.prog 24 #[v, .int .i64 i] w fun e w' => ∃ vn vg vo, e = .returned (.agg #[.int .i64 (retR c i).inp, vn, vg, vo]) ∧ CirOwn w' w.heap.size (retR c i) vn vg vo ∧ Below w.heap.size w w' := by
  have HC : Hid (∀ w', Below w.heap.size w w' → CirV w' v c) := fun w' hb => h.mono hb
  obtain ⟨sn, cn, sg, cg, so, co, rfl, h1, h2, h3, hl1, hl2, hl3⟩ := h
  have HS := Lib.hid (And.intro h1 (And.intro h2 h3))
  have HB := Lib.hid (Box2.new w (.cells #[.int .i64 c.inp, .slice sn c.next.length cn, .slice sg c.gates.length cg, .slice so c.outs.length co] 26) (.cells #[.int .i64 0, .slice none 0 0, .slice none 0 0, .slice none 0 0] 26))
  clear h1 h2 h3
  cases hc : canRetimeB c i
  · rw [retR_no hc]
    have HE := Lib.hid hc
    clear hc
    go_enter Try.func24, Try.ntmps24
    go_upto_region 1 with fail
    revert HB
    generalize ((w.alloc (.cells #[.int .i64 c.inp, .slice sn c.next.length cn, .slice sg c.gates.length cg, .slice so c.outs.length co] 26)).alloc (.cells #[.int .i64 0, .slice none 0 0, .slice none 0 0, .slice none 0 0] 26)) = W0
    intro HB
    have cb := (blk_all HB.out.a).1
    go_wp2_with (go_at_call 25; ((refine (CanRetime_s _ _ _ _ (HC.out _ HB.out.bl)).mono ?_); rintro e w1 ⟨rfl, hq⟩; have HQ := Lib.hid (HB.out.below hq); obtain ⟨rc, rf⟩ := blk_all HQ.out.c; clear hq cb; rw [HE.out]))
    have hZ : ((((w1.setCell ⟨w.heap.size + 1, 0, none⟩ (.int .i64 0)).setCell ⟨w.heap.size + 1, 1, none⟩ (.slice none 0 0)).setCell ⟨w.heap.size + 1, 2, none⟩ (.slice none 0 0)).setCell ⟨w.heap.size + 1, 3, none⟩ (.slice none 0 0)).heap[w.heap.size + 1]? = some (.cells #[.int .i64 0, .slice none 0 0, .slice none 0 0, .slice none 0 0] 26 (0, 0)) := by
      simpa using blk_set (o := 3) (v := .slice none 0 0) (blk_set (o := 2) (v := .slice none 0 0) (blk_set (o := 1) (v := .slice none 0 0) (blk_set (o := 0) (v := .int .i64 0) HQ.out.c)))
    have hR := ((zero_own w1 (w.heap.size + 2))).sets4 (r := w.heap.size + 1) (by omega) (base := w.heap.size) (by omega) (a := .int .i64 0) (b' := .slice none 0 0) (c' := .slice none 0 0) (d := .slice none 0 0)
    have hB := ((((HQ.out.bl).setCell (p := ⟨w.heap.size + 1, 0, none⟩) (by simp) (.int .i64 0)).setCell (p := ⟨w.heap.size + 1, 1, none⟩) (by simp) (.slice none 0 0)).setCell (p := ⟨w.heap.size + 1, 2, none⟩) (by simp) (.slice none 0 0)).setCell (p := ⟨w.heap.size + 1, 3, none⟩) (by simp) (.slice none 0 0)
    revert hZ hR hB
    generalize ((((w1.setCell ⟨w.heap.size + 1, 0, none⟩ (.int .i64 0)).setCell ⟨w.heap.size + 1, 1, none⟩ (.slice none 0 0)).setCell ⟨w.heap.size + 1, 2, none⟩ (.slice none 0 0)).setCell ⟨w.heap.size + 1, 3, none⟩ (.slice none 0 0)) = WZ
    intro hZ hR hB
    have cr := (blk_all hZ).1
    exact bodyPost_ret (v := .agg #[.int .i64 0, .slice none 0 0, .slice none 0 0, .slice none 0 0]) (by simp [results, Try.results24, go_sem, cr]) rfl ⟨_, _, _, rfl, hR, hB⟩
  · obtain ⟨kk, gg, rfl, hg, hvB, hn3, hg14, la, lb⟩ := canRetime_yes hc
    have hval := c.validB_iff.1 hvB
    obtain ⟨f1, f2, f3, f4⟩ := valid_first hval
    obtain ⟨q1, q2, q3, q4, q5⟩ := id hval.lim
    obtain ⟨⟨a0, a1⟩, b0, b1'⟩ := valid_gate hval hg
    have hkl : kk < c.gates.length := (List.getElem?_eq_some_iff.1 hg).1
    have eC : c.first = 1 + c.inp + c.next.length := rfl
    obtain ⟨F, hF⟩ : ∃ F : Nat, c.first = F := ⟨c.first.toNat, by omega⟩
    obtain ⟨V, hV⟩ : ∃ V : Nat, c.vars = V := ⟨c.vars.toNat, by omega⟩
    have e1 : 1 + c.inp + (c.next.length : Int) = (F : Int) := by omega
    have hVF : V = F + c.gates.length := by omega
    have w1' : IntKind.i64.wrap ((F : Int) + (c.gates.length : Int)) = (V : Int) := by rw [IntWalk.i64_in _ ⟨by omega, by omega⟩]; omega
    obtain ⟨la1, la2⟩ := la
    obtain ⟨lb1, lb2⟩ := lb
    obtain ⟨ja, hja⟩ : ∃ j : Nat, gg.a / 2 - 1 - c.inp = j := ⟨(gg.a / 2 - 1 - c.inp).toNat, by omega⟩
    obtain ⟨jb, hjb⟩ : ∃ j : Nat, gg.b / 2 - 1 - c.inp = j := ⟨(gg.b / 2 - 1 - c.inp).toNat, by omega⟩
    obtain ⟨ya, hya⟩ := get_of_lt (l := c.next) (k := ja) (by omega)
    obtain ⟨yb, hyb⟩ := get_of_lt (l := c.next) (k := jb) (by omega)
    obtain ⟨ya0, ya1⟩ := hval.next ya (List.mem_of_getElem? hya)
    obtain ⟨yb0, yb1⟩ := hval.next yb (List.mem_of_getElem? hyb)
    obtain ⟨t, ht⟩ : ∃ t, t = gg.a % 2 * (gg.b % 2) := ⟨_, rfl⟩
    have ht01 : t = 0 ∨ t = 1 := by
      rcases (show gg.a % 2 = 0 ∨ gg.a % 2 = 1 by omega) with e | e <;> rcases (show gg.b % 2 = 0 ∨ gg.b % 2 = 1 by omega) with e' | e' <;> rw [e, e'] at ht <;> simp [ht]
    have ht0 : 0 ≤ t := by omega
    have ht1 : t ≤ 1 := by omega
    obtain ⟨f, hf⟩ : ∃ f, f = retF F kk t := ⟨_, rfl⟩
    have HR := Lib.hid (retR_eq hc hg hF (by rw [hja]; exact hya) (by rw [hjb]; exact hyb) ht hf)
    have hmul := ht.symm
    have E1 := Lib.hid e1
    have HX := Lib.hid (And.intro hc (And.intro hg (And.intro hval (And.intro hF hV))))
    have HJ := Lib.hid (And.intro (And.intro hja hya) (And.intro hjb hyb))
    have HF := Lib.hid (And.intro hf (And.intro ht01 hVF))
    have hjal : ja < c.next.length := (List.getElem?_eq_some_iff.1 hya).1
    have hjbl : jb < c.next.length := (List.getElem?_eq_some_iff.1 hyb).1
    have hxa : bits .xor .i64 (f ya) (gg.a % 2) = f (xr ya (gg.a % 2)) := by
      rw [hf, retF_xr (by omega), bits_xr _ _ (retF_bound (by omega) (by omega) (by omega) (by omega)).1 (by have := (retF_bound (F := F) (i := kk) (t := t) (l := ya) (by omega) (by omega) (by omega) (by omega)).2; omega) (by omega)]
    have hxb : bits .xor .i64 (f yb) (gg.b % 2) = f (xr yb (gg.b % 2)) := by
      rw [hf, retF_xr (by omega), bits_xr _ _ (retF_bound (by omega) (by omega) (by omega) (by omega)).1 (by have := (retF_bound (F := F) (i := kk) (t := t) (l := yb) (by omega) (by omega) (by omega) (by omega)).2; omega) (by omega)]
    have HXX := Lib.hid (And.intro hxa hxb)
    have ya2 : ya ≤ 60 := by omega
    have yb2 : yb ≤ 60 := by omega
    have ga2 : gg.a ≤ 60 := by omega
    have gb2 : gg.b ≤ 60 := by omega
    have F8 : F ≤ 8 := by omega
    have v22 : V ≤ 22 := by omega
    have hkV : F + kk < V := by omega
    have HI : Hid (c.inp ≤ 100 ∧ -100 ≤ c.inp) := ⟨by omega, by omega⟩
    clear hxa hxb hc hg hvB hval hF hV e1 hja hya hjb hyb hf ht01 ht eC f1 f2 f3 f4 ya1 yb1 a1 b1' la1 la2 lb1 lb2 hVF
    obtain ⟨gb, gf, rfl, hgb, zx, zy⟩ := HS.out.2.1.gate (Below.refl _ _) HX.out.2.1
    have HG := Lib.hid (And.intro hgb (And.intro zx zy))
    clear hgb zx zy
    go_enter Try.func24, Try.ntmps24
    go_upto_region 1 with fail
    revert HB
    generalize ((w.alloc (.cells #[.int .i64 c.inp, .slice sn c.next.length cn, .slice (some ⟨gb, gf, none⟩) c.gates.length cg, .slice so c.outs.length co] 26)).alloc (.cells #[.int .i64 0, .slice none 0 0, .slice none 0 0, .slice none 0 0] 26)) = W0
    intro HB
    have cb := (blk_all HB.out.a).1
    go_upto_region 3 with (go_at_call 25; ((refine (CanRetime_s _ _ _ _ (HC.out _ HB.out.bl)).mono ?_); rintro e w1 ⟨rfl, hq⟩; have HB1 := Lib.hid (HB.out.below hq); clear hq cb; have cb := (blk_all HB1.out.a).1; have zx : w1.cell? ⟨gb, gf + kk * 2, none⟩ = some (.int .i64 gg.a) := (HB1.out.bl.cell HG.out.1).trans HG.out.2.1; have zy : w1.cell? ⟨gb, gf + kk * 2 + 1, none⟩ = some (.int .i64 gg.b) := (HB1.out.bl.cell HG.out.1).trans HG.out.2.2; rw [HX.out.1]))
    go_upto_region 4 with fail
    clear cb zx zy HB
    obtain ⟨b2, hb2⟩ : ∃ b, b = w1.heap.size := ⟨_, rfl⟩
    have hk2 := blk_new w1 (.cells #[.int .i64 gg.a, .int .i64 gg.b] 38)
    have hB2 := HB1.out.below (below_alloc w1 (.cells #[.int .i64 gg.a, .int .i64 gg.b] 38))
    have hlt2 : w.heap.size + 1 < b2 := by rw [hb2]; exact blk_lt HB1.out.c
    rw [← hb2] at hk2
    rw [← hb2]
    clear hb2 HB1
    revert hk2 hB2
    generalize w1.alloc (.cells #[.int .i64 gg.a, .int .i64 gg.b] 38) = W2
    intro hk2 hB2
    have cb := (blk_all hB2.a).1
    have c2 := (blk_all hk2).1
    have K2 := Lib.hid (And.intro hB2 hk2)
    clear hB2 hk2
    go_upto_region 7 with (go_at_call 76; ((refine (l1First_any _ _ _ _ _ _ _ (by have := HI.out; omega) (by omega)).mono ?_); rintro e w3 ⟨rfl, hd⟩; rw [E1.out]; have K3 := Lib.hid (And.intro (K2.out.1.below hd) (blk_below hd (blk_lt K2.out.2) K2.out.2)); clear hd cb c2))
    obtain ⟨bm, hbm⟩ : ∃ b, b = w3.heap.size := ⟨_, rfl⟩
    have hkm := blk_new w3 (.cells #[] 3)
    have hsz : (w3.alloc (.cells #[] 3)).heap.size = w3.heap.size + 1 := by simp
    have hbb := below_alloc w3 (.cells #[] 3)
    have hB3 := K3.out.1.below hbb
    have hk3 := blk_below hbb (blk_lt K3.out.2) K3.out.2
    have hlt3 : b2 < bm := by rw [hbm]; exact blk_lt K3.out.2
    rw [← hbm] at hkm hsz
    rw [← hbm]
    clear hbm K3 hbb
    revert hkm hsz hB3 hk3
    generalize w3.alloc (.cells #[] 3) = WA
    intro hkm hsz hB3 hk3
    have HL := Lib.hid (And.intro hB3 (And.intro hk3 (And.intro hkm hsz)))
    clear hkm hsz hB3 hk3
    go_upto_region 8 with fail
    go_loopw [9, 8] (fun i x wr => ∃ (k : Nat) (s : Option Addr) (cc : Nat), k ≤ V ∧ i = .int .i64 k ∧ x = .slice s k cc ∧ LpR WA wr bm w.heap.size (.cells #[.int .i64 c.inp, .slice sn c.next.length cn, .slice (some ⟨gb, gf, none⟩) c.gates.length cg, .slice so c.outs.length co] 26) x k (mRet F kk t k)) (fun i _ _ => V - (intOf i).toNat)
    case atStart => exact ⟨0, _, _, Nat.zero_le _, rfl, rfl, own_of_blk (n := 0) (cur := #[]) HL.out.2.2.1 (Nat.le_refl _) (by simp) (by unfold maxLen; omega), Below.refl _ _, HL.out.1.a, by have := HL.out.2.2.2; omega⟩
    case round =>
      obtain ⟨k, s, cc, hk, rfl, rfl, hO⟩ := hrel
      have cb := (blk_all hO.a).1
      have HO := Lib.hid hO
      have hsz := hO.lt
      clear hO
      go_upto_region 8 with fail
      go_cut [46] from 39 to 46 (fun s46 wx => s46 = .bool (decide ((k : Int) < (V : Int))) ∧ Below wr.heap.size wr wx)
      case first =>
        refine wp_region_ord (fun w' => ∀ o, w'.cell? ⟨w.heap.size, o, none⟩ = #[Value.int .i64 c.inp, Value.slice sn c.next.length cn, Value.slice (some ⟨gb, gf, none⟩) c.gates.length cg, Value.slice so c.outs.length co][o]?) ((0, false) :: (1, false) :: (3, false) :: (4, false) :: (5, false) :: (2, true) :: (6, false) :: (7, false) :: []) (by kernel_rfl) (by kernel_rfl) (by kernel_rfl) (by kernel_rfl) (blk_all HO.out.a).1 ?_
        repeat (first | (refine ord_es (o := ?_) ?_ ?_ (by assumption) ?_; rotate_left 1; (focus ((simp only [zD, zE, zF]) <;> rfl)); (focus rfl); simp only [Act.put, zA, zB, zC]) | (refine ord_s (o := ?_) ?_ ?_ ?_; rotate_left 1; (focus ((simp only [zD, zE, zF]) <;> rfl)); (focus rfl); simp only [Act.put, zA, zB, zC]) | (refine ord_q (o := ?_) (v := ?_) ?_ ?_ ?_ ?_; rotate_left 2; (focus ((simp only [zD, zE, zF]) <;> rfl)); (focus rfl); (focus (intro w' hS; (try dsimp only at hS); go_split_ands; go_simp; (try (with_reducible rfl)))); simp only [Act.put, zA, zB, zC]))
        (refine ord_e (o := ?_) ?_ ?_ (fun K hK => ?_); rotate_left 1; (focus ((simp only [zD, zE, zF]) <;> rfl)); (focus rfl); go_simp)
        refine (l1First_any _ _ _ _ _ _ _ (by have := HI.out; omega) (by omega)).mono ?_
        rintro e w2 ⟨rfl, hq⟩
        rw [E1.out]
        have hb2 : Below wr.heap.size wr w2 := (Below.refl _ _).drew.trans hq
        refine hK.out _ _ (blk_all (blk_below hb2 (blk_lt HO.out.a) HO.out.a)).1 ?_
        clear hK K hq
        have H2 := Lib.hid hb2
        clear hb2
        (try simp only [Act.put, zA, zB, zC])
        repeat (first | (refine ord_es (o := ?_) ?_ ?_ (by assumption) ?_; rotate_left 1; (focus ((simp only [zD, zE, zF]) <;> rfl)); (focus rfl); simp only [Act.put, zA, zB, zC]) | (refine ord_s (o := ?_) ?_ ?_ ?_; rotate_left 1; (focus ((simp only [zD, zE, zF]) <;> rfl)); (focus rfl); simp only [Act.put, zA, zB, zC]) | (refine ord_q (o := ?_) (v := ?_) ?_ ?_ ?_ ?_; rotate_left 2; (focus ((simp only [zD, zE, zF]) <;> rfl)); (focus rfl); (focus (intro w' hS; (try dsimp only at hS); go_split_ands; go_simp; (try (with_reducible rfl)))); simp only [Act.put, zA, zB, zC]))
        refine ord_nil ?_
        go_wp2_with fail
        go_meet
        exact ⟨by simp, H2.out⟩
      case rest =>
        obtain ⟨rfl, hb2⟩ := hcut
        have HX1 := Lib.hid (HO.out.below hb2)
        clear hb2 w1' cb hsz HO
        have hsz := HX1.out.lt
        have cb := (blk_all HX1.out.a).1
        by_cases hlt : (k : Int) < (V : Int)
        · rw [decide_eq_true hlt]
          by_cases c1 : (k : Int) < (F : Int)
          · have hsu : Hid (mRet F kk t (k + 1) = mRet F kk t k ++ [2 * (k : Int)]) := by
              have e := mRet_succ F kk t k
              rw [if_pos c1] at e; exact e
            go_wp2_with (first
              | (go_at_call 76; ((refine (l1First_any _ _ _ _ _ _ _ (by have := HI.out; omega) (by omega)).mono ?_); rintro e w5 ⟨rfl, hd⟩; rw [E1.out]; have HX1 := Lib.hid (HX1.out.below hd); clear hd; have cb := (blk_all HX1.out.a).1; have hsz := HX1.out.lt))
              | (at_builtin; refine wpl_app rfl _ _ rfl elem_int (own_below HX1.out.own ((Below.refl _ _).alloc (Nat.le_refl _) _)) rfl rfl rfl (Sl.new _ _ _) (by simp [Value.oneCell']) (k + 1) rfl (ints (mRet F kk t (k + 1))) (by rw [hsu.out, ← ints_append]; rfl) (by unfold maxLen; omega) (by omega) (by simp; omega) ?_; intro s6 c6 w6 h6 hb6 _ _; have HA := Lib.hid (And.intro h6 ((HX1.out.bl.alloc (Nat.le_of_lt hsz) _).trans hb6)); clear h6 hb6))
            go_roundw
            case rel => exact ⟨k + 1, s6, c6, by omega, by go_num, rfl, HA.out.1, HA.out.2, blk_below HA.out.2 (by omega) HL.out.1.a, Nat.lt_of_lt_of_le (blk_lt HL.out.2.2.1) HA.out.2.size⟩
            case measure => simp [intOf]; omega
          · by_cases c2 : (k : Int) = (F : Int) + (kk : Int)
            · have hsu : Hid (mRet F kk t (k + 1) = mRet F kk t k ++ [2 * (F : Int) + t]) := by
                have e := mRet_succ F kk t k
                rw [if_neg c1, if_pos c2] at e; exact e
              go_wp2_with (first
                | (go_at_call 76; ((refine (l1First_any _ _ _ _ _ _ _ (by have := HI.out; omega) (by omega)).mono ?_); rintro e w5 ⟨rfl, hd⟩; rw [E1.out]; have HX1 := Lib.hid (HX1.out.below hd); clear hd; have cb := (blk_all HX1.out.a).1; have hsz := HX1.out.lt))
                | (at_builtin; refine wpl_app rfl _ _ rfl elem_int (own_below HX1.out.own ((Below.refl _ _).alloc (Nat.le_refl _) _)) rfl rfl rfl (Sl.new _ _ _) (by simp [Value.oneCell']) (k + 1) rfl (ints (mRet F kk t (k + 1))) (by rw [hsu.out, ← ints_append]; rfl) (by unfold maxLen; omega) (by omega) (by simp; omega) ?_; intro s6 c6 w6 h6 hb6 _ _; have HA := Lib.hid (And.intro h6 ((HX1.out.bl.alloc (Nat.le_of_lt hsz) _).trans hb6)); clear h6 hb6))
              go_roundw
              case rel => exact ⟨k + 1, s6, c6, by omega, by go_num, rfl, HA.out.1, HA.out.2, blk_below HA.out.2 (by omega) HL.out.1.a, Nat.lt_of_lt_of_le (blk_lt HL.out.2.2.1) HA.out.2.size⟩
              case measure => simp [intOf]; omega
            · have hsu : Hid (mRet F kk t (k + 1) = mRet F kk t k ++ [2 * (k : Int) + 2]) := by
                have e := mRet_succ F kk t k
                rw [if_neg c1, if_neg c2] at e; exact e
              go_wp2_with (first
                | (go_at_call 76; ((refine (l1First_any _ _ _ _ _ _ _ (by have := HI.out; omega) (by omega)).mono ?_); rintro e w5 ⟨rfl, hd⟩; rw [E1.out]; have HX1 := Lib.hid (HX1.out.below hd); clear hd; have cb := (blk_all HX1.out.a).1; have hsz := HX1.out.lt))
                | (at_builtin; refine wpl_app rfl _ _ rfl elem_int (own_below HX1.out.own ((Below.refl _ _).alloc (Nat.le_refl _) _)) rfl rfl rfl (Sl.new _ _ _) (by simp [Value.oneCell']) (k + 1) rfl (ints (mRet F kk t (k + 1))) (by rw [hsu.out, ← ints_append]; rfl) (by unfold maxLen; omega) (by omega) (by simp; omega) ?_; intro s6 c6 w6 h6 hb6 _ _; have HA := Lib.hid (And.intro h6 ((HX1.out.bl.alloc (Nat.le_of_lt hsz) _).trans hb6)); clear h6 hb6))
              go_roundw
              case rel => exact ⟨k + 1, s6, c6, by omega, by go_num, rfl, HA.out.1, HA.out.2, blk_below HA.out.2 (by omega) HL.out.1.a, Nat.lt_of_lt_of_le (blk_lt HL.out.2.2.1) HA.out.2.size⟩
              case measure => simp [intOf]; omega
        · rw [decide_eq_false hlt]
          obtain rfl : V = k := by omega
          have hY := HX1.out
          obtain ⟨gm, rfl⟩ : ∃ q, s = some ⟨q, 0, none⟩ := by
            rcases own_some hY.own with ⟨_, e, _⟩ | ⟨q, e⟩
            · omega
            · exact ⟨q, e⟩
          have hB5 := HL.out.1.bl
          have HM0 := Lib.hid (And.intro (hB5.trans (hY.bl.mono (by omega))) (And.intro hY.a (And.intro (blk_below hY.bl (by omega) HL.out.1.c) (And.intro (blk_below hY.bl hlt3 HL.out.2.1) (own_sl hY.own)))))
          have hgm := (own_blk hY.own rfl).2
          have hlb2 := blk_lt HM0.out.2.1
          have hlr := blk_lt HM0.out.2.2.1
          have hlg := blk_lt HM0.out.2.2.2.1
          clear hY hB5 HX1 hsz
          go_upto_region 16 with fail
          obtain ⟨B, hB⟩ : ∃ B, wc.heap.size = B := ⟨_, rfl⟩
          have hb3 : Below B wc (wc.alloc (.cells #[.int .i64 c.inp, .slice none 0 0, .slice none 0 0, .slice none 0 0] 26)) := by rw [← hB]; exact (Below.refl _ _).alloc (Nat.le_refl _) _
          have hn3' : (wc.alloc (.cells #[.int .i64 c.inp, .slice none 0 0, .slice none 0 0, .slice none 0 0] 26)).heap[B]? = some (.cells #[.int .i64 c.inp, .slice none 0 0, .slice none 0 0, .slice none 0 0] 26 (0, 0)) := by rw [← hB]; exact blk_new _ _
          clear cb
          rw [hB] at hlb2 hlr hlg hgm ⊢
          revert hb3 hn3'
          generalize wc.alloc (.cells #[.int .i64 c.inp, .slice none 0 0, .slice none 0 0, .slice none 0 0] 26) = W3
          intro hb3 hn3'
          have hBw : w.heap.size < B := hlb2
          have hBr : w.heap.size + 1 < B := hlr
          have hW3 : OutC W3 B B c.inp [] [] [] (.slice none 0 0) (.slice none 0 0) (.slice none 0 0) := ⟨hn3', World.ownsRow_nil _ _ _ _, World.ownsRow_nil _ _ _ _, World.ownsRow_nil _ _ _ _, (fun k hk => by cases hk)⟩
          have HW3 := Lib.hid (And.intro (HM0.out.1.trans (hb3.mono (Nat.le_of_lt hBw))) (And.intro (blk_below hb3 hBw HM0.out.2.1) (And.intro hW3 (blk_below hb3 hBr HM0.out.2.2.1))))
          have HG3 := Lib.hid (blk_below hb3 hlg HM0.out.2.2.2.1)
          have HLM : Hid (∀ W (l : Int), Below B W3 W → 0 ≤ l → l / 2 < c.vars → Calls Try.prog 77 #[.slice (some ⟨gm, 0, none⟩) V cc, .int .i64 l] W fun e w' => e = .returned (.int .i64 (f l)) ∧ W = w') := fun W l hW h0 h1 => by
            rw [HF.out.1]
            exact l3MapR_any _ _ _ _ _ _ _ _ (HM0.out.2.2.2.2.mono' (B := B) (fun a ha _ => by cases ha; exact hgm) (hb3.trans hW)) h0 (by rw [HX.out.2.2.2.2] at h1; exact h1) v22 (by omega) (by omega) (by omega) HF.out.2.1
          have H := Lib.hid (And.intro HS.out.1 (And.intro HS.out.2.1 (And.intro HS.out.2.2 HX.out.2.2.1)))
          have cb := (blk_all HW3.out.2.1).1
          clear hb3 hn3' hW3 hlb2 hlr hgm hB
          go_upto_region 17 with fail
          clear cb
          go_loopw [11] (fun i wr => ∃ (k : Nat) (s : Option Addr) (cc : Nat), k ≤ c.gates.length ∧ i = .int .i64 k ∧ OutC wr B B c.inp [] (mapG f (c.gates.take k)) [] (.slice none 0 0) (.slice s k cc) (.slice none 0 0) ∧ Below B W3 wr) (fun i _ => c.gates.length - (intOf i).toNat)
          case atStart => exact ⟨0, _, _, Nat.zero_le _, rfl, HW3.out.2.2.1, Below.refl _ _⟩
          case round =>
            obtain ⟨k, s, cc, hk, rfl, hO, hbl⟩ := hrel
            have hbox := blk_below hbl hBw HW3.out.2.1
            have hsz : B < wr.heap.size := blk_lt hO.blk
            have hlk : (mapG f (c.gates.take k)).length = k := by simp [mapG]; omega
            have hlk1 : k < c.gates.length → (mapG f (c.gates.take (k + 1))).length = k + 1 := fun h => by simp [mapG]; omega
            have cb := (blk_all hbox).1
            by_cases hlt : k < c.gates.length
            · obtain ⟨g, hg⟩ := get_of_lt hlt
              obtain ⟨gb', gf', he, hgb, zx, zy⟩ := H.out.2.1.gate (Below.refl _ _) hg
              obtain ⟨rfl, rfl⟩ : gb = gb' ∧ gf = gf' := by simpa using he
              clear he
              obtain ⟨⟨a0, a1⟩, b0, b1⟩ := valid_gate H.out.2.2.2 hg
              have hfv := (valid_first H.out.2.2.2).2.2.1
              have hS : ∀ W, Below B W3 W → W.heap[B]? = some (.cells #[Value.int .i64 c.inp, .slice none 0 0, .slice s k cc, .slice none 0 0] 26 (0, 0)) → (fun w' => (∀ o, w'.cell? ⟨B, o, none⟩ = #[Value.int .i64 c.inp, .slice none 0 0, .slice s k cc, .slice none 0 0][o]?) ∧ (∀ o, w'.cell? ⟨w.heap.size, o, none⟩ = #[Value.int .i64 c.inp, Value.slice sn c.next.length cn, Value.slice (some ⟨gb, gf, none⟩) c.gates.length cg, Value.slice so c.outs.length co][o]?) ∧ w'.cell? ⟨gb, gf + k * 2, none⟩ = some (.int .i64 g.a) ∧ w'.cell? ⟨gb, gf + k * 2 + 1, none⟩ = some (.int .i64 g.b)) W := fun W hW hB => ⟨(blk_all hB).1, (blk_all (blk_below hW hBw HW3.out.2.1)).1, ((HW3.out.1.trans (hW.mono (Nat.le_of_lt hBw))).cell (p := ⟨gb, gf + k * 2, none⟩) hgb).trans zx, ((HW3.out.1.trans (hW.mono (Nat.le_of_lt hBw))).cell (p := ⟨gb, gf + k * 2 + 1, none⟩) hgb).trans zy⟩
              have HR := Lib.hid (And.intro hO (And.intro hbl (And.intro hg (And.intro hlk (And.intro (hlk1 hlt) (And.intro (show g.a / 2 < c.vars ∧ g.b / 2 < c.vars by omega) hS))))))
              clear hg a1 b1 hfv zx zy hgb
              clear hO hlk hlk1 hbl hbox hS
              go_upto_region 19 with fail
              clear cb
              refine wp_region_E (fun w' => (∀ o, w'.cell? ⟨B, o, none⟩ = #[Value.int .i64 c.inp, .slice none 0 0, .slice s k cc, .slice none 0 0][o]?) ∧ (∀ o, w'.cell? ⟨w.heap.size, o, none⟩ = #[Value.int .i64 c.inp, Value.slice sn c.next.length cn, Value.slice (some ⟨gb, gf, none⟩) c.gates.length cg, Value.slice so c.outs.length co][o]?) ∧ w'.cell? ⟨gb, gf + k * 2, none⟩ = some (.int .i64 g.a) ∧ w'.cell? ⟨gb, gf + k * 2 + 1, none⟩ = some (.int .i64 g.b)) 22 (.q 0 (.q 1 (.q 2 (.q 3 (.q 4 (.q 5 (.q 6 (.q 7 (.q 8 (.q 10 (.q 11 (.q 12 (.q 13 (.q 14 (.q 15 (.q 16 (.e 9 (.e 17 (.q 18 (.e 19 (.e 20 (.q 21 (.z 22))))))))))))))))))))))) (by kernel_rfl) (by kernel_rfl) (by kernel_rfl) (by kernel_rfl) (by kernel_rfl) (by kernel_rfl) (HR.out.2.2.2.2.2.2 _ HR.out.2.1.drew HR.out.1.blk) ?_
              repeat (first | (refine orde_s (o := ?_) ?_ ?_ ?_; rotate_left 1; (focus ((simp only [zD, zE, zF]) <;> rfl)); (focus rfl); simp only [Act.put, zA, zB, zC]) | (refine orde_q (o := ?_) (v := ?_) ?_ ?_ ?_ ?_; rotate_left 2; (focus ((simp only [zD, zE, zF]) <;> rfl)); (focus rfl); (focus (intro w' hS; (try dsimp only at hS); go_split_ands; go_simp; (try (with_reducible rfl)))); simp only [Act.put, zA, zB, zC]))
              refine orde_e ?_
              (refine ope_e (o := ?_) ?_ ?_ (fun K hK => ?_); rotate_left 1; (focus ((simp only [zD, zE, zF]) <;> rfl)); (focus rfl); go_simp)
              refine (HLM.out _ (g.a) HR.out.2.1.drew a0 HR.out.2.2.2.2.2.1.1).mono ?_
              rintro e wa ⟨rfl, rfl⟩
              refine hK.out _ _ (HR.out.2.2.2.2.2.2 _ HR.out.2.1.drew HR.out.1.blk) ?_
              clear hK K
              (try simp only [Act.put, zA, zB, zC])
              refine orde_e ?_
              (refine ope_e (o := ?_) ?_ ?_ (fun K hK => ?_); rotate_left 1; (focus ((simp only [zD, zE, zF]) <;> rfl)); (focus rfl); go_simp)
              refine (HLM.out _ (g.b) HR.out.2.1.drew b0 HR.out.2.2.2.2.2.1.2).mono ?_
              rintro e wa ⟨rfl, rfl⟩
              refine hK.out _ _ (HR.out.2.2.2.2.2.2 _ HR.out.2.1.drew HR.out.1.blk) ?_
              clear hK K
              (try simp only [Act.put, zA, zB, zC])
              repeat (first | (refine orde_s (o := ?_) ?_ ?_ ?_; rotate_left 1; (focus ((simp only [zD, zE, zF]) <;> rfl)); (focus rfl); simp only [Act.put, zA, zB, zC]) | (refine orde_q (o := ?_) (v := ?_) ?_ ?_ ?_ ?_; rotate_left 2; (focus ((simp only [zD, zE, zF]) <;> rfl)); (focus rfl); (focus (intro w' hS; (try dsimp only at hS); go_split_ands; go_simp; (try (with_reducible rfl)))); simp only [Act.put, zA, zB, zC]))
              refine orde_e ?_
              (refine ope_e (o := ?_) ?_ ?_ (fun K hK => ?_); rotate_left 1; (focus ((simp only [zD, zE, zF]) <;> rfl)); (focus rfl); go_simp)
              have hb1 : Below wr.heap.size wr (wr.alloc (.cells #[.int .i64 (f g.a), .int .i64 (f g.b)] 38)).drew := ((Below.refl _ _).alloc (Nat.le_refl _) _).drew
              have hs1 : Sl (wr.alloc (.cells #[.int .i64 (f g.a), .int .i64 (f g.b)] 38)).drew (some ⟨wr.heap.size, 0, none⟩) [.int .i64 (f g.a), .int .i64 (f g.b)] := (Sl.new wr _ _).drew
              revert hb1 hs1
              generalize (wr.alloc (.cells #[.int .i64 (f g.a), .int .i64 (f g.b)] 38)).drew = W1
              intro hb1 hs1
              have hO1 := HR.out.1.below hb1
              have hB1 := HR.out.2.1.trans (hb1.mono (Nat.le_of_lt hsz))
              refine hK.out _ _ (HR.out.2.2.2.2.2.2 _ hB1 hO1.blk) ?_
              clear hK K
              have HW1 := Lib.hid (And.intro hO1 (And.intro hs1 hB1))
              have hs1z : B < W1.heap.size := blk_lt hO1.blk
              clear hO1 hb1 hs1 hB1
              (try simp only [Act.put, zA, zB, zC])
              refine orde_e ?_
              (refine ope_e (o := ?_) ?_ ?_ (fun K hK => ?_); rotate_left 1; (focus ((simp only [zD, zE, zF]) <;> rfl)); (focus rfl))
              refine wp_app (.tmp 87) (.tmp 105) rfl elem_gate (by have h1 := HW1.out.1.g; rw [HR.out.2.2.2.1] at h1; exact h1) rfl rfl (by simp) HW1.out.2.1 (by simp [Value.oneCell']) (k + 1) rfl (gcells (mapG f (c.gates.take (k + 1)))) (by rw [mapG_snoc HR.out.2.2.1, ← gcells_append]; rfl) (by unfold maxLen; omega) (by omega) (by omega) ?_
              intro s6 c6 W2 ho6 hb6 hg6 hob6
              obtain ⟨hB2, hO2⟩ := HW1.out.1.pushG hg6 (xg' := (mapG f (c.gates.take (k + 1)))) (by rw [HR.out.2.2.2.2.1]; exact ho6)
              have hbb := HW1.out.2.2.trans hb6
              refine hK.out _ _ (HR.out.2.2.2.2.2.2 _ hbb hB2) ?_
              clear hK K
              have y1 : W2.cell? ⟨B, 2, none⟩ = some (.slice s k cc) := blk_cell hB2
              have y2 : W2.frozen? ⟨B, 2, none⟩ = false := blk_free hB2
              have HW2 := Lib.hid (And.intro hO2 hbb)
              clear hB2 hO2 ho6 hb6 hg6 hob6 hbb
              (try simp only [Act.put, zA, zB, zC])
              repeat (first | (refine orde_s (o := ?_) ?_ ?_ ?_; rotate_left 1; (focus ((simp only [zD, zE, zF]) <;> rfl)); (focus rfl); simp only [Act.put, zA, zB, zC]) | (refine orde_q (o := ?_) (v := ?_) ?_ ?_ ?_ ?_; rotate_left 2; (focus ((simp only [zD, zE, zF]) <;> rfl)); (focus rfl); (focus (intro w' hS; (try dsimp only at hS); go_split_ands; go_simp; (try (with_reducible rfl)))); simp only [Act.put, zA, zB, zC]))
              (refine orde_z (o := ?_) ?_ ?_ (fun K hK => ?_); rotate_left 1; (focus ((simp only [zD, zE, zF]) <;> rfl)); (focus rfl); go_simp)
              refine hK.out _ _ ?_
              clear hK K y1 y2
              go_wp2_with fail
              go_roundw
              case rel => exact ⟨k + 1, s6, c6, by omega, by go_num, HW2.out.1, HW2.out.2.setCell (p := ⟨B, 2, none⟩) (Nat.le_refl _) _⟩
              case measure => simp [intOf]; omega
            · obtain rfl : k = c.gates.length := by omega
              rw [List.take_length] at hO
              obtain ⟨vX1, hvX⟩ : ∃ vX, vX = Value.slice s c.gates.length cc := ⟨_, rfl⟩
              rw [← hvX] at hO
              have HvX1 : Hid (∃ s' c', vX1 = Value.slice s' c.gates.length c') := ⟨_, _, hvX⟩
              have HY1 := Lib.hid (And.intro hO hbl)
              clear hO hbl hlk hlk1 hvX hbox
              go_wp2_with fail
              clear cb
              go_loopw [12] (fun i wr => ∃ (k : Nat) (s : Option Addr) (cc : Nat), k ≤ c.next.length ∧ i = .int .i64 k ∧ OutC wr B B c.inp ((c.next.take k).map f) (mapG f c.gates) [] (.slice s k cc) (vX1) (.slice none 0 0) ∧ Below B W3 wr) (fun i _ => c.next.length - (intOf i).toNat)
              case atStart => exact ⟨0, _, _, Nat.zero_le _, rfl, HY1.out.1, HY1.out.2⟩
              case round =>
                obtain ⟨k, s, cc, hk, rfl, hO, hbl⟩ := hrel
                have hbox := blk_below hbl hBw HW3.out.2.1
                have hsz : B < wr.heap.size := blk_lt hO.blk
                have hlk : ((c.next.take k).map f).length = k := by simp; omega
                have hlk1 : k < c.next.length → ((c.next.take (k + 1)).map f).length = k + 1 := fun h => by simp; omega
                have cb := (blk_all hbox).1
                by_cases hlt : k < c.next.length
                · obtain ⟨x, hx⟩ := get_of_lt hlt
                  obtain ⟨xb, xf, rfl, hxb, zx⟩ := H.out.1.int (Below.refl _ _) hx
                  obtain ⟨x0, x1⟩ : 0 ≤ x ∧ x < 2 * c.vars := H.out.2.2.2.next x (List.mem_of_getElem? hx)
                  have hS : ∀ W, Below B W3 W → W.heap[B]? = some (.cells #[Value.int .i64 c.inp, .slice s k cc, vX1, .slice none 0 0] 26 (0, 0)) → (fun w' => (∀ o, w'.cell? ⟨B, o, none⟩ = #[Value.int .i64 c.inp, .slice s k cc, vX1, .slice none 0 0][o]?) ∧ (∀ o, w'.cell? ⟨w.heap.size, o, none⟩ = #[Value.int .i64 c.inp, Value.slice (some ⟨xb, xf, none⟩) c.next.length cn, Value.slice (some ⟨gb, gf, none⟩) c.gates.length cg, Value.slice so c.outs.length co][o]?) ∧ w'.cell? ⟨xb, xf + k, none⟩ = some (.int .i64 x)) W := fun W hW hB => ⟨(blk_all hB).1, (blk_all (blk_below hW hBw HW3.out.2.1)).1, ((HW3.out.1.trans (hW.mono (Nat.le_of_lt hBw))).cell (p := ⟨xb, xf + k, none⟩) hxb).trans zx⟩
                  have HR := Lib.hid (And.intro hO (And.intro hbl (And.intro hx (And.intro hlk (And.intro (hlk1 hlt) (And.intro (show x / 2 < c.vars by omega) hS))))))
                  clear hx x1 zx hxb
                  clear hO hlk hlk1 hbl hbox hS
                  go_upto_region 23 with fail
                  clear cb
                  refine wp_region_E (fun w' => (∀ o, w'.cell? ⟨B, o, none⟩ = #[Value.int .i64 c.inp, .slice s k cc, vX1, .slice none 0 0][o]?) ∧ (∀ o, w'.cell? ⟨w.heap.size, o, none⟩ = #[Value.int .i64 c.inp, Value.slice (some ⟨xb, xf, none⟩) c.next.length cn, Value.slice (some ⟨gb, gf, none⟩) c.gates.length cg, Value.slice so c.outs.length co][o]?) ∧ w'.cell? ⟨xb, xf + k, none⟩ = some (.int .i64 x)) 12 (.q 0 (.q 1 (.q 2 (.q 3 (.q 4 (.q 5 (.q 6 (.q 7 (.e 8 (.e 9 (.e 10 (.q 11 (.z 12))))))))))))) (by kernel_rfl) (by kernel_rfl) (by kernel_rfl) (by kernel_rfl) (by kernel_rfl) (by kernel_rfl) (HR.out.2.2.2.2.2.2 _ HR.out.2.1.drew HR.out.1.blk) ?_
                  repeat (first | (refine orde_s (o := ?_) ?_ ?_ ?_; rotate_left 1; (focus ((simp only [zD, zE, zF]) <;> rfl)); (focus rfl); simp only [Act.put, zA, zB, zC]) | (refine orde_q (o := ?_) (v := ?_) ?_ ?_ ?_ ?_; rotate_left 2; (focus ((simp only [zD, zE, zF]) <;> rfl)); (focus rfl); (focus (intro w' hS; (try dsimp only at hS); go_split_ands; go_simp; (try (with_reducible rfl)))); simp only [Act.put, zA, zB, zC]))
                  refine orde_e ?_
                  (refine ope_e (o := ?_) ?_ ?_ (fun K hK => ?_); rotate_left 1; (focus ((simp only [zD, zE, zF]) <;> rfl)); (focus rfl); go_simp)
                  refine (HLM.out _ (x) HR.out.2.1.drew x0 HR.out.2.2.2.2.2.1).mono ?_
                  rintro e wa ⟨rfl, rfl⟩
                  refine hK.out _ _ (HR.out.2.2.2.2.2.2 _ HR.out.2.1.drew HR.out.1.blk) ?_
                  clear hK K
                  (try simp only [Act.put, zA, zB, zC])
                  refine orde_e ?_
                  (refine ope_e (o := ?_) ?_ ?_ (fun K hK => ?_); rotate_left 1; (focus ((simp only [zD, zE, zF]) <;> rfl)); (focus rfl); go_simp)
                  have hb1 : Below wr.heap.size wr (wr.alloc (.cells #[.int .i64 (f x)] 3)).drew := ((Below.refl _ _).alloc (Nat.le_refl _) _).drew
                  have hs1 : Sl (wr.alloc (.cells #[.int .i64 (f x)] 3)).drew (some ⟨wr.heap.size, 0, none⟩) [.int .i64 (f x)] := (Sl.new wr _ _).drew
                  revert hb1 hs1
                  generalize (wr.alloc (.cells #[.int .i64 (f x)] 3)).drew = W1
                  intro hb1 hs1
                  have hO1 := HR.out.1.below hb1
                  have hB1 := HR.out.2.1.trans (hb1.mono (Nat.le_of_lt hsz))
                  refine hK.out _ _ (HR.out.2.2.2.2.2.2 _ hB1 hO1.blk) ?_
                  clear hK K
                  have HW1 := Lib.hid (And.intro hO1 (And.intro hs1 hB1))
                  have hs1z : B < W1.heap.size := blk_lt hO1.blk
                  clear hO1 hb1 hs1 hB1
                  (try simp only [Act.put, zA, zB, zC])
                  refine orde_e ?_
                  (refine ope_e (o := ?_) ?_ ?_ (fun K hK => ?_); rotate_left 1; (focus ((simp only [zD, zE, zF]) <;> rfl)); (focus rfl))
                  refine wp_app (.tmp 116) (.tmp 124) rfl elem_int (by have h1 := HW1.out.1.n; rw [HR.out.2.2.2.1] at h1; exact h1) rfl rfl (by simp) HW1.out.2.1 (by simp [Value.oneCell']) (k + 1) rfl (ints ((c.next.take (k + 1)).map f)) (by rw [map_snoc HR.out.2.2.1, ← ints_append]; rfl) (by unfold maxLen; omega) (by omega) (by omega) ?_
                  intro s6 c6 W2 ho6 hb6 hg6 hob6
                  obtain ⟨hB2, hO2⟩ := HW1.out.1.pushN hg6 (xn' := ((c.next.take (k + 1)).map f)) (by rw [HR.out.2.2.2.2.1]; exact ho6) hob6
                  have hbb := HW1.out.2.2.trans hb6
                  refine hK.out _ _ (HR.out.2.2.2.2.2.2 _ hbb hB2) ?_
                  clear hK K
                  have y1 : W2.cell? ⟨B, 1, none⟩ = some (.slice s k cc) := blk_cell hB2
                  have y2 : W2.frozen? ⟨B, 1, none⟩ = false := blk_free hB2
                  have HW2 := Lib.hid (And.intro hO2 hbb)
                  clear hB2 hO2 ho6 hb6 hg6 hob6 hbb
                  (try simp only [Act.put, zA, zB, zC])
                  repeat (first | (refine orde_s (o := ?_) ?_ ?_ ?_; rotate_left 1; (focus ((simp only [zD, zE, zF]) <;> rfl)); (focus rfl); simp only [Act.put, zA, zB, zC]) | (refine orde_q (o := ?_) (v := ?_) ?_ ?_ ?_ ?_; rotate_left 2; (focus ((simp only [zD, zE, zF]) <;> rfl)); (focus rfl); (focus (intro w' hS; (try dsimp only at hS); go_split_ands; go_simp; (try (with_reducible rfl)))); simp only [Act.put, zA, zB, zC]))
                  (refine orde_z (o := ?_) ?_ ?_ (fun K hK => ?_); rotate_left 1; (focus ((simp only [zD, zE, zF]) <;> rfl)); (focus rfl); go_simp)
                  refine hK.out _ _ ?_
                  clear hK K y1 y2
                  go_wp2_with fail
                  go_roundw
                  case rel => exact ⟨k + 1, s6, c6, by omega, by go_num, HW2.out.1, HW2.out.2.setCell (p := ⟨B, 1, none⟩) (Nat.le_refl _) _⟩
                  case measure => simp [intOf]; omega
                · obtain rfl : k = c.next.length := by omega
                  rw [List.take_length] at hO
                  obtain ⟨vX2, hvX⟩ : ∃ vX, vX = Value.slice s c.next.length cc := ⟨_, rfl⟩
                  rw [← hvX] at hO
                  have HvX2 : Hid (∃ s' c', vX2 = Value.slice s' c.next.length c') := ⟨_, _, hvX⟩
                  have HY2 := Lib.hid (And.intro hO hbl)
                  clear hO hbl hlk hlk1 hvX hbox
                  have hO := HY2.out.1
                  obtain ⟨xn, hxn⟩ : ∃ x, x = c.next.map f := ⟨_, rfl⟩
                  obtain ⟨xg, hxg⟩ : ∃ x, x = mapG f c.gates := ⟨_, rfl⟩
                  have el1 : xn.length = c.next.length := by rw [hxn]; simp
                  have el2 : xg.length = c.gates.length := by rw [hxg]; simp [mapG]
                  have hga : (ints xn)[ja]? = some (.int .i64 (f ya)) := by rw [hxn]; exact ints_get (by rw [List.getElem?_map, HJ.out.1.2]; rfl)
                  have hgb' : (ints xn)[jb]? = some (.int .i64 (f yb)) := by rw [hxn]; exact ints_get (by rw [List.getElem?_map, HJ.out.2.2]; rfl)
                  rw [← hxn, ← hxg] at hO
                  have hbl2 := HY2.out.2
                  clear HY2 HY1 HvX1 HvX2
                  obtain ⟨sN, cN, rfl⟩ := own_shape hO.n
                  obtain ⟨sG, cG, rfl⟩ := own_shape hO.g
                  have xnja : ja < xn.length := by omega
                  have xnjb : jb < xn.length := by omega
                  have xn4 : xn.length ≤ 3 := by omega
                  have xg4 : xg.length ≤ 14 := by omega
                  obtain ⟨nb, rfl⟩ : ∃ q, sN = some ⟨q, 0, none⟩ := by
                    rcases own_some hO.n with ⟨_, e, _⟩ | ⟨q, e⟩
                    · omega
                    · exact ⟨q, e⟩
                  have hbf : ∀ b : Int, f ya = f ya := fun _ => rfl
                  have hfa : 0 ≤ f ya ∧ f ya ≤ 70 := by rw [HF.out.1]; exact retF_bound (by omega) (by omega) ya0 ya2
                  have hfb : 0 ≤ f yb ∧ f yb ≤ 70 := by rw [HF.out.1]; exact retF_bound (by omega) (by omega) yb0 yb2
                  obtain ⟨fa0, fa1⟩ := hfa
                  obtain ⟨fb0, fb1⟩ := hfb
                  have HXN := Lib.hid (And.intro hxn (And.intro hxg (And.intro el1 el2)))
                  have HYW : Hid (∀ W, Below wr.heap.size wr W → OutC W B B c.inp xn xg [] (.slice (some ⟨nb, 0, none⟩) xn.length cN) (.slice sG xg.length cG) (.slice none 0 0) ∧ Below B W3 W ∧ (∀ o, W.cell? ⟨B, o, none⟩ = #[Value.int .i64 c.inp, .slice (some ⟨nb, 0, none⟩) xn.length cN, .slice sG xg.length cG, .slice none 0 0][o]?) ∧ (∀ o, W.cell? ⟨w.heap.size, o, none⟩ = #[Value.int .i64 c.inp, Value.slice sn c.next.length cn, Value.slice (some ⟨gb, gf, none⟩) c.gates.length cg, Value.slice so c.outs.length co][o]?) ∧ (∀ o, W.cell? ⟨b2, o, none⟩ = #[Value.int .i64 gg.a, .int .i64 gg.b][o]?) ∧ W.cell? ⟨nb, ja, none⟩ = some (.int .i64 (f ya)) ∧ W.cell? ⟨nb, jb, none⟩ = some (.int .i64 (f yb))) := fun W hW => by
                    have hO2 := hO.below hW
                    have hb2 := hbl2.trans (hW.mono (Nat.le_of_lt (blk_lt hO.blk)))
                    exact ⟨hO2, hb2, (blk_all hO2.blk).1, (blk_all (blk_below hb2 hBw HW3.out.2.1)).1, (blk_all (blk_below hb2 hlg HG3.out)).1, (hO2.n.cellAt ja (by omega)).trans hga, (hO2.n.cellAt jb (by omega)).trans hgb'⟩
                  have hsz2 := blk_lt hO.blk
                  clear hO hbl2 hga hgb' hxn hxg hbf el1 el2
                  obtain ⟨-, -, k4, cb, cg2, zya, zyb⟩ := HYW.out wr (Below.refl _ _)
                  have hja' : gg.a / 2 - c.inp - 1 = ja := by have := HJ.out.1.1; omega
                  have hjb' : gg.b / 2 - c.inp - 1 = jb := by have := HJ.out.2.1; omega
                  have hxa := HXX.out.1
                  have hxb := HXX.out.2
                  go_upto_region 24 with fail
                  go_quiet (fail)
                  have hD : Below wr.heap.size wr (wr.drewN nq) := below_n (Below.refl _ _) _
                  clear k4 cb cg2 zya zyb
                  revert hD
                  generalize wr.drewN nq = wd
                  intro hD
                  obtain ⟨-, -, k4, cb, cg2, zya, zyb⟩ := HYW.out _ hD
                  have HD1 := Lib.hid hD
                  clear hD
                  go_wp2_with fail
                  go_quiet (fail)
                  have hD : Below wr.heap.size wr (wd.drewN nq) := below_n HD1.out _
                  clear k4 cb cg2 zya zyb
                  revert hD
                  generalize wd.drewN nq = we
                  intro hD
                  obtain ⟨hOe, hbe, k4, cb, -⟩ := HYW.out _ hD
                  have HE1 := Lib.hid (And.intro hOe hbe)
                  have hsze := blk_lt hOe.blk
                  clear hD hOe hbe HD1
                  go_upto_region 27 with (at_builtin; refine wpl_app rfl _ _ rfl elem_gate (HE1.out.1.below (below_alloc _ _)).g rfl rfl rfl (Sl.new _ _ _) (by simp [Value.oneCell']) (xg.length + 1) rfl (gcells (xg ++ [⟨f (xr ya (gg.a % 2)), f (xr yb (gg.b % 2))⟩])) (by rw [← gcells_append]; rfl) (by unfold maxLen; omega) (by omega) (by simp; omega) ?_; intro s7 c7 w7 h7 hb7 hg7 hob7; obtain ⟨hB7, hO7⟩ := (HE1.out.1.below (below_alloc _ _)).pushG hg7 (xg' := xg ++ [⟨f (xr ya (gg.a % 2)), f (xr yb (gg.b % 2))⟩]) (by rw [List.length_append]; exact h7); have hbl7 := ((HE1.out.2.alloc (Nat.le_of_lt hsze) _).trans hb7).setCell (p := ⟨B, 2, none⟩) (Nat.le_refl _) (.slice s7 (xg.length + 1) c7); have y1 : w7.cell? ⟨B, 2, none⟩ = some (.slice sG xg.length cG) := blk_cell hB7; have y2 : w7.frozen? ⟨B, 2, none⟩ = false := blk_free hB7; have HA := Lib.hid (And.intro hO7 hbl7); clear k4 cb h7 hb7 hg7 hob7 hB7 hO7 hbl7)
                  clear y1 y2
                  revert HA
                  generalize w7.setCell ⟨B, 2, none⟩ (.slice s7 (xg.length + 1) c7) = W8
                  intro HA
                  have hVF := HF.out.2.2
                  have w1' : IntKind.i64.wrap ((F : Int) + (c.gates.length : Int)) = (V : Int) := by rw [IntWalk.i64_in _ ⟨by omega, by omega⟩]; omega
                  have w2' : IntKind.i64.wrap ((V : Int) + 1) = (V : Int) + 1 := IntWalk.i64_in _ ⟨by omega, by omega⟩
                  have w3' : IntKind.i64.wrap (2 * ((V : Int) + 1)) = 2 * ((V : Int) + 1) := IntWalk.i64_in _ ⟨by omega, by omega⟩
                  have w4' : IntKind.i64.wrap (2 * ((V : Int) + 1) + t) = 2 * ((V : Int) + 1) + t := IntWalk.i64_in _ ⟨by omega, by omega⟩
                  clear hVF
                  refine wp_region_E (fun w' => (∀ o, w'.cell? ⟨B, o, none⟩ = #[Value.int .i64 c.inp, .slice (some ⟨nb, 0, none⟩) xn.length cN, .slice s7 (xg.length + 1) c7, .slice none 0 0][o]?) ∧ (∀ o, w'.cell? ⟨w.heap.size, o, none⟩ = #[Value.int .i64 c.inp, Value.slice sn c.next.length cn, Value.slice (some ⟨gb, gf, none⟩) c.gates.length cg, Value.slice so c.outs.length co][o]?)) 15 (.q 0 (.q 1 (.q 2 (.q 4 (.q 5 (.q 6 (.q 10 (.e 3 (.q 7 (.q 8 (.q 9 (.q 11 (.e 12 (.e 13 (.q 14 (.z 15)))))))))))))))) (by kernel_rfl) (by kernel_rfl) (by kernel_rfl) (by kernel_rfl) (by kernel_rfl) (by kernel_rfl) ⟨(blk_all (HA.out.1.below ((Below.refl _ _).drew)).blk).1, (blk_all (blk_below HA.out.2.drew hBw HW3.out.2.1)).1⟩ ?_
                  have hO9 := HA.out.1.below ((Below.refl _ _).drew)
                  have hb9 := HA.out.2.drew
                  revert hO9 hb9
                  generalize W8.drew = W9
                  intro hO9 hb9
                  have H9 := Lib.hid (And.intro hO9 hb9)
                  clear hO9 hb9 HA
                  repeat (first | (refine orde_s (o := ?_) ?_ ?_ ?_; rotate_left 1; (focus ((simp only [zD, zE, zF]) <;> rfl)); (focus rfl); simp only [Act.put, zA, zB, zC]) | (refine orde_q (o := ?_) (v := ?_) ?_ ?_ ?_ ?_; rotate_left 2; (focus ((simp only [zD, zE, zF]) <;> rfl)); (focus rfl); (focus (intro w' hS; (try dsimp only at hS); go_split_ands; go_simp; (try (with_reducible rfl)))); simp only [Act.put, zA, zB, zC]))
                  refine orde_e ?_
                  (refine ope_e (o := ?_) ?_ ?_ (fun K hK => ?_); rotate_left 1; (focus ((simp only [zD, zE, zF]) <;> rfl)); (focus rfl); go_simp)
                  refine (l1First_any _ _ _ _ _ _ _ (by have := HI.out; omega) (by omega)).mono ?_
                  rintro e wa ⟨rfl, hq⟩
                  rw [E1.out]
                  have hOa := H9.out.1.below hq
                  have hba := H9.out.2.trans (hq.mono (Nat.le_of_lt (blk_lt H9.out.1.blk)))
                  refine hK.out _ _ ⟨(blk_all hOa.blk).1, (blk_all (blk_below hba hBw HW3.out.2.1)).1⟩ ?_
                  clear hK K hq
                  have Ha := Lib.hid (And.intro hOa hba)
                  clear hOa hba
                  (try simp only [Act.put, zA, zB, zC])
                  repeat (first | (refine orde_s (o := ?_) ?_ ?_ ?_; rotate_left 1; (focus ((simp only [zD, zE, zF]) <;> rfl)); (focus rfl); simp only [Act.put, zA, zB, zC]) | (refine orde_q (o := ?_) (v := ?_) ?_ ?_ ?_ ?_; rotate_left 2; (focus ((simp only [zD, zE, zF]) <;> rfl)); (focus rfl); (focus (intro w' hS; (try dsimp only at hS); go_split_ands; go_simp; (try (with_reducible rfl)))); simp only [Act.put, zA, zB, zC]))
                  refine orde_e ?_
                  (refine ope_e (o := ?_) ?_ ?_ (fun K hK => ?_); rotate_left 1; (focus ((simp only [zD, zE, zF]) <;> rfl)); (focus rfl); go_simp)
                  have hbb := below_alloc wa (.cells #[.int .i64 (2 * ((V : Int) + 1) + t)] 3)
                  have hs1 := Sl.new wa #[.int .i64 (2 * ((V : Int) + 1) + t)] 3
                  revert hbb hs1
                  generalize wa.alloc (.cells #[.int .i64 (2 * ((V : Int) + 1) + t)] 3) = Wb
                  intro hbb hs1
                  have hOb := Ha.out.1.below hbb
                  have hbb' := Ha.out.2.trans (hbb.mono (Nat.le_of_lt (blk_lt Ha.out.1.blk)))
                  refine hK.out _ _ ⟨(blk_all hOb.blk).1, (blk_all (blk_below hbb' hBw HW3.out.2.1)).1⟩ ?_
                  clear hK K
                  have Hb := Lib.hid (And.intro hOb (And.intro hs1 hbb'))
                  have hszb := blk_lt hOb.blk
                  clear hOb hs1 hbb hbb'
                  (try simp only [Act.put, zA, zB, zC])
                  refine orde_e ?_
                  (refine ope_e (o := ?_) ?_ ?_ (fun K hK => ?_); rotate_left 1; (focus ((simp only [zD, zE, zF]) <;> rfl)); (focus rfl))
                  refine wp_app (.tmp 166) (.tmp 177) rfl elem_int Hb.out.1.n rfl rfl (by simp) Hb.out.2.1 (by simp [Value.oneCell']) (xn.length + 1) rfl (ints (xn ++ [2 * ((V : Int) + 1) + t])) (by rw [← ints_append]; rfl) (by unfold maxLen; omega) (by omega) (by omega) ?_
                  intro s6 c6 Wc ho6 hb6 hg6 hob6
                  obtain ⟨hBc, hOc⟩ := Hb.out.1.pushN hg6 (xn' := xn ++ [2 * ((V : Int) + 1) + t]) (by rw [List.length_append]; exact ho6) hob6
                  have hbc := Hb.out.2.2.trans hb6
                  refine hK.out _ _ ⟨(blk_all hBc).1, (blk_all (blk_below hbc hBw HW3.out.2.1)).1⟩ ?_
                  clear hK K
                  have y1 : Wc.cell? ⟨B, 1, none⟩ = some (.slice (some ⟨nb, 0, none⟩) xn.length cN) := blk_cell hBc
                  have y2 : Wc.frozen? ⟨B, 1, none⟩ = false := blk_free hBc
                  have Hc := Lib.hid (And.intro hOc (hbc.setCell (p := ⟨B, 1, none⟩) (Nat.le_refl _) (.slice s6 (xn.length + 1) c6)))
                  clear hBc hOc ho6 hb6 hg6 hob6 hbc
                  (try simp only [Act.put, zA, zB, zC])
                  repeat (first | (refine orde_s (o := ?_) ?_ ?_ ?_; rotate_left 1; (focus ((simp only [zD, zE, zF]) <;> rfl)); (focus rfl); simp only [Act.put, zA, zB, zC]) | (refine orde_q (o := ?_) (v := ?_) ?_ ?_ ?_ ?_; rotate_left 2; (focus ((simp only [zD, zE, zF]) <;> rfl)); (focus rfl); (focus (intro w' hS; (try dsimp only at hS); go_split_ands; go_simp; (try (with_reducible rfl)))); simp only [Act.put, zA, zB, zC]))
                  (refine orde_z (o := ?_) ?_ ?_ (fun K hK => ?_); rotate_left 1; (focus ((simp only [zD, zE, zF]) <;> rfl)); (focus rfl); go_simp)
                  refine hK.out _ _ ?_
                  clear hK K y1 y2 w1' w2' w3' w4'
                  revert Hc
                  generalize Wc.setCell ⟨B, 1, none⟩ (.slice s6 (xn.length + 1) c6) = Wd
                  intro Hc
                  obtain ⟨xn7, hxn7⟩ : ∃ x, x = xn ++ [2 * ((V : Int) + 1) + t] := ⟨_, rfl⟩
                  obtain ⟨xg7, hxg7⟩ : ∃ x, x = xg ++ [(⟨f (xr ya (gg.a % 2)), f (xr yb (gg.b % 2))⟩ : Gt)] := ⟨_, rfl⟩
                  obtain ⟨vN7, hvN7⟩ : ∃ x, x = Value.slice s6 (xn.length + 1) c6 := ⟨_, rfl⟩
                  obtain ⟨vG7, hvG7⟩ : ∃ x, x = Value.slice s7 (xg.length + 1) c7 := ⟨_, rfl⟩
                  have hO := Hc.out
                  rw [← hxn7, ← hxg7, ← hvN7, ← hvG7] at hO
                  rw [← hvN7, ← hvG7]
                  have hl7 : xn7.length ≤ 4 := by rw [hxn7]; simp; omega
                  have hm7 : xg7.length ≤ 15 := by rw [hxg7]; simp; omega
                  have HX7 := Lib.hid (And.intro hxn7 hxg7)
                  have HY7 := Lib.hid hO
                  clear hO hxn7 hxg7 hvN7 hvG7 Hc Hb Ha H9
                  have cb := (blk_all (blk_below HY7.out.2 hBw HW3.out.2.1)).1
                  go_wp2_with fail
                  go_loopw [15] (fun i wr => ∃ (k : Nat) (s : Option Addr) (cc : Nat), k ≤ c.outs.length ∧ i = .int .i64 k ∧ OutC wr B B c.inp xn7 xg7 ((c.outs.take k).map f) (vN7) (vG7) (.slice s k cc) ∧ Below B W3 wr) (fun i _ => c.outs.length - (intOf i).toNat)
                  case atStart => exact ⟨0, _, _, Nat.zero_le _, rfl, HY7.out.1, HY7.out.2⟩
                  case round =>
                    obtain ⟨k, s, cc, hk, rfl, hO, hbl⟩ := hrel
                    have hbox := blk_below hbl hBw HW3.out.2.1
                    have hsz : B < wr.heap.size := blk_lt hO.blk
                    have hlk : ((c.outs.take k).map f).length = k := by simp; omega
                    have hlk1 : k < c.outs.length → ((c.outs.take (k + 1)).map f).length = k + 1 := fun h => by simp; omega
                    have cb := (blk_all hbox).1
                    by_cases hlt : k < c.outs.length
                    · obtain ⟨x, hx⟩ := get_of_lt hlt
                      obtain ⟨xb, xf, rfl, hxb, zx⟩ := H.out.2.2.1.int (Below.refl _ _) hx
                      obtain ⟨x0, x1⟩ : 0 ≤ x ∧ x < 2 * c.vars := H.out.2.2.2.outs x (List.mem_of_getElem? hx)
                      have hS : ∀ W, Below B W3 W → W.heap[B]? = some (.cells #[Value.int .i64 c.inp, vN7, vG7, .slice s k cc] 26 (0, 0)) → (fun w' => (∀ o, w'.cell? ⟨B, o, none⟩ = #[Value.int .i64 c.inp, vN7, vG7, .slice s k cc][o]?) ∧ (∀ o, w'.cell? ⟨w.heap.size, o, none⟩ = #[Value.int .i64 c.inp, Value.slice sn c.next.length cn, Value.slice (some ⟨gb, gf, none⟩) c.gates.length cg, Value.slice (some ⟨xb, xf, none⟩) c.outs.length co][o]?) ∧ w'.cell? ⟨xb, xf + k, none⟩ = some (.int .i64 x)) W := fun W hW hB => ⟨(blk_all hB).1, (blk_all (blk_below hW hBw HW3.out.2.1)).1, ((HW3.out.1.trans (hW.mono (Nat.le_of_lt hBw))).cell (p := ⟨xb, xf + k, none⟩) hxb).trans zx⟩
                      have HR := Lib.hid (And.intro hO (And.intro hbl (And.intro hx (And.intro hlk (And.intro (hlk1 hlt) (And.intro (show x / 2 < c.vars by omega) hS))))))
                      clear hx x1 zx hxb
                      clear hO hlk hlk1 hbl hbox hS
                      go_upto_region 31 with fail
                      clear cb
                      refine wp_region_E (fun w' => (∀ o, w'.cell? ⟨B, o, none⟩ = #[Value.int .i64 c.inp, vN7, vG7, .slice s k cc][o]?) ∧ (∀ o, w'.cell? ⟨w.heap.size, o, none⟩ = #[Value.int .i64 c.inp, Value.slice sn c.next.length cn, Value.slice (some ⟨gb, gf, none⟩) c.gates.length cg, Value.slice (some ⟨xb, xf, none⟩) c.outs.length co][o]?) ∧ w'.cell? ⟨xb, xf + k, none⟩ = some (.int .i64 x)) 12 (.q 0 (.q 1 (.q 2 (.q 3 (.q 4 (.q 5 (.q 6 (.q 7 (.e 8 (.e 9 (.e 10 (.q 11 (.z 12))))))))))))) (by kernel_rfl) (by kernel_rfl) (by kernel_rfl) (by kernel_rfl) (by kernel_rfl) (by kernel_rfl) (HR.out.2.2.2.2.2.2 _ HR.out.2.1.drew HR.out.1.blk) ?_
                      repeat (first | (refine orde_s (o := ?_) ?_ ?_ ?_; rotate_left 1; (focus ((simp only [zD, zE, zF]) <;> rfl)); (focus rfl); simp only [Act.put, zA, zB, zC]) | (refine orde_q (o := ?_) (v := ?_) ?_ ?_ ?_ ?_; rotate_left 2; (focus ((simp only [zD, zE, zF]) <;> rfl)); (focus rfl); (focus (intro w' hS; (try dsimp only at hS); go_split_ands; go_simp; (try (with_reducible rfl)))); simp only [Act.put, zA, zB, zC]))
                      refine orde_e ?_
                      (refine ope_e (o := ?_) ?_ ?_ (fun K hK => ?_); rotate_left 1; (focus ((simp only [zD, zE, zF]) <;> rfl)); (focus rfl); go_simp)
                      refine (HLM.out _ (x) HR.out.2.1.drew x0 HR.out.2.2.2.2.2.1).mono ?_
                      rintro e wa ⟨rfl, rfl⟩
                      refine hK.out _ _ (HR.out.2.2.2.2.2.2 _ HR.out.2.1.drew HR.out.1.blk) ?_
                      clear hK K
                      (try simp only [Act.put, zA, zB, zC])
                      refine orde_e ?_
                      (refine ope_e (o := ?_) ?_ ?_ (fun K hK => ?_); rotate_left 1; (focus ((simp only [zD, zE, zF]) <;> rfl)); (focus rfl); go_simp)
                      have hb1 : Below wr.heap.size wr (wr.alloc (.cells #[.int .i64 (f x)] 3)).drew := ((Below.refl _ _).alloc (Nat.le_refl _) _).drew
                      have hs1 : Sl (wr.alloc (.cells #[.int .i64 (f x)] 3)).drew (some ⟨wr.heap.size, 0, none⟩) [.int .i64 (f x)] := (Sl.new wr _ _).drew
                      revert hb1 hs1
                      generalize (wr.alloc (.cells #[.int .i64 (f x)] 3)).drew = W1
                      intro hb1 hs1
                      have hO1 := HR.out.1.below hb1
                      have hB1 := HR.out.2.1.trans (hb1.mono (Nat.le_of_lt hsz))
                      refine hK.out _ _ (HR.out.2.2.2.2.2.2 _ hB1 hO1.blk) ?_
                      clear hK K
                      have HW1 := Lib.hid (And.intro hO1 (And.intro hs1 hB1))
                      have hs1z : B < W1.heap.size := blk_lt hO1.blk
                      clear hO1 hb1 hs1 hB1
                      (try simp only [Act.put, zA, zB, zC])
                      refine orde_e ?_
                      (refine ope_e (o := ?_) ?_ ?_ (fun K hK => ?_); rotate_left 1; (focus ((simp only [zD, zE, zF]) <;> rfl)); (focus rfl))
                      refine wp_app (.tmp 188) (.tmp 196) rfl elem_int (by have h1 := HW1.out.1.o; rw [HR.out.2.2.2.1] at h1; exact h1) rfl rfl (by simp) HW1.out.2.1 (by simp [Value.oneCell']) (k + 1) rfl (ints ((c.outs.take (k + 1)).map f)) (by rw [map_snoc HR.out.2.2.1, ← ints_append]; rfl) (by unfold maxLen; omega) (by omega) (by omega) ?_
                      intro s6 c6 W2 ho6 hb6 hg6 hob6
                      obtain ⟨hB2, hO2⟩ := HW1.out.1.pushO hg6 (xo' := ((c.outs.take (k + 1)).map f)) (by rw [HR.out.2.2.2.2.1]; exact ho6) hob6
                      have hbb := HW1.out.2.2.trans hb6
                      refine hK.out _ _ (HR.out.2.2.2.2.2.2 _ hbb hB2) ?_
                      clear hK K
                      have y1 : W2.cell? ⟨B, 3, none⟩ = some (.slice s k cc) := blk_cell hB2
                      have y2 : W2.frozen? ⟨B, 3, none⟩ = false := blk_free hB2
                      have HW2 := Lib.hid (And.intro hO2 hbb)
                      clear hB2 hO2 ho6 hb6 hg6 hob6 hbb
                      (try simp only [Act.put, zA, zB, zC])
                      repeat (first | (refine orde_s (o := ?_) ?_ ?_ ?_; rotate_left 1; (focus ((simp only [zD, zE, zF]) <;> rfl)); (focus rfl); simp only [Act.put, zA, zB, zC]) | (refine orde_q (o := ?_) (v := ?_) ?_ ?_ ?_ ?_; rotate_left 2; (focus ((simp only [zD, zE, zF]) <;> rfl)); (focus rfl); (focus (intro w' hS; (try dsimp only at hS); go_split_ands; go_simp; (try (with_reducible rfl)))); simp only [Act.put, zA, zB, zC]))
                      (refine orde_z (o := ?_) ?_ ?_ (fun K hK => ?_); rotate_left 1; (focus ((simp only [zD, zE, zF]) <;> rfl)); (focus rfl); go_simp)
                      refine hK.out _ _ ?_
                      clear hK K y1 y2
                      go_wp2_with fail
                      go_roundw
                      case rel => exact ⟨k + 1, s6, c6, by omega, by go_num, HW2.out.1, HW2.out.2.setCell (p := ⟨B, 3, none⟩) (Nat.le_refl _) _⟩
                      case measure => simp [intOf]; omega
                    · obtain rfl : k = c.outs.length := by omega
                      rw [List.take_length] at hO
                      obtain ⟨vX3, hvX⟩ : ∃ vX, vX = Value.slice s c.outs.length cc := ⟨_, rfl⟩
                      rw [← hvX] at hO
                      have HvX3 : Hid (∃ s' c', vX3 = Value.slice s' c.outs.length c') := ⟨_, _, hvX⟩
                      have HY3 := Lib.hid (And.intro hO hbl)
                      clear hO hbl hlk hlk1 hvX hbox
                      have hO := HY3.out.1
                      obtain ⟨sN7, cN7, rfl⟩ := own_shape hO.n
                      obtain ⟨sG7, cG7, rfl⟩ := own_shape hO.g
                      obtain ⟨sO, cO, rfl⟩ := HvX3.out
                      have hres := blk_below HY3.out.2 hBr HW3.out.2.2.2
                      have cB := (blk_all hO.blk).1
                      obtain ⟨rc, rf⟩ := blk_all hres
                      have hown : CirOwn wr B (retR c kk) (.slice sN7 xn7.length cN7) (.slice sG7 xg7.length cG7) (.slice sO c.outs.length cO) := by
                        have e1 : c.next.map f ++ [2 * ((F : Int) + 1 + c.gates.length) + t] = xn7 := by rw [HX7.out.1, HXN.out.1, show 2 * ((F : Int) + 1 + c.gates.length) + t = 2 * ((V : Int) + 1) + t by have := HF.out.2.2; omega]
                        have e2 : mapG f c.gates ++ [⟨f (xr ya (gg.a % 2)), f (xr yb (gg.b % 2))⟩] = xg7 := by rw [HX7.out.2, HXN.out.2.1]
                        rw [HR.out, e1, e2]
                        refine ⟨hO.n, hO.g, hO.o, hO.ne, ?_, ?_, ?_⟩
                        · show xn7.length ≤ _; omega
                        · show xg7.length ≤ _; omega
                        · simp; omega
                      have hinp : (retR c kk).inp = c.inp := by rw [HR.out]
                      have HQ : Hid (Box2 w wr (.cells #[.int .i64 c.inp, .slice sn c.next.length cn, .slice (some ⟨gb, gf, none⟩) c.gates.length cg, .slice so c.outs.length co] 26) (.cells #[.int .i64 0, .slice none 0 0, .slice none 0 0, .slice none 0 0] 26)) := ⟨HW3.out.1.trans (HY3.out.2.mono (Nat.le_of_lt hBw)), blk_below HY3.out.2 hBw HW3.out.2.1, hres⟩
                      have HF2 := Lib.hid hown
                      clear hO hown hres
                      go_wp2_with fail
                      clear cb cB
                      rw [hinp]
                      have hZ : ((((wr.setCell ⟨w.heap.size + 1, 0, none⟩ (.int .i64 c.inp)).setCell ⟨w.heap.size + 1, 1, none⟩ (.slice sN7 xn7.length cN7)).setCell ⟨w.heap.size + 1, 2, none⟩ (.slice sG7 xg7.length cG7)).setCell ⟨w.heap.size + 1, 3, none⟩ (.slice sO c.outs.length cO)).heap[w.heap.size + 1]? = some (.cells #[.int .i64 c.inp, .slice sN7 xn7.length cN7, .slice sG7 xg7.length cG7, .slice sO c.outs.length cO] 26 (0, 0)) := by
                        simpa using blk_set (o := 3) (v := .slice sO c.outs.length cO) (blk_set (o := 2) (v := .slice sG7 xg7.length cG7) (blk_set (o := 1) (v := .slice sN7 xn7.length cN7) (blk_set (o := 0) (v := .int .i64 c.inp) HQ.out.c)))
                      have hR := (HF2.out).sets4 (r := w.heap.size + 1) (by omega) (base := w.heap.size) (by omega) (a := .int .i64 c.inp) (b' := .slice sN7 xn7.length cN7) (c' := .slice sG7 xg7.length cG7) (d := .slice sO c.outs.length cO)
                      have hB := ((((HQ.out.bl).setCell (p := ⟨w.heap.size + 1, 0, none⟩) (by simp) (.int .i64 c.inp)).setCell (p := ⟨w.heap.size + 1, 1, none⟩) (by simp) (.slice sN7 xn7.length cN7)).setCell (p := ⟨w.heap.size + 1, 2, none⟩) (by simp) (.slice sG7 xg7.length cG7)).setCell (p := ⟨w.heap.size + 1, 3, none⟩) (by simp) (.slice sO c.outs.length cO)
                      revert hZ hR hB
                      generalize ((((wr.setCell ⟨w.heap.size + 1, 0, none⟩ (.int .i64 c.inp)).setCell ⟨w.heap.size + 1, 1, none⟩ (.slice sN7 xn7.length cN7)).setCell ⟨w.heap.size + 1, 2, none⟩ (.slice sG7 xg7.length cG7)).setCell ⟨w.heap.size + 1, 3, none⟩ (.slice sO c.outs.length cO)) = WZ
                      intro hZ hR hB
                      have cr := (blk_all hZ).1
                      exact bodyPost_ret (v := .agg #[.int .i64 c.inp, .slice sN7 xn7.length cN7, .slice sG7 xg7.length cG7, .slice sO c.outs.length cO]) (by simp [results, Try.results24, go_sem, cr]) rfl ⟨_, _, _, rfl, hR, hB⟩

end Go.Proofs.Ytbcolcchchgldaa
