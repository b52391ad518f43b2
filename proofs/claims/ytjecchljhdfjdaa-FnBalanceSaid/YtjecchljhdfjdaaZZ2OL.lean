import Derived.Test.YtjecchljhdfjdaaZZ2OK
import Derived.Test.YtjecchljhdfjdaaZZ2L4
namespace Go.Proofs.Ytjecchljhdfjdaa
set_option linter.unusedVariables false
set_option linter.unusedSimpArgs false
open Go.RowKit

/-! Part of the proof of one law. -/

def lvS (ls : List Int) (g : Gt) : List Int := ls ++ [1 + max (ls.getD (g.a / 2).toNat 0) (ls.getD (g.b / 2).toNat 0)]

def lvlL (F : Nat) (gs : List Gt) : List Int := gs.foldl lvS (List.replicate F 0)

theorem lvlL_snoc (F : Nat) (gs : List Gt) (g : Gt) : lvlL F (gs ++ [g]) = lvS (lvlL F gs) g := by unfold lvlL; rw [List.foldl_append]; rfl

theorem lvlL_length (F : Nat) (gs : List Gt) : (lvlL F gs).length = F + gs.length := by
  have : ∀ (ls : List Int), (gs.foldl lvS ls).length = ls.length + gs.length := by
    induction gs with
    | nil => intro ls; rfl
    | cons g gs ih => intro ls; simp only [List.foldl_cons]; rw [ih]; simp [lvS]; omega
  unfold lvlL; rw [this]; simp

theorem lvlL_bd (F : Nat) (gs : List Gt) : ∀ x ∈ lvlL F gs, 0 ≤ x ∧ x ≤ gs.length := by
  have : ∀ (ls : List Int) (B : Int), 0 ≤ B → (∀ x ∈ ls, 0 ≤ x ∧ x ≤ B) → ∀ x ∈ gs.foldl lvS ls, 0 ≤ x ∧ x ≤ B + gs.length := by
    induction gs with
    | nil => intro ls B _ h x hx; have := h x hx; simp; omega
    | cons g gs ih =>
      intro ls B hB h x hx
      simp only [List.foldl_cons] at hx
      have hd : ∀ k : Nat, 0 ≤ ls.getD k 0 ∧ ls.getD k 0 ≤ B := fun k => by
        rw [List.getD_eq_getElem?_getD]
        cases e : ls[k]? with
        | none => simp; omega
        | some y => simpa using h y (List.mem_of_getElem? e)
      have := ih (lvS ls g) (B + 1) (by omega) (fun y hy => by
        unfold lvS at hy
        rcases List.mem_append.1 hy with hy | hy
        · have := h y hy; omega
        · simp at hy
          have h1 := hd (g.a / 2).toNat
          have h2 := hd (g.b / 2).toNat
          rw [hy]
          simp only [List.getD_eq_getElem?_getD] at h1 h2
          omega) x hx
      simp; omega
  intro x hx
  have := this (List.replicate F 0) 0 (by omega) (fun y hy => by have := (List.mem_replicate.1 hy).2; omega) x hx
  omega

structure BX (F : Nat) (W0 : World) (bb mb : Nat) (gs : List Gt) (ls : List Int) (ms : List Gt) (vg vl : Value) (W : World) : Prop where
  blk : W.heap[bb]? = some (.cells #[.int .i64 F, vg, vl, .map (some mb)] 89 (0, 0))
  g : W.ownsRow W0.heap.size 24 2 vg gs.length (gcells gs)
  l : W.ownsRow W0.heap.size 3 1 vl ls.length (ints ls)
  map : MapG F W mb ms
  bl : Below W0.heap.size W0 W
  hb : W0.heap.size ≤ bb
  hm : W0.heap.size ≤ mb

theorem BX.below {F : Nat} {W0 W W' : World} {bb mb : Nat} {gs : List Gt} {ls : List Int} {ms : List Gt} {vg vl : Value} (h : BX F W0 bb mb gs ls ms vg vl W) (hq : Below W.heap.size W W') : BX F W0 bb mb gs ls ms vg vl W' :=
  ⟨blk_below hq (blk_lt h.blk) h.blk, own_below h.g hq, own_below h.l hq, h.map.below hq, h.bl.trans (hq.mono h.bl.size), h.hb, h.hm⟩

theorem BX.ne {F : Nat} {W0 W : World} {bb mb : Nat} {gs : List Gt} {ls : List Int} {ms : List Gt} {vg vl : Value} (h : BX F W0 bb mb gs ls ms vg vl W) : bb ≠ mb := by
  intro e; subst e; exact mapg_nocell h.map h.blk

theorem BX.cells {F : Nat} {W0 W : World} {bb mb : Nat} {gs : List Gt} {ls : List Int} {ms : List Gt} {vg vl : Value} (h : BX F W0 bb mb gs ls ms vg vl W) : (∀ o, W.cell? ⟨bb, o, none⟩ = #[Value.int .i64 F, vg, vl, .map (some mb)][o]?) ∧ ∀ o, W.frozen? ⟨bb, o, none⟩ = false := blk_all h.blk

theorem BX.putM {F : Nat} {W0 W W' : World} {bb mb : Nat} {gs : List Gt} {ls : List Int} {ms ms' : List Gt} {vg vl : Value} (h : BX F W0 bb mb gs ls ms vg vl W) (hg : W.grownBy W' (some mb)) (hmap : MapG F W' mb ms') : BX F W0 bb mb gs ls ms' vg vl W' := by
  have hc := Chg.of_grown hg
  refine ⟨by rw [hg.block bb (blk_lt h.blk) (fun e => h.ne (by cases e; rfl))]; exact h.blk, hc.own h.g (fun k hk hs => own_nomapg h.g h.map (by rw [hk]; exact hs.symm)), hc.own h.l (fun k hk hs => own_nomapg h.l h.map (by rw [hk]; exact hs.symm)), hmap, h.bl.trans (hc.below h.bl.size (fun k hk hs => ?_)), h.hb, h.hm⟩
  cases hs; have := h.hm; omega

theorem BX.pushG {F : Nat} {W0 W W2 : World} {bb mb : Nat} {gs gs' : List Gt} {ls : List Int} {ms : List Gt} {vg vg' vl : Value} (h : BX F W0 bb mb gs ls ms vg vl W) (hg : W.grownBy W2 vg.ownBlock) (ho : W2.ownsRow W0.heap.size 24 2 vg' gs'.length (gcells gs')) :
    W2.heap[bb]? = some (.cells #[.int .i64 F, vg, vl, .map (some mb)] 89 (0, 0)) ∧ BX F W0 bb mb gs' ls ms vg' vl (W2.setCell ⟨bb, 1, none⟩ vg') := by
  have hc := Chg.of_grown hg
  have n1 := own_tyb h.g h.blk (by decide)
  have hb2 := hc.blk h.blk n1
  obtain ⟨es, clock, m1, m2⟩ := h.map
  have hm2 := hc.blk m1 (own_nomapg h.g h.map)
  have hl := hc.own h.l (fun k hk hs => own_ty h.l h.g (by decide) hk hs)
  refine ⟨hb2, by simpa using blk_set (o := 1) (v := vg') hb2, own_set_ne ho (own_tyb ho hb2 (by decide)) _, own_set_ne hl (own_tyb hl hb2 (by decide)) _, ⟨es, clock, blk_set_ne h.ne hm2, m2⟩, (h.bl.trans (hc.below h.bl.size (fun k hk hs => by have := (own_blk h.g hs).1; omega))).setCell (p := ⟨bb, 1, none⟩) h.hb _, h.hb, h.hm⟩

theorem BX.pushL {F : Nat} {W0 W W2 : World} {bb mb : Nat} {gs : List Gt} {ls ls' : List Int} {ms : List Gt} {vg vl vl' : Value} (h : BX F W0 bb mb gs ls ms vg vl W) (hg : W.grownBy W2 vl.ownBlock) (ho : W2.ownsRow W0.heap.size 3 1 vl' ls'.length (ints ls')) :
    W2.heap[bb]? = some (.cells #[.int .i64 F, vg, vl, .map (some mb)] 89 (0, 0)) ∧ BX F W0 bb mb gs ls' ms vg vl' (W2.setCell ⟨bb, 2, none⟩ vl') := by
  have hc := Chg.of_grown hg
  have n1 := own_tyb h.l h.blk (by decide)
  have hb2 := hc.blk h.blk n1
  obtain ⟨es, clock, m1, m2⟩ := h.map
  have hm2 := hc.blk m1 (own_nomapg h.l h.map)
  have hgg := hc.own h.g (fun k hk hs => own_ty h.g h.l (by decide) hk hs)
  refine ⟨hb2, by simpa using blk_set (o := 2) (v := vl') hb2, own_set_ne hgg (own_tyb hgg hb2 (by decide)) _, own_set_ne ho (own_tyb ho hb2 (by decide)) _, ⟨es, clock, blk_set_ne h.ne hm2, m2⟩, (h.bl.trans (hc.below h.bl.size (fun k hk hs => by have := (own_blk h.l hs).1; omega))).setCell (p := ⟨bb, 2, none⟩) h.hb _, h.hb, h.hm⟩

theorem Chg.set {S : Nat → Prop} (w : World) {b : Nat} (o : Nat) (v : Value) (h : S b) : Chg S w (w.setCell ⟨b, o, none⟩ v) :=
  ⟨rfl, rfl, rfl, by simp, fun k _ hn => blk_set_ne (fun e => hn (e ▸ h)) rfl⟩

/-- The blocks that the builder may turn. -/
def adS (bb mb : Nat) (vg vl : Value) : Nat → Prop := fun k => k = bb ∨ k = mb ∨ vg.ownBlock = some k ∨ vl.ownBlock = some k

def AdPost (F : Nat) (W0 : World) (bb mb : Nat) (vg vl : Value) (w : World) (r : List Gt × Int) (e : Ending) (w' : World) : Prop :=
  ∃ vg' vl', e = .returned (.int .i64 r.2) ∧ BX F W0 bb mb r.1 (lvlL F r.1) r.1 vg' vl' w' ∧ Chg (adS bb mb vg vl) w w' ∧ (vl'.ownBlock = vl.ownBlock ∨ ∀ k, vl'.ownBlock = some k → w.heap.size ≤ k)

set_option maxRecDepth 100000 in
set_option maxHeartbeats 3200000 in
theorem and_lt (F : Nat) (W0 : World) (bb mb : Nat) (gs : List Gt) (vg vl : Value) (x y : Int) (w : World) (h : BX F W0 bb mb gs (lvlL F gs) gs vg vl w) (hx : 0 ≤ x ∧ x / 2 < (F : Int) + gs.length) (hy : 0 ≤ y ∧ y / 2 < (F : Int) + gs.length) (hF : F ≤ 10) (hgl : gs.length ≤ 130) (hxy : y < x) :
    Calls Try.prog 73 #[.pointer (some ⟨bb, 0, none⟩), .int .i64 x, .int .i64 y] w (AdPost F W0 bb mb vg vl w (andL F gs x y)) := by
  obtain ⟨x0, x1⟩ := hx
  obtain ⟨y0, y1⟩ := hy
  have H := Lib.hid h
  clear h
  obtain ⟨R, hR⟩ : ∃ R, R = andL (F : Int) gs x y := ⟨_, rfl⟩
  rw [← hR]
  have hRK : R = andK F gs y x := by rw [hR]; unfold andL; rw [if_pos hxy]
  have HR := Lib.hid hRK
  have hle : y ≤ x := by omega
  have hx80 : y ≤ 300 := by omega
  have hy80 : x ≤ 300 := by omega
  obtain ⟨z, hz⟩ : ∃ z, bits .xor .i64 x 1 = z := ⟨_, rfl⟩
  have hzx : z = xrb x 1 := by rw [← hz]; exact bits_xrb x 1 (by omega) hy80 (.inr rfl)
  have hz2 : y = z ↔ (y = x - 1 ∧ y % 2 = 0) := by rw [hzx]; unfold xrb; omega
  have HZ := Lib.hid hz2
  clear hR hRK hzx hz2
  go_enter Try.func73, Try.ntmps73
  go_upto_region 3 with fail
  clear hxy
  by_cases hx0 : y = 0
  · go_wp2_with fail
    go_ret
    have e0 := HR.out
    rw [andK_zero (.inl hx0)] at e0
    exact ⟨vg, vl, by rw [e0]; rfl, by rw [e0]; exact H.out, Chg.refl _ _, .inl rfl⟩
  · have HX0 := Lib.hid hx0
    have c1 : (y == 0) = false := by simpa using hx0
    clear hx0
    by_cases hx2 : y = z
    · have HX2 := Lib.hid hx2
      have c2 : (y == z) = true := by simpa using hx2
      clear hx2
      go_wp2_with fail
      go_ret
      have e0 := HR.out
      rw [andK_zero (.inr (HZ.out.1 HX2.out))] at e0
      exact ⟨vg, vl, by rw [e0]; rfl, by rw [e0]; exact H.out, Chg.refl _ _, .inl rfl⟩
    · have HN0 : Hid (¬ (y = 0 ∨ (y = x - 1 ∧ y % 2 = 0))) := fun h => h.elim HX0.out (fun h => hx2 (HZ.out.2 h))
      have c2 : (y == z) = false := by simpa using hx2
      clear hx2
      by_cases hx4 : y = 1
      · have HX4 := Lib.hid hx4
        have c4 : (y == 1) = true := by simpa using hx4
        clear hx4
        go_wp2_with fail
        go_ret
        have e0 := HR.out
        rw [andK_same HN0.out (.inl HX4.out)] at e0
        exact ⟨vg, vl, by rw [e0]; rfl, by rw [e0]; exact H.out, Chg.refl _ _, .inl rfl⟩
      · by_cases hx5 : y = x
        · have HX4 := Lib.hid hx5
          have c4 : (y == 1) = false := by simpa using hx4
          have c5 : (y == x) = true := by simpa using hx5
          clear hx4 hx5
          go_wp2_with fail
          go_ret
          have e0 := HR.out
          rw [andK_same HN0.out (.inr HX4.out)] at e0
          exact ⟨vg, vl, by rw [e0]; rfl, by rw [e0]; exact H.out, Chg.refl _ _, .inl rfl⟩
        · have HN1 : Hid (¬ (y = 1 ∨ y = x)) := fun h => h.elim hx4 hx5
          have c4 : (y == 1) = false := by simpa using hx4
          have c5 : (y == x) = false := by simpa using hx5
          clear hx4 hx5
          go_upto_region 8 with fail
          obtain ⟨sg, cg, rfl⟩ := own_shape H.out.g
          obtain ⟨S, hS⟩ : ∃ S, S = adS bb mb (.slice sg gs.length cg) vl := ⟨_, rfl⟩
          have HSS := Lib.hid hS
          have HSd : Hid (S bb ∧ S mb ∧ (∀ k, (Value.slice sg gs.length cg).ownBlock = some k → S k) ∧ ∀ k, vl.ownBlock = some k → S k) := (by rw [hS]; exact ⟨.inl rfl, .inr (.inl rfl), fun k h => .inr (.inr (.inl h)), fun k h => .inr (.inr (.inr h))⟩ : S bb ∧ S mb ∧ (∀ k, (Value.slice sg gs.length cg).ownBlock = some k → S k) ∧ ∀ k, vl.ownBlock = some k → S k)
          clear hS
          have hk := blk_new w (.cells #[.int .i64 y, .int .i64 x] 24)
          have h3 := H.out.below ((Below.refl w.heap.size w).alloc (Nat.le_refl _) (.cells #[.int .i64 y, .int .i64 x] 24))
          have hc3 : Chg S w (w.alloc (.cells #[.int .i64 y, .int .i64 x] 24)) := Chg.of_below ((Below.refl w.heap.size w).alloc (Nat.le_refl _) _)
          have hbp : bb < w.heap.size := blk_lt H.out.blk
          have hgp : ∀ k, (Value.slice sg gs.length cg).ownBlock = some k → k < w.heap.size := fun k hk => (own_blk H.out.g hk).2
          have hlp : ∀ k, vl.ownBlock = some k → k < w.heap.size := fun k hk => (own_blk H.out.l hk).2
          have hmp := H.out.map.lt
          obtain ⟨p, hp⟩ : ∃ p, p = w.heap.size := ⟨_, rfl⟩
          rw [← hp] at hk hbp hgp hlp hmp
          rw [← hp]
          have HGP := Lib.hid (And.intro hgp hlp)
          clear hp H hgp hlp
          revert hk h3 hc3
          generalize w.alloc (.cells #[.int .i64 y, .int .i64 x] 24) = W3
          intro h3 hc3 hk
          have HC5 := Lib.hid (hc3.trans (Chg.of_below (Below.refl W3.heap.size W3).drew))
          have H5 := Lib.hid (And.intro (h3.below (Below.refl _ _).drew) (blk_below (Below.refl _ _).drew (blk_lt hk) hk))
          clear h3 hk hc3
          refine wp_region_T (fun w' => (∀ o, w'.cell? ⟨bb, o, none⟩ = #[Value.int .i64 F, .slice sg gs.length cg, vl, .map (some mb)][o]?) ∧ (∀ o, w'.cell? ⟨p, o, none⟩ = #[Value.int .i64 y, .int .i64 x][o]?)) (.q 0 (.q 1 (.q 2 (.q 3 (.q 4 (.e 5 (.q 6 (.q 7 (.q 8 (.q 9 (.q 10 .nil))))))))))) (by kernel_rfl) (by kernel_rfl) (by kernel_rfl) ⟨H5.out.1.cells.1, (blk_all H5.out.2).1⟩ ?_
          generalize W3.drew = W5 at H5 HC5 ⊢
          have hlk := mapg_lookup H5.out.1.map ⟨y, x⟩
          unfold Gt.agg at hlk
          dsimp only at hlk
          cases hf : fndG gs ⟨y, x⟩ 0 with
          | some i =>
            have HF := Lib.hid hf
            rw [hf] at hlk
            dsimp only at hlk
            clear hf
            repeat (first | (refine ordt_s (o := ?_) ?_ ?_ ?_; rotate_left 1; (focus ((simp only [zD, zE, zF]) <;> rfl)); (focus rfl); simp only [Act.put, zA, zB, zC]) | (refine ordt_q (o := ?_) (v := ?_) ?_ ?_ ?_ ?_; rotate_left 2; (focus ((simp only [zD, zE, zF]) <;> rfl)); (focus rfl); (focus (intro w' hS; (try dsimp only at hS); go_split_ands; go_simp; (try (with_reducible rfl)))); simp only [Act.put, zA, zB, zC]))
            refine ordt_e ?_
            (refine op_e (o := ?_) ?_ ?_ (fun K hK => ?_); rotate_left 1; (focus ((simp only [zD, zE, zF]) <;> rfl)); (focus rfl); go_simp)
            refine hK.out _ _ ⟨H5.out.1.cells.1, (blk_all H5.out.2).1⟩ ?_
            clear hK K
            (try simp only [Act.put, zA, zB, zC])
            repeat (first | (refine ordt_s (o := ?_) ?_ ?_ ?_; rotate_left 1; (focus ((simp only [zD, zE, zF]) <;> rfl)); (focus rfl); simp only [Act.put, zA, zB, zC]) | (refine ordt_q (o := ?_) (v := ?_) ?_ ?_ ?_ ?_; rotate_left 2; (focus ((simp only [zD, zE, zF]) <;> rfl)); (focus rfl); (focus (intro w' hS; (try dsimp only at hS); go_split_ands; go_simp; (try (with_reducible rfl)))); simp only [Act.put, zA, zB, zC]))
            refine ordt_nil ?_
            go_wp2_with fail
            go_ret
            have e0 := HR.out
            rw [andK_old HN0.out HN1.out HF.out] at e0
            exact ⟨_, _, by rw [e0]; rfl, by rw [e0]; exact H5.out.1, by rw [← HSS.out]; exact HC5.out, .inl rfl⟩
          | none =>
            have HF := Lib.hid hf
            rw [hf] at hlk
            dsimp only at hlk
            clear hf
            repeat (first | (refine ordt_s (o := ?_) ?_ ?_ ?_; rotate_left 1; (focus ((simp only [zD, zE, zF]) <;> rfl)); (focus rfl); simp only [Act.put, zA, zB, zC]) | (refine ordt_q (o := ?_) (v := ?_) ?_ ?_ ?_ ?_; rotate_left 2; (focus ((simp only [zD, zE, zF]) <;> rfl)); (focus rfl); (focus (intro w' hS; (try dsimp only at hS); go_split_ands; go_simp; (try (with_reducible rfl)))); simp only [Act.put, zA, zB, zC]))
            refine ordt_e ?_
            (refine op_e (o := ?_) ?_ ?_ (fun K hK => ?_); rotate_left 1; (focus ((simp only [zD, zE, zF]) <;> rfl)); (focus rfl); go_simp)
            refine hK.out _ _ ⟨H5.out.1.cells.1, (blk_all H5.out.2).1⟩ ?_
            clear hK K hlk
            (try simp only [Act.put, zA, zB, zC])
            repeat (first | (refine ordt_s (o := ?_) ?_ ?_ ?_; rotate_left 1; (focus ((simp only [zD, zE, zF]) <;> rfl)); (focus rfl); simp only [Act.put, zA, zB, zC]) | (refine ordt_q (o := ?_) (v := ?_) ?_ ?_ ?_ ?_; rotate_left 2; (focus ((simp only [zD, zE, zF]) <;> rfl)); (focus rfl); (focus (intro w' hS; (try dsimp only at hS); go_split_ands; go_simp; (try (with_reducible rfl)))); simp only [Act.put, zA, zB, zC]))
            refine ordt_nil ?_
            go_upto_region 10 with fail
            have wa : IntKind.i64.wrap ((F : Int) + (gs.length : Int)) = (F : Int) + (gs.length : Int) := IntWalk.i64_in _ ⟨by omega, by omega⟩
            have wb : IntKind.i64.wrap (2 * ((F : Int) + (gs.length : Int))) = 2 * ((F : Int) + (gs.length : Int)) := IntWalk.i64_in _ ⟨by omega, by omega⟩
            have H6 := Lib.hid (And.intro (H5.out.1.below (Below.refl _ _).drew) (blk_below (Below.refl _ _).drew (blk_lt H5.out.2) H5.out.2))
            have HC6 := Lib.hid (HC5.out.trans (Chg.of_below (Below.refl W5.heap.size W5).drew))
            clear H5
            refine wp_region_T (fun w' => (∀ o, w'.cell? ⟨bb, o, none⟩ = #[Value.int .i64 F, .slice sg gs.length cg, vl, .map (some mb)][o]?) ∧ (∀ o, w'.cell? ⟨p, o, none⟩ = #[Value.int .i64 y, .int .i64 x][o]?)) (.q 0 (.q 1 (.q 2 (.q 3 (.q 4 (.q 5 (.q 6 (.q 7 (.q 8 (.q 9 (.q 10 (.q 11 .nil)))))))))))) (by kernel_rfl) (by kernel_rfl) (by kernel_rfl) ⟨H6.out.1.cells.1, (blk_all H6.out.2).1⟩ ?_
            generalize W5.drew = W6 at H6 HC6 ⊢
            repeat (first | (refine ordt_s (o := ?_) ?_ ?_ ?_; rotate_left 1; (focus ((simp only [zD, zE, zF]) <;> rfl)); (focus rfl); simp only [Act.put, zA, zB, zC]) | (refine ordt_q (o := ?_) (v := ?_) ?_ ?_ ?_ ?_; rotate_left 2; (focus ((simp only [zD, zE, zF]) <;> rfl)); (focus rfl); (focus (intro w' hS; (try dsimp only at hS); go_split_ands; go_simp; (try (with_reducible rfl)))); simp only [Act.put, zA, zB, zC]))
            refine ordt_nil ?_
            go_upto_region 11 with fail
            have H7 := Lib.hid (And.intro (H6.out.1.below (Below.refl _ _).drew) (blk_below (Below.refl _ _).drew (blk_lt H6.out.2) H6.out.2))
            have HC7 := Lib.hid (HC6.out.trans (Chg.of_below (Below.refl W6.heap.size W6).drew))
            clear H6 wa wb
            refine wp_region_T (fun w' => (∀ o, w'.cell? ⟨bb, o, none⟩ = #[Value.int .i64 F, .slice sg gs.length cg, vl, .map (some mb)][o]?) ∧ (∀ o, w'.cell? ⟨p, o, none⟩ = #[Value.int .i64 y, .int .i64 x][o]?)) (.q 0 (.q 1 (.q 2 (.q 3 (.q 4 (.q 5 (.e 6 .nil))))))) (by kernel_rfl) (by kernel_rfl) (by kernel_rfl) ⟨H7.out.1.cells.1, (blk_all H7.out.2).1⟩ ?_
            generalize W6.drew = W7 at H7 HC7 ⊢
            obtain ⟨W8, hrun, hmap, hgr, hsz⟩ := mapg_update H7.out.1.map ⟨y, x⟩ HF.out
            unfold Gt.agg at hrun
            dsimp only at hrun
            have g1 := H7.out.1.putM hgr hmap
            have gp : W8.heap[p]? = some (.cells #[.int .i64 y, .int .i64 x] 24 (0, 0)) := by
              rw [hgr.block p (blk_lt H7.out.2) (by simp; omega)]; exact H7.out.2
            have H8 := Lib.hid (And.intro g1 gp)
            have HC8 := Lib.hid (HC7.out.trans ((Chg.of_grown hgr).mono (fun k e => by cases e; exact HSd.out.2.1)))
            clear g1 gp hmap hgr hsz H7
            repeat (first | (refine ordt_s (o := ?_) ?_ ?_ ?_; rotate_left 1; (focus ((simp only [zD, zE, zF]) <;> rfl)); (focus rfl); simp only [Act.put, zA, zB, zC]) | (refine ordt_q (o := ?_) (v := ?_) ?_ ?_ ?_ ?_; rotate_left 2; (focus ((simp only [zD, zE, zF]) <;> rfl)); (focus rfl); (focus (intro w' hS; (try dsimp only at hS); go_split_ands; go_simp; (try (with_reducible rfl)))); simp only [Act.put, zA, zB, zC]))
            refine ordt_e ?_
            (refine op_e (o := ?_) ?_ ?_ (fun K hK => ?_); rotate_left 1; (focus ((simp only [zD, zE, zF]) <;> rfl)); (focus rfl); go_simp)
            refine hK.out _ _ ⟨H8.out.1.cells.1, (blk_all H8.out.2).1⟩ ?_
            clear hK K hrun
            (try simp only [Act.put, zA, zB, zC])
            repeat (first | (refine ordt_s (o := ?_) ?_ ?_ ?_; rotate_left 1; (focus ((simp only [zD, zE, zF]) <;> rfl)); (focus rfl); simp only [Act.put, zA, zB, zC]) | (refine ordt_q (o := ?_) (v := ?_) ?_ ?_ ?_ ?_; rotate_left 2; (focus ((simp only [zD, zE, zF]) <;> rfl)); (focus rfl); (focus (intro w' hS; (try dsimp only at hS); go_split_ands; go_simp; (try (with_reducible rfl)))); simp only [Act.put, zA, zB, zC]))
            refine ordt_nil ?_
            go_upto_region 12 with fail
            have H9 := Lib.hid (And.intro (H8.out.1.below (Below.refl _ _).drew) (blk_below (Below.refl _ _).drew (blk_lt H8.out.2) H8.out.2))
            have HC9 := Lib.hid (HC8.out.trans (Chg.of_below (Below.refl W8.heap.size W8).drew))
            clear H8
            refine wp_region_E (fun w' => (∀ o, w'.cell? ⟨bb, o, none⟩ = #[Value.int .i64 F, .slice sg gs.length cg, vl, .map (some mb)][o]?) ∧ (∀ o, w'.cell? ⟨p, o, none⟩ = #[Value.int .i64 y, .int .i64 x][o]?)) 10 (.q 0 (.q 1 (.q 2 (.q 3 (.q 4 (.q 5 (.e 6 (.e 7 (.q 8 (.q 9 (.z 10))))))))))) (by kernel_rfl) (by kernel_rfl) (by kernel_rfl) (by kernel_rfl) (by kernel_rfl) (by kernel_rfl) ⟨H9.out.1.cells.1, (blk_all H9.out.2).1⟩ ?_
            generalize W8.drew = W9 at H9 HC9 ⊢
            repeat (first | (refine orde_s (o := ?_) ?_ ?_ ?_; rotate_left 1; (focus ((simp only [zD, zE, zF]) <;> rfl)); (focus rfl); simp only [Act.put, zA, zB, zC]) | (refine orde_q (o := ?_) (v := ?_) ?_ ?_ ?_ ?_; rotate_left 2; (focus ((simp only [zD, zE, zF]) <;> rfl)); (focus rfl); (focus (intro w' hS; (try dsimp only at hS); go_split_ands; go_simp; (try (with_reducible rfl)))); simp only [Act.put, zA, zB, zC]))
            refine orde_e ?_
            (refine ope_e (o := ?_) ?_ ?_ (fun K hK => ?_); rotate_left 1; (focus ((simp only [zD, zE, zF]) <;> rfl)); (focus rfl); go_simp)
            have hba := (Below.refl W9.heap.size W9).alloc (Nat.le_refl _) (.cells #[.int .i64 y, .int .i64 x] 24)
            have hs := Sl.new W9 #[.int .i64 y, .int .i64 x] 24
            have H10 := Lib.hid (And.intro hs (And.intro (H9.out.1.below hba) (blk_below hba (blk_lt H9.out.2) H9.out.2)))
            have HC10 := Lib.hid (HC9.out.trans (Chg.of_below hba))
            clear hba hs H9
            revert H10 HC10
            generalize W9.alloc (.cells #[.int .i64 y, .int .i64 x] 24) = WA
            intro H10 HC10
            refine hK.out _ _ ⟨H10.out.2.1.cells.1, (blk_all H10.out.2.2).1⟩ ?_
            clear hK K
            (try simp only [Act.put, zA, zB, zC])
            refine orde_e ?_
            (refine ope_e (o := ?_) ?_ ?_ (fun K hK => ?_); rotate_left 1; (focus ((simp only [zD, zE, zF]) <;> rfl)); (focus rfl))
            refine wp_app (.tmp 68) (.tmp 70) rfl elem_gate H10.out.2.1.g rfl rfl (by simp) H10.out.1 (by simp [Value.oneCell']) (gs.length + 1) rfl (gcells (gs ++ [⟨y, x⟩])) (by rw [← gcells_append]; rfl) (by unfold maxLen; omega) (by omega) H10.out.2.1.bl.size ?_
            intro s6 c6 WB h6 hb6 hg6 _
            obtain ⟨g1, g2⟩ := H10.out.2.1.pushG (gs' := gs ++ [⟨y, x⟩]) (vg' := .slice s6 (gs.length + 1) c6) hg6 (by rw [show (gs ++ [(⟨y, x⟩ : Gt)]).length = gs.length + 1 by simp]; exact h6)
            have hp2 : WB.heap[p]? = some (.cells #[.int .i64 y, .int .i64 x] 24 (0, 0)) := by
              rw [hg6.block p (blk_lt H10.out.2.2) (fun e => by have := HGP.out.1 _ e.symm; omega)]; exact H10.out.2.2
            refine hK.out _ _ ⟨(blk_all g1).1, (blk_all hp2).1⟩ ?_
            clear hK K
            have y2 : WB.cell? ⟨bb, 1, none⟩ = some (.slice sg gs.length cg) := blk_cell g1
            have y3 : WB.frozen? ⟨bb, 1, none⟩ = false := blk_free g1
            have H11 := Lib.hid g2
            have HC11 := Lib.hid ((HC10.out.trans ((Chg.of_grown hg6).mono (fun k e => HSd.out.2.2.1 k e))).trans (Chg.set WB 1 (.slice s6 (gs.length + 1) c6) HSd.out.1))
            clear g1 g2 hp2 h6 hb6 hg6 H10
            (try simp only [Act.put, zA, zB, zC])
            repeat (first | (refine orde_s (o := ?_) ?_ ?_ ?_; rotate_left 1; (focus ((simp only [zD, zE, zF]) <;> rfl)); (focus rfl); simp only [Act.put, zA, zB, zC]) | (refine orde_q (o := ?_) (v := ?_) ?_ ?_ ?_ ?_; rotate_left 2; (focus ((simp only [zD, zE, zF]) <;> rfl)); (focus rfl); (focus (intro w' hS; (try dsimp only at hS); go_split_ands; go_simp; (try (with_reducible rfl)))); simp only [Act.put, zA, zB, zC]))
            (refine orde_z (o := ?_) ?_ ?_ (fun K hK => ?_); rotate_left 1; (focus ((simp only [zD, zE, zF]) <;> rfl)); (focus rfl); go_simp)
            refine hK.out _ _ ?_
            clear hK K y2 y3
            revert H11 HC11
            generalize WB.setCell ⟨bb, 1, none⟩ (.slice s6 (gs.length + 1) c6) = WC
            intro H11 HC11
            go_upto_region 13 with fail
            have hol := H11.out.l
            rw [lvlL_length] at hol
            obtain ⟨n, hn⟩ : ∃ n, n = F + gs.length := ⟨_, rfl⟩
            rw [← hn] at hol
            obtain ⟨sl, cl, rfl⟩ := own_shape hol
            obtain ⟨p1, hp1⟩ : ∃ p1 : Nat, y / 2 = p1 := ⟨(y / 2).toNat, by omega⟩
            obtain ⟨p2, hp2⟩ : ∃ p2 : Nat, x / 2 = p2 := ⟨(x / 2).toNat, by omega⟩
            have hpl1 : p1 < n := by omega
            have hpl2 : p2 < n := by omega
            have hpc1 : 0 ≤ (p1 : Int) ∧ (p1 : Int) < (n : Int) := ⟨by omega, by omega⟩
            have hpc2 : 0 ≤ (p2 : Int) ∧ (p2 : Int) < (n : Int) := ⟨by omega, by omega⟩
            have hn38 : n ≤ 150 := by omega
            obtain ⟨lb, rfl⟩ : ∃ g, sl = some ⟨g, 0, none⟩ := by
              rcases own_some hol with ⟨_, e, _⟩ | ⟨g, e⟩
              · omega
              · exact ⟨g, e⟩
            obtain ⟨l1, hl1⟩ := get_of_lt (l := lvlL F gs) (k := p1) (by rw [lvlL_length, ← hn]; exact hpl1)
            obtain ⟨l2, hl2⟩ := get_of_lt (l := lvlL F gs) (k := p2) (by rw [lvlL_length, ← hn]; exact hpl2)
            obtain ⟨a0, a1⟩ := lvlL_bd F gs l1 (List.mem_of_getElem? hl1)
            obtain ⟨b0, b1⟩ := lvlL_bd F gs l2 (List.mem_of_getElem? hl2)
            have HOL : Hid (∀ W, Below WC.heap.size WC W → W.ownsRow W0.heap.size 3 1 (.slice (some ⟨lb, 0, none⟩) n cl) n (ints (lvlL F gs))) := fun W hW => own_below hol hW
            have HCS : Hid (∀ W, Below WC.heap.size WC W → (∀ o, W.cell? ⟨bb, o, none⟩ = #[Value.int .i64 F, .slice s6 (gs.length + 1) c6, .slice (some ⟨lb, 0, none⟩) n cl, .map (some mb)][o]?) ∧ W.cell? ⟨lb, p1, none⟩ = some (.int .i64 l1) ∧ W.cell? ⟨lb, p2, none⟩ = some (.int .i64 l2)) := fun W hW =>
              ⟨(H11.out.below hW).cells.1, ((own_below hol hW).cellAt p1 (by omega)).trans (ints_get hl1), ((own_below hol hW).cellAt p2 (by omega)).trans (ints_get hl2)⟩
            have HLV : Hid (lvlL F (gs ++ [⟨y, x⟩]) = lvlL F gs ++ [1 + max l1 l2]) := (by
              rw [lvlL_snoc]
              unfold lvS
              dsimp only
              rw [hp1, hp2, Int.toNat_natCast, Int.toNat_natCast, List.getD_eq_getElem?_getD, List.getD_eq_getElem?_getD, hl1, hl2]
              rfl : lvlL F (gs ++ [⟨y, x⟩]) = lvlL F gs ++ [1 + max l1 l2])
            have t1 : Int.tdiv y 2 = (p1 : Int) := by rw [Int.tdiv_eq_ediv_of_nonneg (by omega)]; exact hp1
            have t2 : Int.tdiv x 2 = (p2 : Int) := by rw [Int.tdiv_eq_ediv_of_nonneg (by omega)]; exact hp2
            have v1 : IntKind.i64.wrap (p1 : Int) = (p1 : Int) := IntWalk.i64_in _ ⟨by omega, by omega⟩
            have v2 : IntKind.i64.wrap (p2 : Int) = (p2 : Int) := IntWalk.i64_in _ ⟨by omega, by omega⟩
            have u1 : IntKind.i64.wrap (1 + l1) = 1 + l1 := IntWalk.i64_in _ ⟨by omega, by omega⟩
            have u2 : IntKind.i64.wrap (1 + l2) = 1 + l2 := IntWalk.i64_in _ ⟨by omega, by omega⟩
            have HNN := Lib.hid hn
            clear hol hl1 hl2 hn
            have HCB : Hid (∀ W, Below WC.heap.size WC W → (∀ o, W.cell? ⟨bb, o, none⟩ = #[Value.int .i64 F, .slice s6 (gs.length + 1) c6, .slice (some ⟨lb, 0, none⟩) n cl, .map (some mb)][o]?)) := fun W hW => (HCS.out W hW).1
            refine wp_region_E (fun w' => ∀ o, w'.cell? ⟨bb, o, none⟩ = #[Value.int .i64 F, .slice s6 (gs.length + 1) c6, .slice (some ⟨lb, 0, none⟩) n cl, .map (some mb)][o]?) 27 (.q 0 (.q 1 (.q 2 (.q 3 (.q 4 (.q 5 (.q 6 (.q 7 (.q 8 (.q 9 (.q 10 (.q 11 (.q 13 (.q 14 (.q 15 (.q 16 (.q 17 (.q 18 (.q 19 (.two 12 (.e 20 (.e 21 (.q 22 (.e 23 (.e 24 (.q 25 (.q 26 (.z 27)))))))) 20 (.e 12 (.e 21 (.q 22 (.e 23 (.e 24 (.q 25 (.q 26 (.z 27)))))))))))))))))))))))))))) (by kernel_rfl) (by kernel_rfl) (by kernel_rfl) (by kernel_rfl) (by kernel_rfl) (by kernel_rfl) (HCB.out _ (Below.refl _ _).drew) ?_
            have HCd := Lib.hid (HC11.out.trans (Chg.of_below (Below.refl WC.heap.size WC).drew))
            revert HCd
            have hd := (Below.refl WC.heap.size WC).drew
            revert hd
            generalize WC.drew = Wd
            intro hd HCd
            have HD := Lib.hid hd
            clear hd
            obtain ⟨-, y1, y2⟩ := HCS.out _ HD.out
            obtain ⟨M, hM⟩ : ∃ M, (if l1 < l2 then l2 else l1) = M := ⟨_, rfl⟩
            have hmx : max l1 l2 = M := by rw [← hM]; split <;> omega
            have hM0 : 0 ≤ M ∧ M ≤ 140 := by omega
            obtain ⟨m0, m1⟩ := hM0
            have um : IntKind.i64.wrap (1 + M) = 1 + M := IntWalk.i64_in _ ⟨by omega, by omega⟩
            rw [hmx] at HLV
            clear u1 u2 hmx
            repeat (first | (refine orde_s (o := ?_) ?_ ?_ ?_; rotate_left 1; (focus ((simp only [zD, zE, zF]) <;> rfl)); (focus rfl); simp only [Act.put, zA, zB, zC]) | (refine orde_q (o := ?_) (v := ?_) ?_ ?_ ?_ ?_; rotate_left 2; (focus ((simp only [zD, zE, zF]) <;> rfl)); (focus rfl); (focus (intro w' hS; (try dsimp only at hS); go_split_ands; go_simp; (try (with_reducible rfl)))); simp only [Act.put, zA, zB, zC]))
            refine orde_two ?_ ?_
            all_goals
              (refine ope_e (o := ?_) ?_ ?_ (fun K hK => ?_); rotate_left 1; (focus ((simp only [zD, zE, zF]) <;> rfl)); (focus rfl); go_simp)
              refine hK.out _ _ (HCB.out _ HD.out) ?_
              clear hK K
              (try simp only [Act.put, zA, zB, zC])
              refine orde_e ?_
              (refine ope_e (o := ?_) ?_ ?_ (fun K hK => ?_); rotate_left 1; (focus ((simp only [zD, zE, zF]) <;> rfl)); (focus rfl); go_simp)
              refine hK.out _ _ (HCB.out _ HD.out) ?_
              clear hK K
              (try simp only [Act.put, zA, zB, zC])
              refine orde_e ?_
              (refine ope_e (o := ?_) ?_ ?_ (fun K hK => ?_); rotate_left 1; (focus ((simp only [zD, zE, zF]) <;> rfl)); (focus rfl); go_simp)
              refine hK.out _ _ (HCB.out _ HD.out) ?_
              clear hK K
              (try simp only [Act.put, zA, zB, zC])
              repeat (first | (refine orde_s (o := ?_) ?_ ?_ ?_; rotate_left 1; (focus ((simp only [zD, zE, zF]) <;> rfl)); (focus rfl); simp only [Act.put, zA, zB, zC]) | (refine orde_q (o := ?_) (v := ?_) ?_ ?_ ?_ ?_; rotate_left 2; (focus ((simp only [zD, zE, zF]) <;> rfl)); (focus rfl); (focus (intro w' hS; (try dsimp only at hS); go_split_ands; go_simp; (try (with_reducible rfl)))); simp only [Act.put, zA, zB, zC]))
              refine orde_e ?_
              (refine ope_e (o := ?_) ?_ ?_ (fun K hK => ?_); rotate_left 1; (focus ((simp only [zD, zE, zF]) <;> rfl)); (focus rfl); go_simp)
              have hce := HCd.out.trans (Chg.of_below (S := S) ((Below.refl Wd.heap.size Wd).alloc (Nat.le_refl _) (.cells #[.int .i64 (1 + M)] 3)))
              have hba := HD.out.alloc HD.out.size (.cells #[.int .i64 (1 + M)] 3)
              have hs := Sl.new Wd #[.int .i64 (1 + M)] 3
              revert hce hba hs
              generalize Wd.alloc (.cells #[.int .i64 (1 + M)] 3) = WE
              intro hce hba hs
              refine hK.out _ _ (HCB.out _ hba) ?_
              clear hK K
              have HE := Lib.hid (And.intro hba hs)
              have HCE := Lib.hid hce
              clear hba hs hce
              (try simp only [Act.put, zA, zB, zC])
              refine orde_e ?_
              (refine ope_e (o := ?_) ?_ ?_ (fun K hK => ?_); rotate_left 1; (focus ((simp only [zD, zE, zF]) <;> rfl)); (focus rfl))
              refine wp_app (.tmp 78) (.tmp 97) rfl elem_int (HOL.out _ HE.out.1) rfl rfl (by simp) HE.out.2 (by simp [Value.oneCell']) (n + 1) rfl (ints (lvlL F gs ++ [1 + M])) (by rw [← ints_append]; rfl) (by unfold maxLen; omega) (by omega) (H11.out.below HE.out.1).bl.size ?_
              intro s7 c7 WF h7 hb7 hg7 hob7
              obtain ⟨g1, g2⟩ := (H11.out.below HE.out.1).pushL (ls' := lvlL F gs ++ [1 + M]) (vl' := .slice s7 (n + 1) c7) hg7 (by rw [show (lvlL F gs ++ [1 + M]).length = n + 1 by simp [lvlL_length]; exact HNN.out.symm]; exact h7)
              refine hK.out _ _ (blk_all g1).1 ?_
              clear hK K
              have y2 : WF.cell? ⟨bb, 2, none⟩ = some (.slice (some ⟨lb, 0, none⟩) n cl) := blk_cell g1
              have y3 : WF.frozen? ⟨bb, 2, none⟩ = false := blk_free g1
              have H12 := Lib.hid g2
              have HC12 := Lib.hid ((HCE.out.trans ((Chg.of_grown hg7).mono (fun k e => HSd.out.2.2.2 k e))).trans (Chg.set WF 2 (.slice s7 (n + 1) c7) HSd.out.1))
              have HOB : Hid ((Value.slice s7 (n + 1) c7).ownBlock = (Value.slice (some ⟨lb, 0, none⟩) n cl).ownBlock ∨ ∀ k, (Value.slice s7 (n + 1) c7).ownBlock = some k → w.heap.size ≤ k) := hob7.imp id (fun e k hk => by rw [e] at hk; cases hk; exact HCE.out.size)
              clear g1 g2 h7 hb7 hg7 hob7
              (try simp only [Act.put, zA, zB, zC])
              repeat (first | (refine orde_s (o := ?_) ?_ ?_ ?_; rotate_left 1; (focus ((simp only [zD, zE, zF]) <;> rfl)); (focus rfl); simp only [Act.put, zA, zB, zC]) | (refine orde_q (o := ?_) (v := ?_) ?_ ?_ ?_ ?_; rotate_left 2; (focus ((simp only [zD, zE, zF]) <;> rfl)); (focus rfl); (focus (intro w' hS; (try dsimp only at hS); go_split_ands; go_simp; (try (with_reducible rfl)))); simp only [Act.put, zA, zB, zC]))
              (refine orde_z (o := ?_) ?_ ?_ (fun K hK => ?_); rotate_left 1; (focus ((simp only [zD, zE, zF]) <;> rfl)); (focus rfl); go_simp)
              refine hK.out _ _ ?_
              clear hK K y2 y3
              revert H12 HC12
              generalize WF.setCell ⟨bb, 2, none⟩ (.slice s7 (n + 1) c7) = WG
              intro H12 HC12
              go_wp2_with fail
              go_ret
              have e0 := HR.out
              rw [andK_new HN0.out HN1.out HF.out] at e0
              exact ⟨_, _, by rw [e0]; rfl, by rw [e0]; show BX F W0 bb mb (gs ++ [⟨y, x⟩]) (lvlL F (gs ++ [⟨y, x⟩])) (gs ++ [⟨y, x⟩]) _ _ WG; rw [HLV.out]; exact H12.out, by rw [← HSS.out]; exact HC12.out, HOB.out⟩

set_option maxRecDepth 100000 in
set_option maxHeartbeats 3200000 in
theorem and_ge (F : Nat) (W0 : World) (bb mb : Nat) (gs : List Gt) (vg vl : Value) (x y : Int) (w : World) (h : BX F W0 bb mb gs (lvlL F gs) gs vg vl w) (hx : 0 ≤ x ∧ x / 2 < (F : Int) + gs.length) (hy : 0 ≤ y ∧ y / 2 < (F : Int) + gs.length) (hF : F ≤ 10) (hgl : gs.length ≤ 130) (hxy : ¬ y < x) :
    Calls Try.prog 73 #[.pointer (some ⟨bb, 0, none⟩), .int .i64 x, .int .i64 y] w (AdPost F W0 bb mb vg vl w (andL F gs x y)) := by
  obtain ⟨x0, x1⟩ := hx
  obtain ⟨y0, y1⟩ := hy
  have H := Lib.hid h
  clear h
  obtain ⟨R, hR⟩ : ∃ R, R = andL (F : Int) gs x y := ⟨_, rfl⟩
  rw [← hR]
  have hRK : R = andK F gs x y := by rw [hR]; unfold andL; rw [if_neg hxy]
  have HR := Lib.hid hRK
  have hle : x ≤ y := by omega
  have hx80 : x ≤ 300 := by omega
  have hy80 : y ≤ 300 := by omega
  obtain ⟨z, hz⟩ : ∃ z, bits .xor .i64 y 1 = z := ⟨_, rfl⟩
  have hzx : z = xrb y 1 := by rw [← hz]; exact bits_xrb y 1 (by omega) hy80 (.inr rfl)
  have hz2 : x = z ↔ (x = y - 1 ∧ x % 2 = 0) := by rw [hzx]; unfold xrb; omega
  have HZ := Lib.hid hz2
  clear hR hRK hzx hz2
  go_enter Try.func73, Try.ntmps73
  go_upto_region 3 with fail
  clear hxy
  by_cases hx0 : x = 0
  · go_wp2_with fail
    go_ret
    have e0 := HR.out
    rw [andK_zero (.inl hx0)] at e0
    exact ⟨vg, vl, by rw [e0]; rfl, by rw [e0]; exact H.out, Chg.refl _ _, .inl rfl⟩
  · have HX0 := Lib.hid hx0
    have c1 : (x == 0) = false := by simpa using hx0
    clear hx0
    by_cases hx2 : x = z
    · have HX2 := Lib.hid hx2
      have c2 : (x == z) = true := by simpa using hx2
      clear hx2
      go_wp2_with fail
      go_ret
      have e0 := HR.out
      rw [andK_zero (.inr (HZ.out.1 HX2.out))] at e0
      exact ⟨vg, vl, by rw [e0]; rfl, by rw [e0]; exact H.out, Chg.refl _ _, .inl rfl⟩
    · have HN0 : Hid (¬ (x = 0 ∨ (x = y - 1 ∧ x % 2 = 0))) := fun h => h.elim HX0.out (fun h => hx2 (HZ.out.2 h))
      have c2 : (x == z) = false := by simpa using hx2
      clear hx2
      by_cases hx4 : x = 1
      · have HX4 := Lib.hid hx4
        have c4 : (x == 1) = true := by simpa using hx4
        clear hx4
        go_wp2_with fail
        go_ret
        have e0 := HR.out
        rw [andK_same HN0.out (.inl HX4.out)] at e0
        exact ⟨vg, vl, by rw [e0]; rfl, by rw [e0]; exact H.out, Chg.refl _ _, .inl rfl⟩
      · by_cases hx5 : x = y
        · have HX4 := Lib.hid hx5
          have c4 : (x == 1) = false := by simpa using hx4
          have c5 : (x == y) = true := by simpa using hx5
          clear hx4 hx5
          go_wp2_with fail
          go_ret
          have e0 := HR.out
          rw [andK_same HN0.out (.inr HX4.out)] at e0
          exact ⟨vg, vl, by rw [e0]; rfl, by rw [e0]; exact H.out, Chg.refl _ _, .inl rfl⟩
        · have HN1 : Hid (¬ (x = 1 ∨ x = y)) := fun h => h.elim hx4 hx5
          have c4 : (x == 1) = false := by simpa using hx4
          have c5 : (x == y) = false := by simpa using hx5
          clear hx4 hx5
          go_upto_region 8 with fail
          obtain ⟨sg, cg, rfl⟩ := own_shape H.out.g
          obtain ⟨S, hS⟩ : ∃ S, S = adS bb mb (.slice sg gs.length cg) vl := ⟨_, rfl⟩
          have HSS := Lib.hid hS
          have HSd : Hid (S bb ∧ S mb ∧ (∀ k, (Value.slice sg gs.length cg).ownBlock = some k → S k) ∧ ∀ k, vl.ownBlock = some k → S k) := (by rw [hS]; exact ⟨.inl rfl, .inr (.inl rfl), fun k h => .inr (.inr (.inl h)), fun k h => .inr (.inr (.inr h))⟩ : S bb ∧ S mb ∧ (∀ k, (Value.slice sg gs.length cg).ownBlock = some k → S k) ∧ ∀ k, vl.ownBlock = some k → S k)
          clear hS
          have hk := blk_new w (.cells #[.int .i64 x, .int .i64 y] 24)
          have h3 := H.out.below ((Below.refl w.heap.size w).alloc (Nat.le_refl _) (.cells #[.int .i64 x, .int .i64 y] 24))
          have hc3 : Chg S w (w.alloc (.cells #[.int .i64 x, .int .i64 y] 24)) := Chg.of_below ((Below.refl w.heap.size w).alloc (Nat.le_refl _) _)
          have hbp : bb < w.heap.size := blk_lt H.out.blk
          have hgp : ∀ k, (Value.slice sg gs.length cg).ownBlock = some k → k < w.heap.size := fun k hk => (own_blk H.out.g hk).2
          have hlp : ∀ k, vl.ownBlock = some k → k < w.heap.size := fun k hk => (own_blk H.out.l hk).2
          have hmp := H.out.map.lt
          obtain ⟨p, hp⟩ : ∃ p, p = w.heap.size := ⟨_, rfl⟩
          rw [← hp] at hk hbp hgp hlp hmp
          rw [← hp]
          have HGP := Lib.hid (And.intro hgp hlp)
          clear hp H hgp hlp
          revert hk h3 hc3
          generalize w.alloc (.cells #[.int .i64 x, .int .i64 y] 24) = W3
          intro h3 hc3 hk
          have HC5 := Lib.hid (hc3.trans (Chg.of_below (Below.refl W3.heap.size W3).drew))
          have H5 := Lib.hid (And.intro (h3.below (Below.refl _ _).drew) (blk_below (Below.refl _ _).drew (blk_lt hk) hk))
          clear h3 hk hc3
          refine wp_region_T (fun w' => (∀ o, w'.cell? ⟨bb, o, none⟩ = #[Value.int .i64 F, .slice sg gs.length cg, vl, .map (some mb)][o]?) ∧ (∀ o, w'.cell? ⟨p, o, none⟩ = #[Value.int .i64 x, .int .i64 y][o]?)) (.q 0 (.q 1 (.q 2 (.q 3 (.q 4 (.e 5 (.q 6 (.q 7 (.q 8 (.q 9 (.q 10 .nil))))))))))) (by kernel_rfl) (by kernel_rfl) (by kernel_rfl) ⟨H5.out.1.cells.1, (blk_all H5.out.2).1⟩ ?_
          generalize W3.drew = W5 at H5 HC5 ⊢
          have hlk := mapg_lookup H5.out.1.map ⟨x, y⟩
          unfold Gt.agg at hlk
          dsimp only at hlk
          cases hf : fndG gs ⟨x, y⟩ 0 with
          | some i =>
            have HF := Lib.hid hf
            rw [hf] at hlk
            dsimp only at hlk
            clear hf
            repeat (first | (refine ordt_s (o := ?_) ?_ ?_ ?_; rotate_left 1; (focus ((simp only [zD, zE, zF]) <;> rfl)); (focus rfl); simp only [Act.put, zA, zB, zC]) | (refine ordt_q (o := ?_) (v := ?_) ?_ ?_ ?_ ?_; rotate_left 2; (focus ((simp only [zD, zE, zF]) <;> rfl)); (focus rfl); (focus (intro w' hS; (try dsimp only at hS); go_split_ands; go_simp; (try (with_reducible rfl)))); simp only [Act.put, zA, zB, zC]))
            refine ordt_e ?_
            (refine op_e (o := ?_) ?_ ?_ (fun K hK => ?_); rotate_left 1; (focus ((simp only [zD, zE, zF]) <;> rfl)); (focus rfl); go_simp)
            refine hK.out _ _ ⟨H5.out.1.cells.1, (blk_all H5.out.2).1⟩ ?_
            clear hK K
            (try simp only [Act.put, zA, zB, zC])
            repeat (first | (refine ordt_s (o := ?_) ?_ ?_ ?_; rotate_left 1; (focus ((simp only [zD, zE, zF]) <;> rfl)); (focus rfl); simp only [Act.put, zA, zB, zC]) | (refine ordt_q (o := ?_) (v := ?_) ?_ ?_ ?_ ?_; rotate_left 2; (focus ((simp only [zD, zE, zF]) <;> rfl)); (focus rfl); (focus (intro w' hS; (try dsimp only at hS); go_split_ands; go_simp; (try (with_reducible rfl)))); simp only [Act.put, zA, zB, zC]))
            refine ordt_nil ?_
            go_wp2_with fail
            go_ret
            have e0 := HR.out
            rw [andK_old HN0.out HN1.out HF.out] at e0
            exact ⟨_, _, by rw [e0]; rfl, by rw [e0]; exact H5.out.1, by rw [← HSS.out]; exact HC5.out, .inl rfl⟩
          | none =>
            have HF := Lib.hid hf
            rw [hf] at hlk
            dsimp only at hlk
            clear hf
            repeat (first | (refine ordt_s (o := ?_) ?_ ?_ ?_; rotate_left 1; (focus ((simp only [zD, zE, zF]) <;> rfl)); (focus rfl); simp only [Act.put, zA, zB, zC]) | (refine ordt_q (o := ?_) (v := ?_) ?_ ?_ ?_ ?_; rotate_left 2; (focus ((simp only [zD, zE, zF]) <;> rfl)); (focus rfl); (focus (intro w' hS; (try dsimp only at hS); go_split_ands; go_simp; (try (with_reducible rfl)))); simp only [Act.put, zA, zB, zC]))
            refine ordt_e ?_
            (refine op_e (o := ?_) ?_ ?_ (fun K hK => ?_); rotate_left 1; (focus ((simp only [zD, zE, zF]) <;> rfl)); (focus rfl); go_simp)
            refine hK.out _ _ ⟨H5.out.1.cells.1, (blk_all H5.out.2).1⟩ ?_
            clear hK K hlk
            (try simp only [Act.put, zA, zB, zC])
            repeat (first | (refine ordt_s (o := ?_) ?_ ?_ ?_; rotate_left 1; (focus ((simp only [zD, zE, zF]) <;> rfl)); (focus rfl); simp only [Act.put, zA, zB, zC]) | (refine ordt_q (o := ?_) (v := ?_) ?_ ?_ ?_ ?_; rotate_left 2; (focus ((simp only [zD, zE, zF]) <;> rfl)); (focus rfl); (focus (intro w' hS; (try dsimp only at hS); go_split_ands; go_simp; (try (with_reducible rfl)))); simp only [Act.put, zA, zB, zC]))
            refine ordt_nil ?_
            go_upto_region 10 with fail
            have wa : IntKind.i64.wrap ((F : Int) + (gs.length : Int)) = (F : Int) + (gs.length : Int) := IntWalk.i64_in _ ⟨by omega, by omega⟩
            have wb : IntKind.i64.wrap (2 * ((F : Int) + (gs.length : Int))) = 2 * ((F : Int) + (gs.length : Int)) := IntWalk.i64_in _ ⟨by omega, by omega⟩
            have H6 := Lib.hid (And.intro (H5.out.1.below (Below.refl _ _).drew) (blk_below (Below.refl _ _).drew (blk_lt H5.out.2) H5.out.2))
            have HC6 := Lib.hid (HC5.out.trans (Chg.of_below (Below.refl W5.heap.size W5).drew))
            clear H5
            refine wp_region_T (fun w' => (∀ o, w'.cell? ⟨bb, o, none⟩ = #[Value.int .i64 F, .slice sg gs.length cg, vl, .map (some mb)][o]?) ∧ (∀ o, w'.cell? ⟨p, o, none⟩ = #[Value.int .i64 x, .int .i64 y][o]?)) (.q 0 (.q 1 (.q 2 (.q 3 (.q 4 (.q 5 (.q 6 (.q 7 (.q 8 (.q 9 (.q 10 (.q 11 .nil)))))))))))) (by kernel_rfl) (by kernel_rfl) (by kernel_rfl) ⟨H6.out.1.cells.1, (blk_all H6.out.2).1⟩ ?_
            generalize W5.drew = W6 at H6 HC6 ⊢
            repeat (first | (refine ordt_s (o := ?_) ?_ ?_ ?_; rotate_left 1; (focus ((simp only [zD, zE, zF]) <;> rfl)); (focus rfl); simp only [Act.put, zA, zB, zC]) | (refine ordt_q (o := ?_) (v := ?_) ?_ ?_ ?_ ?_; rotate_left 2; (focus ((simp only [zD, zE, zF]) <;> rfl)); (focus rfl); (focus (intro w' hS; (try dsimp only at hS); go_split_ands; go_simp; (try (with_reducible rfl)))); simp only [Act.put, zA, zB, zC]))
            refine ordt_nil ?_
            go_upto_region 11 with fail
            have H7 := Lib.hid (And.intro (H6.out.1.below (Below.refl _ _).drew) (blk_below (Below.refl _ _).drew (blk_lt H6.out.2) H6.out.2))
            have HC7 := Lib.hid (HC6.out.trans (Chg.of_below (Below.refl W6.heap.size W6).drew))
            clear H6 wa wb
            refine wp_region_T (fun w' => (∀ o, w'.cell? ⟨bb, o, none⟩ = #[Value.int .i64 F, .slice sg gs.length cg, vl, .map (some mb)][o]?) ∧ (∀ o, w'.cell? ⟨p, o, none⟩ = #[Value.int .i64 x, .int .i64 y][o]?)) (.q 0 (.q 1 (.q 2 (.q 3 (.q 4 (.q 5 (.e 6 .nil))))))) (by kernel_rfl) (by kernel_rfl) (by kernel_rfl) ⟨H7.out.1.cells.1, (blk_all H7.out.2).1⟩ ?_
            generalize W6.drew = W7 at H7 HC7 ⊢
            obtain ⟨W8, hrun, hmap, hgr, hsz⟩ := mapg_update H7.out.1.map ⟨x, y⟩ HF.out
            unfold Gt.agg at hrun
            dsimp only at hrun
            have g1 := H7.out.1.putM hgr hmap
            have gp : W8.heap[p]? = some (.cells #[.int .i64 x, .int .i64 y] 24 (0, 0)) := by
              rw [hgr.block p (blk_lt H7.out.2) (by simp; omega)]; exact H7.out.2
            have H8 := Lib.hid (And.intro g1 gp)
            have HC8 := Lib.hid (HC7.out.trans ((Chg.of_grown hgr).mono (fun k e => by cases e; exact HSd.out.2.1)))
            clear g1 gp hmap hgr hsz H7
            repeat (first | (refine ordt_s (o := ?_) ?_ ?_ ?_; rotate_left 1; (focus ((simp only [zD, zE, zF]) <;> rfl)); (focus rfl); simp only [Act.put, zA, zB, zC]) | (refine ordt_q (o := ?_) (v := ?_) ?_ ?_ ?_ ?_; rotate_left 2; (focus ((simp only [zD, zE, zF]) <;> rfl)); (focus rfl); (focus (intro w' hS; (try dsimp only at hS); go_split_ands; go_simp; (try (with_reducible rfl)))); simp only [Act.put, zA, zB, zC]))
            refine ordt_e ?_
            (refine op_e (o := ?_) ?_ ?_ (fun K hK => ?_); rotate_left 1; (focus ((simp only [zD, zE, zF]) <;> rfl)); (focus rfl); go_simp)
            refine hK.out _ _ ⟨H8.out.1.cells.1, (blk_all H8.out.2).1⟩ ?_
            clear hK K hrun
            (try simp only [Act.put, zA, zB, zC])
            repeat (first | (refine ordt_s (o := ?_) ?_ ?_ ?_; rotate_left 1; (focus ((simp only [zD, zE, zF]) <;> rfl)); (focus rfl); simp only [Act.put, zA, zB, zC]) | (refine ordt_q (o := ?_) (v := ?_) ?_ ?_ ?_ ?_; rotate_left 2; (focus ((simp only [zD, zE, zF]) <;> rfl)); (focus rfl); (focus (intro w' hS; (try dsimp only at hS); go_split_ands; go_simp; (try (with_reducible rfl)))); simp only [Act.put, zA, zB, zC]))
            refine ordt_nil ?_
            go_upto_region 12 with fail
            have H9 := Lib.hid (And.intro (H8.out.1.below (Below.refl _ _).drew) (blk_below (Below.refl _ _).drew (blk_lt H8.out.2) H8.out.2))
            have HC9 := Lib.hid (HC8.out.trans (Chg.of_below (Below.refl W8.heap.size W8).drew))
            clear H8
            refine wp_region_E (fun w' => (∀ o, w'.cell? ⟨bb, o, none⟩ = #[Value.int .i64 F, .slice sg gs.length cg, vl, .map (some mb)][o]?) ∧ (∀ o, w'.cell? ⟨p, o, none⟩ = #[Value.int .i64 x, .int .i64 y][o]?)) 10 (.q 0 (.q 1 (.q 2 (.q 3 (.q 4 (.q 5 (.e 6 (.e 7 (.q 8 (.q 9 (.z 10))))))))))) (by kernel_rfl) (by kernel_rfl) (by kernel_rfl) (by kernel_rfl) (by kernel_rfl) (by kernel_rfl) ⟨H9.out.1.cells.1, (blk_all H9.out.2).1⟩ ?_
            generalize W8.drew = W9 at H9 HC9 ⊢
            repeat (first | (refine orde_s (o := ?_) ?_ ?_ ?_; rotate_left 1; (focus ((simp only [zD, zE, zF]) <;> rfl)); (focus rfl); simp only [Act.put, zA, zB, zC]) | (refine orde_q (o := ?_) (v := ?_) ?_ ?_ ?_ ?_; rotate_left 2; (focus ((simp only [zD, zE, zF]) <;> rfl)); (focus rfl); (focus (intro w' hS; (try dsimp only at hS); go_split_ands; go_simp; (try (with_reducible rfl)))); simp only [Act.put, zA, zB, zC]))
            refine orde_e ?_
            (refine ope_e (o := ?_) ?_ ?_ (fun K hK => ?_); rotate_left 1; (focus ((simp only [zD, zE, zF]) <;> rfl)); (focus rfl); go_simp)
            have hba := (Below.refl W9.heap.size W9).alloc (Nat.le_refl _) (.cells #[.int .i64 x, .int .i64 y] 24)
            have hs := Sl.new W9 #[.int .i64 x, .int .i64 y] 24
            have H10 := Lib.hid (And.intro hs (And.intro (H9.out.1.below hba) (blk_below hba (blk_lt H9.out.2) H9.out.2)))
            have HC10 := Lib.hid (HC9.out.trans (Chg.of_below hba))
            clear hba hs H9
            revert H10 HC10
            generalize W9.alloc (.cells #[.int .i64 x, .int .i64 y] 24) = WA
            intro H10 HC10
            refine hK.out _ _ ⟨H10.out.2.1.cells.1, (blk_all H10.out.2.2).1⟩ ?_
            clear hK K
            (try simp only [Act.put, zA, zB, zC])
            refine orde_e ?_
            (refine ope_e (o := ?_) ?_ ?_ (fun K hK => ?_); rotate_left 1; (focus ((simp only [zD, zE, zF]) <;> rfl)); (focus rfl))
            refine wp_app (.tmp 68) (.tmp 70) rfl elem_gate H10.out.2.1.g rfl rfl (by simp) H10.out.1 (by simp [Value.oneCell']) (gs.length + 1) rfl (gcells (gs ++ [⟨x, y⟩])) (by rw [← gcells_append]; rfl) (by unfold maxLen; omega) (by omega) H10.out.2.1.bl.size ?_
            intro s6 c6 WB h6 hb6 hg6 _
            obtain ⟨g1, g2⟩ := H10.out.2.1.pushG (gs' := gs ++ [⟨x, y⟩]) (vg' := .slice s6 (gs.length + 1) c6) hg6 (by rw [show (gs ++ [(⟨x, y⟩ : Gt)]).length = gs.length + 1 by simp]; exact h6)
            have hp2 : WB.heap[p]? = some (.cells #[.int .i64 x, .int .i64 y] 24 (0, 0)) := by
              rw [hg6.block p (blk_lt H10.out.2.2) (fun e => by have := HGP.out.1 _ e.symm; omega)]; exact H10.out.2.2
            refine hK.out _ _ ⟨(blk_all g1).1, (blk_all hp2).1⟩ ?_
            clear hK K
            have y2 : WB.cell? ⟨bb, 1, none⟩ = some (.slice sg gs.length cg) := blk_cell g1
            have y3 : WB.frozen? ⟨bb, 1, none⟩ = false := blk_free g1
            have H11 := Lib.hid g2
            have HC11 := Lib.hid ((HC10.out.trans ((Chg.of_grown hg6).mono (fun k e => HSd.out.2.2.1 k e))).trans (Chg.set WB 1 (.slice s6 (gs.length + 1) c6) HSd.out.1))
            clear g1 g2 hp2 h6 hb6 hg6 H10
            (try simp only [Act.put, zA, zB, zC])
            repeat (first | (refine orde_s (o := ?_) ?_ ?_ ?_; rotate_left 1; (focus ((simp only [zD, zE, zF]) <;> rfl)); (focus rfl); simp only [Act.put, zA, zB, zC]) | (refine orde_q (o := ?_) (v := ?_) ?_ ?_ ?_ ?_; rotate_left 2; (focus ((simp only [zD, zE, zF]) <;> rfl)); (focus rfl); (focus (intro w' hS; (try dsimp only at hS); go_split_ands; go_simp; (try (with_reducible rfl)))); simp only [Act.put, zA, zB, zC]))
            (refine orde_z (o := ?_) ?_ ?_ (fun K hK => ?_); rotate_left 1; (focus ((simp only [zD, zE, zF]) <;> rfl)); (focus rfl); go_simp)
            refine hK.out _ _ ?_
            clear hK K y2 y3
            revert H11 HC11
            generalize WB.setCell ⟨bb, 1, none⟩ (.slice s6 (gs.length + 1) c6) = WC
            intro H11 HC11
            go_upto_region 13 with fail
            have hol := H11.out.l
            rw [lvlL_length] at hol
            obtain ⟨n, hn⟩ : ∃ n, n = F + gs.length := ⟨_, rfl⟩
            rw [← hn] at hol
            obtain ⟨sl, cl, rfl⟩ := own_shape hol
            obtain ⟨p1, hp1⟩ : ∃ p1 : Nat, x / 2 = p1 := ⟨(x / 2).toNat, by omega⟩
            obtain ⟨p2, hp2⟩ : ∃ p2 : Nat, y / 2 = p2 := ⟨(y / 2).toNat, by omega⟩
            have hpl1 : p1 < n := by omega
            have hpl2 : p2 < n := by omega
            have hpc1 : 0 ≤ (p1 : Int) ∧ (p1 : Int) < (n : Int) := ⟨by omega, by omega⟩
            have hpc2 : 0 ≤ (p2 : Int) ∧ (p2 : Int) < (n : Int) := ⟨by omega, by omega⟩
            have hn38 : n ≤ 150 := by omega
            obtain ⟨lb, rfl⟩ : ∃ g, sl = some ⟨g, 0, none⟩ := by
              rcases own_some hol with ⟨_, e, _⟩ | ⟨g, e⟩
              · omega
              · exact ⟨g, e⟩
            obtain ⟨l1, hl1⟩ := get_of_lt (l := lvlL F gs) (k := p1) (by rw [lvlL_length, ← hn]; exact hpl1)
            obtain ⟨l2, hl2⟩ := get_of_lt (l := lvlL F gs) (k := p2) (by rw [lvlL_length, ← hn]; exact hpl2)
            obtain ⟨a0, a1⟩ := lvlL_bd F gs l1 (List.mem_of_getElem? hl1)
            obtain ⟨b0, b1⟩ := lvlL_bd F gs l2 (List.mem_of_getElem? hl2)
            have HOL : Hid (∀ W, Below WC.heap.size WC W → W.ownsRow W0.heap.size 3 1 (.slice (some ⟨lb, 0, none⟩) n cl) n (ints (lvlL F gs))) := fun W hW => own_below hol hW
            have HCS : Hid (∀ W, Below WC.heap.size WC W → (∀ o, W.cell? ⟨bb, o, none⟩ = #[Value.int .i64 F, .slice s6 (gs.length + 1) c6, .slice (some ⟨lb, 0, none⟩) n cl, .map (some mb)][o]?) ∧ W.cell? ⟨lb, p1, none⟩ = some (.int .i64 l1) ∧ W.cell? ⟨lb, p2, none⟩ = some (.int .i64 l2)) := fun W hW =>
              ⟨(H11.out.below hW).cells.1, ((own_below hol hW).cellAt p1 (by omega)).trans (ints_get hl1), ((own_below hol hW).cellAt p2 (by omega)).trans (ints_get hl2)⟩
            have HLV : Hid (lvlL F (gs ++ [⟨x, y⟩]) = lvlL F gs ++ [1 + max l1 l2]) := (by
              rw [lvlL_snoc]
              unfold lvS
              dsimp only
              rw [hp1, hp2, Int.toNat_natCast, Int.toNat_natCast, List.getD_eq_getElem?_getD, List.getD_eq_getElem?_getD, hl1, hl2]
              rfl : lvlL F (gs ++ [⟨x, y⟩]) = lvlL F gs ++ [1 + max l1 l2])
            have t1 : Int.tdiv x 2 = (p1 : Int) := by rw [Int.tdiv_eq_ediv_of_nonneg (by omega)]; exact hp1
            have t2 : Int.tdiv y 2 = (p2 : Int) := by rw [Int.tdiv_eq_ediv_of_nonneg (by omega)]; exact hp2
            have v1 : IntKind.i64.wrap (p1 : Int) = (p1 : Int) := IntWalk.i64_in _ ⟨by omega, by omega⟩
            have v2 : IntKind.i64.wrap (p2 : Int) = (p2 : Int) := IntWalk.i64_in _ ⟨by omega, by omega⟩
            have u1 : IntKind.i64.wrap (1 + l1) = 1 + l1 := IntWalk.i64_in _ ⟨by omega, by omega⟩
            have u2 : IntKind.i64.wrap (1 + l2) = 1 + l2 := IntWalk.i64_in _ ⟨by omega, by omega⟩
            have HNN := Lib.hid hn
            clear hol hl1 hl2 hn
            have HCB : Hid (∀ W, Below WC.heap.size WC W → (∀ o, W.cell? ⟨bb, o, none⟩ = #[Value.int .i64 F, .slice s6 (gs.length + 1) c6, .slice (some ⟨lb, 0, none⟩) n cl, .map (some mb)][o]?)) := fun W hW => (HCS.out W hW).1
            refine wp_region_E (fun w' => ∀ o, w'.cell? ⟨bb, o, none⟩ = #[Value.int .i64 F, .slice s6 (gs.length + 1) c6, .slice (some ⟨lb, 0, none⟩) n cl, .map (some mb)][o]?) 27 (.q 0 (.q 1 (.q 2 (.q 3 (.q 4 (.q 5 (.q 6 (.q 7 (.q 8 (.q 9 (.q 10 (.q 11 (.q 13 (.q 14 (.q 15 (.q 16 (.q 17 (.q 18 (.q 19 (.two 12 (.e 20 (.e 21 (.q 22 (.e 23 (.e 24 (.q 25 (.q 26 (.z 27)))))))) 20 (.e 12 (.e 21 (.q 22 (.e 23 (.e 24 (.q 25 (.q 26 (.z 27)))))))))))))))))))))))))))) (by kernel_rfl) (by kernel_rfl) (by kernel_rfl) (by kernel_rfl) (by kernel_rfl) (by kernel_rfl) (HCB.out _ (Below.refl _ _).drew) ?_
            have HCd := Lib.hid (HC11.out.trans (Chg.of_below (Below.refl WC.heap.size WC).drew))
            revert HCd
            have hd := (Below.refl WC.heap.size WC).drew
            revert hd
            generalize WC.drew = Wd
            intro hd HCd
            have HD := Lib.hid hd
            clear hd
            obtain ⟨-, y1, y2⟩ := HCS.out _ HD.out
            obtain ⟨M, hM⟩ : ∃ M, (if l1 < l2 then l2 else l1) = M := ⟨_, rfl⟩
            have hmx : max l1 l2 = M := by rw [← hM]; split <;> omega
            have hM0 : 0 ≤ M ∧ M ≤ 140 := by omega
            obtain ⟨m0, m1⟩ := hM0
            have um : IntKind.i64.wrap (1 + M) = 1 + M := IntWalk.i64_in _ ⟨by omega, by omega⟩
            rw [hmx] at HLV
            clear u1 u2 hmx
            repeat (first | (refine orde_s (o := ?_) ?_ ?_ ?_; rotate_left 1; (focus ((simp only [zD, zE, zF]) <;> rfl)); (focus rfl); simp only [Act.put, zA, zB, zC]) | (refine orde_q (o := ?_) (v := ?_) ?_ ?_ ?_ ?_; rotate_left 2; (focus ((simp only [zD, zE, zF]) <;> rfl)); (focus rfl); (focus (intro w' hS; (try dsimp only at hS); go_split_ands; go_simp; (try (with_reducible rfl)))); simp only [Act.put, zA, zB, zC]))
            refine orde_two ?_ ?_
            all_goals
              (refine ope_e (o := ?_) ?_ ?_ (fun K hK => ?_); rotate_left 1; (focus ((simp only [zD, zE, zF]) <;> rfl)); (focus rfl); go_simp)
              refine hK.out _ _ (HCB.out _ HD.out) ?_
              clear hK K
              (try simp only [Act.put, zA, zB, zC])
              refine orde_e ?_
              (refine ope_e (o := ?_) ?_ ?_ (fun K hK => ?_); rotate_left 1; (focus ((simp only [zD, zE, zF]) <;> rfl)); (focus rfl); go_simp)
              refine hK.out _ _ (HCB.out _ HD.out) ?_
              clear hK K
              (try simp only [Act.put, zA, zB, zC])
              refine orde_e ?_
              (refine ope_e (o := ?_) ?_ ?_ (fun K hK => ?_); rotate_left 1; (focus ((simp only [zD, zE, zF]) <;> rfl)); (focus rfl); go_simp)
              refine hK.out _ _ (HCB.out _ HD.out) ?_
              clear hK K
              (try simp only [Act.put, zA, zB, zC])
              repeat (first | (refine orde_s (o := ?_) ?_ ?_ ?_; rotate_left 1; (focus ((simp only [zD, zE, zF]) <;> rfl)); (focus rfl); simp only [Act.put, zA, zB, zC]) | (refine orde_q (o := ?_) (v := ?_) ?_ ?_ ?_ ?_; rotate_left 2; (focus ((simp only [zD, zE, zF]) <;> rfl)); (focus rfl); (focus (intro w' hS; (try dsimp only at hS); go_split_ands; go_simp; (try (with_reducible rfl)))); simp only [Act.put, zA, zB, zC]))
              refine orde_e ?_
              (refine ope_e (o := ?_) ?_ ?_ (fun K hK => ?_); rotate_left 1; (focus ((simp only [zD, zE, zF]) <;> rfl)); (focus rfl); go_simp)
              have hce := HCd.out.trans (Chg.of_below (S := S) ((Below.refl Wd.heap.size Wd).alloc (Nat.le_refl _) (.cells #[.int .i64 (1 + M)] 3)))
              have hba := HD.out.alloc HD.out.size (.cells #[.int .i64 (1 + M)] 3)
              have hs := Sl.new Wd #[.int .i64 (1 + M)] 3
              revert hce hba hs
              generalize Wd.alloc (.cells #[.int .i64 (1 + M)] 3) = WE
              intro hce hba hs
              refine hK.out _ _ (HCB.out _ hba) ?_
              clear hK K
              have HE := Lib.hid (And.intro hba hs)
              have HCE := Lib.hid hce
              clear hba hs hce
              (try simp only [Act.put, zA, zB, zC])
              refine orde_e ?_
              (refine ope_e (o := ?_) ?_ ?_ (fun K hK => ?_); rotate_left 1; (focus ((simp only [zD, zE, zF]) <;> rfl)); (focus rfl))
              refine wp_app (.tmp 78) (.tmp 97) rfl elem_int (HOL.out _ HE.out.1) rfl rfl (by simp) HE.out.2 (by simp [Value.oneCell']) (n + 1) rfl (ints (lvlL F gs ++ [1 + M])) (by rw [← ints_append]; rfl) (by unfold maxLen; omega) (by omega) (H11.out.below HE.out.1).bl.size ?_
              intro s7 c7 WF h7 hb7 hg7 hob7
              obtain ⟨g1, g2⟩ := (H11.out.below HE.out.1).pushL (ls' := lvlL F gs ++ [1 + M]) (vl' := .slice s7 (n + 1) c7) hg7 (by rw [show (lvlL F gs ++ [1 + M]).length = n + 1 by simp [lvlL_length]; exact HNN.out.symm]; exact h7)
              refine hK.out _ _ (blk_all g1).1 ?_
              clear hK K
              have y2 : WF.cell? ⟨bb, 2, none⟩ = some (.slice (some ⟨lb, 0, none⟩) n cl) := blk_cell g1
              have y3 : WF.frozen? ⟨bb, 2, none⟩ = false := blk_free g1
              have H12 := Lib.hid g2
              have HC12 := Lib.hid ((HCE.out.trans ((Chg.of_grown hg7).mono (fun k e => HSd.out.2.2.2 k e))).trans (Chg.set WF 2 (.slice s7 (n + 1) c7) HSd.out.1))
              have HOB : Hid ((Value.slice s7 (n + 1) c7).ownBlock = (Value.slice (some ⟨lb, 0, none⟩) n cl).ownBlock ∨ ∀ k, (Value.slice s7 (n + 1) c7).ownBlock = some k → w.heap.size ≤ k) := hob7.imp id (fun e k hk => by rw [e] at hk; cases hk; exact HCE.out.size)
              clear g1 g2 h7 hb7 hg7 hob7
              (try simp only [Act.put, zA, zB, zC])
              repeat (first | (refine orde_s (o := ?_) ?_ ?_ ?_; rotate_left 1; (focus ((simp only [zD, zE, zF]) <;> rfl)); (focus rfl); simp only [Act.put, zA, zB, zC]) | (refine orde_q (o := ?_) (v := ?_) ?_ ?_ ?_ ?_; rotate_left 2; (focus ((simp only [zD, zE, zF]) <;> rfl)); (focus rfl); (focus (intro w' hS; (try dsimp only at hS); go_split_ands; go_simp; (try (with_reducible rfl)))); simp only [Act.put, zA, zB, zC]))
              (refine orde_z (o := ?_) ?_ ?_ (fun K hK => ?_); rotate_left 1; (focus ((simp only [zD, zE, zF]) <;> rfl)); (focus rfl); go_simp)
              refine hK.out _ _ ?_
              clear hK K y2 y3
              revert H12 HC12
              generalize WF.setCell ⟨bb, 2, none⟩ (.slice s7 (n + 1) c7) = WG
              intro H12 HC12
              go_wp2_with fail
              go_ret
              have e0 := HR.out
              rw [andK_new HN0.out HN1.out HF.out] at e0
              exact ⟨_, _, by rw [e0]; rfl, by rw [e0]; show BX F W0 bb mb (gs ++ [⟨x, y⟩]) (lvlL F (gs ++ [⟨x, y⟩])) (gs ++ [⟨x, y⟩]) _ _ WG; rw [HLV.out]; exact H12.out, by rw [← HSS.out]; exact HC12.out, HOB.out⟩

theorem and_any (F : Nat) (W0 : World) (bb mb : Nat) (gs : List Gt) (vg vl : Value) (x y : Int) (w : World) (h : BX F W0 bb mb gs (lvlL F gs) gs vg vl w) (hx : 0 ≤ x ∧ x / 2 < (F : Int) + gs.length) (hy : 0 ≤ y ∧ y / 2 < (F : Int) + gs.length) (hF : F ≤ 10) (hgl : gs.length ≤ 130) :
    Calls Try.prog 73 #[.pointer (some ⟨bb, 0, none⟩), .int .i64 x, .int .i64 y] w (AdPost F W0 bb mb vg vl w (andL F gs x y)) := by
  by_cases hxy : y < x
  · exact and_lt F W0 bb mb gs vg vl x y w h hx hy hF hgl hxy
  · exact and_ge F W0 bb mb gs vg vl x y w h hx hy hF hgl hxy

end Go.Proofs.Ytjecchljhdfjdaa
