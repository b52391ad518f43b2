import Derived.Test.YtjecchljhdfjdaaZZ2JG
import Derived.Test.YtjecchljhdfjdaaZZ2OS
namespace Go.Proofs.Ytjecchljhdfjdaa
set_option linter.unusedVariables false
set_option linter.unusedSimpArgs false
open Go.RowKit

/-! Part of the proof of one law. -/

theorem own_take {w : World} {base : Nat} {e : TypeId} {s : Option Addr} {n k c : Nat} {xs : List Value} (h : w.ownsRow base e 1 (.slice s n c) n xs) (hk : k ≤ n) (hn : 0 < n) : w.ownsRow base e 1 (.slice s k c) k (xs.take k) := by
  obtain ⟨hl, h2⟩ := h
  refine ⟨by simp at hl ⊢; omega, ?_⟩
  rcases h2 with ⟨_, e0⟩ | ⟨g, cap, cur, e1, hb, hg, h3, h4, h5, h6⟩
  · omega
  · cases e1
    refine .inr ⟨g, _, cur, rfl, hb, hg, by omega, h4, h5, ?_⟩
    rw [← h6, List.take_take]
    congr 1; omega

theorem own_capJ {w : World} {base : Nat} {e : TypeId} {size : Nat} {s : Option Addr} {n c : Nat} {xs : List Value} (h : w.ownsRow base e size (.slice s n c) n xs) : n ≤ c := by
  rcases h.2 with ⟨e, _⟩ | ⟨g, cap, cur, e, _, _, h1, h2, _⟩
  · simp only [Value.slice.injEq] at e
    omega
  · simp only [Value.slice.injEq] at e
    omega

theorem erase_split {xs : List Int} {b : Nat} : (xs.take b) ++ (xs.drop (b + 1)) = xs.eraseIdx b := by rw [List.eraseIdx_eq_take_drop_succ]

def TkPost (LB base n g : Nat) (L xs : List Int) (w : World) (e : Ending) (w' : World) : Prop :=
  ∃ s' c', e = .returned (.int .i64 (pkX L xs)) ∧ w'.heap[LB]? = some (.cells #[.slice s' (n - 1) c'] 26 (0, 0)) ∧ w'.ownsRow base 3 1 (.slice s' (n - 1) c') (n - 1) (ints (pkR L xs)) ∧ Chg (fun k => k = LB ∨ k = g) w w' ∧ ((Value.slice s' (n - 1) c').ownBlock = some g ∨ ∀ j, (Value.slice s' (n - 1) c').ownBlock = some j → w.heap.size ≤ j)

set_option maxRecDepth 100000 in
set_option maxHeartbeats 3200000 in
theorem take_any (LB PB bb F mb V n base cl cv g vb vo : Nat) (vg : Value) (L xs : List Int) (w : World)
    (hl : w.heap[LB]? = some (.cells #[.slice (some ⟨g, 0, none⟩) n cl] 26 (0, 0))) (hp : w.heap[PB]? = some (.cells #[.pointer (some ⟨bb, 0, none⟩)] 47 (0, 0))) (hb : w.heap[bb]? = some (.cells #[.int .i64 F, vg, .slice (some ⟨vb, vo, none⟩) V cv, .map (some mb)] 89 (0, 0)))
    (hL : Sl w (some ⟨vb, vo, none⟩) (ints L)) (hLl : L.length = V) (hx : w.ownsRow base 3 1 (.slice (some ⟨g, 0, none⟩) n cl) n (ints xs)) (hbase : base ≤ w.heap.size) (hxs : ∀ x ∈ xs, 0 ≤ x ∧ x / 2 < V) (hn : 0 < n) (hn2 : n ≤ 1000) (hV : V ≤ 200) :
    Calls Try.prog 75 #[.pointer (some ⟨LB, 0, none⟩), .pointer (some ⟨PB, 0, none⟩)] w (TkPost LB base n g L xs w) := by
  have hlx : xs.length = n := by have h := hx.1; rw [ints_length] at h; omega
  have HS : Hid (∀ W, Drew w W → ((W.cell? ⟨LB, 0, none⟩ = some (.slice (some ⟨g, 0, none⟩) n cl) ∧ W.frozen? ⟨LB, 0, none⟩ = false) ∧ W.cell? ⟨PB, 0, none⟩ = some (.pointer (some ⟨bb, 0, none⟩)) ∧ W.cell? ⟨bb, 2, none⟩ = some (.slice (some ⟨vb, vo, none⟩) V cv)) ∧ (∀ (j : Nat) (x : Int), xs[j]? = some x → W.cell? ⟨g, j, none⟩ = some (.int .i64 x)) ∧ (∀ (j : Nat) (x : Int), L[j]? = some x → W.cell? ⟨vb, vo + j, none⟩ = some (.int .i64 x)) ∧ W.heap[LB]? = some (.cells #[.slice (some ⟨g, 0, none⟩) n cl] 26 (0, 0)) ∧ W.ownsRow base 3 1 (.slice (some ⟨g, 0, none⟩) n cl) n (ints xs) ∧ Below w.heap.size w W) := fun W hW => by
    obtain ⟨m, rfl⟩ := hW
    have hq : Below w.heap.size w (w.drewN m) := below_n (Below.refl _ _) m
    have k1 := blk_below hq (blk_lt hl) hl
    refine ⟨⟨⟨by simpa using (blk_all k1).1 0, (blk_all k1).2 0⟩, by simpa using (blk_all (blk_below hq (blk_lt hp) hp)).1 0, by simpa using (blk_all (blk_below hq (blk_lt hb) hb)).1 2⟩, fun j x h => ?_, fun j x h => ?_, k1, own_below hx hq, hq⟩
    · have h1 := (own_below hx hq).cellAt j (by have := (List.getElem?_eq_some_iff.1 h).1; omega)
      rw [h1]; exact ints_get h
    · obtain ⟨b, off, e, _, z⟩ := hL.int hq h
      simp only [Option.some.injEq, Addr.mk.injEq] at e
      obtain ⟨rfl, rfl, _⟩ := e
      exact z
  have HH := Lib.hid (And.intro hlx (And.intro hLl hxs))
  have hcap : n ≤ cl := own_capJ hx
  have hne : LB ≠ g := fun e => by
    subst e
    rcases hx.2 with ⟨e, _⟩ | ⟨g0, cap, cur, e1, _, hg, _⟩
    · cases e
    · cases e1; rw [hl] at hg; simp at hg
  have hgb : base ≤ g := (own_blk hx (k := g) rfl).1
  have hgl : g < w.heap.size := (own_blk hx (k := g) rfl).2
  clear hl hp hb hL hLl hx hlx
  have HG := Lib.hid (And.intro hbase (And.intro hgb hgl))
  clear hbase hgb hgl hxs
  have c1 := (HS.out _ (Drew.refl _)).1.1.1
  go_enter Try.func75, Try.ntmps75
  go_upto_region 3 with fail
  go_loopw [9, 3] (fun i b wr => ∃ k : Nat, k ≤ n ∧ i = .int .i64 k ∧ b = .int .i64 (bestK L xs k) ∧ Drew w wr) (fun i _ _ => n - (intOf i).toNat)
  case atStart => exact ⟨0, Nat.zero_le _, rfl, rfl, Drew.refl _⟩
  case round =>
    obtain ⟨k, hk, rfl, rfl, hd⟩ := hrel
    have HD := Lib.hid hd
    clear hd c1
    obtain ⟨b, hbk⟩ : ∃ b, b = bestK L xs k := ⟨_, rfl⟩
    have hbn : b < n := by
      rw [hbk]
      cases k with
      | zero => exact hn
      | succ k => have := (bestK_best L xs k).lt; omega
    have HBK := Lib.hid hbk
    rw [← hbk]
    clear hbk
    by_cases hlt : k < n
    · obtain ⟨x, hxk⟩ := get_of_lt (l := xs) (k := k) (by rw [HH.out.1]; exact hlt)
      obtain ⟨y, hyb⟩ := get_of_lt (l := xs) (k := b) (by rw [HH.out.1]; exact hbn)
      obtain ⟨x0, x1⟩ := HH.out.2.2 x (List.mem_of_getElem? hxk)
      obtain ⟨y0, y1⟩ := HH.out.2.2 y (List.mem_of_getElem? hyb)
      obtain ⟨p, hp⟩ : ∃ p : Nat, x / 2 = p := ⟨(x / 2).toNat, by omega⟩
      obtain ⟨q, hq⟩ : ∃ q : Nat, y / 2 = q := ⟨(y / 2).toNat, by omega⟩
      have hpV : p < V := by omega
      have hqV : q < V := by omega
      have hx400 : x ≤ 400 := by omega
      have hy400 : y ≤ 400 := by omega
      obtain ⟨u, hu⟩ := get_of_lt (l := L) (k := p) (by rw [HH.out.2.1]; exact hpV)
      obtain ⟨v, hv⟩ := get_of_lt (l := L) (k := q) (by rw [HH.out.2.1]; exact hqV)
      have tx : x.tdiv 2 = p := by rw [Int.tdiv_eq_ediv_of_nonneg x0]; exact hp
      have ty : y.tdiv 2 = q := by rw [Int.tdiv_eq_ediv_of_nonneg y0]; exact hq
      have wx : IntKind.i64.wrap (p : Int) = p := IntWalk.i64_in _ ⟨by omega, by omega⟩
      have wy : IntKind.i64.wrap (q : Int) = q := IntWalk.i64_in _ ⟨by omega, by omega⟩
      have gx : lvA L (xs.getD k 0) = u := by unfold lvA; rw [List.getD_eq_getElem?_getD (l := xs), hxk, Option.getD_some, hp, Int.toNat_natCast, List.getD_eq_getElem?_getD, hu]; rfl
      have gy : lvA L (xs.getD b 0) = v := by unfold lvA; rw [List.getD_eq_getElem?_getD (l := xs), hyb, Option.getD_some, hq, Int.toNat_natCast, List.getD_eq_getElem?_getD, hv]; rfl
      have hS : Hid (∀ W, Drew w W → W.cell? ⟨PB, 0, none⟩ = some (.pointer (some ⟨bb, 0, none⟩)) ∧ W.cell? ⟨bb, 2, none⟩ = some (.slice (some ⟨vb, vo, none⟩) V cv) ∧ W.cell? ⟨LB, 0, none⟩ = some (.slice (some ⟨g, 0, none⟩) n cl) ∧ W.cell? ⟨g, b, none⟩ = some (.int .i64 y) ∧ W.cell? ⟨vb, vo + p, none⟩ = some (.int .i64 u) ∧ W.cell? ⟨vb, vo + q, none⟩ = some (.int .i64 v)) := fun W hW => ⟨(HS.out W hW).1.2.1, (HS.out W hW).1.2.2, (HS.out W hW).1.1.1, (HS.out W hW).2.1 b y hyb, (HS.out W hW).2.2.1 p u hu, (HS.out W hW).2.2.1 q v hv⟩
      have zk := (HS.out _ HD.out).2.1 k x hxk
      have HX := Lib.hid (And.intro gx gy)
      clear hxk hyb hu hv gx gy x1 y1
      go_upto_region 5 with fail
      clear zk
      refine wp_region_T (fun W => W.cell? ⟨PB, 0, none⟩ = some (.pointer (some ⟨bb, 0, none⟩)) ∧ W.cell? ⟨bb, 2, none⟩ = some (.slice (some ⟨vb, vo, none⟩) V cv) ∧ W.cell? ⟨LB, 0, none⟩ = some (.slice (some ⟨g, 0, none⟩) n cl) ∧ W.cell? ⟨g, b, none⟩ = some (.int .i64 y) ∧ W.cell? ⟨vb, vo + p, none⟩ = some (.int .i64 u) ∧ W.cell? ⟨vb, vo + q, none⟩ = some (.int .i64 v)) (.q 0 (.q 1 (.q 2 (.q 3 (.q 4 (.q 5 (.q 6 (.q 7 (.q 8 (.q 9 (.q 10 (.q 11 (.q 12 (.q 13 (.q 14 (.q 15 (.q 16 (.q 17 (.q 18 (.q 19 .nil)))))))))))))))))))) (by kernel_rfl) (by kernel_rfl) (by kernel_rfl) (hS.out _ (HD.out.trans ⟨1, rfl⟩)) ?_
      repeat (first | (refine ordt_s (o := ?_) ?_ ?_ ?_; rotate_left 1; (focus ((simp only [zD, zE, zF]) <;> rfl)); (focus rfl); simp only [Act.put, zA, zB, zC]) | (refine ordt_q (o := ?_) (v := ?_) ?_ ?_ ?_ ?_; rotate_left 2; (focus ((simp only [zD, zE, zF]) <;> rfl)); (focus rfl); (focus (intro w' hS; (try dsimp only at hS); go_split_ands; go_simp; (try (with_reducible rfl)))); simp only [Act.put, zA, zB, zC]))
      refine ordt_nil ?_
      cases hdl : decide (u < v)
      · have HDL := Lib.hid hdl
        go_wp2_with fail
        go_roundw
        case rel =>
          refine ⟨k + 1, by omega, by go_num, ?_, HD.out.trans ⟨1, rfl⟩⟩
          show _ = Value.int _ (if lvA L (xs.getD k 0) < lvA L (xs.getD (bestK L xs k) 0) then k else bestK L xs k : Nat)
          rw [← HBK.out, HX.out.1, HX.out.2, if_neg (of_decide_eq_false HDL.out)]
        case measure => simp [intOf]; omega
      · have HDL := Lib.hid hdl
        go_wp2_with fail
        go_roundw
        case rel =>
          refine ⟨k + 1, by omega, by go_num, ?_, HD.out.trans ⟨1, rfl⟩⟩
          show _ = Value.int _ (if lvA L (xs.getD k 0) < lvA L (xs.getD (bestK L xs k) 0) then k else bestK L xs k : Nat)
          rw [← HBK.out, HX.out.1, HX.out.2, if_pos (of_decide_eq_true HDL.out)]
        case measure => simp [intOf]; omega
    · obtain rfl : k = n := by omega
      have hbp : b = pkI L xs := by rw [HBK.out]; unfold pkI; rw [HH.out.1]
      obtain ⟨y, hyb⟩ := get_of_lt (l := xs) (k := b) (by rw [HH.out.1]; exact hbn)
      have hyx : pkX L xs = y := by unfold pkX; rw [← hbp, List.getD_eq_getElem?_getD, hyb]; rfl
      have zb := (HS.out _ HD.out).2.1 b y hyb
      have cl0 := (HS.out _ HD.out).1.1.1
      have HY := Lib.hid (And.intro hbp hyx)
      clear hyb hbp hyx
      go_upto_region 9 with fail
      clear zb cl0
      obtain ⟨b1, hb1⟩ : ∃ b1 : Nat, b1 = b + 1 := ⟨_, rfl⟩
      have wB : IntKind.i64.wrap ((b : Int) + 1) = (b1 : Int) := by rw [IntWalk.i64_in _ ⟨by omega, by omega⟩]; omega
      have hb1n : b1 ≤ k := by omega
      have hbcl : b ≤ cl := by omega
      have hb1cl : b1 ≤ cl := by omega
      have hkcl : k ≤ cl := hcap
      have i1 : (0 : Int) ≤ (b : Int) + 1 := by omega
      have i2 : (b : Int) + 1 ≤ (k : Int) := by omega
      have i3 : ((b : Int) + 1).toNat = b1 := by omega
      have hS : Hid (∀ W, Drew w W → W.cell? ⟨LB, 0, none⟩ = some (.slice (some ⟨g, 0, none⟩) k cl)) := fun W hW => (HS.out W hW).1.1.1
      refine wp_region_E (fun W => W.cell? ⟨LB, 0, none⟩ = some (.slice (some ⟨g, 0, none⟩) k cl)) 8 (.q 0 (.q 1 (.q 2 (.q 3 (.q 4 (.q 5 (.q 6 (.e 7 (.z 8))))))))) (by kernel_rfl) (by kernel_rfl) (by kernel_rfl) (by kernel_rfl) (by kernel_rfl) (by kernel_rfl) (hS.out _ (HD.out.trans ⟨1, rfl⟩)) ?_
      have hdr : Drew w wr.drew := HD.out.trans ⟨1, rfl⟩
      revert hdr
      generalize wr.drew = WD
      intro hdr
      repeat (first | (refine orde_s (o := ?_) ?_ ?_ ?_; rotate_left 1; (focus ((simp only [zD, zE, zF]) <;> rfl)); (focus rfl); simp only [Act.put, zA, zB, zC]) | (refine orde_q (o := ?_) (v := ?_) ?_ ?_ ?_ ?_; rotate_left 2; (focus ((simp only [zD, zE, zF]) <;> rfl)); (focus rfl); (focus (intro w' hS; (try dsimp only at hS); go_split_ands; go_simp; (try (with_reducible rfl)))); simp only [Act.put, zA, zB, zC]))
      refine orde_e ?_
      (refine ope_e (o := ?_) ?_ ?_ (fun K hK => ?_); rotate_left 1; (focus ((simp only [zD, zE, zF]) <;> rfl)); (focus rfl))
      have ho := (HS.out _ hdr).2.2.2.2.1
      have hsrc : Sl WD (if cl = b + 1 then some ⟨g, 0, none⟩ else some ⟨g, b + 1, none⟩) (ints (xs.drop (b + 1))) := by
        by_cases e : cl = b + 1
        · have : xs.drop (b + 1) = [] := List.drop_of_length_le (by rw [HH.out.1]; omega)
          rw [this]; exact Sl.nil _ _
        · rw [if_neg e]
          refine .inr ⟨g, b + 1, rfl, fun j u hu => ?_⟩
          have hu' : (ints xs)[b + 1 + j]? = some u := by rw [← hu]; simp [ints, List.getElem?_drop]
          obtain ⟨x, hx, rfl⟩ : ∃ x, xs[b + 1 + j]? = some x ∧ Value.int .i64 x = u := by simpa [ints, List.getElem?_map, Option.map_eq_some_iff] using hu'
          exact (HS.out _ hdr).2.1 _ x hx
      have hln : (ints (xs.drop (b + 1))).length = (k - (b + 1)) * 1 := by rw [ints_length, List.length_drop, HH.out.1]; omega
      have hli : ints (xs.take b) ++ ints (xs.drop (b + 1)) = ints (pkR L xs) := by rw [ints_append, erase_split]; unfold pkR; rw [← HY.out.1]
      have ho2 : WD.ownsRow base 3 1 (.slice (some ⟨g, 0, none⟩) b cl) b (ints (xs.take b)) := by have h := own_take ho (by omega) hn (k := b); simpa [ints, List.map_take] using h
      refine wp_app (.tmp 42) (.tmp 46) rfl elem_int ho2 rfl rfl hln hsrc (ints_one _) (k - 1) (by omega) (ints (pkR L xs)) hli (by unfold maxLen; omega) (by omega) (Nat.le_trans HG.out.1 (HS.out _ hdr).2.2.2.2.2.size) ?_
      intro s6 c6 W2 ho6 hb6 hg6 hob6
      have hcg : Chg (fun j => j = g) WD W2 := (Chg.of_grown hg6).mono (fun j hj => by cases hj; rfl)
      have hLB2 := hcg.blk (HS.out _ hdr).2.2.2.1 (fun e => hne e)
      refine hK.out _ _ (by simpa using (blk_all hLB2).1 0) ?_
      clear hK K
      have y1 : W2.cell? ⟨LB, 0, none⟩ = some (.slice (some ⟨g, 0, none⟩) k cl) := by simpa using (blk_all hLB2).1 0
      have y2 : W2.frozen? ⟨LB, 0, none⟩ = false := (blk_all hLB2).2 0
      have hoW := own_set_ne (o := 0) ho6 (own_tyb ho6 hLB2 (by decide)) (.slice s6 (k - 1) c6)
      have hLW : (W2.setCell ⟨LB, 0, none⟩ (.slice s6 (k - 1) c6)).heap[LB]? = some (.cells #[.slice s6 (k - 1) c6] 26 (0, 0)) := by simpa using blk_set (o := 0) (v := .slice s6 (k - 1) c6) hLB2
      have hob : (Value.slice s6 (k - 1) c6).ownBlock = some g ∨ ∀ j, (Value.slice s6 (k - 1) c6).ownBlock = some j → w.heap.size ≤ j := by
        rcases hob6 with h | h
        · exact .inl h
        · exact .inr fun j hj => by rw [h] at hj; cases hj; exact (HS.out _ hdr).2.2.2.2.2.size
      have hcw : Chg (fun j => j = LB ∨ j = g) w (W2.setCell ⟨LB, 0, none⟩ (.slice s6 (k - 1) c6)) := ((Chg.of_below (HS.out _ hdr).2.2.2.2.2).trans (hcg.mono fun j hj => .inr hj)).trans (Chg.set _ 0 _ (.inl rfl))
      have HF := Lib.hid (And.intro hLW (And.intro hoW (And.intro hcw hob)))
      clear hLB2 hcg ho6 hb6 hg6 hob6 hoW hLW hob hcw ho ho2 hsrc hln hli
      (try simp only [Act.put, zA, zB, zC])
      repeat (first | (refine orde_s (o := ?_) ?_ ?_ ?_; rotate_left 1; (focus ((simp only [zD, zE, zF]) <;> rfl)); (focus rfl); simp only [Act.put, zA, zB, zC]) | (refine orde_q (o := ?_) (v := ?_) ?_ ?_ ?_ ?_; rotate_left 2; (focus ((simp only [zD, zE, zF]) <;> rfl)); (focus rfl); (focus (intro w' hS; (try dsimp only at hS); go_split_ands; go_simp; (try (with_reducible rfl)))); simp only [Act.put, zA, zB, zC]))
      (refine orde_z (o := ?_) ?_ ?_ (fun K hK => ?_); rotate_left 1; (focus ((simp only [zD, zE, zF]) <;> rfl)); (focus rfl); go_simp)
      refine hK.out _ _ ?_
      clear hK K y1 y2
      go_wp2_with fail
      all_goals
        go_ret
        exact ⟨s6, c6, (by rw [HY.out.2]; rfl), HF.out.1, HF.out.2.1, HF.out.2.2.1, HF.out.2.2.2⟩

/-- The builder beside the list in its variable. -/
structure CjS (F : Nat) (W0 : World) (bb mb A : Nat) (gs : List Gt) (vg vl : Value) (ys : List Int) (m : Nat) (s : Option Addr) (c : Nat) (W : World) : Prop where
  X : BX F W0 bb mb gs (lvlL F gs) gs vg vl W
  O : W.ownsRow W0.heap.size 3 1 (.slice s m c) m (ints ys)
  a : W.heap[A]? = some (.cells #[.pointer (some ⟨bb, 0, none⟩)] 47 (0, 0))
  b : W.heap[A + 1]? = some (.cells #[.slice s m c] 26 (0, 0))
  ne : ∀ j, vl.ownBlock = some j → (Value.slice s m c).ownBlock ≠ some j
  hA : bb < A ∧ W0.heap.size ≤ A

theorem CjS.below {F : Nat} {W0 W W' : World} {bb mb A : Nat} {gs : List Gt} {vg vl : Value} {ys : List Int} {m : Nat} {s : Option Addr} {c : Nat} (h : CjS F W0 bb mb A gs vg vl ys m s c W) (hb : Below W.heap.size W W') : CjS F W0 bb mb A gs vg vl ys m s c W' :=
  ⟨h.X.below hb, own_below h.O hb, blk_below hb (blk_lt h.a) h.a, blk_below hb (blk_lt h.b) h.b, h.ne, h.hA⟩

theorem CjS.take {F : Nat} {W0 W W' : World} {bb mb A : Nat} {gs : List Gt} {vg vl : Value} {ys ys' : List Int} {m m' : Nat} {s s' : Option Addr} {c c' : Nat} {g : Nat} (h : CjS F W0 bb mb A gs vg vl ys m s c W) (hg : s = some ⟨g, 0, none⟩)
    (hl : W'.heap[A + 1]? = some (.cells #[.slice s' m' c'] 26 (0, 0))) (ho : W'.ownsRow W0.heap.size 3 1 (.slice s' m' c') m' (ints ys')) (hc : Chg (fun k => k = A + 1 ∨ k = g) W W') (hob : (Value.slice s' m' c').ownBlock = some g ∨ ∀ j, (Value.slice s' m' c').ownBlock = some j → W.heap.size ≤ j) : CjS F W0 bb mb A gs vg vl ys' m' s' c' W' := by
  subst hg
  have n1 : A + 1 ≠ mb := fun e => mapg_nocell h.X.map (e ▸ h.b)
  have n2 : bb ≠ g := fun e => own_tyb h.O h.X.blk (by decide) (by rw [e]; rfl)
  have n3 : mb ≠ g := fun e => own_nomapg h.O h.X.map (by rw [e]; rfl)
  have hgb : W0.heap.size ≤ g := (own_blk h.O (k := g) rfl).1
  have h3 : ∀ k, vg.ownBlock = some k → ¬ (k = A + 1 ∨ k = g) := fun k hk e => by
    rcases e with e | e
    · exact own_tyb h.X.g h.b (by decide) (e ▸ hk)
    · exact own_ty h.X.g h.O (by decide) hk (by rw [e]; rfl)
  have h4 : ∀ k, vl.ownBlock = some k → ¬ (k = A + 1 ∨ k = g) := fun k hk e => by
    rcases e with e | e
    · exact own_tyb h.X.l h.b (by decide) (e ▸ hk)
    · exact h.ne k hk (by rw [e]; rfl)
  refine ⟨h.X.chg hc (fun e => e.elim (fun e => by have := h.hA.1; omega) n2) (fun e => e.elim (fun e => n1 e.symm) n3) h3 h4 (h.X.bl.trans (hc.below h.X.bl.size (fun k hk e => by have := h.hA.2; rcases e with e | e <;> omega))), ho, hc.blk h.a (fun e => ?_), hl, fun j hj e => ?_, h.hA⟩
  · rcases e with e | e
    · omega
    · exact own_tyb h.O h.a (by decide) (by rw [e]; rfl)
  · rcases hob with h' | h'
    · exact h.ne j hj (by rw [← e, h']; rfl)
    · have := h' j e; have := (own_blk h.X.l hj).2; omega

theorem CjS.and {F : Nat} {W0 W W' : World} {bb mb A : Nat} {gs gs' : List Gt} {vg vl vg' vl' : Value} {ys : List Int} {m : Nat} {s : Option Addr} {c : Nat} (h : CjS F W0 bb mb A gs vg vl ys m s c W)
    (hx : BX F W0 bb mb gs' (lvlL F gs') gs' vg' vl' W') (hc : Chg (adS bb mb vg vl) W W') (hv : vl'.ownBlock = vl.ownBlock ∨ ∀ k, vl'.ownBlock = some k → W.heap.size ≤ k) : CjS F W0 bb mb A gs' vg' vl' ys m s c W' := by
  have hn : ∀ {k : Nat} {arr : Array Value} {t : TypeId}, bb ≠ k → W.heap[k]? = some (.cells arr t (0, 0)) → t ≠ 24 → t ≠ 3 → ¬ adS bb mb vg vl k := fun {k arr t} h1 h2 h3 h4 e => by
    rcases e with e | e | e | e
    · exact h1 e.symm
    · exact mapg_nocell h.X.map (e ▸ h2)
    · exact own_tyb h.X.g h2 (fun e => h3 e.symm) e
    · exact own_tyb h.X.l h2 (fun e => h4 e.symm) e
  have hA := h.hA
  refine ⟨hx, hc.own h.O (fun k hk e => ?_), hc.blk h.a (hn (by omega) h.a (by decide) (by decide)), hc.blk h.b (hn (by omega) h.b (by decide) (by decide)), fun j hj e => ?_, h.hA⟩
  · rcases e with e | e | e | e
    · exact own_tyb h.O h.X.blk (by decide) (e ▸ hk)
    · exact own_nomapg h.O h.X.map (e ▸ hk)
    · exact own_ty h.X.g h.O (by decide) e hk
    · exact h.ne k e hk
  · rcases hv with h' | h'
    · exact h.ne j (h' ▸ hj) e
    · have := h' j hj; have := (own_blk h.O e).2; omega

theorem CjS.put {F : Nat} {W0 W W2 : World} {bb mb A : Nat} {gs : List Gt} {vg vl : Value} {ys ys' : List Int} {m m' : Nat} {s s' : Option Addr} {c c' : Nat} (h : CjS F W0 bb mb A gs vg vl ys m s c W)
    (ho : W2.ownsRow W0.heap.size 3 1 (.slice s' m' c') m' (ints ys')) (hg : W.grownBy W2 (Value.slice s m c).ownBlock) (hob : (Value.slice s' m' c').ownBlock = (Value.slice s m c).ownBlock ∨ (Value.slice s' m' c').ownBlock = some W.heap.size) :
    W2.heap[A + 1]? = some (.cells #[.slice s m c] 26 (0, 0)) ∧ W2.heap[A]? = some (.cells #[.pointer (some ⟨bb, 0, none⟩)] 47 (0, 0)) ∧ CjS F W0 bb mb A gs vg vl ys' m' s' c' (W2.setCell ⟨A + 1, 0, none⟩ (.slice s' m' c')) := by
  have hc := Chg.of_grown hg
  have hA := h.hA
  have ka := hc.blk h.a (own_tyb h.O h.a (by decide))
  have kb := hc.blk h.b (own_tyb h.O h.b (by decide))
  have hX := h.X.chg hc (own_tyb h.O h.X.blk (by decide)) (own_nomapg h.O h.X.map) (fun k hk e => own_ty h.X.g h.O (by decide) hk e) (fun k hk e => h.ne k hk e) (h.X.bl.trans (hc.below h.X.bl.size (fun k hk e => by have := (own_blk h.O e).1; omega)))
  have hX2 := hX.chg (Chg.set (S := fun k => k = A + 1) W2 0 (.slice s' m' c') rfl) (by omega) (fun e => mapg_nocell hX.map (by rw [e]; exact kb)) (fun k hk e => own_tyb hX.g kb (by decide) (e ▸ hk)) (fun k hk e => own_tyb hX.l kb (by decide) (e ▸ hk)) (hX.bl.setCell (p := ⟨A + 1, 0, none⟩) (by simp only; omega) _)
  refine ⟨kb, ka, hX2, own_set_ne ho (own_tyb ho kb (by decide)) _, by rw [blk_set_ne (b := A) (c := A + 1) (x := W2.heap[A]?) (by omega) rfl]; exact ka, by simpa using blk_set (o := 0) (v := .slice s' m' c') kb, fun j hj e => ?_, h.hA⟩
  rcases hob with h' | h'
  · exact h.ne j hj (by rw [← h']; exact e)
  · rw [h'] at e; cases e; have := (own_blk h.X.l hj).2; omega

theorem CjS.lits {F : Nat} {gs : List Gt} {ys : List Int} (hys : ∀ x ∈ ys, litP x (F + gs.length)) : ∀ x ∈ ys, 0 ≤ x ∧ x / 2 < ((lvlL F gs).length : Int) := fun x hx => by
  have := hys x hx
  rw [lvlL_length]
  unfold litP at this
  push_cast
  omega

/-- What stays of rows of numbers that are no part of it. -/
def KpJ (w W : World) (vl : Value) (gl : Nat) (vl' vs : Value) : Prop :=
  ∀ (v : Value) (N : Nat) (zs : List Int) (base : Nat), w.ownsRow base 3 1 v N (ints zs) → (∀ j, vl.ownBlock = some j → v.ownBlock ≠ some j) → v.ownBlock ≠ some gl → W.ownsRow base 3 1 v N (ints zs) ∧ (∀ j, vl'.ownBlock = some j → v.ownBlock ≠ some j) ∧ (∀ j, vs.ownBlock = some j → v.ownBlock ≠ some j)

theorem KpJ.below {w W W' : World} {vl vl' vs : Value} {gl : Nat} (h : KpJ w W vl gl vl' vs) (hb : Below W.heap.size W W') : KpJ w W' vl gl vl' vs := fun v N zs base h1 h2 h3 => by
  obtain ⟨a, b, c⟩ := h v N zs base h1 h2 h3
  exact ⟨own_below a hb, b, c⟩

theorem KpJ.take {F : Nat} {W0 w W W' : World} {bb mb A : Nat} {gs : List Gt} {vg vl0 vl : Value} {ys : List Int} {m m' : Nat} {s s' : Option Addr} {c c' : Nat} {g gl : Nat} (k : KpJ w W vl0 gl vl (.slice s m c)) (h : CjS F W0 bb mb A gs vg vl ys m s c W) (hg : s = some ⟨g, 0, none⟩)
    (hc : Chg (fun k => k = A + 1 ∨ k = g) W W') (hob : (Value.slice s' m' c').ownBlock = some g ∨ ∀ j, (Value.slice s' m' c').ownBlock = some j → W.heap.size ≤ j) : KpJ w W' vl0 gl vl (.slice s' m' c') := fun v N zs base h1 h2 h3 => by
  obtain ⟨a, b, d⟩ := k v N zs base h1 h2 h3
  subst hg
  refine ⟨hc.own a (fun j hj e => ?_), b, fun j hj e => ?_⟩
  · rcases e with e | e
    · exact own_tyb a h.b (by decide) (e ▸ hj)
    · exact d j (by rw [e]; rfl) hj
  · rcases hob with h' | h'
    · exact d j (by rw [← hj, h']; rfl) e
    · have := h' j hj; have := (own_blk a e).2; omega

theorem KpJ.and {F : Nat} {W0 w W W' : World} {bb mb A : Nat} {gs : List Gt} {vg vl0 vl vl' : Value} {ys : List Int} {m : Nat} {s : Option Addr} {c : Nat} {gl : Nat} (k : KpJ w W vl0 gl vl (.slice s m c)) (h : CjS F W0 bb mb A gs vg vl ys m s c W)
    (hc : Chg (adS bb mb vg vl) W W') (hv : vl'.ownBlock = vl.ownBlock ∨ ∀ k, vl'.ownBlock = some k → W.heap.size ≤ k) : KpJ w W' vl0 gl vl' (.slice s m c) := fun v N zs base h1 h2 h3 => by
  obtain ⟨a, b, d⟩ := k v N zs base h1 h2 h3
  refine ⟨hc.own a (fun j hj e => ?_), fun j hj e => ?_, d⟩
  · rcases e with e | e | e | e
    · exact own_tyb a h.X.blk (by decide) (e ▸ hj)
    · exact own_nomapg a h.X.map (e ▸ hj)
    · exact own_ty h.X.g a (by decide) e hj
    · exact b j e hj
  · rcases hv with h' | h'
    · exact b j (h' ▸ hj) e
    · have := h' j hj; have := (own_blk a e).2; omega

theorem KpJ.put {F : Nat} {W0 w W W2 : World} {bb mb A : Nat} {gs : List Gt} {vg vl0 vl : Value} {ys : List Int} {m m' : Nat} {s s' : Option Addr} {c c' : Nat} {gl : Nat} (k : KpJ w W vl0 gl vl (.slice s m c)) (h : CjS F W0 bb mb A gs vg vl ys m s c W)
    (hg : W.grownBy W2 (Value.slice s m c).ownBlock) (hob : (Value.slice s' m' c').ownBlock = (Value.slice s m c).ownBlock ∨ (Value.slice s' m' c').ownBlock = some W.heap.size) : KpJ w (W2.setCell ⟨A + 1, 0, none⟩ (.slice s' m' c')) vl0 gl vl (.slice s' m' c') := fun v N zs base h1 h2 h3 => by
  obtain ⟨a, b, d⟩ := k v N zs base h1 h2 h3
  have hc := Chg.of_grown hg
  have kb := hc.blk h.b (own_tyb h.O h.b (by decide))
  have a2 := hc.own a (fun j hj e => d j e hj)
  refine ⟨own_set_ne a2 (own_tyb a2 kb (by decide)) _, b, fun j hj e => ?_⟩
  rcases hob with h' | h'
  · exact d j (by rw [← h']; exact hj) e
  · rw [h'] at hj; cases hj; have := (own_blk a e).2; omega

/-- The post of a conjunction. -/
def CjPost (F : Nat) (W0 : World) (bb mb gl : Nat) (vl : Value) (w : World) (r : List Gt × Int) (e : Ending) (w' : World) : Prop :=
  ∃ vg' vl' vs, e = .returned (.int .i64 r.2) ∧ BX F W0 bb mb r.1 (lvlL F r.1) r.1 vg' vl' w' ∧ KpJ w w' vl gl vl' vs ∧ w.heap.size ≤ w'.heap.size

set_option maxRecDepth 100000 in
set_option maxHeartbeats 6400000 in
theorem conjunction_any (F : Nat) (W0 : World) (bb mb n cl gl : Nat) (gs : List Gt) (vg vl : Value) (xs : List Int) (w : World) (h : BX F W0 bb mb gs (lvlL F gs) gs vg vl w) (hF : F ≤ 8) (hF1 : 1 ≤ F) (hg : gatesP F gs) (hgl : gs.length + n ≤ 125)
    (hx : w.ownsRow W0.heap.size 3 1 (.slice (some ⟨gl, 0, none⟩) n cl) n (ints xs)) (hne : ∀ j, vl.ownBlock = some j → j ≠ gl) (hxs : ∀ x ∈ xs, litP x (F + gs.length)) (hn : 0 < n) :
    Calls Try.prog 34 #[.pointer (some ⟨bb, 0, none⟩), .slice (some ⟨gl, 0, none⟩) n cl] w (CjPost F W0 bb mb gl vl w (joinL F n gs xs)) := by
  obtain ⟨W1, hW1⟩ : ∃ W1, W1 = (w.alloc (.cells #[.pointer (some ⟨bb, 0, none⟩)] 47)).alloc (.cells #[.slice (some ⟨gl, 0, none⟩) n cl] 26) := ⟨_, rfl⟩
  obtain ⟨A, hA⟩ : ∃ A, A = w.heap.size := ⟨_, rfl⟩
  have z1 : W1.heap.size = A + 2 := by rw [hW1, hA]; simp
  have z2 : W1.heap[A]? = some (.cells #[.pointer (some ⟨bb, 0, none⟩)] 47 (0, 0)) := by rw [hW1, hA]; exact blk_old (blk_new w _)
  have z3 : W1.heap[A + 1]? = some (.cells #[.slice (some ⟨gl, 0, none⟩) n cl] 26 (0, 0)) := by rw [hW1, hA]; exact blk_at (by simp)
  have z4 : Below w.heap.size w W1 := by rw [hW1]; go_grown
  obtain ⟨R, hR⟩ : ∃ R, R = joinL F n gs xs := ⟨_, rfl⟩
  rw [← hR]
  have hgA : gl < A := by rw [hA]; exact (own_blk hx (k := gl) rfl).2
  have hbA : bb < A := by rw [hA]; exact blk_lt h.blk
  have hWA : W0.heap.size ≤ A := by rw [hA]; exact h.bl.size
  have hlx : xs.length = n := by have h := hx.1; rw [ints_length] at h; omega
  have HW := Lib.hid (And.intro hW1 (And.intro hA (And.intro z1 z4)))
  have H0 := Lib.hid (And.intro (h.below z4) (And.intro (own_below hx z4) (And.intro z2 z3)))
  have HG := Lib.hid (And.intro hg (And.intro hxs (And.intro hR (And.intro hlx hne))))
  clear h hx hg hxs hR hlx hne hW1 hA z1 z2 z3 z4
  go_enter Try.func34, Try.ntmps34
  go_upto_region 1 with fail
  rw [← HW.out.1, ← HW.out.2.1]
  go_wp2_with fail
  go_loopw [6] (fun _ wr => ∃ (gs' : List Gt) (ys : List Int) (m : Nat) (s : Option Addr) (c : Nat) (vg' vl' : Value), 0 < m ∧ ys.length = m ∧ gs'.length + m ≤ gs.length + n ∧ CjS F W0 bb mb A gs' vg' vl' ys m s c wr ∧ gatesP F gs' ∧ (∀ x ∈ ys, litP x (F + gs'.length)) ∧ joinL F m gs' ys = R ∧ KpJ w wr vl gl vl' (.slice s m c) ∧ A ≤ wr.heap.size) (fun _ W => match W.cell? ⟨A + 1, 0, none⟩ with | some (.slice _ m _) => m | _ => 0)
  case atStart => 
    exact ⟨gs, xs, n, _, _, vg, vl, hn, HG.out.2.2.2.1, Nat.le_refl _, ⟨H0.out.1, H0.out.2.1, H0.out.2.2.1, H0.out.2.2.2, fun j hj e => HG.out.2.2.2.2 j hj (by cases e; rfl), hbA, hWA⟩, HG.out.1, HG.out.2.1, HG.out.2.2.1.symm, fun v N zs base h1 h2 h3 => ⟨own_below h1 HW.out.2.2.2, h2, fun j hj e => h3 (by cases hj; exact e)⟩, by have := HW.out.2.2.1; omega⟩
  case round =>
    obtain ⟨gs', ys, m, s, c, vg', vl', hm, hlm, hlen, hC, hgp, hys, hjn, hkp, hwr⟩ := hrel
    have cA := (blk_all hC.a).1
    have cB := (blk_all hC.b).1
    obtain ⟨g, hg⟩ : ∃ g, s = some ⟨g, 0, none⟩ := by
      rcases own_some hC.O with ⟨_, e, _⟩ | ⟨g, e⟩
      · omega
      · exact ⟨g, e⟩
    subst hg
    obtain ⟨cv, vb, rfl⟩ : ∃ cv vb, vl' = .slice (some ⟨vb, 0, none⟩) (lvlL F gs').length cv := by
      obtain ⟨sl, cv, e⟩ := own_shape hC.X.l
      subst e
      rcases own_some hC.X.l with ⟨_, e, _⟩ | ⟨vb, e⟩
      · rw [lvlL_length] at e; omega
      · exact ⟨cv, vb, by rw [e]⟩
    by_cases hm1 : m ≤ 1
    · obtain ⟨y, hy⟩ := get_of_lt (show 0 < ys.length by omega)
      have hz : wr.cell? ⟨g, 0, none⟩ = some (.int .i64 y) := (hC.O.cellAt 0 (by omega)).trans (ints_get hy)
      have hRe : R = (gs', y) := by rw [← hjn, joinL_end (by omega), List.getD_eq_getElem?_getD, hy]; rfl
      have HE := Lib.hid (And.intro hC (And.intro hRe hkp))
      clear hC hjn hkp hgp hys hRe hy
      go_wp2_with fail
      go_ret
      exact ⟨vg', _, _, by rw [HE.out.2.1]; rfl, by rw [HE.out.2.1]; exact HE.out.1.X, HE.out.2.2, by rw [← HW.out.2.1]; exact hwr⟩
    · have hm2 : 1 < m := by omega
      have hlits := CjS.lits hys
      have hV : (lvlL F gs').length ≤ 200 := by rw [lvlL_length]; omega
      have hT1 := take_any (A + 1) A bb F mb (lvlL F gs').length m W0.heap.size c cv g vb 0 vg' (lvlL F gs') ys wr hC.b hC.a hC.X.blk (own_sl hC.X.l) rfl hC.O hC.X.bl.size hlits hm (by omega) hV
      have HT1 := Lib.hid hT1
      have HC := Lib.hid (And.intro hC (And.intro hgp (And.intro hys (And.intro hjn (And.intro hkp (And.intro hlits hlm))))))
      clear hT1 hC hgp hys hjn hkp hlits hlm
      go_wp2_with fail
      clear cA cB
      refine HT1.out.mono ?_
      rintro e w1 ⟨s1, c1, rfl, a1, a2, a3, a4⟩
      have hC1 := HC.out.1.take rfl a1 a2 a3 a4
      have H1 := Lib.hid (And.intro hC1 (And.intro a3 (HC.out.2.2.2.2.1.take HC.out.1 rfl a3 a4)))
      clear a1 a2 a3 a4 hC1
      have hl1 : (pkR (lvlL F gs') ys).length = m - 1 := by rw [pkR_len (by have := HC.out.2.2.2.2.2.2; omega), HC.out.2.2.2.2.2.2]
      have hz1 := H1.out.2.1.size
      obtain ⟨g1, hg1⟩ : ∃ g, s1 = some ⟨g, 0, none⟩ := by
        rcases own_some H1.out.1.O with ⟨_, e, _⟩ | ⟨g, e⟩
        · omega
        · exact ⟨g, e⟩
      subst hg1
      have hT2 := take_any (A + 1) A bb F mb (lvlL F gs').length (m - 1) W0.heap.size c1 cv g1 vb 0 vg' (lvlL F gs') (pkR (lvlL F gs') ys) w1 H1.out.1.b H1.out.1.a H1.out.1.X.blk (own_sl H1.out.1.X.l) rfl H1.out.1.O H1.out.1.X.bl.size (fun x hx => HC.out.2.2.2.2.2.1 x (pkR_mem hx)) (by omega) (by omega) hV
      have HT2 := Lib.hid hT2
      clear hT2
      go_wp2_with fail
      refine HT2.out.mono ?_
      rintro e w2 ⟨s2, c2, rfl, a1, a2, a3, a4⟩
      have hC2 := H1.out.1.take rfl a1 a2 a3 a4
      have H2 := Lib.hid (And.intro hC2 (And.intro a3 (H1.out.2.2.take H1.out.1 rfl a3 a4)))
      clear a1 a2 a3 a4 hC2
      have hz2 := H2.out.2.1.size
      go_upto_region 5 with fail
      obtain ⟨x, hx⟩ : ∃ x, x = pkX (lvlL F gs') ys := ⟨_, rfl⟩
      obtain ⟨y, hy⟩ : ∃ y, y = pkX (lvlL F gs') (pkR (lvlL F gs') ys) := ⟨_, rfl⟩
      obtain ⟨r, hr⟩ : ∃ r, r = joinS F gs' ys := ⟨_, rfl⟩
      have hra : andL F gs' x y = r := by rw [hx, hy, hr]; rfl
      have hm3 : m - 1 - 1 + 1 = m - 1 := by omega
      have hxl := HC.out.2.2.1 _ (pkX_mem (L := lvlL F gs') (by have := HC.out.2.2.2.2.2.2; omega))
      have hyl := HC.out.2.2.1 _ (pkR_mem (pkX_mem (L := lvlL F gs') (xs := pkR (lvlL F gs') ys) (by omega)))
      rw [← hx] at hxl
      rw [← hy] at hyl
      rw [← hx, ← hy]
      unfold litP at hxl hyl
      have HR := Lib.hid (And.intro hx (And.intro hy (And.intro hr hra)))
      clear hx hy hr hra
      have hS : Hid (∀ W, Below w2.heap.size w2 W → W.cell? ⟨A + 1, 0, none⟩ = some (.slice s2 (m - 1 - 1) c2) ∧ W.cell? ⟨A, 0, none⟩ = some (.pointer (some ⟨bb, 0, none⟩))) := fun W hW => ⟨by simpa using (blk_all (H2.out.1.below hW).b).1 0, by simpa using (blk_all (H2.out.1.below hW).a).1 0⟩
      refine wp_region_E (fun W => W.cell? ⟨A + 1, 0, none⟩ = some (.slice s2 (m - 1 - 1) c2) ∧ W.cell? ⟨A, 0, none⟩ = some (.pointer (some ⟨bb, 0, none⟩))) 7 (.q 0 (.q 1 (.q 2 (.q 3 (.e 4 (.e 5 (.e 6 (.z 7)))))))) (by kernel_rfl) (by kernel_rfl) (by kernel_rfl) (by kernel_rfl) (by kernel_rfl) (by kernel_rfl) (hS.out _ (Below.refl _ _).drew) ?_
      have hdr : Below w2.heap.size w2 w2.drew := (Below.refl _ _).drew
      revert hdr
      generalize w2.drew = WD
      intro hdr
      have HD := Lib.hid (And.intro (H2.out.1.below hdr) hdr)
      clear hdr
      repeat (first | (refine orde_s (o := ?_) ?_ ?_ ?_; rotate_left 1; (focus ((simp only [zD, zE, zF]) <;> rfl)); (focus rfl); simp only [Act.put, zA, zB, zC]) | (refine orde_q (o := ?_) (v := ?_) ?_ ?_ ?_ ?_; rotate_left 2; (focus ((simp only [zD, zE, zF]) <;> rfl)); (focus rfl); (focus (intro w' hS; (try dsimp only at hS); go_split_ands; go_simp; (try (with_reducible rfl)))); simp only [Act.put, zA, zB, zC]))
      refine orde_e ?_
      (refine ope_e (o := ?_) ?_ ?_ (fun K hK => ?_); rotate_left 1; (focus ((simp only [zD, zE, zF]) <;> rfl)); (focus rfl); go_simp)
      refine (and_any F W0 bb mb gs' vg' _ x y WD HD.out.1.X ⟨hxl.1, by omega⟩ ⟨hyl.1, by omega⟩ (by omega) (by omega)).mono ?_
      rintro e w3 ⟨vg2, vl2, rfl, b1, b2, b3⟩
      rw [HR.out.2.2.2] at b1 ⊢
      have hC3 := HD.out.1.and b1 b2 b3
      refine hK.out _ _ ⟨by simpa using (blk_all hC3.b).1 0, by simpa using (blk_all hC3.a).1 0⟩ ?_
      clear hK K
      have H3 := Lib.hid (And.intro hC3 (And.intro b2 ((H2.out.2.2.below HD.out.2).and HD.out.1 b2 b3)))
      clear hC3 b1 b2 b3
      (try simp only [Act.put, zA, zB, zC])
      refine orde_e ?_
      (refine ope_e (o := ?_) ?_ ?_ (fun K hK => ?_); rotate_left 1; (focus ((simp only [zD, zE, zF]) <;> rfl)); (focus rfl); go_simp)
      have hb4 := (Below.refl w3.heap.size w3).alloc (Nat.le_refl _) (.cells #[.int .i64 r.2] 3)
      have hs4 : Sl (w3.alloc (.cells #[.int .i64 r.2] 3)) (some ⟨w3.heap.size, 0, none⟩) [.int .i64 r.2] := Sl.new w3 _ _
      have hC4 := H3.out.1.below hb4
      revert hb4 hs4 hC4
      generalize (w3.alloc (.cells #[.int .i64 r.2] 3)) = W4
      intro hb4 hs4 hC4
      refine hK.out _ _ ⟨by simpa using (blk_all hC4.b).1 0, by simpa using (blk_all hC4.a).1 0⟩ ?_
      clear hK K
      have H4 := Lib.hid (And.intro hC4 (And.intro hs4 hb4))
      clear hb4 hs4 hC4
      (try simp only [Act.put, zA, zB, zC])
      refine orde_e ?_
      (refine ope_e (o := ?_) ?_ ?_ (fun K hK => ?_); rotate_left 1; (focus ((simp only [zD, zE, zF]) <;> rfl)); (focus rfl))
      have hjx : ints (pkR (lvlL F gs') (pkR (lvlL F gs') ys)) ++ [.int .i64 r.2] = ints (joinX F gs' ys) := by unfold joinX; rw [← HR.out.2.2.1, ← ints_append]; rfl
      refine wp_app (.tmp 16) (.tmp 21) rfl elem_int H4.out.1.O rfl rfl (by simp) H4.out.2.1 (by simp [Value.oneCell']) (m - 1) hm3 (ints (joinX F gs' ys)) hjx (by unfold maxLen; omega) (by omega) H4.out.1.X.bl.size ?_
      intro s6 c6 W5 ho6 hb6 hg6 hob6
      obtain ⟨kb, ka, hC5⟩ := H4.out.1.put ho6 hg6 hob6
      refine hK.out _ _ ⟨by simpa using (blk_all kb).1 0, by simpa using (blk_all ka).1 0⟩ ?_
      clear hK K hjx
      have y1 : W5.cell? ⟨A + 1, 0, none⟩ = some (.slice s2 (m - 1 - 1) c2) := by simpa using (blk_all kb).1 0
      have y2 : W5.frozen? ⟨A + 1, 0, none⟩ = false := (blk_all kb).2 0
      have hkp5 := (H3.out.2.2.below H4.out.2.2).put H4.out.1 hg6 hob6
      have hsz5 : A ≤ (W5.setCell ⟨A + 1, 0, none⟩ (.slice s6 (m - 1) c6)).heap.size := by
        have e1 := HD.out.2.size; have e2 := H3.out.2.1.size; have e3 := H4.out.2.2.size; have e4 := hg6.size
        simp
        omega
      have HF := Lib.hid (And.intro hC5 (And.intro hkp5 hsz5))
      clear ka kb hC5 ho6 hb6 hg6 hob6 hkp5 hsz5
      (try simp only [Act.put, zA, zB, zC])
      repeat (first | (refine orde_s (o := ?_) ?_ ?_ ?_; rotate_left 1; (focus ((simp only [zD, zE, zF]) <;> rfl)); (focus rfl); simp only [Act.put, zA, zB, zC]) | (refine orde_q (o := ?_) (v := ?_) ?_ ?_ ?_ ?_; rotate_left 2; (focus ((simp only [zD, zE, zF]) <;> rfl)); (focus rfl); (focus (intro w' hS; (try dsimp only at hS); go_split_ands; go_simp; (try (with_reducible rfl)))); simp only [Act.put, zA, zB, zC]))
      (refine orde_z (o := ?_) ?_ ?_ (fun K hK => ?_); rotate_left 1; (focus ((simp only [zD, zE, zF]) <;> rfl)); (focus rfl); go_simp)
      refine hK.out _ _ ?_
      clear hK K y1 y2
      go_wp2_with fail
      have hjl : (joinX F gs' ys).length = m - 1 := by rw [joinX_len (by have := HC.out.2.2.2.2.2.2; omega), HC.out.2.2.2.2.2.2]
      have hok := joinS_ok hF1 HC.out.2.1 HC.out.2.2.1 (by have := HC.out.2.2.2.2.2.2; omega)
      have hjx2 := joinX_lit hF1 HC.out.2.1 HC.out.2.2.1 (by have := HC.out.2.2.2.2.2.2; omega)
      rw [← HR.out.2.2.1] at hok hjx2
      have hjn2 : joinL F (m - 1) r.1 (joinX F gs' ys) = R := by
        rw [← HC.out.2.2.2.1, HR.out.2.2.1]
        obtain ⟨m', rfl⟩ : ∃ m', m = m' + 1 := ⟨m - 1, by omega⟩
        exact (joinL_step (by have := HC.out.2.2.2.2.2.2; omega)).symm
      go_roundw
      case rel => exact ⟨r.1, joinX F gs' ys, m - 1, s6, c6, vg2, vl2, by omega, hjl, by have := hok.len.2; omega, HF.out.1, hok.gates, hjx2, hjn2, HF.out.2.1, HF.out.2.2⟩
      case measure =>
        have e1 := (blk_all HF.out.1.b).1 0
        have e2 := (blk_all HC.out.1.b).1 0
        simp only [e1, e2]
        simp
        omega

end Go.Proofs.Ytjecchljhdfjdaa
